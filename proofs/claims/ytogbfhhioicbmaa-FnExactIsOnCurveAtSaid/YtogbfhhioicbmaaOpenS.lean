/-
  What the proofs of the rows share: how an argument that is a struct of two structs of two numbers is opened.
-/
import Derived.Test.YtogbfhhioicbmaaOpen
namespace Go.Proofs.Ytogbfhhioicbmaa
open Go.ChangeShapes Go.WideShapes Go.ChangeAt Go.RowKit Go.Joins Go.Deep
section
variable {P : Program} {H : Type} {enc : TypeId × Value → H} {w : World} {base : Nat} {spare : Nat → Bool} {held : Bool}
theorem open_agg22 {r : Reach} {b0 : Nat} {t e I : TypeId} {f0 f1 g0 g1 : Field} {v : Value} {d : DataW H} {p : List MemPlace} (hs : P.underlying t = some (.struct #[f0, f1])) (he : P.underlying e = some (.struct #[g0, g1]))
    (hI : P.underlying I = some (.int .i64)) (hty : f0.type = e ∧ f1.type = e) (hoff : f0.offset = 0 ∧ f1.offset = 2) (hone : oneCellFields P #[g0, g1] = true) (hgt : g0.type = I ∧ g1.type = I)
    (hC : P.cellsOf t = 4) (hCe : P.cellsOf e = 2)
    (hv : Value.okWide P w r b0 t v) (h : DataW.Trod enc P w base spare held t v d p) :
    ∃ a b x y : Int, v = .agg #[.int .i64 a, .int .i64 b, .int .i64 x, .int .i64 y] := by
  obtain ⟨cs, rfl, hsz⟩ := okWide_struct hs hv
  obtain ⟨c0, c1, c2, c3, rfl⟩ := array4 (hsz.trans hC)
  obtain ⟨fuel, hf⟩ := h
  obtain ⟨xs, n, _, _, _, hxl, hat⟩ := DataW.trod_struct hs hf
  have k0 := hat 0 f0 rfl
  have k1 := hat 1 f1 rfl
  rw [hty.1, hoff.1, hCe] at k0
  rw [hty.2, hoff.2, hCe] at k1
  have hx2 : xs.length = 2 := hxl
  rw [List.getElem?_eq_getElem (by omega)] at k0 k1
  obtain ⟨o0, q0⟩ := hone_of hone 0 g0 rfl
  obtain ⟨o1, q1⟩ := hone_of hone 1 g1 rfl
  obtain ⟨ys, m, _, _, _, hyl, hy⟩ := DataW.trod_struct he k0
  obtain ⟨zs, m', _, _, _, hzl, hz⟩ := DataW.trod_struct he k1
  have a0 := hy 0 g0 rfl
  have a1 := hy 1 g1 rfl
  have b0 := hz 0 g0 rfl
  have b1 := hz 1 g1 rfl
  have hy2 : ys.length = 2 := hyl
  have hz2 : zs.length = 2 := hzl
  rw [List.getElem?_eq_getElem (by omega)] at a0 a1 b0 b1
  rw [o0, q0, hgt.1] at a0 b0
  rw [o1, q1, hgt.2] at a1 b1
  simp [Value.cells] at a0 a1 b0 b1
  obtain ⟨n0, e0, _, _⟩ := DataW.trod_int hI a0
  obtain ⟨n1, e1, _, _⟩ := DataW.trod_int hI a1
  obtain ⟨n2, e2, _, _⟩ := DataW.trod_int hI b0
  obtain ⟨n3, e3, _, _⟩ := DataW.trod_int hI b1
  simp at e0 e1 e2 e3
  exact ⟨n0, n1, n2, n3, by rw [e0, e1, e2, e3]⟩
end
end Go.Proofs.Ytogbfhhioicbmaa
