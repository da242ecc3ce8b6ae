/-
  SameFunction: whether two polynomials have the same corners with the same coefficients.
-/
import Derived.Test.YtaloegjcdllgoaaRtLeast
import Derived.BigQuiet
namespace Go.Proofs.Ytaloegjcdllgoaa
open Go.RowKit

theorem polyB_pol {zs : List Int} (h : polyB zs = true) : IsPol zs ∧ zs.length ≤ 13 := by
  have h' := h
  simp only [polyB, Bool.and_eq_true, inB_true, bne_iff_ne] at h'
  refine ⟨⟨by omega, fun j hj => ?_, ?_⟩, by omega⟩
  · have h1 := List.all_eq_true.1 h'.1.2 zs[j] (List.getElem_mem hj)
    simpa [cf, List.getD, hj] using h1
  · have h1 := h'.2
    have h2 : zs.length - 1 < zs.length := by omega
    simpa [cf, List.getD, h2] using h1
/-- Where a slice lies in a box that a closure reads. -/
def Box (w : World) (b : Nat) (v : Value) : Prop := w.cell? ⟨b, 0, none⟩ = some v
theorem Box.ext {w w' : World} {b : Nat} {v : Value} (h : Ext w w') (k : Box w b v) : Box w' b v := h.keep k

end Go.Proofs.Ytaloegjcdllgoaa
