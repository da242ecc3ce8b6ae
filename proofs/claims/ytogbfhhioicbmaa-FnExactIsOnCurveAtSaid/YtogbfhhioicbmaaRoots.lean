/-
  The roots of a polynomial: both sides' walks.
-/
import Derived.Test.YtogbfhhioicbmaaSameFn
import Derived.Test.YtogbfhhioicbmaaFrac
import Derived.Test.YtogbfhhioicbmaaScale
import Derived.Deep.AppendLies
import Derived.BigQuiet
namespace Go.Proofs.Ytogbfhhioicbmaa
open Go.RowKit

theorem cell_at_new {w : World} {cs : Array Value} {t : TypeId} {n i : Nat} {v : Value} (h : n = w.heap.size) (hi : cs[i]? = some v) : (w.alloc (.cells cs t)).cell? ⟨n, i, none⟩ = some v := by
  subst h
  exact Has.new w cs t i v (by simpa using hi)
/-- A cell of a block that was new ahead of a call. -/
theorem Ext.newCell {w w' : World} {cs : Array Value} {t : TypeId} (h : Ext (w.alloc (.cells cs t)) w') {i : Nat} {v : Value} (hi : cs[i]? = some v) : w'.cell? ⟨w.heap.size, i, none⟩ = some v ∧ w'.frozen? ⟨w.heap.size, i, none⟩ = false :=
  ⟨h.keep (Has.new w cs t i v (by simpa using hi)), by rw [h.frozen _ _ (by simp)]; simp⟩

/-- The root between the corners m - 1 and m. -/
def rootAt (zs C : List Int) (m : Nat) : Int × Int × Int := (lowN (cf zs (C.getD (m - 1) 0) - cf zs (C.getD m 0)) (C.getD m 0 - C.getD (m - 1) 0), lowD (cf zs (C.getD (m - 1) 0) - cf zs (C.getD m 0)) (C.getD m 0 - C.getD (m - 1) 0), C.getD m 0 - C.getD (m - 1) 0)
def rtsTo (zs C : List Int) (j : Nat) : List (Int × Int × Int) := (List.range j).map fun q => rootAt zs C (C.length - 1 - q)
def rts (zs : List Int) : List (Int × Int × Int) := rtsTo zs (cornR zs zs.length).reverse ((cornR zs zs.length).reverse.length - 1)
theorem rtsTo_len (zs C : List Int) (j : Nat) : (rtsTo zs C j).length = j := by simp [rtsTo]
theorem rtsTo_succ (zs C : List Int) (j : Nat) : rtsTo zs C (j + 1) = rtsTo zs C j ++ [rootAt zs C (C.length - 1 - j)] := by simp [rtsTo, List.range_succ]
/-- What is known of the corners, in their order. -/
structure IsCorn (zs C : List Int) : Prop where
  len : C.length ≤ zs.length
  get : ∀ m : Nat, m < C.length → ∃ x : Nat, C[m]? = some (x : Int)
  mem : ∀ m x : Nat, C[m]? = some (x : Int) → x < zs.length ∧ cf zs x ≠ 1000000000
  lt : ∀ m x y : Nat, C[m]? = some (x : Int) → C[m + 1]? = some (y : Int) → x < y
theorem isCorn (zs : List Int) : IsCorn zs (cornR zs zs.length).reverse := by
  refine ⟨by have := cornR_len zs zs.length; simpa using this, fun m hm => ?_, fun m x hx => ?_, fun m x y h0 h1 => ?_⟩
  · have h1 := List.getElem_mem hm
    have := cornR_mem zs zs.length _ (List.mem_reverse.1 h1)
    obtain ⟨x, hx⟩ := Int.eq_ofNat_of_zero_le this.1
    exact ⟨x, by rw [List.getElem?_eq_getElem hm, hx]⟩
  · have := cornR_mem zs zs.length _ (List.mem_reverse.1 (List.mem_of_getElem? hx))
    omega
  · have hp : (cornR zs zs.length).reverse.Pairwise (· < ·) := by rw [List.pairwise_reverse]; exact corn_rise
    obtain ⟨a0, b0⟩ := List.getElem?_eq_some_iff.1 h0
    obtain ⟨a1, b1⟩ := List.getElem?_eq_some_iff.1 h1
    have := (List.pairwise_iff_getElem.1 hp) m (m + 1) a0 a1 (by omega)
    omega
theorem rootAt_eq {zs C : List Int} {m x y : Nat} (h0 : C[m]? = some (x : Int)) (h1 : C[m + 1]? = some (y : Int)) : rootAt zs C (m + 1) = (lowN (cf zs x - cf zs y) ((y : Int) - x), lowD (cf zs x - cf zs y) ((y : Int) - x), (y : Int) - x) := by
  have e0 : C.getD m 0 = x := by simp [List.getD, h0]
  have e1 : C.getD (m + 1) 0 = y := by simp [List.getD, h1]
  unfold rootAt
  rw [Nat.add_sub_cancel, e0, e1]

end Go.Proofs.Ytogbfhhioicbmaa
