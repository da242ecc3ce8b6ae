/-
  Stars added, mapped: the reference's walks.
-/
import Derived.Test.YtaloegjcdllgoaaStPut
import Derived.Deep.RegionHeld3
namespace Go.Proofs.Ytaloegjcdllgoaa
open Go.RowKit

/-- A slice of rays of the call's own, and a truth. -/
def OwnsRaysB (B : Nat) (zs : List (Int × Int × Int)) (ok : Bool) (w : World) (r : Ending) (w' : World) : Prop :=
  ∃ a c, r = .returned (.tuple #[.slice a zs.length c, .bool ok]) ∧ w'.ownsRow B 52 3 (.slice a zs.length c) zs.length (tv zs) ∧ Ext w w'
theorem star_rows {zs : List (Int × Int × Int)} (h : starB zs = true) : zs.length ≤ 10 ∧ SortT zs ∧ ∀ z ∈ zs, (-20 ≤ z.1 ∧ z.1 ≤ 20) ∧ (-20 ≤ z.2.1 ∧ z.2.1 ≤ 20) ∧ (1 ≤ z.2.2 ∧ z.2.2 ≤ 20) := by
  rcases starB_cases zs with h0 | ⟨_, h1, h2⟩
  · rw [h] at h0; cases h0
  · refine ⟨h1, ?_, ?_⟩
    · have hok : okTo zs zs.length = true := by unfold starB at h; simp only [Bool.and_eq_true] at h; exact h.1
      have one : ∀ k, k + 1 < zs.length → lexP (kR (tat zs k)) (kR (tat zs (k + 1))) := by
        intro k hk
        have := okTo_at _ hok hk
        simp only [okAt, Bool.and_eq_true, Bool.or_eq_true, Nat.add_sub_cancel] at this
        exact befB_lex.1 (this.2.resolve_left (by simp))
      have all : ∀ i j, i < j → j < zs.length → lexP (kR (tat zs i)) (kR (tat zs j)) := by
        intro i j hij hj
        obtain ⟨d, rfl⟩ : ∃ d, j = i + 1 + d := ⟨j - i - 1, by omega⟩
        clear hij
        induction d with
        | zero => exact one i hj
        | succ d ih => exact lexP_trans (ih (by omega)) (one (i + 1 + d) (by omega))
      unfold SortT
      rw [List.pairwise_iff_getElem]
      intro i j hi hj hij
      have := all i j hij hj
      rwa [tat_eq hi, tat_eq hj] at this
    · intro z hz
      obtain ⟨k, hk, rfl⟩ := List.mem_iff_getElem.1 hz
      have := h2 k hk
      rwa [tat_eq hk] at this
end Go.Proofs.Ytaloegjcdllgoaa
