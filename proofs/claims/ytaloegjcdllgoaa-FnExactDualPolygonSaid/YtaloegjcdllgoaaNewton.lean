/-
  The hull of points that stand in order: the reference's walk; the points of the terms.
-/
import Derived.Test.YtaloegjcdllgoaaHullS
import Derived.Test.YtaloegjcdllgoaaHullI
import Derived.Test.YtaloegjcdllgoaaPlane
import Derived.Test.YtaloegjcdllgoaaCellP
import Derived.Deep.RegionHeld3
namespace Go.Proofs.Ytaloegjcdllgoaa
open Go.RowKit

/-- The points of the terms. -/
def ptsL (zs : List (Int × Int × Int)) : List (Int × Int) := zs.map fun t => (t.1, t.2.1)
theorem ptsL_len (zs : List (Int × Int × Int)) : (ptsL zs).length = zs.length := by simp [ptsL]
theorem ptsL_pat {zs : List (Int × Int × Int)} {k : Nat} (h : k < zs.length) : pat (ptsL zs) k = ((tat zs k).1, (tat zs k).2.1) := by
  rw [pat_eq (by rw [ptsL_len]; exact h), show tat zs k = zs[k] by simp [tat, List.getD, h]]; simp [ptsL]
theorem ptsL_pI {zs : List (Int × Int × Int)} {k : Nat} (h : k < zs.length) : pat (ptsL zs) k = pI zs k := by
  rw [ptsL_pat h]; rfl
theorem ptsL_take {zs : List (Int × Int × Int)} {k : Nat} (h : k < zs.length) : ptsL (zs.take (k + 1)) = ptsL (zs.take k) ++ [((tat zs k).1, (tat zs k).2.1)] := by
  rw [List.take_succ_eq_append_getElem h, show tat zs k = zs[k] by simp [tat, List.getD, h]]; simp only [ptsL, List.map_append, List.map_cons, List.map_nil]
theorem pts_lex {zs : List (Int × Int × Int)} (h : planeB zs = true) {i j : Nat} (hij : i < j) (hj : j < zs.length) : lexP (pI zs i) (pI zs j) := by
  obtain ⟨_, _, hs⟩ := plane_step h
  have one : ∀ k, k + 1 < zs.length → lexP (pI zs k) (pI zs (k + 1)) := by
    intro k hk
    have := hs (k + 1) hk
    simp only [tstepB, Bool.and_eq_true, Bool.or_eq_true, Nat.add_sub_cancel] at this
    have h2 := this.2.resolve_left (by simp)
    unfold tbefB at h2
    simp only [Bool.or_eq_true, Bool.and_eq_true, decide_eq_true_eq] at h2
    unfold lexP lexV pI
    unfold tat at h2
    simp only
    omega
  obtain ⟨d, rfl⟩ : ∃ d, j = i + 1 + d := ⟨j - i - 1, by omega⟩
  clear hij
  induction d with
  | zero => exact one i hj
  | succ d ih => exact lexP_trans (ih (by omega)) (one (i + 1 + d) (by omega))
theorem pts_sorted {zs : List (Int × Int × Int)} (h : planeB zs = true) : (ptsL zs).Pairwise lexP := by
  rw [List.pairwise_iff_getElem]
  intro i j hi hj hij
  rw [ptsL_len] at hi hj
  rw [← pat_eq, ← pat_eq, ptsL_pI hi, ptsL_pI hj]
  exact pts_lex h hij hj
theorem pts_bd {zs : List (Int × Int × Int)} (h : planeB zs = true) {k : Nat} (hk : k < zs.length) : (0 ≤ (pI zs k).1 ∧ 0 ≤ (pI zs k).2 ∧ (pI zs k).1 + (pI zs k).2 ≤ 6) ∧ (-1000000 ≤ cI zs k ∧ cI zs k ≤ 1000000) := by
  have := termB_true.1 (plane_term h hk)
  have h3 := finB_true.1 this.2.2
  unfold tat at this h3
  unfold pI cI
  simp only
  omega
theorem pts_PB {zs : List (Int × Int × Int)} (h : planeB zs = true) : ∀ z ∈ ptsL zs, PB z := by
  intro z hz
  obtain ⟨k, hk, rfl⟩ := List.mem_iff_getElem.1 hz
  rw [ptsL_len] at hk
  rw [← pat_eq, ptsL_pI hk]
  have := (pts_bd h hk).1
  unfold PB
  omega
theorem hullL_len {l : List (Int × Int)} : (hullL l).length ≤ l.length + l.length := by
  unfold hullL
  split
  · omega
  · have h1 := chainR_len l
    have h2 := chainR_len l.reverse
    simp at h1 h2 ⊢; omega
def gP (t : Bool) (l : List (Int × Int)) : List (Int × Int) := if t then l else []
theorem gP_le {t : Bool} {l : List (Int × Int)} {k : Nat} (h : l.length ≤ k) : (gP t l).length ≤ k := by unfold gP; split <;> simp [h]
/-- A slice of points of the call's own, and a truth. -/
def OwnsPtsB (B : Nat) (zs : List (Int × Int)) (ok : Bool) (w : World) (r : Ending) (w' : World) : Prop :=
  ∃ a c, r = .returned (.tuple #[.slice a zs.length c, .bool ok]) ∧ w'.ownsRow B 49 2 (.slice a zs.length c) zs.length (pv zs) ∧ Ext w w'
end Go.Proofs.Ytaloegjcdllgoaa
