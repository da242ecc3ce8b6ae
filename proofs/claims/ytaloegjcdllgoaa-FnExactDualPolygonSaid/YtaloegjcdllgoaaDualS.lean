/-
  A star's sides, sorted by their angles, are the sides as the reference puts them.
-/
import Derived.Test.YtaloegjcdllgoaaDualK
import Derived.Test.YtaloegjcdllgoaaAddS
namespace Go.Proofs.Ytaloegjcdllgoaa
open Go.RowKit

theorem star_isRay {zs : List (Int × Int × Int)} (h : starB zs = true) {r : Int × Int × Int} (hr : r ∈ zs) : IsRay r := by
  simp only [starB, Bool.and_eq_true, decide_eq_true_eq] at h
  obtain ⟨k, hk, rfl⟩ := List.mem_iff_getElem.1 hr
  have h1 := okTo_at _ h.1 hk
  simp only [okAt, Bool.and_eq_true] at h1
  have h2 := rayB_true.1 h1.1
  have e : tat zs k = zs[k] := by simp [tat, List.getD, hk]
  rw [e] at h2
  exact h2
theorem dual_sorted {zs : List (Int × Int × Int)} {S : List (Int × Int)} (h : starB zs = true) (hp : S.Perm (zs.map sideD)) (ho : OrdA S) : S = putsA (zs.map sideD) := by
  refine sorted_puts hp (fun z hz => ?_) ho (fun x hx y hy h1 h2 => ?_)
  · obtain ⟨r, hr, rfl⟩ := List.mem_map.1 hz
    exact (side_qa (star_isRay h hr)).1
  · obtain ⟨r, hr, rfl⟩ := List.mem_map.1 hx
    obtain ⟨s, hs, rfl⟩ := List.mem_map.1 hy
    have hk := side_uniq (star_isRay h hr) (star_isRay h hs) h1 h2
    have hst := (star_rows h).2.1
    obtain ⟨i, hi, rfl⟩ := List.mem_iff_getElem.1 hr
    obtain ⟨j, hj, rfl⟩ := List.mem_iff_getElem.1 hs
    have hpw := List.pairwise_iff_getElem.1 hst
    rcases Nat.lt_trichotomy i j with e | e | e
    · have := hpw i j hi hj e
      rw [hk] at this
      exact absurd this (lexP_irrefl _)
    · subst e; rfl
    · have := hpw j i hj hi e
      rw [hk] at this
      exact absurd this (lexP_irrefl _)
end Go.Proofs.Ytaloegjcdllgoaa
