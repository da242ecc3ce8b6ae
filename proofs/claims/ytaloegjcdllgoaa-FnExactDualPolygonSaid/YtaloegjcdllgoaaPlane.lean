/-
  What a plane polynomial is: both sides' walks.
-/
import Derived.Test.YtaloegjcdllgoaaTri
import Derived.Test.YtaloegjcdllgoaaTerms
import Derived.Test.YtaloegjcdllgoaaStar
import Derived.Test.YtaloegjcdllgoaaPoly
namespace Go.Proofs.Ytaloegjcdllgoaa
open Go.RowKit

/-- A valid term; the order of two terms; a plane polynomial. -/
def termB (i j c : Int) : Bool := inB i 0 6 && inB j 0 (6 - i) && finB c
def tbefB (i j x y : Int) : Bool := decide (i < x) || (decide (i = x) && decide (j < y))
def tstepB (zs : List (Int × Int × Int)) (k : Nat) : Bool := termB (tat zs k).1 (tat zs k).2.1 (tat zs k).2.2 && (k == 0 || tbefB (tat zs (k - 1)).1 (tat zs (k - 1)).2.1 (tat zs k).1 (tat zs k).2.1)
def plTo (zs : List (Int × Int × Int)) : Nat → Bool
  | 0 => true
  | k + 1 => plTo zs k && tstepB zs k
def planeB (zs : List (Int × Int × Int)) : Bool := inB (zs.length : Int) 1 12 && plTo zs zs.length
theorem plTo_mono {zs : List (Int × Int × Int)} : ∀ {m k : Nat}, k ≤ m → plTo zs m = true → plTo zs k = true
  | 0, k, h, _ => by obtain rfl : k = 0 := by omega
                     rfl
  | m + 1, k, h, hm => by
    rcases Nat.lt_or_ge m k with h1 | h1
    · obtain rfl : k = m + 1 := by omega
      exact hm
    · simp only [plTo, Bool.and_eq_true] at hm
      exact plTo_mono h1 hm.1
theorem plTo_bad {zs : List (Int × Int × Int)} {k n : Nat} (hk : k < n) (h : tstepB zs k = false) : plTo zs n = false := by
  cases hp : plTo zs n
  · rfl
  · have := plTo_mono (k := k + 1) (by omega) hp
    simp [plTo, h] at this
theorem termB_true {i j c : Int} : termB i j c = true ↔ (0 ≤ i ∧ i ≤ 6) ∧ (0 ≤ j ∧ j ≤ 6 - i) ∧ finB c = true := by simp [termB, inB_true, and_assoc]
theorem plane_step {zs : List (Int × Int × Int)} (h : planeB zs = true) : 1 ≤ zs.length ∧ zs.length ≤ 12 ∧ ∀ k, k < zs.length → tstepB zs k = true := by
  simp only [planeB, Bool.and_eq_true, inB_true] at h
  refine ⟨by omega, by omega, fun k hk => ?_⟩
  have := plTo_mono (k := k + 1) (by omega) h.2
  simp only [plTo, Bool.and_eq_true] at this
  exact this.2
theorem plane_term {zs : List (Int × Int × Int)} (h : planeB zs = true) {k : Nat} (hk : k < zs.length) : termB (tat zs k).1 (tat zs k).2.1 (tat zs k).2.2 = true := by
  have := (plane_step h).2.2 k hk
  simp only [tstepB, Bool.and_eq_true] at this
  exact this.1

end Go.Proofs.Ytaloegjcdllgoaa
