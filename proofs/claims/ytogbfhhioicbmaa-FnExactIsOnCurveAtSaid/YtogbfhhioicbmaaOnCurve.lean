/-
  IsOnCurveAt: what the loop keeps.
-/
import Derived.Test.YtogbfhhioicbmaaSpot
namespace Go.Proofs.Ytogbfhhioicbmaa
open Go.RowKit

/-- The best value so far and how often it was met; none: a value was not valid. -/
def onStep (a b p q : Int) (zs : List (Int × Int × Int)) (k : Nat) (s : Int × Int × Int) : Int × Int × Int :=
  let v := curV (tat zs k).1 (tat zs k).2.1 (tat zs k).2.2 a b p q
  if k = 0 ∨ v.1 * s.2.1 - s.1 * v.2.1 < 0 then (v.1, v.2.1, 1) else if v.1 = s.1 ∧ v.2.1 = s.2.1 then (s.1, s.2.1, s.2.2 + 1) else s
def onTo (a b p q : Int) (zs : List (Int × Int × Int)) : Nat → Int × Int × Int
  | 0 => (0, 0, 0)
  | k + 1 => onStep a b p q zs k (onTo a b p q zs k)
def onOk (a b p q : Int) (zs : List (Int × Int × Int)) : Nat → Bool
  | 0 => true
  | k + 1 => onOk a b p q zs k && (curV (tat zs k).1 (tat zs k).2.1 (tat zs k).2.2 a b p q).2.2
theorem onOk_mono {a b p q : Int} {zs : List (Int × Int × Int)} : ∀ {m k : Nat}, k ≤ m → onOk a b p q zs m = true → onOk a b p q zs k = true
  | 0, k, h, _ => by obtain rfl : k = 0 := by omega
                     rfl
  | m + 1, k, h, hm => by
    rcases Nat.lt_or_ge m k with h1 | h1
    · obtain rfl : k = m + 1 := by omega
      exact hm
    · simp only [onOk, Bool.and_eq_true] at hm
      exact onOk_mono h1 hm.1
theorem onOk_bad {a b p q : Int} {zs : List (Int × Int × Int)} {k n : Nat} (hk : k < n) (h : (curV (tat zs k).1 (tat zs k).2.1 (tat zs k).2.2 a b p q).2.2 = false) : onOk a b p q zs n = false := by
  cases hp : onOk a b p q zs n
  · rfl
  · have := onOk_mono (k := k + 1) (by omega) hp
    simp [onOk, h] at this
theorem curV_frac {i j c a b p q r1 r2 : Int} (h : curV i j c a b p q = (r1, r2, true)) : fracB r1 r2 = true := by
  unfold curV at h
  split at h
  · split at h
    · exact cvA_frac h
    · simp at h
  · simp at h
/-- Behind a round the count is at least 1, at most the rounds. -/
theorem onTo_count {a b p q : Int} {zs : List (Int × Int × Int)} : ∀ k : Nat, (onTo a b p q zs k).2.2 ≤ (k : Int) ∧ (1 ≤ k → 1 ≤ (onTo a b p q zs k).2.2)
  | 0 => by simp [onTo]
  | k + 1 => by
    have ih := onTo_count (a := a) (b := b) (p := p) (q := q) (zs := zs) k
    simp only [onTo, onStep]
    split
    · simp; omega
    · rename_i hn
      have hk : 1 ≤ k := by
        rcases Nat.eq_zero_or_pos k with h | h
        · exact absurd (.inl h) hn
        · exact h
      have := ih.2 hk
      split
      · simp; omega
      · omega
def onB (a b p q : Int) (zs : List (Int × Int × Int)) : Bool := planeB zs && fracB a b && fracB p q && onOk a b p q zs zs.length
def onV (a b p q : Int) (zs : List (Int × Int × Int)) : Bool := onB a b p q zs && decide (1 < (onTo a b p q zs zs.length).2.2)

end Go.Proofs.Ytogbfhhioicbmaa
