/-
  The sides of the dual polygon of a star, in plain words: no two of them have the same angle.
-/
import Derived.Test.YtaloegjcdllgoaaAngP
import Derived.Test.YtaloegjcdllgoaaPutP
import Derived.Test.YtaloegjcdllgoaaBal
namespace Go.Proofs.Ytaloegjcdllgoaa
open Go.RowKit

theorem prim_cross {a b c d : Int} (h1 : gcdI a b = 1) (h2 : gcdI c d = 1) (h : a * d = b * c) : (c = a ∧ d = b) ∨ (c = -a ∧ d = -b) := by
  have g1 : Nat.gcd a.natAbs b.natAbs = 1 := by unfold gcdI Int.gcd at h1; omega
  have g2 : Nat.gcd c.natAbs d.natAbs = 1 := by unfold gcdI Int.gcd at h2; omega
  have hn : a.natAbs * d.natAbs = b.natAbs * c.natAbs := by rw [← Int.natAbs_mul, ← Int.natAbs_mul, h]
  have k1 : a.natAbs ∣ c.natAbs := Nat.Coprime.dvd_of_dvd_mul_left (k := a.natAbs) (m := b.natAbs) (n := c.natAbs) g1 ⟨d.natAbs, hn.symm⟩
  have k2 : c.natAbs ∣ a.natAbs := Nat.Coprime.dvd_of_dvd_mul_right (k := c.natAbs) (n := d.natAbs) (m := a.natAbs) g2 ⟨b.natAbs, by rw [hn, Nat.mul_comm]⟩
  have k3 : b.natAbs ∣ d.natAbs := Nat.Coprime.dvd_of_dvd_mul_left (k := b.natAbs) (m := a.natAbs) (n := d.natAbs) (by rw [Nat.Coprime, Nat.gcd_comm]; exact g1) ⟨c.natAbs, hn⟩
  have k4 : d.natAbs ∣ b.natAbs := Nat.Coprime.dvd_of_dvd_mul_right (k := d.natAbs) (n := c.natAbs) (m := b.natAbs) (by rw [Nat.Coprime, Nat.gcd_comm]; exact g2) ⟨a.natAbs, by rw [← hn, Nat.mul_comm]⟩
  have e1 := Nat.dvd_antisymm k1 k2
  have e2 := Nat.dvd_antisymm k3 k4
  have p1 : c = a ∨ c = -a := by omega
  have p2 : d = b ∨ d = -b := by omega
  rcases p1 with rfl | rfl <;> rcases p2 with rfl | rfl
  · exact .inl ⟨rfl, rfl⟩
  · have hz : c * b = 0 := by grind
    rcases Int.mul_eq_zero.1 hz with e | e
    · exact .inr ⟨by omega, rfl⟩
    · exact .inl ⟨rfl, by omega⟩
  · have hz : a * d = 0 := by grind
    rcases Int.mul_eq_zero.1 hz with e | e
    · exact .inl ⟨by omega, rfl⟩
    · exact .inr ⟨rfl, by omega⟩
  · exact .inr ⟨rfl, rfl⟩

/-- The side of a ray; all sides. -/
def sideD (r : Int × Int × Int) : Int × Int := (r.2.2 * r.2.1, -r.2.2 * r.1)
def IsRay (r : Int × Int × Int) : Prop := (-20 ≤ r.1 ∧ r.1 ≤ 20) ∧ (-20 ≤ r.2.1 ∧ r.2.1 ≤ 20) ∧ gcdI r.1 r.2.1 = 1 ∧ (1 ≤ r.2.2 ∧ r.2.2 ≤ 20)
theorem side_qa {r : Int × Int × Int} (h : IsRay r) : QA (sideD r) := by
  obtain ⟨h1, h2, h3, h4⟩ := h
  have b1 := prod_bd (a := r.2.2) (b := r.2.1) h4 h2
  have b2 := prod_bd (a := r.2.2) (b := r.1) h4 h1
  have e : -r.2.2 * r.1 = -(r.2.2 * r.1) := by rw [Int.neg_mul]
  refine ⟨?_, ?_, ?_⟩
  · show r.2.2 * r.2.1 ≠ 0 ∨ -r.2.2 * r.1 ≠ 0
    rw [e]
    refine Decidable.byContradiction fun hn => ?_
    have z1 : r.2.2 * r.2.1 = 0 := by omega
    have z2 : r.2.2 * r.1 = 0 := by omega
    have y1 : r.2.1 = 0 := by rcases Int.mul_eq_zero.1 z1 with e | e <;> omega
    have y2 : r.1 = 0 := by rcases Int.mul_eq_zero.1 z2 with e | e <;> omega
    rw [y1, y2] at h3
    revert h3
    decide
  · show -1000 ≤ r.2.2 * r.2.1 ∧ r.2.2 * r.2.1 ≤ 1000
    omega
  · show -1000 ≤ -r.2.2 * r.1 ∧ -r.2.2 * r.1 ≤ 1000
    omega
theorem side_cr {r s : Int × Int × Int} (hr : IsRay r) (hs : IsRay s) (h : crI (sideD r) (sideD s) = 0) : r.1 * s.2.1 = r.2.1 * s.1 := by
  have e : crI (sideD r) (sideD s) = (r.2.2 * s.2.2) * (r.1 * s.2.1 - r.2.1 * s.1) := by unfold crI sideD; grind
  rw [e] at h
  rcases Int.mul_eq_zero.1 h with h | h
  · have h1 := hr.2.2.2
    have h2 := hs.2.2.2
    rcases Int.mul_eq_zero.1 h with h | h <;> omega
  · omega
theorem up_not {p : Int × Int} (h : upB p = true) : upB (ngP p) = false := by
  have h1 := upB_iff.1 h
  cases h2 : upB (ngP p)
  · rfl
  · have h3 := upB_iff.1 h2
    unfold Up ngP at *
    simp only at h3
    omega
theorem up_mul {p : Int × Int} {m : Int} (hm : 1 ≤ m) : upB (m * p.1, m * p.2) = upB p := by
  rw [Bool.eq_iff_iff, upB_iff, upB_iff]
  unfold Up
  simp only
  have e : ∀ x : Int, 0 < m * x ↔ 0 < x := fun x => ⟨fun h => by
    rcases Int.lt_or_le 0 x with h2 | h2
    · exact h2
    · have := Int.mul_le_mul_of_nonneg_left h2 (show 0 ≤ m by omega)
      omega, fun h => Int.mul_pos (by omega) h⟩
  have e0 : m * p.2 = 0 ↔ p.2 = 0 := by
    rw [Int.mul_eq_zero]
    omega
  rw [e, e, e0]
theorem side_uniq {r s : Int × Int × Int} (hr : IsRay r) (hs : IsRay s) (h1 : ¬ angI (sideD r) (sideD s) < 0) (h2 : ¬ angI (sideD s) (sideD r) < 0) : kR r = kR s := by
  rw [ang_nlt] at h1 h2
  have hu : upB (sideD r) = upB (sideD s) ∧ crI (sideD r) (sideD s) = 0 := by
    have := cr_swap (sideD r) (sideD s)
    rcases h1 with ⟨a, b⟩ | ⟨a, b⟩ <;> rcases h2 with ⟨c, d⟩ | ⟨c, d⟩
    · exact ⟨a, by omega⟩
    · rw [c, d] at a; cases a
    · rw [a, b] at c; cases c
    · rw [a] at d; cases d
  have hc := prim_cross hr.2.2.1 hs.2.2.1 (side_cr hr hs hu.2)
  have u1 : upB (sideD r) = upB (r.2.1, -r.1) := by
    have := up_mul (p := (r.2.1, -r.1)) hr.2.2.2.1
    rw [← this]
    unfold sideD
    simp only [Int.neg_mul, Int.mul_neg]
  have u2 : upB (sideD s) = upB (s.2.1, -s.1) := by
    have := up_mul (p := (s.2.1, -s.1)) hs.2.2.2.1
    rw [← this]
    unfold sideD
    simp only [Int.neg_mul, Int.mul_neg]
  rcases hc with ⟨a, b⟩ | ⟨a, b⟩
  · show (r.1, r.2.1) = (s.1, s.2.1)
    rw [a, b]
  · exfalso
    have e : ((s.2.1, -s.1) : Int × Int) = ngP (r.2.1, -r.1) := by unfold ngP; simp [a, b]
    have hq := hu.1
    rw [u1, u2, e] at hq
    have nz : NZ (r.2.1, -r.1) := by
      have h3 := hr.2.2.1
      refine Classical.byContradiction fun hn => ?_
      unfold NZ at hn
      simp only at hn
      have y1 : r.2.1 = 0 := by omega
      have y2 : r.1 = 0 := by omega
      rw [y1, y2] at h3
      revert h3
      decide
    cases hx : upB (r.2.1, -r.1)
    · have := upB_iff.2 (up_ng nz hx)
      rw [← hq, hx] at this
      cases this
    · have := up_not hx
      rw [← hq, hx] at this
      cases this
end Go.Proofs.Ytaloegjcdllgoaa
