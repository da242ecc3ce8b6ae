/-
  SupportOf: the support of a star in a direction.
-/
import Derived.Test.YtaloegjcdllgoaaBal
namespace Go.Proofs.Ytaloegjcdllgoaa
open Go.RowKit

/-- The support of the first k rays. -/
def supI (zs : List (Int × Int × Int)) (u v : Int) : Nat → Int
  | 0 => 0
  | k + 1 => supI zs u v k + (tat zs k).2.2 * maxI 0 ((tat zs k).1 * u + (tat zs k).2.1 * v)
theorem step_bd {a b : Int} (ha : -20 ≤ a ∧ a ≤ 20) (hb : -20 ≤ b ∧ b ≤ 20) : -400 ≤ a * b ∧ a * b ≤ 400 := by
  have := mul_bd ha.1 ha.2 hb.1 hb.2
  omega
theorem maxI0_bd {m : Int} (h : -800 ≤ m ∧ m ≤ 800) : 0 ≤ maxI 0 m ∧ maxI 0 m ≤ 800 := by unfold maxI; split <;> omega
theorem sup_pr {z m : Int} (hz : 1 ≤ z ∧ z ≤ 20) (hm : -800 ≤ m ∧ m ≤ 800) : 0 ≤ z * maxI 0 m ∧ z * maxI 0 m ≤ 16000 := by
  obtain ⟨h1, h2⟩ := maxI0_bd hm
  generalize maxI 0 m = q at *
  constructor
  · exact Int.mul_nonneg (by omega) h1
  · have := Int.mul_le_mul hz.2 h2 h1 (by omega)
    omega
theorem max_out {z m : Int} (hz : 1 ≤ z ∧ z ≤ 20) : maxI 0 (z * m) = z * maxI 0 m := by
  unfold maxI
  rcases Int.lt_or_le m 0 with h | h
  · have : z * m < 0 := Int.mul_neg_of_pos_of_neg (by omega) h
    split <;> split <;> first | omega | simp
  · have : 0 ≤ z * m := Int.mul_nonneg (by omega) h
    split <;> split <;> first | rfl | omega | (have hm0 : m = 0 := by omega
                                               subst hm0; simp) | (have e : z * m = 0 := by omega
                                                                   simp [e]; omega)
theorem mul_bd2 {z m : Int} (hz : 1 ≤ z ∧ z ≤ 20) (hm : -800 ≤ m ∧ m ≤ 800) : -16000 ≤ z * m ∧ z * m ≤ 16000 := by
  have := mul_bd (A := 20) (D := 800) (by omega : -20 ≤ z) hz.2 hm.1 hm.2
  omega
theorem supI_bd {zs : List (Int × Int × Int)} {u v : Int} (h : Small zs) (hu : -20 ≤ u ∧ u ≤ 20) (hv : -20 ≤ v ∧ v ≤ 20) : ∀ k : Nat, k ≤ zs.length → 0 ≤ supI zs u v k ∧ supI zs u v k ≤ 16000 * (k : Int)
  | 0, _ => by simp [supI]
  | k + 1, hk => by
    have ih := supI_bd h hu hv k (by omega)
    have hp := h.2 k (by omega)
    have p1 := step_bd hp.1 hu
    have p2 := step_bd hp.2.1 hv
    have hq := sup_pr (m := (tat zs k).1 * u + (tat zs k).2.1 * v) hp.2.2 (by omega)
    simp only [supI]
    omega

end Go.Proofs.Ytaloegjcdllgoaa
