/-
  The sizes of a vertex' parts, in plain words.
-/
import Derived.Test.YtngbdopgdcjdeaaGreatBa4
namespace Go.Proofs.YtngbdopgdcjdeaaGreat

theorem pos_bd {x u : Int} (h0 : 0 ≤ x) (h6 : x ≤ 6) : x * u ≤ 6 * maxI u 0 := by
  unfold maxI
  rcases Int.lt_or_le 0 u with h | h
  · have := Int.mul_le_mul_of_nonneg_right h6 (show 0 ≤ u by omega)
    split <;> omega
  · have h1 := Int.mul_nonneg h0 (show 0 ≤ -u by omega)
    have h2 : x * -u = -(x * u) := by grind
    split <;> omega
theorem turn_36 {a b c : Int × Int} (ha : (0 ≤ a.1 ∧ a.1 ≤ 6) ∧ (0 ≤ a.2 ∧ a.2 ≤ 6)) (hb : (0 ≤ b.1 ∧ b.1 ≤ 6) ∧ (0 ≤ b.2 ∧ b.2 ≤ 6)) (hc : (0 ≤ c.1 ∧ c.1 ≤ 6) ∧ (0 ≤ c.2 ∧ c.2 ≤ 6)) : turnI a b c ≤ 36 := by
  have e : turnI a b c = a.1 * (b.2 - c.2) + b.1 * (c.2 - a.2) + c.1 * (a.2 - b.2) := by unfold turnI detI; grind
  have h1 := pos_bd (u := b.2 - c.2) ha.1.1 ha.1.2
  have h2 := pos_bd (u := c.2 - a.2) hb.1.1 hb.1.2
  have h3 := pos_bd (u := a.2 - b.2) hc.1.1 hc.1.2
  rw [e]
  unfold maxI at h1 h2 h3
  omega
theorem mil_bd {a u : Int} (h : -1000000 ≤ a ∧ a ≤ 1000000) : -(1000000 * absI u) ≤ a * u ∧ a * u ≤ 1000000 * absI u := by
  unfold absI
  rcases Int.lt_or_le u 0 with h1 | h1
  · have k1 := Int.mul_nonneg (show 0 ≤ 1000000 - a by omega) (show 0 ≤ -u by omega)
    have k2 := Int.mul_nonneg (show 0 ≤ 1000000 + a by omega) (show 0 ≤ -u by omega)
    have e1 : (1000000 - a) * -u = -(1000000 * u) + a * u := by grind
    have e2 : (1000000 + a) * -u = -(1000000 * u) - a * u := by grind
    omega
  · have k1 := Int.mul_nonneg (show 0 ≤ 1000000 - a by omega) h1
    have k2 := Int.mul_nonneg (show 0 ≤ 1000000 + a by omega) h1
    have e1 : (1000000 - a) * u = 1000000 * u - a * u := by grind
    have e2 : (1000000 + a) * u = 1000000 * u + a * u := by grind
    omega
theorem three_bd {a b c u v z : Int} (ha : -1000000 ≤ a ∧ a ≤ 1000000) (hb : -1000000 ≤ b ∧ b ≤ 1000000) (hc : -1000000 ≤ c ∧ c ≤ 1000000) (hu : 0 ≤ u ∧ u ≤ 6) (hv : 0 ≤ v ∧ v ≤ 6) (hz : 0 ≤ z ∧ z ≤ 6) :
    -12000000 ≤ a * (u - v) + b * (z - u) + c * (v - z) ∧ a * (u - v) + b * (z - u) + c * (v - z) ≤ 12000000 := by
  have h1 := mil_bd (u := u - v) ha
  have h2 := mil_bd (u := z - u) hb
  have h3 := mil_bd (u := v - z) hc
  unfold absI at h1 h2 h3
  omega
theorem vX_bd {A B C : Int × Int} {a b c : Int} (ha : (0 ≤ A.1 ∧ A.1 ≤ 6) ∧ (0 ≤ A.2 ∧ A.2 ≤ 6)) (hb : (0 ≤ B.1 ∧ B.1 ≤ 6) ∧ (0 ≤ B.2 ∧ B.2 ≤ 6)) (hc : (0 ≤ C.1 ∧ C.1 ≤ 6) ∧ (0 ≤ C.2 ∧ C.2 ≤ 6)) (ka : -1000000 ≤ a ∧ a ≤ 1000000) (kb : -1000000 ≤ b ∧ b ≤ 1000000) (kc : -1000000 ≤ c ∧ c ≤ 1000000) :
    (-12000000 ≤ vX B C A a b c ∧ vX B C A a b c ≤ 12000000) ∧ (-12000000 ≤ vY B C A a b c ∧ vY B C A a b c ≤ 12000000) := by
  constructor
  · have e : vX B C A a b c = a * (C.2 - B.2) + b * (A.2 - C.2) + c * (B.2 - A.2) := by unfold vX; grind
    rw [e]
    exact three_bd ka kb kc hc.2 hb.2 ha.2
  · have e : vY B C A a b c = a * (B.1 - C.1) + c * (A.1 - B.1) + b * (C.1 - A.1) := by unfold vY; grind
    rw [e]
    exact three_bd ka kc kb hb.1 hc.1 ha.1
/-- The sizes of a vertex: the numerators, the divisor. -/
theorem ver_bd {zs : List (Int × Int × Int)} (hZ : PZ zs) {x : List Int} (hx : IsCell zs x) : (-12000000 ≤ verX zs x ∧ verX zs x ≤ 12000000) ∧ (-12000000 ≤ verY zs x ∧ verY zs x ≤ 12000000) ∧ (0 < verD zs x ∧ verD zs x ≤ 36) := by
  obtain ⟨_, hk, hD⟩ := corn_three hZ hx
  have b0 := hZ.2.1 _ (hk 0 (by omega)).1
  have b1 := hZ.2.1 _ (hk 1 (by omega)).1
  have b2 := hZ.2.1 _ (hk 2 (by omega)).1
  have h := vX_bd b0.1 b1.1 b2.1 b0.2 b1.2 b2.2
  exact ⟨h.1, h.2, hD, turn_36 b0.1 b1.1 b2.1⟩
/-- The parts in lowest terms. -/
theorem low_bd {n d k m : Int} (hn : -k ≤ n ∧ n ≤ k) (hd : 0 < d ∧ d ≤ m) : (-k ≤ lowN n d ∧ lowN n d ≤ k) ∧ (1 ≤ lowD n d ∧ lowD n d ≤ m) := by
  have h1 := tdiv_bd (b := lowG n d) hn
  have h2 := tdiv_bd (b := lowG n d) (show -m ≤ d ∧ d ≤ m by omega)
  exact ⟨h1, (low_gcd hd.1).2, h2.2⟩

end Go.Proofs.YtngbdopgdcjdeaaGreat
