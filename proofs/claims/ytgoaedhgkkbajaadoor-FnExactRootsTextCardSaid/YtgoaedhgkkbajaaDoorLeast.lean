/-
  The least coefficients as the reference makes them; two rows of ints compared.
-/
import Derived.Test.YtgoaedhgkkbajaaDoorCornW
namespace Go.Proofs.YtgoaedhgkkbajaaDoor
open Go.RowKit

theorem dec_take {zs ys : List Int} {k : Nat} (hz : k < zs.length) (hy : k < ys.length) (h : zs.take k = ys.take k) (e : zs.getD k 0 = ys.getD k 0) : zs.take (k + 1) = ys.take (k + 1) := by
  rw [List.take_succ_eq_append_getElem hz, List.take_succ_eq_append_getElem hy, h]
  simp [List.getD, hz, hy] at e
  rw [e]
theorem ne_at {zs ys : List Int} {k : Nat} (e : zs.getD k 0 ≠ ys.getD k 0) : zs ≠ ys := by rintro rfl; exact e rfl

theorem floor_tdiv {a b : Int} (hb : 0 < b) : a / b = if a < 0 ∧ a.tmod b ≠ 0 then a.tdiv b - 1 else a.tdiv b := by
  have h1 := Int.tdiv_eq_ediv (a := a) (b := b)
  have h2 := Int.mul_tdiv_add_tmod a b
  have h3 : b.sign = 1 := Int.sign_eq_one_of_pos hb
  by_cases ha : 0 ≤ a
  · rw [if_neg (by omega)]
    rw [if_pos (.inl ha)] at h1
    omega
  · by_cases hd : b ∣ a
    · have hm : a.tmod b = 0 := Int.tmod_eq_zero_of_dvd hd
      rw [if_neg (by intro h; exact h.2 hm)]
      rw [if_pos (.inr hd)] at h1
      omega
    · have hm : a.tmod b ≠ 0 := fun e => hd (Int.dvd_of_tmod_eq_zero e)
      rw [if_pos ⟨by omega, hm⟩]
      rw [if_neg (by intro h; rcases h with h | h; exact ha h; exact hd h), h3] at h1
      omega

/-- The corners rise. -/
theorem corn_rise {zs : List Int} : (cornR zs zs.length).Pairwise (· > ·) := by
  have hgen : ∀ (k : Nat), (cornR zs k).Pairwise (· > ·) := by
    intro k
    induction k with
    | zero => exact .nil
    | succ k ih =>
      simp only [cornR]
      split
      · exact ih
      · refine List.pairwise_cons.2 ⟨fun x hx => ?_, ?_⟩
        · have := cornR_mem zs k x (popI_mem zs _ _ _ hx); omega
        · have : ∀ s : List Int, s.Pairwise (· > ·) → (popI zs k s).Pairwise (· > ·) := by
            intro s
            induction s with
            | nil => intro h; exact h
            | cons b s ihs =>
              intro h
              cases s with
              | nil => exact h
              | cons a r =>
                simp only [popI]
                split
                · exact ihs (List.pairwise_cons.1 h).2
                · exact h
          exact this _ ih
  exact hgen _

end Go.Proofs.YtgoaedhgkkbajaaDoor
