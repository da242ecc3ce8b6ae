/-
  ValueByRoots: both sides' walks.
-/
import Derived.Test.YtgoaedhgkkbajaaDoorRoots
namespace Go.Proofs.YtgoaedhgkkbajaaDoor
open Go.RowKit

theorem low_whole {q d : Int} (hd : 0 < d) : lowN (q * d) d = q ∧ lowD (q * d) d = 1 := by
  have h1 := low_mul (n := q * d) (d := d)
  have h2 := low_gcd (n := q * d) hd
  have hG := lowG_ne (n := q * d) (d := d) (by omega)
  have e : lowN (q * d) d = q * lowD (q * d) d := by
    have h3 : lowN (q * d) d * lowG (q * d) d = (q * lowD (q * d) d) * lowG (q * d) d := by rw [h1.1, Int.mul_assoc, h1.2]
    exact Int.eq_of_mul_eq_mul_right hG h3
  have h4 : gcdI (q * lowD (q * d) d) (lowD (q * d) d) = 1 := by rw [← e]; exact h2.1
  have h5 : lowD (q * d) d = 1 := by
    have : (lowD (q * d) d).natAbs = 1 := by
      unfold gcdI at h4
      rw [Int.gcd_mul_left_left] at h4
      omega
    omega
  exact ⟨by rw [e, h5, Int.mul_one], h5⟩
theorem low_wholes {q n d : Int} (hd : 0 < d) (h : n = q * d) : lowN n d = q ∧ lowD n d = 1 := by subst h; exact low_whole hd
/-- What a root adds to the value at x. -/
def partI (x : Int) (r : Int × Int × Int) : Int := if x * r.2.1 < r.1 then r.2.2 * x else r.2.2 * r.1 / r.2.1
def partsI (x : Int) (l : List (Int × Int × Int)) : Nat → Int
  | 0 => 0
  | k + 1 => partsI x l k + partI x (tat l k)
/-- What is known of a root. -/
structure IsRt (r : Int × Int × Int) : Prop where
  ok : fracB r.1 r.2.1 = true
  num : -2000000 ≤ r.1 ∧ r.1 ≤ 2000000
  den : 1 ≤ r.2.1 ∧ r.2.1 ≤ 13
  times : 1 ≤ r.2.2 ∧ r.2.2 ≤ 13
  whole : ∃ q : Int, r.2.2 * r.1 = q * r.2.1 ∧ -2000000 ≤ q ∧ q ≤ 2000000
theorem isRt_of {a b : Int} (d : Int) (hd : 1 ≤ d ∧ d ≤ 13) (ha : -2000000 ≤ a - b ∧ a - b ≤ 2000000) : IsRt (lowN (a - b) d, lowD (a - b) d, d) := by
  have h1 := low_mul (n := a - b) (d := d)
  have h2 := low_gcd (n := a - b) (d := d) (by omega)
  have h3 : -2000000 ≤ lowN (a - b) d ∧ lowN (a - b) d ≤ 2000000 := tdiv_bd ha
  have h4 : -13 ≤ lowD (a - b) d ∧ lowD (a - b) d ≤ 13 := tdiv_bd (by omega)
  refine ⟨?_, h3, ⟨h2.2, h4.2⟩, hd, a - b, ?_, ha⟩
  · exact fracB_true.2 ⟨by show -1000000000 ≤ lowN (a - b) d ∧ lowN (a - b) d ≤ 1000000000; omega, by show 1 ≤ lowD (a - b) d ∧ lowD (a - b) d ≤ 1000000000; omega, h2.1⟩
  · show d * lowN (a - b) d = (a - b) * lowD (a - b) d
    generalize lowN (a - b) d = N at *
    generalize lowD (a - b) d = D at *
    generalize lowG (a - b) d = G at *
    rw [← h1.1, ← h1.2]
    grind
theorem rt_isRt {zs : List Int} (hp : IsPol zs) (h13 : zs.length ≤ 13) {k : Nat} (hk : k < (rts zs).length) : IsRt (tat (rts zs) k) := by
  have hI := isCorn zs
  have e : tat (rts zs) k = rootAt zs (cornR zs zs.length).reverse ((cornR zs zs.length).reverse.length - 1 - k) := by
    have hk2 : k < (cornR zs zs.length).reverse.length - 1 := by rw [rts, rtsTo_len] at hk; exact hk
    simp only [tat, rts, rtsTo]
    rw [List.getD_eq_getElem?_getD, List.getElem?_map, List.getElem?_range hk2]
    rfl
  rw [rts, rtsTo_len] at hk
  generalize (cornR zs zs.length).reverse = C at *
  obtain ⟨m, hm⟩ : ∃ m, C.length - 1 - k = m + 1 := ⟨C.length - 2 - k, by omega⟩
  obtain ⟨x, hx⟩ := hI.get m (by omega)
  obtain ⟨y, hy⟩ := hI.get (m + 1) (by omega)
  have hxy := hI.lt m x y hx hy
  have hxm := hI.mem m x hx
  have hym := hI.mem (m + 1) y hy
  have bx := num_bd (hp.num x hxm.1) hxm.2
  have by' := num_bd (hp.num y hym.1) hym.2
  rw [e, hm, rootAt_eq hx hy]
  exact isRt_of _ (by omega) (by omega)
theorem part_bd {x : Int} {r : Int × Int × Int} (h : IsRt r) (hx : -1000000 ≤ x ∧ x ≤ 1000000) : -13000000 ≤ partI x r ∧ partI x r ≤ 13000000 := by
  unfold partI
  obtain ⟨q, hq, h1, h2⟩ := h.whole
  split
  · have := h.times
    have := mul_bd (A := 13) (D := 1000000) (a := r.2.2) (d := x) (by omega) (by omega) hx.1 hx.2
    omega
  · rw [hq, Int.mul_ediv_cancel _ (by have := h.den; omega)]; omega
theorem parts_bd {x : Int} {l : List (Int × Int × Int)} (h : ∀ k, k < l.length → IsRt (tat l k)) (hx : -1000000 ≤ x ∧ x ≤ 1000000) : ∀ k, k ≤ l.length → -13000000 * (k : Int) ≤ partsI x l k ∧ partsI x l k ≤ 13000000 * (k : Int)
  | 0, _ => by simp [partsI]
  | k + 1, hk => by
    have := parts_bd h hx k (by omega)
    have := part_bd (h k (by omega)) hx
    simp only [partsI]
    omega

end Go.Proofs.YtgoaedhgkkbajaaDoor
