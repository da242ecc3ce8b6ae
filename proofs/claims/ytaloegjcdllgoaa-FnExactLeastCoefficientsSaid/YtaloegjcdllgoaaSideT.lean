/-
  The lower side of the hull as fractions, in plain words; floor and ceil of a fraction.
-/
import Derived.Test.YtaloegjcdllgoaaRtLeast
import Derived.Test.YtaloegjcdllgoaaFrac
namespace Go.Proofs.Ytaloegjcdllgoaa
open Go.RowKit

def sideN (zs : List Int) (i k j : Int) : Int := cf zs i * (k - i) + (cf zs k - cf zs i) * (j - i)
/-- The height of the lower side at j, by the corners (the last one first). -/
def fracAt (zs : List Int) (j : Int) : List Int → Option (Int × Int)
  | k :: i :: r => if i < j ∧ j ≤ k then some (lowN (sideN zs i k j) (k - i), lowD (sideN zs i k j) (k - i)) else fracAt zs j (i :: r)
  | [k] => if j = k then some (cf zs k, 1) else none
  | [] => none
def ceilI (p : Int × Int) : Int := -((-p.1) / p.2)
theorem ceil_low {n d : Int} (hd : 0 < d) : ceilI (lowN n d, lowD n d) = -((-n) / d) := by
  have h1 := low_mul (n := n) (d := d)
  have h2 := (low_gcd (n := n) hd).2
  generalize lowG n d = g at *
  generalize lowN n d = x at *
  generalize lowD n d = y at *
  have hg : 0 < g := by
    rcases Int.lt_or_le 0 g with h | h
    · exact h
    · have := Int.mul_le_mul_of_nonneg_left h (show 0 ≤ y by omega)
      rw [h1.2] at this
      omega
  unfold ceilI
  simp only
  rw [← h1.1, ← h1.2, ← Int.neg_mul, Int.mul_ediv_mul_of_pos_left _ _ hg]
theorem side_last {zs : List Int} {i k : Int} (h : i < k) : -((-(sideN zs i k k)) / (k - i)) = cf zs k := by
  have : -(sideN zs i k k) = (-cf zs k) * (k - i) := by unfold sideN; grind
  rw [this, Int.mul_ediv_cancel _ (by omega)]
  omega
theorem side_seg {zs : List Int} {i k j : Int} : -((-(sideN zs i k j)) / (k - i)) = segL zs i k j := by
  have : sideN zs i k j = cf zs i * (k - j) + cf zs k * (j - i) := by unfold sideN; grind
  unfold segL
  rw [this]
theorem ceil_at {zs : List Int} {j : Int} : ∀ C : List Int, C.Pairwise (· > ·) → match fracAt zs j C with
    | some p => ceilI p = valAt zs j C
    | none => valAt zs j C = 1000000000
  | [], _ => rfl
  | [k], _ => by
    by_cases h : j = k
    · simp [fracAt, valAt, h, ceilI]
    · simp [fracAt, valAt, h]
  | k :: i :: r, hp => by
    have hik : i < k := (List.pairwise_cons.1 hp).1 i (by simp)
    have ih := ceil_at (zs := zs) (j := j) (i :: r) (List.pairwise_cons.1 hp).2
    by_cases h : i < j ∧ j ≤ k
    · have e : fracAt zs j (k :: i :: r) = some (lowN (sideN zs i k j) (k - i), lowD (sideN zs i k j) (k - i)) := by simp only [fracAt]; rw [if_pos h]
      rw [e]
      show ceilI _ = _
      rw [ceil_low (by omega)]
      by_cases hk : j = k
      · subst hk
        rw [side_last hik]
        simp [valAt]
      · rw [side_seg]
        simp only [valAt]
        rw [if_neg hk, if_pos ⟨h.1, by omega⟩]
    · have e : fracAt zs j (k :: i :: r) = fracAt zs j (i :: r) := by simp only [fracAt]; rw [if_neg h]
      have e2 : valAt zs j (k :: i :: r) = valAt zs j (i :: r) := by
        simp only [valAt]
        rw [if_neg (by omega), if_neg (by omega)]
      rw [e, e2]
      exact ih
theorem frac_some {zs : List Int} {j : Int} : ∀ C : List Int, C.Pairwise (· > ·) → ∀ k i, C.head? = some k → C.getLast? = some i → i ≤ j → j ≤ k → fracAt zs j C ≠ none
  | [], _, _, _, h, _, _, _ => by cases h
  | [a], _, k, i, h1, h2, h3, h4 => by
    simp at h1 h2
    have : j = a := by omega
    simp [fracAt, this]
  | a :: b :: r, hp, k, i, h1, h2, h3, h4 => by
    simp at h1
    subst h1
    by_cases h : b < j ∧ j ≤ a
    · simp only [fracAt]
      rw [if_pos h]
      simp
    · simp only [fracAt]
      rw [if_neg h]
      exact frac_some (b :: r) (List.pairwise_cons.1 hp).2 b i rfl (by simpa using h2) h3 (by omega)
/-- What the fractions and the row itself give is the reference's row. -/
theorem side_rtl {zs : List Int} (h : IsPol zs) {j : Nat} (hj : j < zs.length) : valAt zs j (cornR zs zs.length) = match fracAt zs j (cornR zs zs.length) with
    | some p => ceilI p
    | none => cf zs j := by
  have h1 := ceil_at (zs := zs) (j := j) (cornR zs zs.length) corn_rise
  cases hf : fracAt zs j (cornR zs zs.length) with
  | some p => rw [hf] at h1; exact h1.symm
  | none =>
    rw [hf] at h1
    show _ = cf zs j
    rw [h1]
    refine Decidable.byContradiction fun hne => ?_
    have hfin : cf zs j ≠ 1000000000 := fun e => hne e.symm
    have ch := corn_chain h
    obtain ⟨t, ht⟩ := corn_head h
    have hne0 : cornR zs zs.length ≠ [] := by rw [ht]; simp
    obtain ⟨i, hi⟩ : ∃ i, (cornR zs zs.length).getLast? = some i := ⟨_, List.getLast?_eq_some_getLast hne0⟩
    have hlow := ch.low (pt zs i) (by rw [List.getLast?_map, hi]; rfl) (pt zs j) ⟨j, hj, hfin, rfl⟩
    have hij : i ≤ j := by
      rcases hlow with e | e
      · have := congrArg Prod.fst e
        simp [pt] at this
        omega
      · rcases e with e | e
        · simp [pt] at e
          omega
        · simp [pt] at e
          omega
    exact frac_some (zs := zs) (j := j) _ corn_rise ((zs.length - 1 : Nat) : Int) i (by rw [ht]; rfl) hi hij (by omega) hf
theorem frac_pos {zs : List Int} {j : Int} : ∀ C : List Int, C.Pairwise (· > ·) → ∀ p, fracAt zs j C = some p → 0 < p.2
  | [], _, _, h => by cases h
  | [k], _, p, h => by
    simp only [fracAt] at h
    split at h
    · cases h
      show (0 : Int) < 1
      decide
    · cases h
  | k :: i :: r, hp, p, h => by
    have hik : i < k := (List.pairwise_cons.1 hp).1 i (by simp)
    simp only [fracAt] at h
    split at h
    · cases h
      have := (low_gcd (n := sideN zs i k j) (d := k - i) (by omega)).2
      show 0 < lowD _ _
      omega
    · exact frac_pos (i :: r) (List.pairwise_cons.1 hp).2 p h
theorem side_bd {p q i k j : Int} (hp : -1000000 ≤ p ∧ p ≤ 1000000) (hq : -1000000 ≤ q ∧ q ≤ 1000000) (h0 : 0 ≤ i) (h1 : i ≤ j) (h2 : j ≤ k) (h3 : k ≤ 12) :
    (-12000000 ≤ p * (k - i) ∧ p * (k - i) ≤ 12000000) ∧ (-24000000 ≤ (q - p) * (j - i) ∧ (q - p) * (j - i) ≤ 24000000) := by
  have a1 := Int.mul_le_mul_of_nonneg_right hp.1 (show 0 ≤ k - i by omega)
  have a2 := Int.mul_le_mul_of_nonneg_right hp.2 (show 0 ≤ k - i by omega)
  have b1 := Int.mul_le_mul_of_nonneg_right (show -2000000 ≤ q - p by omega) (show 0 ≤ j - i by omega)
  have b2 := Int.mul_le_mul_of_nonneg_right (show q - p ≤ 2000000 by omega) (show 0 ≤ j - i by omega)
  omega
theorem frac_bd {zs : List Int} {j : Int} : ∀ C : List Int, (∀ k ∈ C, (0 ≤ k ∧ k < zs.length) ∧ -1000000 ≤ cf zs k ∧ cf zs k ≤ 1000000) → zs.length ≤ 13 → ∀ p, fracAt zs j C = some p →
    (0 ≤ j ∧ j < zs.length) ∧ (-1000000000 ≤ p.1 ∧ p.1 ≤ 1000000000) ∧ p.2 ≤ 1000000000
  | [], _, _, _, h => by cases h
  | [k], hm, _, p, h => by
    have hk := hm k (by simp)
    simp only [fracAt] at h
    split at h
    · cases h
      refine ⟨by omega, ?_, ?_⟩
      · show -1000000000 ≤ cf zs k ∧ cf zs k ≤ 1000000000
        omega
      · show (1 : Int) ≤ 1000000000
        decide
    · cases h
  | k :: i :: r, hm, hn, p, h => by
    have hk := hm k (by simp)
    have hi := hm i (by simp)
    simp only [fracAt] at h
    split at h
    next hc =>
      cases h
      have b := side_bd (p := cf zs i) (q := cf zs k) (i := i) (k := k) (j := j) hi.2 hk.2 hi.1.1 (by omega) hc.2 (by omega)
      have b1 := tdiv_bd (a := sideN zs i k j) (b := lowG (sideN zs i k j) (k - i)) (k := 1000000000) (by unfold sideN; omega)
      have b2 := tdiv_bd (a := k - i) (b := lowG (sideN zs i k j) (k - i)) (k := 1000000000) (by omega)
      exact ⟨by omega, b1, b2.2⟩
    next => exact frac_bd (i :: r) (fun x hx => hm x (by simp only [List.mem_cons] at hx ⊢; exact .inr hx)) hn p h
theorem floor_any (x y : Int) (hy : 0 < y) (hx : -1000000000000000000 ≤ x ∧ x ≤ 1000000000000000000) (hy2 : y ≤ 1000000000000000000) (w : World) :
    Calls Try.prog 52 #[.agg #[.int .i64 x, .int .i64 y]] w fun r w' => r = .returned (.int .i64 (x / y)) ∧ Ext w w' := by
  have HF := Lib.hid (floor_tdiv (a := x) hy)
  have HM := Lib.hid (Int.tmod_lt_of_pos x hy)
  have t1 : -1000000000000000000 ≤ x.tdiv y ∧ x.tdiv y ≤ 1000000000000000000 := by
    have h2 : (x.tdiv y).natAbs ≤ x.natAbs := by rw [Int.natAbs_tdiv]; exact Nat.div_le_self _ _
    omega
  have hs : x.tmod y < 0 ↔ (x < 0 ∧ x.tmod y ≠ 0) := by
    have h2 := Int.mul_tdiv_add_tmod x y
    have h3 : 0 ≤ x → 0 ≤ x.tmod y := fun h => Int.tmod_nonneg _ h
    have h4 : x < 0 → x.tmod y ≤ 0 := fun h => by
      have := Int.tmod_nonneg y (a := -x) (by omega)
      rw [Int.neg_tmod] at this
      omega
    omega
  have HS := Lib.hid hs
  clear hs
  have HX := (Has.new w #[.int .i64 x, .int .i64 y] 44)
  have Xc0 := Ext.keeps (HX 0 _ rfl)
  have Xc1 := Ext.keeps (HX 1 _ rfl)
  clear HX
  have hE : Ext (w.alloc (.cells #[.int .i64 x, .int .i64 y] 44)) (w.alloc (.cells #[.int .i64 x, .int .i64 y] 44)) := Ext.refl _
  go_enter Try.func52, Try.ntmps52
  by_cases hneg : x.tmod y < 0
  · go_wp2
    go_ret
    exact ⟨ret_int (by rw [HF.out, if_pos (HS.out.1 hneg)]), (by repeat (first | exact Ext.refl _ | assumption | apply Ext.alloc | apply Ext.drew | apply Ext.drewN | (refine Ext.trans ?_ (by assumption)) | (refine Ext.setCell ?_ (by (try simp) <;> omega) _)))⟩
  · have HN := Lib.hid hneg
    clear hneg
    have hn : 0 ≤ x.tmod y := by have := HN.out; omega
    go_wp2
    go_ret
    exact ⟨ret_int (by rw [HF.out, if_neg (fun e => by have h1 := HS.out.2 e; have h2 := HN.out; omega)]), (by repeat (first | exact Ext.refl _ | assumption | apply Ext.alloc | apply Ext.drew | apply Ext.drewN | (refine Ext.trans ?_ (by assumption)) | (refine Ext.setCell ?_ (by (try simp) <;> omega) _)))⟩
theorem ceil_any (x y : Int) (hy : 0 < y) (hx : -1000000000000000000 ≤ x ∧ x ≤ 1000000000000000000) (hy2 : y ≤ 1000000000000000000) (w : World) :
    Calls Try.prog 25 #[.agg #[.int .i64 x, .int .i64 y]] w fun r w' => r = .returned (.int .i64 (ceilI (x, y))) ∧ Ext w w' := by
  have HC := Lib.hid (fun w => floor_any (-x) y hy (by omega) hy2 w)
  have t1 : -1000000000000000000 ≤ (-x) / y ∧ (-x) / y ≤ 1000000000000000000 := by
    have h1 := Int.ediv_mul_le (-x) (show y ≠ 0 by omega)
    have h2 := Int.lt_ediv_add_one_mul_self (-x) hy
    constructor
    · refine (Int.le_ediv_iff_mul_le hy).2 ?_
      have := Int.mul_le_mul_of_nonneg_left (show 1 ≤ y by omega) (show (0:Int) ≤ 1000000000000000000 by decide)
      omega
    · have : (-x) / y < 1000000000000000001 := (Int.ediv_lt_iff_lt_mul hy).2 (by omega)
      omega
  show Calls _ _ _ _ fun r w' => r = .returned (.int .i64 (-((-x) / y))) ∧ Ext w w'
  generalize (-x) / y = z at *
  have HX := (Has.new w #[.int .i64 x, .int .i64 y] 44)
  have Xc0 := Ext.keeps (HX 0 _ rfl)
  have Xc1 := Ext.keeps (HX 1 _ rfl)
  clear HX
  have hE : Ext (w.alloc (.cells #[.int .i64 x, .int .i64 y] 44)) (w.alloc (.cells #[.int .i64 x, .int .i64 y] 44)) := Ext.refl _
  go_enter Try.func25, Try.ntmps25
  go_wp2_with ((go_at_call 52; refine (HC.out _).mono ?_; rintro e w' ⟨rfl, hb⟩; (first | replace hE := Ext.trans hE hb | replace hE := Ext.trans (Ext.alloc hE _) hb | replace hE := Ext.trans (Ext.alloc (Ext.alloc hE _) _) hb | replace hE := Ext.trans (Ext.drew hE) hb | replace hE := Ext.trans (Ext.alloc (Ext.alloc (Ext.alloc hE _) _) _) hb)))
  go_ret
  exact ⟨rfl, (by repeat (first | exact Ext.refl _ | assumption | apply Ext.alloc | apply Ext.drew | apply Ext.drewN | (refine Ext.trans ?_ (by assumption)) | (refine Ext.setCell ?_ (by (try simp) <;> omega) _)))⟩
end Go.Proofs.Ytaloegjcdllgoaa
