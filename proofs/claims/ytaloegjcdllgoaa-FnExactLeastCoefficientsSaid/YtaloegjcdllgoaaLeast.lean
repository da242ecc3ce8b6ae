/-
  The least coefficients as the reference makes them; two rows of ints compared.
-/
import Derived.Test.YtaloegjcdllgoaaCornW
namespace Go.Proofs.Ytaloegjcdllgoaa
open Go.RowKit

theorem dec_take {zs ys : List Int} {k : Nat} (hz : k < zs.length) (hy : k < ys.length) (h : zs.take k = ys.take k) (e : zs.getD k 0 = ys.getD k 0) : zs.take (k + 1) = ys.take (k + 1) := by
  rw [List.take_succ_eq_append_getElem hz, List.take_succ_eq_append_getElem hy, h]
  simp [List.getD, hz, hy] at e
  rw [e]
theorem ne_at {zs ys : List Int} {k : Nat} (e : zs.getD k 0 ≠ ys.getD k 0) : zs ≠ ys := by rintro rfl; exact e rfl

theorem floor_tdiv {a b : Int} (hb : 0 < b) : a / b = if a < 0 ∧ a.tmod b ≠ 0 then a.tdiv b - 1 else a.tdiv b := by
  have h1 := Int.tdiv_eq_ediv (a := a) (b := b)
  have h2 := Int.mul_tdiv_add_tmod a b
  have h3 : b.sign = 1 := Int.sign_eq_one_of_pos hb
  by_cases ha : 0 ≤ a
  · rw [if_neg (by omega)]
    rw [if_pos (.inl ha)] at h1
    omega
  · by_cases hd : b ∣ a
    · have hm : a.tmod b = 0 := Int.tmod_eq_zero_of_dvd hd
      rw [if_neg (by intro h; exact h.2 hm)]
      rw [if_pos (.inr hd)] at h1
      omega
    · have hm : a.tmod b ≠ 0 := fun e => hd (Int.dvd_of_tmod_eq_zero e)
      rw [if_pos ⟨by omega, hm⟩]
      rw [if_neg (by intro h; rcases h with h | h; exact ha h; exact hd h), h3] at h1
      omega

theorem frFloor_any (a b : Int) (hb : 0 < b) (ha : -1000000000000000000 ≤ a ∧ a ≤ 1000000000000000000) (w : World) :
    Calls Try.prog 46 #[.int .i64 a, .int .i64 b] w fun r w' => r = .returned (.int .i64 (a / b)) ∧ w = w' := by
  have HF := Lib.hid (floor_tdiv (a := a) hb)
  have t1 : -1000000000000000000 ≤ a.tdiv b ∧ a.tdiv b ≤ 1000000000000000000 := by
    have h2 : (a.tdiv b).natAbs ≤ a.natAbs := by rw [Int.natAbs_tdiv]; exact Nat.div_le_self _ _
    omega
  go_enter Try.func46, Try.ntmps46
  go_wp2
  · have h1 : a < 0 := by assumption
    have h2 : (a.tmod b != 0) = true := by assumption
    go_ret
    exact ⟨ret_int (by rw [HF.out, if_pos ⟨h1, by simpa using h2⟩]), rfl⟩
  · have h2 : (a.tmod b != 0) = false := by assumption
    go_ret
    exact ⟨ret_int (by rw [HF.out, if_neg (by intro h; simp [h.2] at h2)]), rfl⟩
  · have h1 : 0 ≤ a := by assumption
    go_ret
    exact ⟨ret_int (by rw [HF.out, if_neg (by omega)]), rfl⟩

/-- What the reference's list holds when the first m corners are done. -/
def least (zs C : List Int) (m : Nat) : List Int := (List.range zs.length).map fun j : Nat => valAt zs j (C.take m).reverse
theorem least_len (zs C : List Int) (m : Nat) : (least zs C m).length = zs.length := by simp [least]
theorem least_at {zs C : List Int} {m j : Nat} (h : j < zs.length) : (least zs C m)[j]? = some (valAt zs j (C.take m).reverse) := by simp [least, h]
theorem least_zero (zs C : List Int) : least zs C 0 = List.replicate zs.length 1000000000 := by
  refine List.ext_getElem? fun j => ?_
  by_cases h : j < zs.length
  · rw [least_at h]; simp [valAt, h]
  · rw [List.getElem?_eq_none (by rw [least_len]; omega), List.getElem?_eq_none (by simp; omega)]
theorem least_one {zs C : List Int} {k : Nat} (h : k < zs.length) (h0 : C[0]? = some (k : Int)) : (least zs C 0).set k (cf zs k) = least zs C 1 := by
  have e : C.take 1 = [(k : Int)] := by
    match C, h0 with
    | c :: C, h0 => simp at h0; simp [h0]
  refine List.ext_getElem? fun j => ?_
  by_cases hj : j < zs.length
  · rw [least_at hj, e, List.getElem?_set]
    by_cases hk : k = j
    · subst hk
      simp [valAt, least_len, h]
    · rw [if_neg hk, least_at hj]
      have : ¬ (j : Int) = (k : Int) := by omega
      simp [valAt, this]
  · rw [List.getElem?_eq_none (by rw [List.length_set, least_len]; omega), List.getElem?_eq_none (by rw [least_len]; omega)]
/-- .. and while the side from i to k is laid, up to the place x. -/
def leastS (zs C : List Int) (m i k x : Nat) : List Int := (List.range zs.length).map fun j : Nat => if j = k then cf zs k else if i < j ∧ j < x then segL zs i k j else valAt zs j (C.take m).reverse
theorem leastS_len (zs C : List Int) (m i k x : Nat) : (leastS zs C m i k x).length = zs.length := by simp [leastS]
theorem leastS_at {zs C : List Int} {m i k x j : Nat} (h : j < zs.length) : (leastS zs C m i k x)[j]? = some (if j = k then cf zs k else if i < j ∧ j < x then segL zs i k j else valAt zs j (C.take m).reverse) := by simp [leastS, h]
theorem leastS_first {zs C : List Int} {m i k : Nat} (h : k < zs.length) : (least zs C m).set k (cf zs k) = leastS zs C m i k (i + 1) := by
  refine List.ext_getElem? fun j => ?_
  by_cases hj : j < zs.length
  · rw [leastS_at hj, List.getElem?_set]
    by_cases hk : k = j
    · subst hk; simp [least_len, h]
    · rw [if_neg hk, if_neg (fun e => hk e.symm), if_neg (by omega), least_at hj]
  · rw [List.getElem?_eq_none (by rw [List.length_set, least_len]; omega), List.getElem?_eq_none (by rw [leastS_len]; omega)]
theorem leastS_step {zs C : List Int} {m i k x : Nat} (hx : x < k) (hi : i < x) : (leastS zs C m i k x).set x (segL zs i k x) = leastS zs C m i k (x + 1) := by
  refine List.ext_getElem? fun j => ?_
  by_cases hj : j < zs.length
  · rw [leastS_at hj, List.getElem?_set]
    by_cases hk : x = j
    · subst hk
      rw [if_pos rfl, if_pos (by rw [leastS_len]; omega), if_neg (by omega), if_pos (by omega)]
    · rw [if_neg hk, leastS_at hj]
      by_cases h1 : j = k
      · rw [if_pos h1, if_pos h1]
      · rw [if_neg h1, if_neg h1]
        by_cases h2 : i < j ∧ j < x
        · rw [if_pos h2, if_pos (by omega)]
        · rw [if_neg h2, if_neg (by omega)]
  · rw [List.getElem?_eq_none (by rw [List.length_set, leastS_len]; omega), List.getElem?_eq_none (by rw [leastS_len]; omega)]
theorem leastS_last {zs C : List Int} {m i k : Nat} (hm : C[m]? = some (i : Int)) (hm1 : C[m + 1]? = some (k : Int)) : leastS zs C (m + 1) i k k = least zs C (m + 2) := by
  have e1 : C.take (m + 1) = C.take m ++ [(i : Int)] := by
    have := (List.getElem?_eq_some_iff.1 hm)
    rw [List.take_succ_eq_append_getElem this.1, this.2]
  have e2 : C.take (m + 2) = C.take m ++ [(i : Int), (k : Int)] := by
    have := (List.getElem?_eq_some_iff.1 hm1)
    rw [List.take_succ_eq_append_getElem this.1, this.2, e1]; simp
  refine List.ext_getElem? fun j => ?_
  by_cases hj : j < zs.length
  · rw [leastS_at hj, least_at hj, e1, e2]
    simp only [List.reverse_append, List.reverse_cons, List.reverse_nil, List.nil_append, List.cons_append, valAt]
    by_cases h1 : j = k
    · rw [if_pos h1, if_pos (by omega)]
    · rw [if_neg h1, if_neg (show ¬ (j : Int) = (k : Int) by omega)]
      by_cases h2 : i < j ∧ j < k
      · rw [if_pos h2, if_pos (by omega)]
      · rw [if_neg h2, if_neg (by omega)]
  · rw [List.getElem?_eq_none (by rw [leastS_len]; omega), List.getElem?_eq_none (by rw [least_len]; omega)]
theorem least_full (zs : List Int) : least zs (cornR zs zs.length).reverse (cornR zs zs.length).reverse.length = rtl zs := by
  unfold least rtl
  rw [List.take_length, List.reverse_reverse]
theorem take_set_inf {ys : List Value} {n k : Nat} (hy : ys.length = n) (hk : k < n) (h : ys.take k = (iv (List.replicate n 1000000000)).take k) : (ys.set k (.int .i64 1000000000)).take (k + 1) = (iv (List.replicate n 1000000000)).take (k + 1) :=
  take_set_succ hy (by simp) hk h (by simp [List.getD, hk])
/-- The corners rise. -/
theorem corn_rise {zs : List Int} : (cornR zs zs.length).Pairwise (· > ·) := by
  have hgen : ∀ (k : Nat), (cornR zs k).Pairwise (· > ·) := by
    intro k
    induction k with
    | zero => exact .nil
    | succ k ih =>
      simp only [cornR]
      split
      · exact ih
      · refine List.pairwise_cons.2 ⟨fun x hx => ?_, ?_⟩
        · have := cornR_mem zs k x (popI_mem zs _ _ _ hx); omega
        · have : ∀ s : List Int, s.Pairwise (· > ·) → (popI zs k s).Pairwise (· > ·) := by
            intro s
            induction s with
            | nil => intro h; exact h
            | cons b s ihs =>
              intro h
              cases s with
              | nil => exact h
              | cons a r =>
                simp only [popI]
                split
                · exact ihs (List.pairwise_cons.1 h).2
                · exact h
          exact this _ ih
  exact hgen _

end Go.Proofs.Ytaloegjcdllgoaa
