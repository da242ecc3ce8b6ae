/-
  Plain laws on numbers: bounds, absolute values, signs, the greatest common divisor. No program in sight.
-/
namespace Go.Proofs.Ytaloegjcdllgoaa

/-- A number of 64 bits. -/
def B64 (n : Int) : Prop := -9223372036854775808 ≤ n ∧ n ≤ 9223372036854775807

/-- A number within bounds. -/
def inB (n lo hi : Int) : Bool := decide (lo ≤ n) && decide (n ≤ hi)
theorem inB_true {n lo hi : Int} : inB n lo hi = true ↔ lo ≤ n ∧ n ≤ hi := by simp [inB]
theorem inB_false {n lo hi : Int} : inB n lo hi = false ↔ ¬ (lo ≤ n ∧ n ≤ hi) := by
  rw [← inB_true, Bool.not_eq_true]

/-- A number other than Infinity. -/
def finB (n : Int) : Bool := inB n (-1000000) 1000000
theorem finB_true {n : Int} : finB n = true ↔ -1000000 ≤ n ∧ n ≤ 1000000 := inB_true

/-- A number of the tropical numbers. -/
def numB (n : Int) : Bool := finB n || n == 1000000000
theorem numB_true {n : Int} : numB n = true ↔ (-1000000 ≤ n ∧ n ≤ 1000000) ∨ n = 1000000000 := by
  simp [numB, finB_true]
theorem numB_swap (n : Int) : numB n = (n == 1000000000 || finB n) := by simp [numB, Bool.or_comm]

/-- The absolute value. -/
def absI (n : Int) : Int := (n.natAbs : Int)
theorem absI_nonneg (n : Int) : 0 ≤ absI n := by unfold absI; omega
theorem absI_of_nonneg {n : Int} (h : 0 ≤ n) : absI n = n := by unfold absI; omega
theorem absI_of_neg {n : Int} (h : n < 0) : absI n = -n := by unfold absI; omega
theorem absI_le {n k : Int} (h1 : -k ≤ n) (h2 : n ≤ k) : absI n ≤ k := by unfold absI; omega
theorem absI_neg (n : Int) : absI (-n) = absI n := by unfold absI; omega

/-- The sign. -/
def sgnI (n : Int) : Int := if 0 < n then 1 else if n < 0 then -1 else 0
theorem sgnI_pos {n : Int} (h : 0 < n) : sgnI n = 1 := by simp [sgnI, h]
theorem sgnI_neg {n : Int} (h : n < 0) : sgnI n = -1 := by unfold sgnI; rw [if_neg (by omega), if_pos h]
theorem sgnI_zero {n : Int} (h : n = 0) : sgnI n = 0 := by subst h; rfl
theorem sgnI_max (n : Int) : sgnI n = max (-1) (min 1 n) := by
  unfold sgnI; split
  · omega
  · split <;> omega

/-- The less one, the greater one. -/
def minI (a b : Int) : Int := if b < a then b else a
def maxI (a b : Int) : Int := if a < b then b else a
theorem minI_bd {a b l h : Int} (ha : l ≤ a) (ha2 : a ≤ h) (hb : l ≤ b) (hb2 : b ≤ h) : l ≤ minI a b ∧ minI a b ≤ h := by unfold minI; split <;> omega
theorem maxI_bd {a b l h : Int} (ha : l ≤ a) (ha2 : a ≤ h) (hb : l ≤ b) (hb2 : b ≤ h) : l ≤ maxI a b ∧ maxI a b ≤ h := by unfold maxI; split <;> omega
theorem minI_comm (a b : Int) : minI a b = minI b a := by unfold minI; split <;> split <;> omega
theorem minI_eq (a b : Int) : minI a b = min a b := by unfold minI; split <;> omega
theorem maxI_eq (a b : Int) : maxI a b = max a b := by unfold maxI; split <;> omega

/-- The greatest common divisor. -/
def gcdI (a b : Int) : Int := (Int.gcd a b : Int)
theorem gcdI_nonneg (a b : Int) : 0 ≤ gcdI a b := by unfold gcdI; omega
theorem gcdI_zero (a : Int) : gcdI a 0 = absI a := by simp [gcdI, absI]
theorem gcdI_absI (a b : Int) : gcdI (absI a) (absI b) = gcdI a b := by
  simp [gcdI, absI, Int.gcd]
theorem gcdI_tmod (a b : Int) : gcdI b (a.tmod b) = gcdI a b := by
  simp only [gcdI, Int.gcd, Int.natAbs_tmod]
  rw [Nat.gcd_comm b.natAbs, ← Nat.gcd_rec, Nat.gcd_comm]
theorem gcdI_emod (a b : Int) (ha : 0 ≤ a) : gcdI b (a % b) = gcdI a b := by
  rw [← Int.tmod_eq_emod_of_nonneg ha, gcdI_tmod]
theorem gcdI_pos_of {a b : Int} (h : a ≠ 0 ∨ b ≠ 0) : 1 ≤ gcdI a b := by
  unfold gcdI
  have : 0 < Int.gcd a b := by
    rcases h with h | h
    · exact Int.gcd_pos_of_ne_zero_left _ h
    · exact Int.gcd_pos_of_ne_zero_right _ h
  omega
theorem gcdI_le {x y k : Int} (x1 : -k ≤ x) (x2 : x ≤ k) (y1 : -k ≤ y) (y2 : y ≤ k) : gcdI x y ≤ k := by
  unfold gcdI
  have h1 := Int.gcd_dvd_left x y
  have h2 := Int.gcd_dvd_right x y
  rcases Int.decEq x 0 with hx | hx
  · have := Int.le_of_dvd (show 0 < (x.natAbs : Int) by omega) (Int.dvd_natAbs.2 h1)
    omega
  · rcases Int.decEq y 0 with hy | hy
    · have := Int.le_of_dvd (show 0 < (y.natAbs : Int) by omega) (Int.dvd_natAbs.2 h2)
      omega
    · subst hx; subst hy; simp; omega
theorem gcdI_comm (a b : Int) : gcdI a b = gcdI b a := by unfold gcdI; rw [Int.gcd_comm]


/-- Products within bounds. -/
theorem mul_bd {a d A D : Int} (h1 : -A ≤ a) (h2 : a ≤ A) (h3 : -D ≤ d) (h4 : d ≤ D) : -(A * D) ≤ a * d ∧ a * d ≤ A * D := by
  have h : (a * d).natAbs ≤ A.natAbs * D.natAbs := by rw [Int.natAbs_mul]; exact Nat.mul_le_mul (by omega) (by omega)
  have e : ((A.natAbs * D.natAbs : Nat) : Int) = A * D := by
    rw [Int.natCast_mul]
    have e1 : (A.natAbs : Int) = A := by omega
    have e2 : (D.natAbs : Int) = D := by omega
    rw [e1, e2]
  omega

/-- The determinant of two directions. -/
def detI (a b c d : Int) : Int := a * d - b * c
theorem detI_bd {a b c d A C : Int} (a1 : -A ≤ a) (a2 : a ≤ A) (b1 : -A ≤ b) (b2 : b ≤ A) (c1 : -C ≤ c) (c2 : c ≤ C) (d1 : -C ≤ d) (d2 : d ≤ C) : -(2 * (A * C)) ≤ detI a b c d ∧ detI a b c d ≤ 2 * (A * C) := by
  have h := mul_bd a1 a2 d1 d2
  have h' := mul_bd b1 b2 c1 c2
  unfold detI; omega

/-- A ray; steps; a move. -/
def rayB (x y n : Int) : Bool := inB x (-20) 20 && inB y (-20) 20 && (gcdI x y == 1) && inB n 1 20
theorem rayB_true {x y n : Int} : rayB x y n = true ↔ (-20 ≤ x ∧ x ≤ 20) ∧ (-20 ≤ y ∧ y ≤ 20) ∧ gcdI x y = 1 ∧ (1 ≤ n ∧ n ≤ 20) := by
  simp [rayB, inB_true, and_assoc]
theorem rayB_cases (x y n : Int) : rayB x y n = false ∨ (rayB x y n = true ∧ (-20 ≤ x ∧ x ≤ 20) ∧ (-20 ≤ y ∧ y ≤ 20) ∧ (1 ≤ n ∧ n ≤ 20)) := by
  cases h : rayB x y n
  · exact .inl rfl
  · have h' := rayB_true.1 h; exact .inr ⟨rfl, h'.1, h'.2.1, h'.2.2.2⟩
def stepB (k x y : Int) : Bool := inB x (-k) k && inB y (-k) k && (x != 0 || y != 0)
theorem stepB_true {k x y : Int} : stepB k x y = true ↔ (-k ≤ x ∧ x ≤ k) ∧ (-k ≤ y ∧ y ≤ k) ∧ (x ≠ 0 ∨ y ≠ 0) := by
  simp [stepB, inB_true, and_assoc]
theorem stepB_cases (k x y : Int) : stepB k x y = false ∨ (stepB k x y = true ∧ (-k ≤ x ∧ x ≤ k) ∧ (-k ≤ y ∧ y ≤ k) ∧ (x ≠ 0 ∨ y ≠ 0)) := by
  cases h : stepB k x y
  · exact .inl rfl
  · exact .inr ⟨rfl, stepB_true.1 h⟩
/-- A ray by its steps: what the greatest common divisor 1 says of them. -/
theorem rayB_step (x y n : Int) : rayB x y n = (stepB 20 x y && (gcdI x y == 1) && inB n 1 20) := by
  rw [Bool.eq_iff_iff, rayB_true]
  simp only [Bool.and_eq_true, stepB_true, beq_iff_eq, inB_true]
  constructor
  · rintro ⟨h1, h2, h3, h4⟩
    refine ⟨⟨⟨h1, h2, ?_⟩, h3⟩, h4⟩
    rcases Int.decEq x 0 with h | h
    · exact .inl h
    · rcases Int.decEq y 0 with h' | h'
      · exact .inr h'
      · subst h; subst h'; rw [gcdI_zero] at h3; simp [absI] at h3
  · rintro ⟨⟨⟨h1, h2, _⟩, h3⟩, h4⟩
    exact ⟨h1, h2, h3, h4⟩

/-- Whether a ray meets a moved one. -/
def meetB (x y u v p q : Int) : Bool := (sgnI (detI x y u v) != 0) && (sgnI (detI p q u v) == sgnI (detI x y u v)) && (sgnI (detI p q x y) == sgnI (detI x y u v))

/-- Walking along a list. -/
theorem all_take_succ (p : Int → Bool) (zs : List Int) (k : Nat) (h : k < zs.length) : (zs.take (k + 1)).all p = ((zs.take k).all p && p (zs.getD k 0)) := by
  rw [List.take_succ_eq_append_getElem h, List.all_append]; simp [List.getD, List.getElem?_eq_getElem h]
theorem all_false_at (p : Int → Bool) (zs : List Int) (k : Nat) (h : k < zs.length) (hp : p (zs.getD k 0) = false) : zs.all p = false := by
  rw [List.all_eq_false]; exact ⟨zs[k], List.getElem_mem h, by simpa [List.getD, List.getElem?_eq_getElem h] using hp⟩
theorem all_take_full (p : Int → Bool) (zs : List Int) (k : Nat) (h : zs.length ≤ k) : (zs.take k).all p = zs.all p := by rw [List.take_of_length_le h]

/-- The places at which a list holds a number, of the first k. -/
def placesTo (zs : List Int) (z : Int) (k : Nat) : List Int := ((List.range k).filter fun i => zs.getD i 0 == z).map fun i : Nat => (i : Int)
theorem placesTo_hit {zs : List Int} {z : Int} {k : Nat} (h : (zs.getD k 0 == z) = true) : placesTo zs z (k + 1) = placesTo zs z k ++ [(k : Int)] := by
  simp only [placesTo, List.range_succ, List.filter_append, List.map_append]
  rw [List.filter_cons_of_pos (p := fun i => zs.getD i 0 == z) (a := k) h]; rfl
theorem placesTo_miss {zs : List Int} {z : Int} {k : Nat} (h : (zs.getD k 0 == z) = false) : placesTo zs z (k + 1) = placesTo zs z k := by
  simp only [placesTo, List.range_succ, List.filter_append, List.map_append]
  rw [List.filter_cons_of_neg (p := fun i => zs.getD i 0 == z) (a := k) (by rw [h]; simp)]; simp
theorem placesTo_le (zs : List Int) (z : Int) (k : Nat) : (placesTo zs z k).length ≤ k := by
  simp only [placesTo, List.length_map]
  exact Nat.le_trans (List.length_filter_le _ _) (by simp)
/-- The least of the first k, and of Infinity. -/
def lowI (zs : List Int) (k : Nat) : Int := (zs.take k).foldl minI 1000000000
theorem lowI_zero (zs : List Int) : lowI zs 0 = 1000000000 := by simp [lowI]
theorem lowI_succ {zs : List Int} {k : Nat} (h : k < zs.length) : lowI zs (k + 1) = minI (lowI zs k) (zs.getD k 0) := by
  simp only [lowI]
  rw [List.take_succ_eq_append_getElem h, List.foldl_append]
  simp [List.getD, List.getElem?_eq_getElem h]
theorem lowI_one {zs : List Int} (h : 0 < zs.length) (hz : zs.getD 0 0 ≤ 1000000000) : lowI zs 1 = zs.getD 0 0 := by
  rw [show (1 : Nat) = 0 + 1 from rfl, lowI_succ h, lowI_zero]; unfold minI; split <;> omega

/-- A triple whose parts are all finite. -/
def fin3 (a b c : Int) : Bool := finB a && finB b && finB c
theorem fin3_true {a b c : Int} : fin3 a b c = true ↔ (-1000000 ≤ a ∧ a ≤ 1000000) ∧ (-1000000 ≤ b ∧ b ≤ 1000000) ∧ (-1000000 ≤ c ∧ c ≤ 1000000) := by
  simp [fin3, finB_true, and_assoc]
theorem finB_cases (a : Int) : finB a = false ∨ (finB a = true ∧ -1000000 ≤ a ∧ a ≤ 1000000) := by
  cases h : finB a
  · exact .inl rfl
  · exact .inr ⟨rfl, finB_true.1 h⟩
theorem fin3_cases (a b c : Int) : fin3 a b c = false ∨ (fin3 a b c = true ∧ (-1000000 ≤ a ∧ a ≤ 1000000) ∧ (-1000000 ≤ b ∧ b ≤ 1000000) ∧ (-1000000 ≤ c ∧ c ≤ 1000000)) := by
  cases h : fin3 a b c
  · exact .inl rfl
  · exact .inr ⟨rfl, fin3_true.1 h⟩
theorem fin3_and (a b c : Int) : (finB a && (finB b && finB c)) = fin3 a b c := by simp [fin3, Bool.and_assoc]
theorem fin3_list (a b c : Int) : [a, b, c].all finB = fin3 a b c := by simp [fin3, Bool.and_assoc]

end Go.Proofs.Ytaloegjcdllgoaa
