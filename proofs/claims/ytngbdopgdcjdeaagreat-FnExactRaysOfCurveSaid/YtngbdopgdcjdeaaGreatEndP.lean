/-
  The ends of a curve at a vertex, in plain words: directions, weights, the rows that both sides make.
-/
import Derived.Test.YtngbdopgdcjdeaaGreatBa4
namespace Go.Proofs.YtngbdopgdcjdeaaGreat

/-- Whether a term of the cell lies at the right of the way from term i to term j. -/
def negE (zs : List (Int × Int × Int)) (x : List Int) (i j : Nat) : Bool := x.any fun t => decide (turnT zs i j t.toNat < 0)
def dX (zs : List (Int × Int × Int)) (i j : Nat) : Int := ((pI zs i).2 - (pI zs j).2).tdiv (sideI zs i j)
def dY (zs : List (Int × Int × Int)) (i j : Nat) : Int := ((pI zs j).1 - (pI zs i).1).tdiv (sideI zs i j)
def sgE (t : Bool) (v : Int) : Int := if t then -v else v
def eX (zs : List (Int × Int × Int)) (x : List Int) (i j : Nat) : Int := sgE (negE zs x i j) (dX zs i j)
def eY (zs : List (Int × Int × Int)) (x : List Int) (i j : Nat) : Int := sgE (negE zs x i j) (dY zs i j)
theorem sideI_pos {zs : List (Int × Int × Int)} {i j : Nat} (h : pI zs i ≠ pI zs j) : 1 ≤ sideI zs i j := by
  unfold sideI
  apply gcdI_pos_of
  by_cases h1 : (pI zs i).1 - (pI zs j).1 = 0
  · right
    intro h2
    exact h (Prod.ext (by omega) (by omega))
  · left
    exact h1
theorem dX_mul (zs : List (Int × Int × Int)) (i j : Nat) : dX zs i j * sideI zs i j = (pI zs i).2 - (pI zs j).2 := by
  unfold dX
  apply Int.tdiv_mul_cancel
  unfold sideI gcdI
  exact Int.gcd_dvd_right ..
theorem dY_mul (zs : List (Int × Int × Int)) (i j : Nat) : dY zs i j * sideI zs i j = (pI zs j).1 - (pI zs i).1 := by
  unfold dY
  apply Int.tdiv_mul_cancel
  have h : sideI zs i j ∣ (pI zs i).1 - (pI zs j).1 := by unfold sideI gcdI; exact Int.gcd_dvd_left ..
  rw [show (pI zs j).1 - (pI zs i).1 = -((pI zs i).1 - (pI zs j).1) by omega]
  exact Int.dvd_neg.2 h
/-- A step from term i, gone along the direction. -/
def prodI (zs : List (Int × Int × Int)) (i j : Nat) (p : Int × Int) : Int := (p.1 - (pI zs i).1) * dX zs i j + (p.2 - (pI zs i).2) * dY zs i j
theorem prod_turn (zs : List (Int × Int × Int)) (i j : Nat) (p : Int × Int) : prodI zs i j p * sideI zs i j = turnI (pI zs i) (pI zs j) p := by
  have h1 := dX_mul zs i j
  have h2 := dY_mul zs i j
  unfold prodI turnI detI
  have e : ((p.1 - (pI zs i).1) * dX zs i j + (p.2 - (pI zs i).2) * dY zs i j) * sideI zs i j = (p.1 - (pI zs i).1) * (dX zs i j * sideI zs i j) + (p.2 - (pI zs i).2) * (dY zs i j * sideI zs i j) := by grind
  rw [e, h1, h2]
  grind
theorem prod_neg {zs : List (Int × Int × Int)} {i j : Nat} (h : pI zs i ≠ pI zs j) (p : Int × Int) : prodI zs i j p < 0 ↔ turnI (pI zs i) (pI zs j) p < 0 := by
  have g := sideI_pos h
  have e := prod_turn zs i j p
  rw [← e]
  generalize prodI zs i j p = a at *
  generalize sideI zs i j = b at *
  constructor
  · intro h1
    have := Int.mul_pos (show 0 < -a by omega) (show 0 < b by omega)
    have e2 : -a * b = -(a * b) := by grind
    omega
  · intro h1
    rcases Int.lt_or_le a 0 with h2 | h2
    · exact h2
    · have := Int.mul_nonneg h2 (show 0 ≤ b by omega)
      omega
theorem turn_swap (p q r : Int × Int) : turnI q p r = -turnI p q r := by unfold turnI detI; grind
theorem negE_yes {zs : List (Int × Int × Int)} {x : List Int} {i j t : Nat} (h : (t : Int) ∈ x) (hn : turnI (pI zs i) (pI zs j) (pI zs t) < 0) : negE zs x i j = true :=
  List.any_eq_true.2 ⟨(t : Int), h, decide_eq_true (by rw [Int.toNat_natCast]; exact hn)⟩
theorem negE_no {zs : List (Int × Int × Int)} {x : List Int} {i j : Nat} (h : ∀ k, k < x.length → ¬ turnI (pI zs i) (pI zs j) (pI zs (x.getD k 0).toNat) < 0) : negE zs x i j = false := by
  unfold negE
  rw [List.any_eq_false]
  intro t ht
  obtain ⟨k, hk, rfl⟩ := List.getElem_of_mem ht
  have := h k hk
  simp only [List.getD, hk, List.getElem?_eq_getElem, Option.getD_some] at this
  intro h2
  exact this (of_decide_eq_true h2)
/-- The corners alone tell which way the cell lies. -/
theorem negE_hull {zs : List (Int × Int × Int)} (hA : Apt zs) {x : List Int} (hx : IsCell zs x) {i j : Nat} (he : [(i : Int), (j : Int)] ∈ pairsL zs x) :
    negE zs x i j = (hullC zs x).any fun p => decide (turnI (pI zs i) (pI zs j) p < 0) := by
  obtain ⟨i', j', _, _, e, _, _, h⟩ := side_way hA hx he
  simp only [List.cons.injEq, and_true] at e
  obtain ⟨rfl, rfl⟩ : i = i' ∧ j = j' := by omega
  rcases h with ⟨h1, _⟩ | ⟨_, r, h2, h3, h4⟩
  · have e1 : negE zs x i j = false := negE_no fun k hk => by
      obtain ⟨t, ht, e⟩ := cell_get hx hk
      have hm : (t : Int) ∈ x := by rw [← e]; simp only [List.getD, hk, List.getElem?_eq_getElem, Option.getD_some]; exact List.getElem_mem hk
      rw [e, Int.toNat_natCast]
      have := h1 t hm
      unfold turnT at this
      omega
    rw [e1, eq_comm, List.any_eq_false]
    intro p hp
    obtain ⟨k, hk, rfl⟩ := List.getElem_of_mem hp
    obtain ⟨t, _, h5, h6, _⟩ := corn_term hA hx (k := k) (by rw [cornC_len]; exact hk)
    simp only [List.getD, hk, List.getElem?_eq_getElem, Option.getD_some] at h6
    rw [h6]
    have := h1 t h5
    unfold turnT at this
    intro h7
    have h8 := of_decide_eq_true h7
    omega
  · have h5 : turnI (pI zs i) (pI zs j) (pI zs r) < 0 := by
      have := turn_swap (pI zs i) (pI zs j) (pI zs r)
      unfold turnT at h3
      omega
    rw [negE_yes h2 h5, eq_comm]
    exact List.any_eq_true.2 ⟨_, h4, decide_eq_true h5⟩
theorem negE_corner {zs : List (Int × Int × Int)} (hA : Apt zs) {x : List Int} (hx : IsCell zs x) {i j : Nat} (he : [(i : Int), (j : Int)] ∈ pairsL zs x) {k : Nat} (hk : k < (hullC zs x).length) (hn : turnI (pI zs i) (pI zs j) (pat (hullC zs x) k) < 0) : negE zs x i j = true := by
  rw [negE_hull hA hx he]
  refine List.any_eq_true.2 ⟨pat (hullC zs x) k, ?_, decide_eq_true hn⟩
  rw [show pat (hullC zs x) k = (hullC zs x)[k] by simp [pat, List.getD, hk]]
  exact List.getElem_mem hk
theorem negE_none {zs : List (Int × Int × Int)} (hA : Apt zs) {x : List Int} (hx : IsCell zs x) {i j : Nat} (he : [(i : Int), (j : Int)] ∈ pairsL zs x) (h : ∀ k, k < (hullC zs x).length → ¬ turnI (pI zs i) (pI zs j) (pat (hullC zs x) k) < 0) : negE zs x i j = false := by
  rw [negE_hull hA hx he, List.any_eq_false]
  intro p hp
  obtain ⟨k, hk, rfl⟩ := List.getElem_of_mem hp
  have := h k hk
  rw [show pat (hullC zs x) k = (hullC zs x)[k] by simp [pat, List.getD, hk]] at this
  intro h7
  exact this (of_decide_eq_true h7)
/-- Numbers of the sizes that a side has. -/
theorem sideI_le {zs : List (Int × Int × Int)} (hZ : PZ zs) {i j : Nat} (hi : i < zs.length) (hj : j < zs.length) : sideI zs i j ≤ 6 := by
  have b1 := (hZ.2.1 i hi).1
  have b2 := (hZ.2.1 j hj).1
  exact gcdI_le (by omega) (by omega) (by omega) (by omega)
theorem dX_le {zs : List (Int × Int × Int)} (hZ : PZ zs) {i j : Nat} (hi : i < zs.length) (hj : j < zs.length) : -6 ≤ dX zs i j ∧ dX zs i j ≤ 6 := by
  have b1 := (hZ.2.1 i hi).1
  have b2 := (hZ.2.1 j hj).1
  exact tdiv_bd (by omega)
theorem dY_le {zs : List (Int × Int × Int)} (hZ : PZ zs) {i j : Nat} (hi : i < zs.length) (hj : j < zs.length) : -6 ≤ dY zs i j ∧ dY zs i j ≤ 6 := by
  have b1 := (hZ.2.1 i hi).1
  have b2 := (hZ.2.1 j hj).1
  exact tdiv_bd (by omega)
theorem sgE_le {t : Bool} {v k : Int} (h : -k ≤ v ∧ v ≤ k) : -k ≤ sgE t v ∧ sgE t v ≤ k := by
  cases t <;> simp only [sgE, if_true, Bool.false_eq_true, if_false] <;> omega
/-- The terms of a side lie apart. -/
theorem side_ne {zs : List (Int × Int × Int)} (hA : Apt zs) {x : List Int} (hx : IsCell zs x) {i j : Nat} (he : [(i : Int), (j : Int)] ∈ pairsL zs x) : i < j ∧ j < zs.length ∧ pI zs i ≠ pI zs j := by
  obtain ⟨i', j', h1, h2, e, _⟩ := side_way hA hx he
  simp only [List.cons.injEq, and_true] at e
  obtain ⟨rfl, rfl⟩ : i = i' ∧ j = j' := by omega
  refine ⟨h1, h2, fun e => ?_⟩
  have := hA.inj (by omega) h2 e
  omega

/-- The row of an end: the side, the direction, the weight. -/
def endT (zs : List (Int × Int × Int)) (x e : List Int) : List Int := [eX zs x (e.getD 0 0).toNat (e.getD 1 0).toNat, eY zs x (e.getD 0 0).toNat (e.getD 1 0).toNat, sideI zs (e.getD 0 0).toNat (e.getD 1 0).toNat]
def endR (zs : List (Int × Int × Int)) (x e : List Int) : List Int := e ++ endT zs x e
def endsC (zs : List (Int × Int × Int)) (x : List Int) : List (List Int) := (sidesL zs x).map (endR zs x)
theorem endT_at (zs : List (Int × Int × Int)) (x : List Int) (i j : Nat) : endT zs x [(i : Int), (j : Int)] = [eX zs x i j, eY zs x i j, sideI zs i j] := by
  simp [endT]
theorem mem_atE {zs : List (Int × Int × Int)} {e : List Int} {k n : Nat} : (k : Int) ∈ atE zs e n ↔ k < n ∧ e ∈ pairsL zs ((cellsL zs).getD k []) := by
  unfold atE
  simp only [List.mem_map, List.mem_filter, List.mem_range, decide_eq_true_eq]
  constructor
  · rintro ⟨m, h, e⟩
    obtain rfl : m = k := by omega
    exact h
  · intro h
    exact ⟨k, h, rfl⟩
theorem atE_form {zs : List (Int × Int × Int)} {e : List Int} {n : Nat} {y : Int} (h : y ∈ atE zs e n) : ∃ k : Nat, y = (k : Int) ∧ k < n ∧ e ∈ pairsL zs ((cellsL zs).getD k []) := by
  unfold atE at h
  simp only [List.mem_map, List.mem_filter, List.mem_range, decide_eq_true_eq] at h
  obtain ⟨m, h, rfl⟩ := h
  exact ⟨m, rfl, h⟩
/-- The sides of a cell are those among all sides that have the cell. -/
theorem sides_filter {zs : List (Int × Int × Int)} (hA : Apt zs) {k : Nat} (hk : k < (cellsL zs).length) : sidesL zs ((cellsL zs).getD k []) = (onceL zs).filter fun e => decide ((k : Int) ∈ sidesAt zs e) := by
  refine sort_unique (sort_sidesL _ _) (List.Pairwise.filter _ (sort_onceL zs)) fun e => ?_
  rw [mem_sidesL, List.mem_filter, mem_onceL hA, decide_eq_true_eq]
  constructor
  · intro h
    have : (k : Int) ∈ sidesAt zs e := mem_atE.2 ⟨hk, h⟩
    exact ⟨List.length_pos_of_mem this, this⟩
  · intro h
    exact (mem_atE.1 h.2).2
/-- The rows of the rays and of the segments. -/
def rayR (zs : List (Int × Int × Int)) (e : List Int) : List Int := e ++ ((sidesAt zs e).getD 0 0 :: endT zs ((cellsL zs).getD ((sidesAt zs e).getD 0 0).toNat []) e)
def raysL (zs : List (Int × Int × Int)) : List (List Int) := ((onceL zs).filter fun e => decide ((sidesAt zs e).length = 1)).map (rayR zs)
def segR (zs : List (Int × Int × Int)) (e : List Int) : List Int := e ++ sidesAt zs e
def segsL (zs : List (Int × Int × Int)) : List (List Int) := (twiceL zs).map (segR zs)

end Go.Proofs.YtngbdopgdcjdeaaGreat
