/-
  Plain laws of the subdivision of a plane polynomial: its cells, their sides, how many cells a side has. No program in sight.
-/
import Derived.Test.YtaloegjcdllgoaaHullP
namespace Go.Proofs.Ytaloegjcdllgoaa

/-- The point of a term; its coefficient. -/
def pI (zs : List (Int × Int × Int)) (k : Nat) : Int × Int := ((zs.getD k (0, 0, 0)).1, (zs.getD k (0, 0, 0)).2.1)
def cI (zs : List (Int × Int × Int)) (k : Nat) : Int := (zs.getD k (0, 0, 0)).2.2
def turnT (zs : List (Int × Int × Int)) (a b c : Nat) : Int := turnI (pI zs a) (pI zs b) (pI zs c)
/-- The height above the plane of three terms, times their turn. -/
def aboveT (zs : List (Int × Int × Int)) (a b c t : Nat) : Int :=
  (cI zs t - cI zs a) * detI ((pI zs b).1 - (pI zs a).1) ((pI zs b).2 - (pI zs a).2) ((pI zs c).1 - (pI zs a).1) ((pI zs c).2 - (pI zs a).2)
  - (cI zs b - cI zs a) * detI ((pI zs t).1 - (pI zs a).1) ((pI zs t).2 - (pI zs a).2) ((pI zs c).1 - (pI zs a).1) ((pI zs c).2 - (pI zs a).2)
  - (cI zs c - cI zs a) * detI ((pI zs b).1 - (pI zs a).1) ((pI zs b).2 - (pI zs a).2) ((pI zs t).1 - (pI zs a).1) ((pI zs t).2 - (pI zs a).2)
def hT (zs : List (Int × Int × Int)) (a b c t : Nat) : Int := if turnT zs a b c < 0 then -aboveT zs a b c t else aboveT zs a b c t
theorem above_spec (zs : List (Int × Int × Int)) (a b c t : Nat) :
    cI zs t * turnT zs a b c - cI zs a * turnI (pI zs t) (pI zs b) (pI zs c) - cI zs b * turnI (pI zs a) (pI zs t) (pI zs c) - cI zs c * turnI (pI zs a) (pI zs b) (pI zs t) = aboveT zs a b c t := by
  unfold turnT aboveT turnI detI
  generalize pI zs a = p
  generalize pI zs b = q
  generalize pI zs c = r
  generalize pI zs t = s
  grind
theorem hT_spec {zs : List (Int × Int × Int)} {a b c t : Nat} (h : turnT zs a b c ≠ 0) : aboveT zs a b c t * sgnI (turnT zs a b c) = hT zs a b c t := by
  unfold hT sgnI
  split
  · rw [if_neg (by omega)]; omega
  · rw [if_pos (by omega)]; omega

/-- The three terms have a plane, and no term is below it. -/
def cellTo (zs : List (Int × Int × Int)) (a b c : Nat) (k : Nat) : Bool := (List.range k).all fun t => decide (0 ≤ hT zs a b c t)
def cellB (zs : List (Int × Int × Int)) (a b c : Nat) : Bool := decide (turnT zs a b c ≠ 0) && cellTo zs a b c zs.length
/-- The terms on the plane, up to term k. -/
def onTo' (zs : List (Int × Int × Int)) (a b c : Nat) (k : Nat) : List Int := ((List.range k).filter fun t => decide (hT zs a b c t = 0)).map fun t : Nat => (t : Int)
def cellL (zs : List (Int × Int × Int)) (a b c : Nat) : List Int := onTo' zs a b c zs.length
theorem cellTo_succ (zs : List (Int × Int × Int)) (a b c k : Nat) : cellTo zs a b c (k + 1) = (cellTo zs a b c k && decide (0 ≤ hT zs a b c k)) := by
  simp [cellTo, List.range_succ, List.all_append]
theorem cellTo_le {zs : List (Int × Int × Int)} {a b c k n : Nat} (h : k < n) (hk : ¬ 0 ≤ hT zs a b c k) : cellTo zs a b c n = false := by
  cases e : cellTo zs a b c n
  · rfl
  · simp only [cellTo, List.all_eq_true, List.mem_range] at e
    have := e k h
    simp at this
    omega
theorem onTo'_succ (zs : List (Int × Int × Int)) (a b c k : Nat) : onTo' zs a b c (k + 1) = if hT zs a b c k = 0 then onTo' zs a b c k ++ [(k : Int)] else onTo' zs a b c k := by
  unfold onTo'
  rw [List.range_succ, List.filter_append, List.map_append]
  by_cases h : hT zs a b c k = 0 <;> simp [h]
theorem onTo'_len (zs : List (Int × Int × Int)) (a b c : Nat) : ∀ k, (onTo' zs a b c k).length ≤ k
  | 0 => by simp [onTo']
  | k + 1 => by
    have := onTo'_len zs a b c k
    rw [onTo'_succ]
    split
    · simp; omega
    · omega
theorem mem_cellL {zs : List (Int × Int × Int)} {a b c : Nat} {x : Int} : x ∈ cellL zs a b c ↔ ∃ t : Nat, t < zs.length ∧ hT zs a b c t = 0 ∧ x = t := by
  simp only [cellL, onTo', List.mem_map, List.mem_filter, List.mem_range, decide_eq_true_eq]
  constructor
  · rintro ⟨t, ⟨h1, h2⟩, rfl⟩; exact ⟨t, h1, h2, rfl⟩
  · rintro ⟨t, h1, h2, rfl⟩; exact ⟨t, ⟨h1, h2⟩, rfl⟩
theorem cellL_rise (zs : List (Int × Int × Int)) (a b c : Nat) : (cellL zs a b c).Pairwise (· < ·) := by
  unfold cellL onTo'
  rw [List.pairwise_map]
  exact ((List.pairwise_lt_range).sublist List.filter_sublist).imp fun h => by omega
theorem hT_self (zs : List (Int × Int × Int)) (a b c : Nat) : hT zs a b c a = 0 ∧ hT zs a b c b = 0 ∧ hT zs a b c c = 0 := by
  have h : ∀ t, t = a ∨ t = b ∨ t = c → aboveT zs a b c t = 0 := by
    rintro t (rfl | rfl | rfl) <;> (unfold aboveT detI; grind)
  unfold hT
  rw [h a (.inl rfl), h b (.inr (.inl rfl)), h c (.inr (.inr rfl))]
  simp

/-- A list of terms that is a cell. -/
def IsCell (zs : List (Int × Int × Int)) (x : List Int) : Prop := ∃ a b c, a < b ∧ b < c ∧ c < zs.length ∧ cellB zs a b c = true ∧ x = cellL zs a b c

/-- The plane of a cell, without its triple. -/
theorem cell_plane {zs : List (Int × Int × Int)} {x : List Int} (h : IsCell zs x) : ∃ D A B C : Int, 0 < D ∧ (∀ t : Nat, t < zs.length → 0 ≤ D * cI zs t - A * (pI zs t).1 - B * (pI zs t).2 - C) ∧
    (∀ y : Int, y ∈ x ↔ ∃ t : Nat, t < zs.length ∧ D * cI zs t - A * (pI zs t).1 - B * (pI zs t).2 - C = 0 ∧ y = t) ∧ x = ((List.range zs.length).filter fun t => decide (D * cI zs t - A * (pI zs t).1 - B * (pI zs t).2 - C = 0)).map fun t : Nat => (t : Int) := by
  obtain ⟨a, b, c, _, _, _, hB, rfl⟩ := h
  simp only [cellB, cellTo, Bool.and_eq_true, decide_eq_true_eq, List.all_eq_true, List.mem_range] at hB
  obtain ⟨hne, hall⟩ := hB
  have key : ∃ D A B C : Int, 0 < D ∧ ∀ t : Nat, hT zs a b c t = D * cI zs t - A * (pI zs t).1 - B * (pI zs t).2 - C := by
    have lin : ∀ t : Nat, aboveT zs a b c t = turnT zs a b c * cI zs t
        - ((cI zs b - cI zs a) * ((pI zs c).2 - (pI zs a).2) - (cI zs c - cI zs a) * ((pI zs b).2 - (pI zs a).2)) * (pI zs t).1
        - ((cI zs c - cI zs a) * ((pI zs b).1 - (pI zs a).1) - (cI zs b - cI zs a) * ((pI zs c).1 - (pI zs a).1)) * (pI zs t).2
        - (cI zs a * turnT zs a b c - ((cI zs b - cI zs a) * ((pI zs c).2 - (pI zs a).2) - (cI zs c - cI zs a) * ((pI zs b).2 - (pI zs a).2)) * (pI zs a).1
          - ((cI zs c - cI zs a) * ((pI zs b).1 - (pI zs a).1) - (cI zs b - cI zs a) * ((pI zs c).1 - (pI zs a).1)) * (pI zs a).2) := by
      intro t
      unfold aboveT turnT turnI detI
      generalize pI zs a = p
      generalize pI zs b = q
      generalize pI zs c = r
      generalize pI zs t = s
      grind
    generalize ((cI zs b - cI zs a) * ((pI zs c).2 - (pI zs a).2) - (cI zs c - cI zs a) * ((pI zs b).2 - (pI zs a).2)) = A at lin
    generalize ((cI zs c - cI zs a) * ((pI zs b).1 - (pI zs a).1) - (cI zs b - cI zs a) * ((pI zs c).1 - (pI zs a).1)) = B at lin
    generalize (cI zs a * turnT zs a b c - A * (pI zs a).1 - B * (pI zs a).2) = C at lin
    by_cases hs : turnT zs a b c < 0
    · refine ⟨-turnT zs a b c, -A, -B, -C, by omega, fun t => ?_⟩
      unfold hT
      rw [if_pos hs, lin t]
      grind
    · refine ⟨turnT zs a b c, A, B, C, by omega, fun t => ?_⟩
      unfold hT
      rw [if_neg hs, lin t]
  obtain ⟨D, A, B, C, hD, hl⟩ := key
  refine ⟨D, A, B, C, hD, fun t ht => ?_, fun y => ?_, ?_⟩
  · rw [← hl t]; exact hall t ht
  · rw [mem_cellL]
    constructor
    · rintro ⟨t, h1, h2, h3⟩; exact ⟨t, h1, by rw [← hl t]; exact h2, h3⟩
    · rintro ⟨t, h1, h2, h3⟩; exact ⟨t, h1, by rw [hl t]; exact h2, h3⟩
  · unfold cellL onTo'
    simp only [hl]

theorem zero_of_mul {a b : Int} (h : a ≠ 0) (e : a * b = 0) : b = 0 := by
  rcases Int.mul_eq_zero.1 e with h0 | h0
  · exact absurd h0 h
  · exact h0
/-- Two cells at one side of two common terms are one cell. -/
theorem same_side {zs : List (Int × Int × Int)} {x y : List Int} (hx : IsCell zs x) (hy : IsCell zs y) {a b r s : Nat} (hab : pI zs a ≠ pI zs b)
    (ax : (a : Int) ∈ x) (bx : (b : Int) ∈ x) (ay : (a : Int) ∈ y) (by' : (b : Int) ∈ y) (rx : (r : Int) ∈ x) (sy : (s : Int) ∈ y) (hr : 0 < turnT zs a b r) (hs : 0 < turnT zs a b s) : x = y := by
  obtain ⟨D1, A1, B1, C1, d1, p1, m1, e1⟩ := cell_plane hx
  obtain ⟨D2, A2, B2, C2, d2, p2, m2, e2⟩ := cell_plane hy
  have at1 : ∀ {t : Nat}, (t : Int) ∈ x → t < zs.length ∧ D1 * cI zs t - A1 * (pI zs t).1 - B1 * (pI zs t).2 - C1 = 0 := by
    intro t ht
    obtain ⟨u, h1, h2, h3⟩ := (m1 _).1 ht
    obtain rfl : t = u := by omega
    exact ⟨h1, h2⟩
  have at2 : ∀ {t : Nat}, (t : Int) ∈ y → t < zs.length ∧ D2 * cI zs t - A2 * (pI zs t).1 - B2 * (pI zs t).2 - C2 = 0 := by
    intro t ht
    obtain ⟨u, h1, h2, h3⟩ := (m2 _).1 ht
    obtain rfl : t = u := by omega
    exact ⟨h1, h2⟩
  -- g: the difference of the planes, an affine function
  obtain ⟨al, hal⟩ : ∃ al, al = D2 * A1 - D1 * A2 := ⟨_, rfl⟩
  obtain ⟨be, hbe⟩ : ∃ be, be = D2 * B1 - D1 * B2 := ⟨_, rfl⟩
  obtain ⟨ga, hga⟩ : ∃ ga, ga = D2 * C1 - D1 * C2 := ⟨_, rfl⟩
  have hg : ∀ t : Nat, D1 * (D2 * cI zs t - A2 * (pI zs t).1 - B2 * (pI zs t).2 - C2) - D2 * (D1 * cI zs t - A1 * (pI zs t).1 - B1 * (pI zs t).2 - C1) = al * (pI zs t).1 + be * (pI zs t).2 + ga := by
    intro t
    rw [hal, hbe, hga]
    generalize pI zs t = p
    generalize cI zs t = c
    grind
  clear hal hbe hga
  have ga0 : al * (pI zs a).1 + be * (pI zs a).2 + ga = 0 := by
    rw [← hg a, (at1 ax).2, (at2 ay).2]; simp
  have gb0 : al * (pI zs b).1 + be * (pI zs b).2 + ga = 0 := by
    rw [← hg b, (at1 bx).2, (at2 by').2]; simp
  have gr : 0 ≤ al * (pI zs r).1 + be * (pI zs r).2 + ga := by
    have := Int.mul_nonneg (show 0 ≤ D1 by omega) (p2 r (at1 rx).1)
    rw [← hg r, (at1 rx).2]; omega
  have gs : al * (pI zs s).1 + be * (pI zs s).2 + ga ≤ 0 := by
    have := Int.mul_nonneg (show 0 ≤ D2 by omega) (p1 s (at2 sy).1)
    rw [← hg s, (at2 sy).2]; omega
  have hdx : ∀ t : Nat, ((pI zs b).1 - (pI zs a).1) * (al * (pI zs t).1 + be * (pI zs t).2 + ga) = be * turnT zs a b t := by
    intro t
    unfold turnT turnI detI
    generalize pI zs t = p at *
    generalize pI zs a = q at *
    generalize pI zs b = u at *
    grind
  have hdy : ∀ t : Nat, ((pI zs b).2 - (pI zs a).2) * (al * (pI zs t).1 + be * (pI zs t).2 + ga) = -(al * turnT zs a b t) := by
    intro t
    unfold turnT turnI detI
    generalize pI zs t = p at *
    generalize pI zs a = q at *
    generalize pI zs b = u at *
    grind
  have hd : (pI zs b).1 - (pI zs a).1 ≠ 0 ∨ (pI zs b).2 - (pI zs a).2 ≠ 0 := by
    by_cases h1 : (pI zs b).1 - (pI zs a).1 = 0
    · right
      intro h2
      exact hab (Prod.ext (by omega) (by omega))
    · exact .inl h1
  have hxr := hdx r
  have hxs := hdx s
  have hyr := hdy r
  have hys := hdy s
  obtain ⟨G, hG⟩ : ∃ G, G = al * (pI zs r).1 + be * (pI zs r).2 + ga := ⟨_, rfl⟩
  obtain ⟨K, hK⟩ : ∃ K, K = al * (pI zs s).1 + be * (pI zs s).2 + ga := ⟨_, rfl⟩
  rw [← hG] at gr hxr hyr
  rw [← hK] at gs hxs hys
  have cross : G * turnT zs a b s = K * turnT zs a b r := by
    rcases hd with h | h
    · have : ((pI zs b).1 - (pI zs a).1) * (G * turnT zs a b s - K * turnT zs a b r) = 0 := by grind
      have := zero_of_mul h this
      omega
    · have : ((pI zs b).2 - (pI zs a).2) * (G * turnT zs a b s - K * turnT zs a b r) = 0 := by grind
      have := zero_of_mul h this
      omega
  have G0 : G = 0 := by
    rcases (show G = 0 ∨ 0 < G by omega) with h | h
    · exact h
    · exfalso
      have := Int.mul_pos h hs
      have k := Int.mul_nonneg (show 0 ≤ -K by omega) (show 0 ≤ turnT zs a b r by omega)
      rw [Int.neg_mul] at k
      omega
  rw [G0] at hxr hyr
  have be0 : be = 0 := zero_of_mul (show turnT zs a b r ≠ 0 by omega) (by rw [Int.mul_comm]; omega)
  have al0 : al = 0 := zero_of_mul (show turnT zs a b r ≠ 0 by omega) (by rw [Int.mul_comm]; omega)
  have gz : ga = 0 := by rw [be0, al0] at ga0; omega
  rw [e1, e2]
  congr 1
  apply List.filter_congr
  intro t _
  have hgt := hg t
  rw [al0, be0, gz] at hgt
  generalize D2 * cI zs t - A2 * (pI zs t).1 - B2 * (pI zs t).2 - C2 = h2 at *
  generalize D1 * cI zs t - A1 * (pI zs t).1 - B1 * (pI zs t).2 - C1 = h1 at *
  simp only [decide_eq_decide]
  constructor
  · intro h; rw [h] at hgt; exact zero_of_mul (show D1 ≠ 0 by omega) (by omega)
  · intro h; rw [h] at hgt; exact zero_of_mul (show D2 ≠ 0 by omega) (by omega)

end Go.Proofs.Ytaloegjcdllgoaa
