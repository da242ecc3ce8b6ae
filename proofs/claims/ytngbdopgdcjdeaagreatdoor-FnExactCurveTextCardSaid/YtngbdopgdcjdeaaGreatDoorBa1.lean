/-
  What the laws' walks stand on, part 1 of 4: texts of this claim's own, one behind the other. No condition.
-/
import Derived.WalkKit
import Derived.WalkSpells
import Derived.WalkLawsBesides
import Derived.BigQuiet
import Derived.Deep.QuietTactic
import Derived.Lib.Hide
import Derived.Deep.RegionHeld3
import Derived.Test.YtngbdopgdcjdeaaGreatDoorRows
import Derived.Laws.OwnMore
import Derived.OwnWalk
import Derived.WalkSmall
import Derived.ProofKit
import Derived.OpenShut
import Derived.ShutString
import Derived.ChangeOld
import Derived.Below
import Derived.Lib.SmallJoins
import Derived.Deep.Slices
import Derived.Deep.Fields
import Derived.ChangeSame
import Derived.Test.YtngbdopgdcjdeaaGreatDoorShelf
import Derived.Shelf.SlSortCmp.QuietGrown
import Derived.StillTail
import Derived.Lib.SliceRun
import Derived.Maps.AppendAt
import Derived.Deep.AppendLies
import Derived.RegionTactic
namespace Go.Proofs.YtngbdopgdcjdeaaGreatDoor

/-- A number of 64 bits. -/
def B64 (n : Int) : Prop := -9223372036854775808 ≤ n ∧ n ≤ 9223372036854775807

/-- A number within bounds. -/
def inB (n lo hi : Int) : Bool := decide (lo ≤ n) && decide (n ≤ hi)
theorem inB_true {n lo hi : Int} : inB n lo hi = true ↔ lo ≤ n ∧ n ≤ hi := by simp [inB]
theorem inB_false {n lo hi : Int} : inB n lo hi = false ↔ ¬ (lo ≤ n ∧ n ≤ hi) := by
  rw [← inB_true, Bool.not_eq_true]

/-- A number other than Infinity. -/
def finB (n : Int) : Bool := inB n (-1000000) 1000000
theorem finB_true {n : Int} : finB n = true ↔ -1000000 ≤ n ∧ n ≤ 1000000 := inB_true

/-- A number of the tropical numbers. -/
def numB (n : Int) : Bool := finB n || n == 1000000000
theorem numB_true {n : Int} : numB n = true ↔ (-1000000 ≤ n ∧ n ≤ 1000000) ∨ n = 1000000000 := by
  simp [numB, finB_true]
theorem numB_swap (n : Int) : numB n = (n == 1000000000 || finB n) := by simp [numB, Bool.or_comm]

/-- The absolute value. -/
def absI (n : Int) : Int := (n.natAbs : Int)
theorem absI_nonneg (n : Int) : 0 ≤ absI n := by unfold absI; omega
theorem absI_of_nonneg {n : Int} (h : 0 ≤ n) : absI n = n := by unfold absI; omega
theorem absI_of_neg {n : Int} (h : n < 0) : absI n = -n := by unfold absI; omega
theorem absI_le {n k : Int} (h1 : -k ≤ n) (h2 : n ≤ k) : absI n ≤ k := by unfold absI; omega
theorem absI_neg (n : Int) : absI (-n) = absI n := by unfold absI; omega

/-- The sign. -/
def sgnI (n : Int) : Int := if 0 < n then 1 else if n < 0 then -1 else 0
theorem sgnI_pos {n : Int} (h : 0 < n) : sgnI n = 1 := by simp [sgnI, h]
theorem sgnI_neg {n : Int} (h : n < 0) : sgnI n = -1 := by unfold sgnI; rw [if_neg (by omega), if_pos h]
theorem sgnI_zero {n : Int} (h : n = 0) : sgnI n = 0 := by subst h; rfl
theorem sgnI_max (n : Int) : sgnI n = max (-1) (min 1 n) := by
  unfold sgnI; split
  · omega
  · split <;> omega

/-- The less one, the greater one. -/
def minI (a b : Int) : Int := if b < a then b else a
def maxI (a b : Int) : Int := if a < b then b else a
theorem minI_bd {a b l h : Int} (ha : l ≤ a) (ha2 : a ≤ h) (hb : l ≤ b) (hb2 : b ≤ h) : l ≤ minI a b ∧ minI a b ≤ h := by unfold minI; split <;> omega
theorem maxI_bd {a b l h : Int} (ha : l ≤ a) (ha2 : a ≤ h) (hb : l ≤ b) (hb2 : b ≤ h) : l ≤ maxI a b ∧ maxI a b ≤ h := by unfold maxI; split <;> omega
theorem minI_comm (a b : Int) : minI a b = minI b a := by unfold minI; split <;> split <;> omega
theorem minI_eq (a b : Int) : minI a b = min a b := by unfold minI; split <;> omega
theorem maxI_eq (a b : Int) : maxI a b = max a b := by unfold maxI; split <;> omega

/-- The greatest common divisor. -/
def gcdI (a b : Int) : Int := (Int.gcd a b : Int)
theorem gcdI_nonneg (a b : Int) : 0 ≤ gcdI a b := by unfold gcdI; omega
theorem gcdI_zero (a : Int) : gcdI a 0 = absI a := by simp [gcdI, absI]
theorem gcdI_absI (a b : Int) : gcdI (absI a) (absI b) = gcdI a b := by
  simp [gcdI, absI, Int.gcd]
theorem gcdI_tmod (a b : Int) : gcdI b (a.tmod b) = gcdI a b := by
  simp only [gcdI, Int.gcd, Int.natAbs_tmod]
  rw [Nat.gcd_comm b.natAbs, ← Nat.gcd_rec, Nat.gcd_comm]
theorem gcdI_emod (a b : Int) (ha : 0 ≤ a) : gcdI b (a % b) = gcdI a b := by
  rw [← Int.tmod_eq_emod_of_nonneg ha, gcdI_tmod]
theorem gcdI_pos_of {a b : Int} (h : a ≠ 0 ∨ b ≠ 0) : 1 ≤ gcdI a b := by
  unfold gcdI
  have : 0 < Int.gcd a b := by
    rcases h with h | h
    · exact Int.gcd_pos_of_ne_zero_left _ h
    · exact Int.gcd_pos_of_ne_zero_right _ h
  omega
theorem gcdI_le {x y k : Int} (x1 : -k ≤ x) (x2 : x ≤ k) (y1 : -k ≤ y) (y2 : y ≤ k) : gcdI x y ≤ k := by
  unfold gcdI
  have h1 := Int.gcd_dvd_left x y
  have h2 := Int.gcd_dvd_right x y
  rcases Int.decEq x 0 with hx | hx
  · have := Int.le_of_dvd (show 0 < (x.natAbs : Int) by omega) (Int.dvd_natAbs.2 h1)
    omega
  · rcases Int.decEq y 0 with hy | hy
    · have := Int.le_of_dvd (show 0 < (y.natAbs : Int) by omega) (Int.dvd_natAbs.2 h2)
      omega
    · subst hx; subst hy; simp; omega
theorem gcdI_comm (a b : Int) : gcdI a b = gcdI b a := by unfold gcdI; rw [Int.gcd_comm]


/-- Products within bounds. -/
theorem mul_bd {a d A D : Int} (h1 : -A ≤ a) (h2 : a ≤ A) (h3 : -D ≤ d) (h4 : d ≤ D) : -(A * D) ≤ a * d ∧ a * d ≤ A * D := by
  have h : (a * d).natAbs ≤ A.natAbs * D.natAbs := by rw [Int.natAbs_mul]; exact Nat.mul_le_mul (by omega) (by omega)
  have e : ((A.natAbs * D.natAbs : Nat) : Int) = A * D := by
    rw [Int.natCast_mul]
    have e1 : (A.natAbs : Int) = A := by omega
    have e2 : (D.natAbs : Int) = D := by omega
    rw [e1, e2]
  omega

/-- The determinant of two directions. -/
def detI (a b c d : Int) : Int := a * d - b * c
theorem detI_bd {a b c d A C : Int} (a1 : -A ≤ a) (a2 : a ≤ A) (b1 : -A ≤ b) (b2 : b ≤ A) (c1 : -C ≤ c) (c2 : c ≤ C) (d1 : -C ≤ d) (d2 : d ≤ C) : -(2 * (A * C)) ≤ detI a b c d ∧ detI a b c d ≤ 2 * (A * C) := by
  have h := mul_bd a1 a2 d1 d2
  have h' := mul_bd b1 b2 c1 c2
  unfold detI; omega

/-- A ray; steps; a move. -/
def rayB (x y n : Int) : Bool := inB x (-20) 20 && inB y (-20) 20 && (gcdI x y == 1) && inB n 1 20
theorem rayB_true {x y n : Int} : rayB x y n = true ↔ (-20 ≤ x ∧ x ≤ 20) ∧ (-20 ≤ y ∧ y ≤ 20) ∧ gcdI x y = 1 ∧ (1 ≤ n ∧ n ≤ 20) := by
  simp [rayB, inB_true, and_assoc]
theorem rayB_cases (x y n : Int) : rayB x y n = false ∨ (rayB x y n = true ∧ (-20 ≤ x ∧ x ≤ 20) ∧ (-20 ≤ y ∧ y ≤ 20) ∧ (1 ≤ n ∧ n ≤ 20)) := by
  cases h : rayB x y n
  · exact .inl rfl
  · have h' := rayB_true.1 h; exact .inr ⟨rfl, h'.1, h'.2.1, h'.2.2.2⟩
def stepB (k x y : Int) : Bool := inB x (-k) k && inB y (-k) k && (x != 0 || y != 0)
theorem stepB_true {k x y : Int} : stepB k x y = true ↔ (-k ≤ x ∧ x ≤ k) ∧ (-k ≤ y ∧ y ≤ k) ∧ (x ≠ 0 ∨ y ≠ 0) := by
  simp [stepB, inB_true, and_assoc]
theorem stepB_cases (k x y : Int) : stepB k x y = false ∨ (stepB k x y = true ∧ (-k ≤ x ∧ x ≤ k) ∧ (-k ≤ y ∧ y ≤ k) ∧ (x ≠ 0 ∨ y ≠ 0)) := by
  cases h : stepB k x y
  · exact .inl rfl
  · exact .inr ⟨rfl, stepB_true.1 h⟩
/-- A ray by its steps: what the greatest common divisor 1 says of them. -/
theorem rayB_step (x y n : Int) : rayB x y n = (stepB 20 x y && (gcdI x y == 1) && inB n 1 20) := by
  rw [Bool.eq_iff_iff, rayB_true]
  simp only [Bool.and_eq_true, stepB_true, beq_iff_eq, inB_true]
  constructor
  · rintro ⟨h1, h2, h3, h4⟩
    refine ⟨⟨⟨h1, h2, ?_⟩, h3⟩, h4⟩
    rcases Int.decEq x 0 with h | h
    · exact .inl h
    · rcases Int.decEq y 0 with h' | h'
      · exact .inr h'
      · subst h; subst h'; rw [gcdI_zero] at h3; simp [absI] at h3
  · rintro ⟨⟨⟨h1, h2, _⟩, h3⟩, h4⟩
    exact ⟨h1, h2, h3, h4⟩

/-- Whether a ray meets a moved one. -/
def meetB (x y u v p q : Int) : Bool := (sgnI (detI x y u v) != 0) && (sgnI (detI p q u v) == sgnI (detI x y u v)) && (sgnI (detI p q x y) == sgnI (detI x y u v))

/-- Walking along a list. -/
theorem all_take_succ (p : Int → Bool) (zs : List Int) (k : Nat) (h : k < zs.length) : (zs.take (k + 1)).all p = ((zs.take k).all p && p (zs.getD k 0)) := by
  rw [List.take_succ_eq_append_getElem h, List.all_append]; simp [List.getD, List.getElem?_eq_getElem h]
theorem all_false_at (p : Int → Bool) (zs : List Int) (k : Nat) (h : k < zs.length) (hp : p (zs.getD k 0) = false) : zs.all p = false := by
  rw [List.all_eq_false]; exact ⟨zs[k], List.getElem_mem h, by simpa [List.getD, List.getElem?_eq_getElem h] using hp⟩
theorem all_take_full (p : Int → Bool) (zs : List Int) (k : Nat) (h : zs.length ≤ k) : (zs.take k).all p = zs.all p := by rw [List.take_of_length_le h]

/-- The places at which a list holds a number, of the first k. -/
def placesTo (zs : List Int) (z : Int) (k : Nat) : List Int := ((List.range k).filter fun i => zs.getD i 0 == z).map fun i : Nat => (i : Int)
theorem placesTo_hit {zs : List Int} {z : Int} {k : Nat} (h : (zs.getD k 0 == z) = true) : placesTo zs z (k + 1) = placesTo zs z k ++ [(k : Int)] := by
  simp only [placesTo, List.range_succ, List.filter_append, List.map_append]
  rw [List.filter_cons_of_pos (p := fun i => zs.getD i 0 == z) (a := k) h]; rfl
theorem placesTo_miss {zs : List Int} {z : Int} {k : Nat} (h : (zs.getD k 0 == z) = false) : placesTo zs z (k + 1) = placesTo zs z k := by
  simp only [placesTo, List.range_succ, List.filter_append, List.map_append]
  rw [List.filter_cons_of_neg (p := fun i => zs.getD i 0 == z) (a := k) (by rw [h]; simp)]; simp
theorem placesTo_le (zs : List Int) (z : Int) (k : Nat) : (placesTo zs z k).length ≤ k := by
  simp only [placesTo, List.length_map]
  exact Nat.le_trans (List.length_filter_le _ _) (by simp)
/-- The least of the first k, and of Infinity. -/
def lowI (zs : List Int) (k : Nat) : Int := (zs.take k).foldl minI 1000000000
theorem lowI_zero (zs : List Int) : lowI zs 0 = 1000000000 := by simp [lowI]
theorem lowI_succ {zs : List Int} {k : Nat} (h : k < zs.length) : lowI zs (k + 1) = minI (lowI zs k) (zs.getD k 0) := by
  simp only [lowI]
  rw [List.take_succ_eq_append_getElem h, List.foldl_append]
  simp [List.getD, List.getElem?_eq_getElem h]
theorem lowI_one {zs : List Int} (h : 0 < zs.length) (hz : zs.getD 0 0 ≤ 1000000000) : lowI zs 1 = zs.getD 0 0 := by
  rw [show (1 : Nat) = 0 + 1 from rfl, lowI_succ h, lowI_zero]; unfold minI; split <;> omega

/-- A triple whose parts are all finite. -/
def fin3 (a b c : Int) : Bool := finB a && finB b && finB c
theorem fin3_true {a b c : Int} : fin3 a b c = true ↔ (-1000000 ≤ a ∧ a ≤ 1000000) ∧ (-1000000 ≤ b ∧ b ≤ 1000000) ∧ (-1000000 ≤ c ∧ c ≤ 1000000) := by
  simp [fin3, finB_true, and_assoc]
theorem finB_cases (a : Int) : finB a = false ∨ (finB a = true ∧ -1000000 ≤ a ∧ a ≤ 1000000) := by
  cases h : finB a
  · exact .inl rfl
  · exact .inr ⟨rfl, finB_true.1 h⟩
theorem fin3_cases (a b c : Int) : fin3 a b c = false ∨ (fin3 a b c = true ∧ (-1000000 ≤ a ∧ a ≤ 1000000) ∧ (-1000000 ≤ b ∧ b ≤ 1000000) ∧ (-1000000 ≤ c ∧ c ≤ 1000000)) := by
  cases h : fin3 a b c
  · exact .inl rfl
  · exact .inr ⟨rfl, fin3_true.1 h⟩
theorem fin3_and (a b c : Int) : (finB a && (finB b && finB c)) = fin3 a b c := by simp [fin3, Bool.and_assoc]
theorem fin3_list (a b c : Int) : [a, b, c].all finB = fin3 a b c := by simp [fin3, Bool.and_assoc]

end Go.Proofs.YtngbdopgdcjdeaaGreatDoor

namespace Go.Proofs.YtngbdopgdcjdeaaGreatDoor

/-- The lexicographic order of lists. -/
def ltL : List Int → List Int → Bool
  | [], [] => false
  | [], _ :: _ => true
  | _ :: _, [] => false
  | a :: x, b :: y => if a = b then ltL x y else decide (a < b)
theorem ltL_irrefl : ∀ x : List Int, ltL x x = false
  | [] => rfl
  | a :: x => by simp [ltL, ltL_irrefl x]
theorem ltL_trans : ∀ {x y z : List Int}, ltL x y = true → ltL y z = true → ltL x z = true
  | [], [], _, h, _ => by simp [ltL] at h
  | [], _ :: _, [], _, k => by simp [ltL] at k
  | [], _ :: _, _ :: _, _, _ => rfl
  | _ :: _, [], _, h, _ => by simp [ltL] at h
  | _ :: _, _ :: _, [], _, k => by simp [ltL] at k
  | a :: x, b :: y, c :: z, h, k => by
    simp only [ltL] at h k ⊢
    by_cases hab : a = b
    · subst hab
      rw [if_pos rfl] at h
      by_cases hac : a = c
      · subst hac
        rw [if_pos rfl] at k ⊢
        exact ltL_trans h k
      · rw [if_neg hac] at k ⊢
        exact k
    · rw [if_neg hab] at h
      by_cases hbc : b = c
      · subst hbc
        rw [if_neg hab]; exact h
      · rw [if_neg hbc] at k
        simp only [decide_eq_true_eq] at h k
        rw [if_neg (by omega)]
        simp; omega
theorem ltL_total : ∀ x y : List Int, ltL x y = true ∨ x = y ∨ ltL y x = true
  | [], [] => .inr (.inl rfl)
  | [], _ :: _ => .inl rfl
  | _ :: _, [] => .inr (.inr rfl)
  | a :: x, b :: y => by
    simp only [ltL]
    by_cases hab : a = b
    · subst hab
      simp only [if_pos]
      rcases ltL_total x y with h | h | h
      · exact .inl h
      · exact .inr (.inl (by rw [h]))
      · exact .inr (.inr h)
    · rw [if_neg hab, if_neg (fun e => hab e.symm)]
      simp only [decide_eq_true_eq]
      omega
theorem ltL_asymm {x y : List Int} (h : ltL x y = true) : ltL y x = false := by
  cases e : ltL y x
  · rfl
  · have := ltL_trans h e
    rw [ltL_irrefl] at this
    cases this
theorem ltL_antisymm {x y : List Int} (h : ltL x y = false) (k : ltL y x = false) : x = y := by
  rcases ltL_total x y with e | e | e
  · rw [h] at e; cases e
  · exact e
  · rw [k] at e; cases e

/-- A list more in a row of lists in order, each one once. -/
def putR : List (List Int) → List Int → List (List Int)
  | [], x => [x]
  | y :: r, x => if ltL y x = true then y :: putR r x else if y = x then y :: r else x :: y :: r
theorem mem_putR {x z : List Int} : ∀ {l : List (List Int)}, z ∈ putR l x ↔ z = x ∨ z ∈ l
  | [] => by simp [putR]
  | y :: r => by
    simp only [putR]
    split
    · simp only [List.mem_cons, mem_putR (l := r)]
      constructor
      · rintro (h | h | h)
        · exact .inr (.inl h)
        · exact .inl h
        · exact .inr (.inr h)
      · rintro (h | h | h)
        · exact .inr (.inl h)
        · exact .inl h
        · exact .inr (.inr h)
    · split
      · rename_i h; subst h
        simp only [List.mem_cons]
        constructor
        · intro h; exact .inr h
        · rintro (h | h)
          · exact .inl h
          · exact h
      · simp
def SortL (l : List (List Int)) : Prop := l.Pairwise fun x y => ltL x y = true
theorem sort_putR {x : List Int} : ∀ {l : List (List Int)}, SortL l → SortL (putR l x)
  | [], _ => by simp [putR, SortL]
  | y :: r, h => by
    have h1 := List.pairwise_cons.1 h
    simp only [putR]
    split
    · rename_i hyx
      refine List.pairwise_cons.2 ⟨fun z hz => ?_, sort_putR h1.2⟩
      rcases mem_putR.1 hz with rfl | hz
      · exact hyx
      · exact h1.1 z hz
    · split
      · exact h
      · rename_i h2 h3
        have hxy : ltL x y = true := by
          rcases ltL_total x y with e | e | e
          · exact e
          · exact absurd e.symm h3
          · exact absurd e h2
        refine List.pairwise_cons.2 ⟨fun z hz => ?_, h⟩
        rcases List.mem_cons.1 hz with rfl | hz
        · exact hxy
        · exact ltL_trans hxy (h1.1 z hz)
theorem putR_len (x : List Int) : ∀ l : List (List Int), (putR l x).length ≤ l.length + 1 ∧ l.length ≤ (putR l x).length
  | [] => by simp [putR]
  | y :: r => by
    have := putR_len x r
    simp only [putR]
    split
    · simp; omega
    · split <;> simp
/-- It has grown just if the list was not there. -/
theorem putR_grew {x : List Int} : ∀ {l : List (List Int)}, SortL l → ((putR l x).length = l.length ↔ x ∈ l)
  | [], _ => by simp [putR]
  | y :: r, h => by
    have h1 := List.pairwise_cons.1 h
    simp only [putR]
    split
    · rename_i hyx
      have ih := putR_grew (x := x) h1.2
      simp only [List.length_cons, Nat.add_right_cancel_iff, List.mem_cons]
      rw [ih]
      constructor
      · exact .inr
      · rintro (rfl | h)
        · rw [ltL_irrefl] at hyx; cases hyx
        · exact h
    · split
      · rename_i e; simp [e]
      · rename_i h2 h3
        simp only [List.length_cons, List.mem_cons]
        constructor
        · intro e; omega
        · rintro (rfl | hm)
          · exact absurd rfl h3
          · exact absurd (h1.1 x hm) h2
/-- What a walk that looks for the place finds. -/
theorem putR_at {x : List Int} : ∀ {l : List (List Int)} (k : Nat), k ≤ l.length → (∀ i, i < k → ltL (l.getD i []) x = true) → (k < l.length → ltL (l.getD k []) x = false) →
    putR l x = if k < l.length ∧ l.getD k [] = x then l else l.take k ++ ([x] ++ l.drop k)
  | [], 0, _, _, _ => by simp [putR]
  | y :: r, 0, _, _, h => by
    have h0 : ltL y x = false := by simpa using h (by simp)
    simp only [putR, h0, List.take_zero, List.drop_zero, List.nil_append, List.length_cons]
    by_cases e : y = x
    · simp [e]
    · simp [e]
  | y :: r, k + 1, hk, hb, h => by
    have h0 : ltL y x = true := by simpa using hb 0 (by omega)
    have ih := putR_at (x := x) (l := r) k (by simpa using hk) (fun i hi => by simpa using hb (i + 1) (by omega)) (fun hlt => by simpa using h (by simpa using hlt))
    simp only [putR, h0, if_true, ih, List.length_cons, List.take_succ_cons, List.drop_succ_cons, List.getD_cons_succ]
    by_cases e : k < r.length ∧ r.getD k [] = x
    · rw [if_pos e, if_pos ⟨by omega, e.2⟩]
    · rw [if_neg e, if_neg (fun h => e ⟨by omega, h.2⟩)]; rfl
theorem SortL.nodup {l : List (List Int)} (h : SortL l) : l.Nodup := List.Pairwise.imp (fun {a b} hab e => by subst e; rw [ltL_irrefl] at hab; cases hab) h
theorem sort_unique {l m : List (List Int)} (hl : SortL l) (hm : SortL m) (h : ∀ x, x ∈ l ↔ x ∈ m) : l = m := by
  have hp : l.Perm m := (List.perm_ext_iff_of_nodup hl.nodup hm.nodup).2 h
  exact List.Perm.eq_of_pairwise (le := fun x y => ltL x y = true) (fun a b _ _ h1 h2 => by have := ltL_asymm h1; rw [h2] at this; cases this) hl hm hp

section
variable (S : Nat → Nat → Nat → List (List Int) → List (List Int))
/-- What a walk over all triples i < j < k < n collects: by the innermost loop, the middle one, the outer one. -/
def tripK (i j : Nat) (acc : List (List Int)) : Nat → List (List Int)
  | 0 => acc
  | d + 1 => S i j (j + 1 + d) (tripK i j acc d)
def tripJ (n i : Nat) (acc : List (List Int)) : Nat → List (List Int)
  | 0 => acc
  | d + 1 => tripK S i (i + 1 + d) (tripJ n i acc d) (n - (i + 1 + d) - 1)
def tripI (n : Nat) : Nat → List (List Int)
  | 0 => []
  | i + 1 => tripJ S n i (tripI n i) (n - i - 1)
variable {S}
variable {T : Nat → Nat → Nat → List Int → Prop} (hS : ∀ a b c acc y, y ∈ S a b c acc ↔ T a b c y ∨ y ∈ acc)
include hS
theorem mem_tripK {i j : Nat} {acc : List (List Int)} {y : List Int} : ∀ d, y ∈ tripK S i j acc d ↔ (∃ k, j < k ∧ k < j + 1 + d ∧ T i j k y) ∨ y ∈ acc
  | 0 => by
    simp only [tripK]
    constructor
    · exact .inr
    · rintro (⟨k, h1, h2, _⟩ | h)
      · omega
      · exact h
  | d + 1 => by
    simp only [tripK]
    rw [hS, mem_tripK d]
    constructor
    · rintro (h | ⟨k, h1, h2, h3⟩ | h)
      · exact .inl ⟨_, by omega, by omega, h⟩
      · exact .inl ⟨k, h1, by omega, h3⟩
      · exact .inr h
    · rintro (⟨k, h1, h2, h3⟩ | h)
      · rcases (show k = j + 1 + d ∨ k < j + 1 + d by omega) with rfl | h4
        · exact .inl h3
        · exact .inr (.inl ⟨k, h1, h4, h3⟩)
      · exact .inr (.inr h)
theorem mem_tripJ {n i : Nat} {acc : List (List Int)} {y : List Int} : ∀ d, i + 1 + d ≤ n → (y ∈ tripJ S n i acc d ↔ (∃ j k, i < j ∧ j < i + 1 + d ∧ j < k ∧ k < n ∧ T i j k y) ∨ y ∈ acc)
  | 0, _ => by
    simp only [tripJ]
    constructor
    · exact .inr
    · rintro (⟨j, k, h1, h2, _⟩ | h)
      · omega
      · exact h
  | d + 1, hd => by
    simp only [tripJ]
    rw [mem_tripK hS, mem_tripJ d (by omega)]
    constructor
    · rintro (⟨k, h1, h2, h3⟩ | ⟨j, k, h1, h2, h3⟩ | h)
      · exact .inl ⟨_, k, by omega, by omega, h1, by omega, h3⟩
      · exact .inl ⟨j, k, h1, by omega, h3⟩
      · exact .inr h
    · rintro (⟨j, k, h1, h2, h3, h4, h5⟩ | h)
      · rcases (show j = i + 1 + d ∨ j < i + 1 + d by omega) with rfl | h6
        · exact .inl ⟨k, h3, by omega, h5⟩
        · exact .inr (.inl ⟨j, k, h1, h6, h3, h4, h5⟩)
      · exact .inr (.inr h)
theorem mem_tripI {n : Nat} {y : List Int} : ∀ i, i ≤ n → (y ∈ tripI S n i ↔ ∃ a b c, a < i ∧ a < b ∧ b < c ∧ c < n ∧ T a b c y)
  | 0, _ => by
    simp only [tripI, List.not_mem_nil, false_iff]
    rintro ⟨a, b, c, h, _⟩
    omega
  | i + 1, hi => by
    simp only [tripI]
    rw [mem_tripJ hS _ (by omega), mem_tripI i (by omega)]
    constructor
    · rintro (⟨j, k, h1, h2, h3, h4, h5⟩ | ⟨a, b, c, h1, h2⟩)
      · exact ⟨i, j, k, by omega, h1, h3, h4, h5⟩
      · exact ⟨a, b, c, by omega, h2⟩
    · rintro ⟨a, b, c, h1, h2, h3, h4, h5⟩
      rcases (show a = i ∨ a < i by omega) with rfl | h6
      · exact .inl ⟨b, c, h2, by omega, h3, h4, h5⟩
      · exact .inr ⟨a, b, c, h6, h2, h3, h4, h5⟩
end
section
variable {S : Nat → Nat → Nat → List (List Int) → List (List Int)} {R : List (List Int) → Prop} (hS : ∀ a b c acc, R acc → R (S a b c acc))
include hS
theorem keep_tripK {i j : Nat} {acc : List (List Int)} (h : R acc) : ∀ d, R (tripK S i j acc d)
  | 0 => h
  | d + 1 => hS _ _ _ _ (keep_tripK h d)
theorem keep_tripJ {n i : Nat} {acc : List (List Int)} (h : R acc) : ∀ d, R (tripJ S n i acc d)
  | 0 => h
  | d + 1 => keep_tripK hS (keep_tripJ h d) _
theorem keep_tripI {n : Nat} (h : R []) : ∀ i, R (tripI S n i)
  | 0 => h
  | i + 1 => keep_tripJ hS (keep_tripI h i) _
end

/-- The lists that have come up, those that have come up twice. -/
def stepE (s : List (List Int) × List (List Int)) (x : List Int) : List (List Int) × List (List Int) :=
  (putR s.1 x, if (putR s.1 x).length = s.1.length then putR s.2 x else s.2)
def foldE (l : List (List Int)) : List (List Int) × List (List Int) := l.foldl stepE ([], [])
theorem foldE_snoc (l : List (List Int)) (x : List Int) : foldE (l ++ [x]) = stepE (foldE l) x := by simp [foldE]
theorem listSnoc {α : Type} {P : List α → Prop} (h0 : P []) (h1 : ∀ l x, P l → P (l ++ [x])) (l : List α) : P l := by
  have h : ∀ n (l : List α), l.length = n → P l := by
    intro n
    induction n with
    | zero => intro l hl; rw [List.eq_nil_of_length_eq_zero hl]; exact h0
    | succ n ih =>
      intro l hl
      have hne : l ≠ [] := by intro e; rw [e] at hl; simp at hl
      rw [← List.dropLast_concat_getLast hne]
      exact h1 _ _ (ih _ (by rw [List.length_dropLast]; omega))
  exact h _ l rfl
theorem foldE_spec (l : List (List Int)) : SortL (foldE l).1 ∧ SortL (foldE l).2 ∧ (∀ x, x ∈ (foldE l).1 ↔ x ∈ l) ∧ (∀ x, x ∈ (foldE l).2 ↔ 2 ≤ l.count x) := by
  refine listSnoc (P := fun l => SortL (foldE l).1 ∧ SortL (foldE l).2 ∧ (∀ x, x ∈ (foldE l).1 ↔ x ∈ l) ∧ (∀ x, x ∈ (foldE l).2 ↔ 2 ≤ l.count x)) ⟨.nil, .nil, by simp [foldE], by simp [foldE]⟩ ?_ l
  intro l y ⟨h1, h2, h3, h4⟩
  rw [foldE_snoc]
  refine ⟨sort_putR h1, ?_, fun x => ?_, fun x => ?_⟩
  · simp only [stepE]
    split
    · exact sort_putR h2
    · exact h2
  · simp only [stepE]
    rw [mem_putR, h3 x, List.mem_append, List.mem_singleton]
    exact ⟨fun h => h.symm, fun h => h.symm⟩
  · simp only [stepE]
    have hc : (l ++ [y]).count x = l.count x + if y = x then 1 else 0 := by
      rw [List.count_append, List.count_singleton]
      simp only [beq_iff_eq]
    rw [hc]
    have hm : y ∈ l ↔ 1 ≤ l.count y := (List.one_le_count_iff).symm
    by_cases hg : (putR (foldE l).1 y).length = (foldE l).1.length
    · rw [if_pos hg, mem_putR, h4 x]
      have hy : y ∈ l := (h3 y).1 ((putR_grew h1).1 hg)
      constructor
      · rintro (rfl | h)
        · rw [if_pos rfl]; have := hm.1 hy; omega
        · omega
      · intro h
        by_cases e : y = x
        · exact .inl e.symm
        · rw [if_neg e] at h; exact .inr (by omega)
    · rw [if_neg hg, h4 x]
      have hy : ¬ y ∈ l := fun h => hg ((putR_grew h1).2 ((h3 y).2 h))
      constructor
      · intro h; omega
      · intro h
        by_cases e : y = x
        · subst e
          have : l.count y = 0 := List.count_eq_zero.2 hy
          rw [if_pos rfl] at h; omega
        · rw [if_neg e] at h; omega

end Go.Proofs.YtngbdopgdcjdeaaGreatDoor

namespace Go.Proofs.YtngbdopgdcjdeaaGreatDoor
open Go.RowKit

/-- Go's min and max of two numbers, under a name: a walk does not part on it. -/
theorem run_min_I {P : Program} {w : World} (ts : Array TypeId) (t : TypeId) (k k' : IntKind) (x y : Int) : (Builtin.min_ ts t #[.int k x, .int k' y]).run P w = .ok (.int k (minI x y)) w := by
  simp [Builtin.min_, Builtin.min2, minI]
theorem run_max_I {P : Program} {w : World} (ts : Array TypeId) (t : TypeId) (k k' : IntKind) (x y : Int) : (Builtin.max_ ts t #[.int k x, .int k' y]).run P w = .ok (.int k (maxI x y)) w := by
  simp [Builtin.max_, Builtin.max2, maxI]
attribute [go_sem ↓] run_min_I run_max_I

theorem ret_int {k : IntKind} {a b : Int} (h : a = b) : Ending.returned (.int k a) = .returned (.int k b) := by rw [h]
theorem ret_bool {a b : Bool} (h : a = b) : Ending.returned (.bool a) = .returned (.bool b) := by rw [h]

theorem ret_ii {a a' b b' : Int} (h1 : a = a') (h2 : b = b') : Ending.returned (.tuple #[.int .i64 a, .int .i64 b]) = .returned (.tuple #[.int .i64 a', .int .i64 b']) := by rw [h1, h2]
theorem ret_bb {a b a' b' : Bool} (h1 : a = a') (h2 : b = b') : Ending.returned (.tuple #[.bool a, .bool b]) = .returned (.tuple #[.bool a', .bool b']) := by rw [h1, h2]
theorem ret_ib {a a' : Int} {b b' : Bool} (h1 : a = a') (h2 : b = b') : Ending.returned (.tuple #[.int .i64 a, .bool b]) = .returned (.tuple #[.int .i64 a', .bool b']) := by rw [h1, h2]
theorem ret_iib {a a' b b' : Int} {c c' : Bool} (h1 : a = a') (h2 : b = b') (h3 : c = c') : Ending.returned (.tuple #[.int .i64 a, .int .i64 b, .bool c]) = .returned (.tuple #[.int .i64 a', .int .i64 b', .bool c']) := by rw [h1, h2, h3]
theorem ret_sb3 {a a' b b' c c' : Int} {d d' : Bool} (h1 : a = a') (h2 : b = b') (h3 : c = c') (h4 : d = d') : Ending.returned (.tuple #[.agg #[.int .i64 a, .int .i64 b, .int .i64 c], .bool d]) = .returned (.tuple #[.agg #[.int .i64 a', .int .i64 b', .int .i64 c'], .bool d']) := by rw [h1, h2, h3, h4]

/-- A contract that leaves the world alone, inside a region that draws its order. -/
theorem quiet_left {P : Program} {f : FuncId} {args : Array Value} {w : World} {n : Nat} {v : Value}
    (h : Calls P f args (w.drewN n) fun e w' => e = .returned v ∧ w.drewN n = w') : Calls P f args (w.drewN n) fun e w'' => e = .returned v ∧ ∃ m, w'' = w.drewN m :=
  h.mono fun _ _ ⟨he, hm⟩ => ⟨he, n, hm.symm⟩

theorem wrap_i64 {n : Int} (h1 : -9223372036854775808 ≤ n) (h2 : n ≤ 9223372036854775807) : IntKind.i64.wrap n = n := IntWalk.i64_in _ (by omega)

/-- A number that is told only where it is valid. -/
def gI (t : Bool) (n : Int) : Int := if t then n else 0
theorem gI_yes {t : Bool} {n : Int} (h : t = true) : n = gI t n := by simp [gI, h]
theorem gI_no {t : Bool} {n : Int} (h : t = false) : 0 = gI t n := by simp [gI, h]

/-- All that was there is as it was; there may be new blocks. -/
def Ext (w w' : World) : Prop := Below w.heap.size w w'
theorem Ext.below {w w' : World} (h : Ext w w') : Below w.heap.size w w' := h
theorem Ext.refl (w : World) : Ext w w := Below.refl _ _
theorem Ext.of_eq {w w' : World} (h : w = w') : Ext w w' := h ▸ Ext.refl w
theorem Ext.size {w w' : World} (h : Ext w w') : w.heap.size ≤ w'.heap.size := Below.size h
theorem Ext.trans {a b c : World} (h : Ext a b) (k : Ext b c) : Ext a c := Below.trans h (Below.mono k h.size)
theorem Ext.alloc {a w : World} (h : Ext a w) (o : Obj) : Ext a (w.alloc o) := Below.alloc h h.size o
theorem Ext.setCell {a w : World} (h : Ext a w) {p : Addr} (hp : a.heap.size ≤ p.block) (u : Value) : Ext a (w.setCell p u) := Below.setCell h hp u
theorem Ext.drew {a w : World} (h : Ext a w) : Ext a w.drew := Below.drew h
theorem Ext.drewN {a w : World} (h : Ext a w) (n : Nat) : Ext a (w.drewN n) := ⟨h.os, h.tape, h.output, h.size, h.block⟩
theorem Ext.grown {a w w' : World} {row : Option Nat} (h : Ext a w) (hg : w.grownBy w' row) (hr : ∀ k, row = some k → a.heap.size ≤ k) : Ext a w' := Below.grown h hg h.size hr
theorem Ext.cell {w w' : World} (h : Ext w w') : ∀ b o, b < w.heap.size → w'.cell? ⟨b, o, none⟩ = w.cell? ⟨b, o, none⟩ := fun b o hb => Below.cell h (p := ⟨b, o, none⟩) hb
theorem Ext.frozen {w w' : World} (h : Ext w w') : ∀ b o, b < w.heap.size → w'.frozen? ⟨b, o, none⟩ = w.frozen? ⟨b, o, none⟩ := fun b o hb => Below.frozen h (p := ⟨b, o, none⟩) hb
/-- What a walk wants of the world behind a call, in one word. -/
theorem Ext.facts {w w' : World} (h : Ext w w') : w.heap.size ≤ w'.heap.size ∧ (∀ b o, b < w.heap.size → w'.cell? ⟨b, o, none⟩ = w.cell? ⟨b, o, none⟩) ∧ (∀ b o, b < w.heap.size → w'.frozen? ⟨b, o, none⟩ = w.frozen? ⟨b, o, none⟩) :=
  ⟨h.size, h.cell, h.frozen⟩

/-- A cell that is there is there behind the call. -/
theorem Ext.keep {w w' : World} (h : Ext w w') {b o : Nat} {v : Value} (hc : w.cell? ⟨b, o, none⟩ = some v) : w'.cell? ⟨b, o, none⟩ = some v := by
  rw [h.cell b o ?_]
  · exact hc
  · rcases Nat.lt_or_ge b w.heap.size with hlt | hge
    · exact hlt
    · exfalso
      simp [World.cell?, Array.getElem?_eq_none hge] at hc

/-- A cell that is there is there in every world that comes of this one. -/
theorem Ext.keeps {w : World} {b o : Nat} {v : Value} (hc : w.cell? ⟨b, o, none⟩ = some v) : ∀ w', Ext w w' → w'.cell? ⟨b, o, none⟩ = some v := fun _ h => h.keep hc

theorem Ext.rebase {a b : World} {P : World → Prop} (hT : Ext a b) (h : ∀ w', Ext a w' → P w') : ∀ w', Ext b w' → P w' := fun w' k => h w' (Ext.trans hT k)

/-- A cell that can be written can be written in every world that comes of this one. -/
theorem Ext.thaws {w : World} {b o : Nat} {v : Value} (hc : w.cell? ⟨b, o, none⟩ = some v) (hf : w.frozen? ⟨b, o, none⟩ = false) : ∀ w', Ext w w' → w'.frozen? ⟨b, o, none⟩ = false := fun w' h => by
  rw [h.frozen b o ?_]
  · exact hf
  · rcases Nat.lt_or_ge b w.heap.size with hlt | hge
    · exact hlt
    · exfalso
      simp [World.cell?, Array.getElem?_eq_none hge] at hc

/-- Block b begins with these cells. -/
def Has (w : World) (b : Nat) (l : List Value) : Prop := ∀ (i : Nat) (v : Value), l[i]? = some v → w.cell? ⟨b, i, none⟩ = some v
theorem Has.ext {w w' : World} {b : Nat} {l : List Value} (h : Ext w w') (k : Has w b l) : Has w' b l := fun i v hi => h.keep (k i v hi)
theorem Has.alloc {w : World} {b : Nat} {l : List Value} (k : Has w b l) (o : Obj) : Has (w.alloc o) b l := Has.ext ((Ext.refl w).alloc o) k
theorem Has.new2 (w : World) (o : Obj) (cs : Array Value) (t : TypeId) : Has ((w.alloc o).alloc (.cells cs t)) (w.heap.size + 1) cs.toList := fun i v hi => by
  simp at hi
  simp [hi]
theorem Has.new3 (w : World) (o o' : Obj) (cs : Array Value) (t : TypeId) : Has (((w.alloc o).alloc o').alloc (.cells cs t)) (w.heap.size + 1 + 1) cs.toList := by
  have h := Has.new2 (w.alloc o) o' cs t
  simp at h
  exact h
theorem Has.new (w : World) (cs : Array Value) (t : TypeId) : Has (w.alloc (.cells cs t)) w.heap.size cs.toList := fun i v hi => by
  simp at hi
  simp [hi]

/-- The worlds that come of one: a class of worlds for a region that draws its order and whose callees make blocks of their own. -/
structure Past (W : World) where
  w : World
  ext : Ext W w
instance (W : World) : Nonempty (Past W) := ⟨⟨W, Ext.refl W⟩⟩
theorem wp_region_past {P : Program} {id : Nat} {Q : Exit → Act → World → Prop} {a : Act} {w : World} {l : List Oper} (W : World) (hE : Ext W w) (hm : P.follows .mixedOrders = true) (hB : Region.lexB .any l.toArray = true)
    (h : wpQuiet P l.toArray (fun w' => ∃ s : Past W, w' = s.w) (fun a' => ∀ w', (∃ s : Past W, w' = s.w) → Q .normal a' w') l a) : (Code.region id l.toArray true).wp P Q a w :=
  wp_region_quiet (C := fun w' => ∃ s : Past W, w' = s.w) hm hB ⟨⟨w.drew, hE.drew⟩, rfl⟩ (by simpa using h)
theorem past_ext {P : Program} {f : FuncId} {args : Array Value} {W : World} {s : Past W} {v : Value} (h : Calls P f args s.w fun e w' => e = .returned v ∧ Ext s.w w') :
    Calls P f args s.w fun e w'' => e = .returned v ∧ ∃ s' : Past W, w'' = s'.w := h.mono fun _ _ ⟨he, hb⟩ => ⟨he, ⟨_, s.ext.trans hb⟩, rfl⟩
theorem past_same {P : Program} {f : FuncId} {args : Array Value} {W : World} {s : Past W} {v : Value} (h : Calls P f args s.w fun e w' => e = .returned v ∧ s.w = w') :
    Calls P f args s.w fun e w'' => e = .returned v ∧ ∃ s' : Past W, w'' = s'.w := h.mono fun _ _ ⟨he, hb⟩ => ⟨he, s, hb.symm⟩

end Go.Proofs.YtngbdopgdcjdeaaGreatDoor

namespace Go.Proofs.YtngbdopgdcjdeaaGreatDoor
open Go.RowKit

theorem inB_left {n lo hi : Int} (h : n < lo) : inB n lo hi = false := by simp [inB]; omega
theorem inB_right {n lo hi : Int} (h : lo ≤ n) : inB n lo hi = decide (n ≤ hi) := by simp [inB, h]

theorem l1In_any (n lo hi : Int) (w : World) :
    Calls Tryz.prog 20 #[.int .i64 n, .int .i64 lo, .int .i64 hi] w fun e w' => e = .returned (.bool (inB n lo hi)) ∧ w = w' := by
  go_enter Tryz.func20, Tryz.ntmps20
  go_wp2
  all_goals (go_ret; exact ⟨ret_bool (by first | rw [inB_left (by assumption)] | rw [inB_right (by assumption)]), rfl⟩)

theorem within_any (n lo hi : Int) (w : World) :
    Calls Tryz.prog 41 #[.int .i64 n, .int .i64 lo, .int .i64 hi] w fun e w' => e = .returned (.bool (inB n lo hi)) ∧ w = w' := by
  go_enter Tryz.func41, Tryz.ntmps41
  go_wp2
  all_goals (go_ret; exact ⟨ret_bool (by first | rw [inB_left (by assumption)] | rw [inB_right (by assumption)]), rfl⟩)

theorem isFinite_any (n : Int) (w : World) :
    Calls Tryz.prog 42 #[.int .i64 n] w fun e w' => e = .returned (.bool (finB n)) ∧ w = w' := by
  go_enter Tryz.func42, Tryz.ntmps42
  go_wp2
  all_goals (go_ret; exact ⟨ret_bool (by unfold finB; first | rw [inB_left (by assumption)] | rw [inB_right (by assumption)]), rfl⟩)

theorem poFinite_any (n : Int) (w : World) :
    Calls Tryz.prog 34 #[.int .i64 n] w fun e w' => e = .returned (.bool (finB n)) ∧ w = w' := by
  go_enter Tryz.func34, Tryz.ntmps34
  go_wp2_with (go_at_call 20; refine (l1In_any _ _ _ _).mono ?_; rintro e w' ⟨rfl, rfl⟩)
  go_ret
  exact ⟨rfl, rfl⟩

theorem l1Most_any (a b : Int) (w : World) :
    Calls Tryz.prog 69 #[.int .i64 a, .int .i64 b] w fun e w' => e = .returned (.int .i64 (maxI a b)) ∧ w = w' := by
  go_enter Tryz.func69, Tryz.ntmps69
  go_wp2
  all_goals (go_ret; exact ⟨ret_int (by unfold maxI; split <;> omega), rfl⟩)

theorem l1Abs_any (n : Int) (h : -9223372036854775807 ≤ n) (h2 : n ≤ 9223372036854775807) (w : World) :
    Calls Tryz.prog 58 #[.int .i64 n] w fun e w' => e = .returned (.int .i64 (absI n)) ∧ w = w' := by
  go_enter Tryz.func58, Tryz.ntmps58
  go_wp2_with (go_at_call 69; refine (l1Most_any _ _ _).mono ?_; rintro e w' ⟨rfl, rfl⟩)
  go_ret
  exact ⟨ret_int (by unfold maxI absI; split <;> omega), rfl⟩

theorem l1Sign_any (n : Int) (w : World) :
    Calls Tryz.prog 55 #[.int .i64 n] w fun e w' => e = .returned (.int .i64 (sgnI n)) ∧ w = w' := by
  go_enter Tryz.func55, Tryz.ntmps55
  go_wp2
  all_goals (go_ret; exact ⟨ret_int (by first | rw [sgnI_pos (by omega)] | rw [sgnI_neg (by omega)] | rw [sgnI_zero (by omega)]), rfl⟩)

theorem abs_any (n : Int) (h : -9223372036854775807 ≤ n) (h2 : n ≤ 9223372036854775807) (w : World) :
    Calls Tryz.prog 84 #[.int .i64 n] w fun e w' => e = .returned (.int .i64 (absI n)) ∧ w = w' := by
  go_enter Tryz.func84, Tryz.ntmps84
  go_wp2
  go_ret
  exact ⟨ret_int (by unfold maxI absI; split <;> omega), rfl⟩

theorem gcd_any (a b : Int) (ha1 : -9223372036854775807 ≤ a) (ha2 : a ≤ 9223372036854775807) (hb1 : -9223372036854775807 ≤ b) (hb2 : b ≤ 9223372036854775807) (w : World) :
    Calls Tryz.prog 66 #[.int .i64 a, .int .i64 b] w fun e w' => e = .returned (.int .i64 (gcdI a b)) ∧ ∃ n, w' = w.drewN n := by
  have k1 := absI_nonneg a
  have k2 := absI_nonneg b
  have k3 := absI_le ha1 ha2
  have k4 := absI_le hb1 hb2
  go_enter Tryz.func66, Tryz.ntmps66
  go_wp2_with (go_at_call 84; refine (abs_any _ (by assumption) (by assumption) _).mono ?_; rintro e w' ⟨rfl, rfl⟩)
  go_loopw [0, 1] (fun s t wr => ∃ x y : Int, 0 ≤ x ∧ 0 ≤ y ∧ x ≤ 9223372036854775807 ∧ y ≤ 9223372036854775807 ∧ s = .int .i64 x ∧ t = .int .i64 y ∧ gcdI x y = gcdI a b ∧ ∃ n, wr = w.drewN n) (fun _ t _ => (intOf t).toNat)
  case atStart => exact ⟨absI a, absI b, k1, k2, k3, k4, rfl, rfl, gcdI_absI a b, 0, rfl⟩
  case round =>
    obtain ⟨x, y, hx, hy, hx2, hy2, rfl, rfl, hg, nn, rfl⟩ := hrel
    have HG := Lib.hid hg
    clear hg
    by_cases hc : 0 < y
    · have hm1 : 0 ≤ x % y := Int.emod_nonneg _ (by omega)
      have hm2 : x % y < y := Int.emod_lt_of_pos _ hc
      go_wp2
      go_quiet (fail)
      go_wp2
      go_roundw
      case rel => exact ⟨y, x % y, hy, hm1, hy2, by omega, rfl, rfl, by rw [gcdI_emod _ _ hx]; exact HG.out, _, World.drewN_drewN _ _ _⟩
      case measure => simp [intOf]; omega
    · have HY : Hid (y = 0) := by show y = 0; omega
      go_wp2
      go_ret
      exact ⟨ret_int (by have h1 := HG.out; rw [HY.out, gcdI_zero, absI_of_nonneg hx] at h1; exact h1), _, rfl⟩

end Go.Proofs.YtngbdopgdcjdeaaGreatDoor

namespace Go.Proofs.YtngbdopgdcjdeaaGreatDoor
open Go.RowKit

theorem Ext.grownBy {w w' : World} (h : Ext w w') (row : Option Nat) : w.grownBy w' row := ⟨h.os, h.tape, h.output, h.size, fun i hi _ => h.block i hi⟩
theorem Ext.of_grown {w w' : World} (h : w.grownBy w' none) : Ext w w' := ⟨h.os, h.tape, h.output, h.size, fun i hi => h.block i hi (by simp)⟩

/-- The slice value of address a and n elements (of so many cells each) reads as these cells. -/
def Reads (w : World) (a : Option Addr) (size n : Nat) (xs : List Value) : Prop :=
  xs.length = n * size ∧ (0 < n → ∃ b off, a = some ⟨b, off, none⟩ ∧ ∀ j u, xs[j]? = some u → w.cell? ⟨b, off + j, none⟩ = some u)

theorem Reads.ext {w w' : World} {a : Option Addr} {size n : Nat} {xs : List Value} (h : Ext w w') (k : Reads w a size n xs) : Reads w' a size n xs :=
  ⟨k.1, fun hn => by
    obtain ⟨b, off, ha, hc⟩ := k.2 hn
    exact ⟨b, off, ha, fun j u hu => h.keep (hc j u hu)⟩⟩
theorem Reads.drew {w : World} {a : Option Addr} {size n : Nat} {xs : List Value} (k : Reads w a size n xs) : Reads w.drew a size n xs := k
theorem Reads.alloc {w : World} {a : Option Addr} {size n : Nat} {xs : List Value} (k : Reads w a size n xs) (o : Obj) : Reads (w.alloc o) a size n xs := k.ext ((Ext.refl w).alloc o)

theorem own_ext {w w' : World} {B : Nat} {E : TypeId} {size : Nat} {v : Value} {n : Nat} {xs : List Value} (h : Ext w w') (k : w.ownsRow B E size v n xs) : w'.ownsRow B E size v n xs := by
  refine k.kept (h.grownBy none) ?_
  cases hv : v.ownBlock
  · exact .inl rfl
  · exact .inr (by simp)
theorem own_mono {w : World} {B B' : Nat} {E : TypeId} {size : Nat} {v : Value} {n : Nat} {xs : List Value} (h : B' ≤ B) (k : w.ownsRow B E size v n xs) : w.ownsRow B' E size v n xs := by
  refine ⟨k.1, ?_⟩
  rcases k.2 with k2 | ⟨g, cap, cur, hv, hb, r⟩
  · exact .inl k2
  · exact .inr ⟨g, cap, cur, hv, by omega, r⟩
theorem own_form {w : World} {B : Nat} {E : TypeId} {size : Nat} {v : Value} {n : Nat} {xs : List Value} (k : w.ownsRow B E size v n xs) : ∃ a c, v = .slice a n c := by
  rcases k.2 with ⟨rfl, rfl⟩ | ⟨g, cap, cur, rfl, _⟩
  · exact ⟨_, _, rfl⟩
  · exact ⟨_, _, rfl⟩
theorem own_reads {w : World} {B : Nat} {E : TypeId} {size : Nat} {a : Option Addr} {n c : Nat} {xs : List Value} (k : w.ownsRow B E size (.slice a n c) n xs) : Reads w a size n xs := by
  refine ⟨k.1, fun hn => ?_⟩
  have h0 := k
  rcases k.2 with ⟨_, h⟩ | ⟨g, cap, cur, hv, hb, r⟩
  · omega
  · simp only [Value.slice.injEq, true_and] at hv
    obtain ⟨rfl, rfl⟩ := hv
    refine ⟨g, 0, rfl, fun j u hu => ?_⟩
    have hj : j < n * size := by rw [← k.1]; exact (List.getElem?_eq_some_iff.1 hu).1
    rw [Nat.zero_add, h0.cellAt j hj, hu]

theorem own_head {w : World} {B : Nat} {E : TypeId} {size : Nat} {a : Option Addr} {n c : Nat} {xs : List Value} (k : w.ownsRow B E size (.slice a n c) n xs) (hn : 0 < n) : ∃ g, a = some ⟨g, 0, none⟩ ∧ B ≤ g ∧ g < w.heap.size := by
  rcases k.2 with ⟨_, h⟩ | ⟨g, cap, cur, hv, hb, hg, r⟩
  · omega
  · simp only [Value.slice.injEq, true_and] at hv
    refine ⟨g, hv.1, hb, ?_⟩
    rcases Nat.lt_or_ge g w.heap.size with hlt | hge
    · exact hlt
    · rw [Array.getElem?_eq_none hge] at hg; cases hg

/-- A slice of ints that came in. -/
def IsRow (w : World) (a : Option Addr) (len cap : Nat) (zs : List Int) : Prop :=
  Reads w a 1 len (zs.map (.int .i64)) ∧ len ≤ cap ∧ cap ≤ maxLen ∧ ∀ z ∈ zs, B64 z
theorem isRow_nil (w : World) : IsRow w none 0 0 [] := ⟨⟨rfl, fun h => by omega⟩, Nat.le_refl _, by simp [maxLen], by simp⟩
theorem intsAt {zs : List Int} {k : Nat} (h : k < zs.length) : (zs.map (Value.int .i64))[k]? = some (.int .i64 (zs.getD k 0)) := by
  simp [List.getD, List.getElem?_eq_getElem h]

end Go.Proofs.YtngbdopgdcjdeaaGreatDoor

namespace Go.Proofs.YtngbdopgdcjdeaaGreatDoor
open Go.RowKit

theorem int_info : (Tryz.prog.info? 3).map (fun i => (i.zero, i.size, i.bytes)) = some (some (.int .i64 0), 1, 8) := by kernel_rfl

/-- What a slice of ints holds, as cells. -/
def iv (zs : List Int) : List Value := zs.map (Value.int .i64)
theorem iv_len (zs : List Int) : (iv zs).length = zs.length := by simp [iv]
theorem iv_at {zs : List Int} {k : Nat} (h : k < zs.length) : (iv zs)[k]? = some (.int .i64 (zs.getD k 0)) := intsAt h
theorem take_set_succ {zs : List Int} {ys : List Value} {n k : Nat} {z : Int} (hy : ys.length = n) (hz : zs.length = n) (hk : k < n) (h : ys.take k = (iv zs).take k) (e : z = zs.getD k 0) : (ys.set k (.int .i64 z)).take (k + 1) = (iv zs).take (k + 1) := by
  rw [List.take_succ_eq_append_getElem (by simp; omega), List.take_succ_eq_append_getElem (by rw [iv_len]; omega), List.take_set_of_le (Nat.le_refl _), h, e]
  simp [iv, List.getD, List.getElem?_eq_getElem (show k < zs.length by omega)]

theorem iv_set (zs : List Int) (i : Nat) (z : Int) : (iv zs).set i (.int .i64 z) = iv (zs.set i z) := by simp [iv, List.map_set]
theorem grown_trans {a b c : World} {row : Option Nat} (h : a.grownBy b row) (k : b.grownBy c row) : a.grownBy c row :=
  ⟨k.os.trans h.os, k.tape.trans h.tape, k.output.trans h.output, Nat.le_trans h.size k.size, fun i hi hne => (k.block i (Nat.lt_of_lt_of_le hi h.size) hne).trans (h.block i hi hne)⟩

/-- A new slice of n ints. -/
def MadeInts (B n : Nat) (zs : List Int) (w : World) (r : Ending) (w' : World) : Prop :=
  ∃ g, r = .returned (.slice (some ⟨g, 0, none⟩) n n) ∧ w'.ownsRow B 3 1 (.slice (some ⟨g, 0, none⟩) n n) n (iv zs) ∧ Ext w w'

/-- The marks that a law lays into a slice. -/
def marks (k : Int) (n : Nat) : List Int := (List.range n).map fun i : Nat => k + (i : Int)
theorem marks_len (k : Int) (n : Nat) : (marks k n).length = n := by simp [marks]
theorem marks_at {k : Int} {n i : Nat} (h : i < n) : (marks k n).getD i 0 = k + (i : Int) := by simp [marks, List.getD, h]
/-- Marking one place more. -/
theorem marks_step {zs : List Int} {k : Int} {i : Nat} (h : i < zs.length) : ((marks k i ++ zs.drop i).set i (k + (i : Int))) = marks k (i + 1) ++ zs.drop (i + 1) := by
  have e : (marks k i).length = i := marks_len k i
  rw [List.set_append_right _ _ (by omega), e, Nat.sub_self, List.drop_eq_getElem_cons h, List.set_cons_zero]
  simp [marks, List.range_succ]

end Go.Proofs.YtngbdopgdcjdeaaGreatDoor

namespace Go.Proofs.YtngbdopgdcjdeaaGreatDoor
open Go.RowKit

/-- A polynomial. -/
def polyB (zs : List Int) : Bool := inB (zs.length : Int) 1 13 && zs.all numB && (zs.getD (zs.length - 1) 0 != 1000000000)
theorem polyB_cases (zs : List Int) : polyB zs = false ∨ (polyB zs = true ∧ 1 ≤ zs.length ∧ zs.length ≤ 13 ∧ zs.all numB = true ∧ zs.getD (zs.length - 1) 0 ≠ 1000000000) := by
  cases h : polyB zs
  · exact .inl rfl
  · have h' := h
    simp only [polyB, Bool.and_eq_true, inB_true, bne_iff_ne] at h'
    exact .inr ⟨rfl, by omega, by omega, h'.1.2, h'.2⟩
/-- The least exponent whose coefficient is not Infinity. -/
def firstI (zs : List Int) : Nat := zs.findIdx (fun z => z != 1000000000)
theorem firstI_lt {zs : List Int} (h1 : 1 ≤ zs.length) (h : zs.getD (zs.length - 1) 0 ≠ 1000000000) : firstI zs < zs.length := by
  refine List.findIdx_lt_length_of_exists ⟨zs[zs.length - 1]'(by omega), List.getElem_mem _, ?_⟩
  simpa [List.getD, List.getElem?_eq_getElem (show zs.length - 1 < zs.length by omega)] using h
theorem firstI_before {zs : List Int} {k : Nat} (h : k < firstI zs) : zs.getD k 0 = 1000000000 := by
  have h1 := List.not_of_lt_findIdx h
  have h2 : k < zs.length := Nat.lt_of_lt_of_le h List.findIdx_le_length
  simpa [List.getD, List.getElem?_eq_getElem h2] using h1
theorem firstI_at {zs : List Int} (h : firstI zs < zs.length) : zs.getD (firstI zs) 0 ≠ 1000000000 := by
  have h1 := List.findIdx_getElem (p := fun z : Int => z != 1000000000) (w := h)
  have e : zs.getD (firstI zs) 0 = zs[firstI zs] := by simp [List.getD, List.getElem?_eq_getElem h]
  rw [e]
  exact bne_iff_ne.1 h1

end Go.Proofs.YtngbdopgdcjdeaaGreatDoor

namespace Go.Proofs.YtngbdopgdcjdeaaGreatDoor
open Go.RowKit

/-- A slice of the call's own, and nothing that was there has turned. -/
def OwnsInts (B : Nat) (zs : List Int) (w : World) (r : Ending) (w' : World) : Prop :=
  ∃ a c, r = .returned (.slice a zs.length c) ∧ w'.ownsRow B 3 1 (.slice a zs.length c) zs.length (iv zs) ∧ Ext w w'

/-- 'append(out, z)', out nil or the call's own. -/
theorem wpList_app1 {w : World} {ops : Array Oper} {rest : List Oper} {o : Oper} {a : Act} {Q : Exit → Act → World → Prop} (hgd : o.guard = none) (s x : Operand)
    (ho : o.op = .call { callee := .builtin .append, args := #[s, x], argTypes := #[33, 33] })
    (W : World) (base : Nat) (a0 : Option Addr) (n c : Nat) (xs : List Int) (z : Int) (hs : a.eval s = .slice a0 n c) (hown : w.ownsRow base 3 1 (.slice a0 n c) n (iv xs))
    (g : Nat) (hx : a.eval x = .slice (some ⟨g, 0, none⟩) 1 1) (hc : w.cell? ⟨g, 0, none⟩ = some (.int .i64 z)) (hn : n ≤ 1073741824) (hb : base ≤ w.heap.size) (hE : Ext W w) (hW : W.heap.size ≤ base)
    (h : ∀ a1 c1 w', w'.ownsRow base 3 1 (.slice a1 (n + 1) c1) (n + 1) (iv (xs ++ [z])) → Ext W w' → wpList Tryz.prog ops Q rest (a.put o.dst (.slice a1 (n + 1) c1)) w') :
    wpList Tryz.prog ops Q (o :: rest) a w := by
  obtain ⟨i0, hi, hz0, hz1, hz2⟩ := info_parts int_info
  refine wpList_append_own w hgd s x 33 ho base 3 i0 (.int .i64 0) 1 8 Tryz.underlying33 hi hz0 hz1 hz2 rfl (by decide) _ n (iv xs) hs hown ⟨g, 0, none⟩ 1 1 [.int .i64 z] hx rfl ?_ ?_ ?_ ?_ hb ?_
  · intro j u hj
    match j, hj with
    | 0, hj => simp at hj; subst hj; simpa [Addr.add] using hc
  · intro u hu; simp at hu; subst hu; rfl
  · unfold maxLen; omega
  · omega
  · intro v' w' h1 h2 _
    have hf := own_form h1
    obtain ⟨a1, c1, rfl⟩ : ∃ a1 c1, v' = .slice a1 (n + 1) c1 := by
      rcases h1.2 with ⟨_, h0⟩ | ⟨g1, cap, cur, hv, _⟩
      · omega
      · exact ⟨_, _, hv⟩
    refine h a1 c1 w' ?_ (hE.grown h2 fun k hk => Nat.le_trans hW (hown.lt k hk).1)
    have e : iv (xs ++ [z]) = iv xs ++ [.int .i64 z] := by simp [iv]
    rw [e]; exact h1

end Go.Proofs.YtngbdopgdcjdeaaGreatDoor

namespace Go.Proofs.YtngbdopgdcjdeaaGreatDoor

/-- A pair that comes behind (0, 0) in the order of pairs; the order itself. -/
def lexV (a b : Int) : Prop := 0 < a ∨ (a = 0 ∧ 0 < b)
def lexP (a b : Int × Int) : Prop := lexV (b.1 - a.1) (b.2 - a.2)
def leP (a b : Int × Int) : Prop := a = b ∨ lexP a b
/-- Positive where c lies at the left of the way from a to b. -/
def turnI (a b c : Int × Int) : Int := detI (b.1 - a.1) (b.2 - a.2) (c.1 - a.1) (c.2 - a.2)

theorem lexP_trans {a b c : Int × Int} (h : lexP a b) (k : lexP b c) : lexP a c := by
  unfold lexP lexV at *; omega
theorem lexP_irrefl (a : Int × Int) : ¬ lexP a a := by unfold lexP lexV; omega
theorem lexP_asymm {a b : Int × Int} (h : lexP a b) : ¬ lexP b a := by unfold lexP lexV at *; omega
theorem lexP_total (a b : Int × Int) : lexP a b ∨ a = b ∨ lexP b a := by
  unfold lexP lexV
  rcases a with ⟨a1, a2⟩
  rcases b with ⟨b1, b2⟩
  simp only [Prod.mk.injEq]
  omega
theorem leP_of_not {a b : Int × Int} (h : ¬ lexP b a) : leP a b := by
  rcases lexP_total a b with h1 | h1 | h1
  · exact .inr h1
  · exact .inl h1
  · exact absurd h1 h
theorem leP_trans_lex {a b c : Int × Int} (h : leP a b) (k : lexP b c) : lexP a c := by
  rcases h with rfl | h
  · exact k
  · exact lexP_trans h k
theorem leP_antisymm {a b : Int × Int} (h : leP a b) (k : leP b a) : a = b := by
  rcases h with h | h
  · exact h
  · rcases k with k | k
    · exact k.symm
    · exact absurd k (lexP_asymm h)

theorem pos_of_mul {c X : Int} (hc : 0 < c) (h : 0 < c * X) : 0 < X := by
  rcases (show 0 < X ∨ X ≤ 0 by omega) with h1 | h1
  · exact h1
  · have := Int.mul_le_mul_of_nonneg_left h1 (show 0 ≤ c by omega)
    omega
theorem nonneg_of_mul {c X : Int} (hc : 0 < c) (h : 0 ≤ c * X) : 0 ≤ X := by
  rcases (show X < 0 ∨ 0 ≤ X by omega) with h1 | h1
  · have := Int.mul_le_mul_of_nonneg_left (show X ≤ -1 by omega) (show 0 ≤ c by omega)
    omega
  · exact h1
theorem det_ident (a b c d e f : Int) : c * detI a b e f = a * detI c d e f + e * detI a b c d := by unfold detI; grind

/-- Angles add up: of three directions to the right (or straight up) the first is no further round than the third. -/
theorem det_nonneg {a b c d e f : Int} (hu : (a = 0 ∧ b = 0) ∨ lexV a b) (hv : lexV c d) (hw : (e = 0 ∧ f = 0) ∨ lexV e f) (h1 : 0 ≤ detI a b c d) (h2 : 0 ≤ detI c d e f) : 0 ≤ detI a b e f := by
  have ha : 0 ≤ a := by unfold lexV at hu; omega
  have he : 0 ≤ e := by unfold lexV at hw; omega
  rcases hv with hc | ⟨rfl, hd⟩
  · have hI := det_ident a b c d e f
    have p1 := Int.mul_nonneg ha h2
    have p2 := Int.mul_nonneg he h1
    exact nonneg_of_mul hc (by omega)
  · have he0 : e = 0 := by
      rcases (show 0 < e ∨ e ≤ 0 by omega) with h | h
      · have := Int.mul_pos hd h
        unfold detI at h2; omega
      · omega
    subst he0
    have hf : 0 ≤ f := by unfold lexV at hw; omega
    have := Int.mul_nonneg ha hf
    unfold detI; omega
theorem det_pos {a b c d e f : Int} (hu : lexV a b) (hv : lexV c d) (hw : lexV e f) (h1 : 0 ≤ detI a b c d) (h2 : 0 < detI c d e f) : 0 < detI a b e f := by
  have he : 0 ≤ e := by unfold lexV at hw; omega
  have hc0 : 0 < c := by
    rcases hv with hc | ⟨rfl, hd⟩
    · exact hc
    · exfalso
      have := Int.mul_nonneg (show 0 ≤ d by omega) he
      unfold detI at h2; omega
  have ha : 0 < a := by
    rcases hu with h | ⟨rfl, hb⟩
    · exact h
    · exfalso
      have := Int.mul_pos hb hc0
      unfold detI at h1; omega
  have hI := det_ident a b c d e f
  have p1 := Int.mul_pos ha h2
  have p2 := Int.mul_nonneg he h1
  exact pos_of_mul hc0 (by omega)

theorem detI_swap (a b c d : Int) : detI a b c d = -detI c d a b := by unfold detI; grind
theorem turnI_back (a b c : Int × Int) : turnI a b c = -detI (b.1 - a.1) (b.2 - a.2) (b.1 - c.1) (b.2 - c.2) := by unfold turnI detI; grind
theorem turnI_self (a b : Int × Int) : turnI a b b = 0 := by unfold turnI detI; grind
theorem turnI_first (a b : Int × Int) : turnI a b a = 0 := by unfold turnI detI; grind

/-- The steps of a row that stands with its last point first: (b, a) next to each other say that the way goes from a to b. -/
def Edges (R : Int × Int → Int × Int → Prop) : List (Int × Int) → Prop
  | b :: a :: r => R a b ∧ Edges R (a :: r)
  | _ => True
/-- Each three points next to each other turn to the left. -/
def Strict : List (Int × Int) → Prop
  | c :: b :: a :: r => 0 < turnI a b c ∧ Strict (b :: a :: r)
  | _ => True
theorem Edges.tail {R : Int × Int → Int × Int → Prop} {b : Int × Int} {r : List (Int × Int)} (h : Edges R (b :: r)) : Edges R r := by
  cases r with
  | nil => trivial
  | cons a r => exact h.2
theorem Strict.tail {b : Int × Int} {r : List (Int × Int)} (h : Strict (b :: r)) : Strict r := by
  match r, h with
  | [], _ => trivial
  | [_], _ => trivial
  | _ :: _ :: _, h => exact h.2
theorem Edges.mono {R Q : Int × Int → Int × Int → Prop} (hRQ : ∀ a b, R a b → Q a b) : ∀ {s : List (Int × Int)}, Edges R s → Edges Q s
  | [], _ => trivial
  | [_], _ => trivial
  | _ :: _ :: _, h => ⟨hRQ _ _ h.1, Edges.mono hRQ h.2⟩
theorem Edges.and {R Q : Int × Int → Int × Int → Prop} : ∀ {s : List (Int × Int)}, Edges R s → Edges Q s → Edges (fun a b => R a b ∧ Q a b) s
  | [], _, _ => trivial
  | [_], _, _ => trivial
  | _ :: _ :: _, h, k => ⟨⟨h.1, k.1⟩, Edges.and h.2 k.2⟩

/-- A chain over a set of points, its last point first. -/
structure Chain (S : Int × Int → Prop) (s : List (Int × Int)) : Prop where
  mem : ∀ x ∈ s, S x
  lex : Edges lexP s
  strict : Strict s
  sup : Edges (fun a b => ∀ x, S x → 0 ≤ turnI a b x) s
  top : ∀ h ∈ s.head?, ∀ x, S x → leP x h
  low : ∀ h ∈ s.getLast?, ∀ x, S x → leP h x

/-- The points at which a new one is met. -/
def popT (p : Int × Int) : List (Int × Int) → List (Int × Int)
  | b :: a :: r => if turnI a b p ≤ 0 then popT p (a :: r) else b :: a :: r
  | s => s
def chainR (l : List (Int × Int)) : List (Int × Int) := l.foldl (fun s p => p :: popT p s) []

/-- All ways of a chain pass a point that its last way passes at the right. -/
theorem edges_pos {p : Int × Int} : ∀ {s : List (Int × Int)}, Edges lexP s → Strict s → (∀ h ∈ s.head?, lexP h p) → (∀ b a r, s = b :: a :: r → 0 < turnI a b p) → Edges (fun a b => 0 < turnI a b p) s
  | [], _, _, _, _ => trivial
  | [_], _, _, _, _ => trivial
  | [b, a], _, _, _, ht => ⟨ht b a [] rfl, trivial⟩
  | c :: b :: a :: r, hl, hs, hh, ht => by
    have h1 := ht c b (a :: r) rfl
    have l1 : lexP b c := hl.1
    have l2 : lexP a b := hl.2.1
    have l3 : lexP c p := hh c rfl
    have h2 : 0 < turnI a b p := by
      have k := det_pos (a := b.1 - a.1) (b := b.2 - a.2) (c := c.1 - b.1) (d := c.2 - b.2) (e := p.1 - b.1) (f := p.2 - b.2) l2 l1 (lexP_trans l1 l3)
        (by have := hs.1; unfold turnI detI at this; unfold detI; grind) h1
      unfold turnI; unfold detI at *; grind
    exact ⟨h1, edges_pos hl.2 hs.2 (fun h hh' => by obtain rfl : b = h := (by simpa using hh'); exact lexP_trans l1 l3) (fun b' a' r' e => by simp at e; obtain ⟨rfl, rfl, rfl⟩ := e; exact h2)⟩

/-- What popping leaves. -/
theorem popT_inv {S : Int × Int → Prop} {p : Int × Int} (hp : ∀ x, S x → lexP x p) : ∀ {s : List (Int × Int)}, s ≠ [] → (∀ x ∈ s, S x) → Edges lexP s → Strict s → Edges (fun a b => ∀ x, S x → 0 ≤ turnI a b x) s →
    (∀ h ∈ s.head?, ∀ x, S x → leP x h ∨ 0 ≤ turnI h p x) →
    ∃ h t, popT p s = h :: t ∧ (∀ x ∈ h :: t, x ∈ s) ∧ Edges lexP (h :: t) ∧ Strict (h :: t) ∧ Edges (fun a b => ∀ x, S x → 0 ≤ turnI a b x) (h :: t) ∧ (h :: t).getLast? = s.getLast? ∧
      (∀ x, S x → leP x h ∨ 0 ≤ turnI h p x) ∧ (∀ a r, t = a :: r → 0 < turnI a h p)
  | [], h0, _, _, _, _, _ => absurd rfl h0
  | [b], _, _, hl, hs, hu, hh => ⟨b, [], rfl, fun x hx => hx, hl, hs, hu, rfl, hh b rfl, fun a r e => by simp at e⟩
  | b :: a :: r, _, hm, hl, hs, hu, hh => by
    by_cases hc : turnI a b p ≤ 0
    · have hnew : ∀ h ∈ (a :: r).head?, ∀ x, S x → leP x h ∨ 0 ≤ turnI h p x := by
        intro h hh' x hx
        obtain rfl : a = h := by simpa using hh'
        by_cases hax : lexP a x
        · right
          have h1 := hu.1 x hx
          have h2 : lexP a p := hp a (hm a (by simp))
          have h3 : lexP a b := hl.1
          exact det_nonneg (a := p.1 - a.1) (b := p.2 - a.2) (c := b.1 - a.1) (d := b.2 - a.2) (.inr h2) h3 (.inr hax)
            (by unfold turnI at hc; unfold detI at *; grind) h1
        · exact .inl (leP_of_not hax)
      obtain ⟨h, t, e, e1, e2, e3, e4, e5, e6, e7⟩ := popT_inv hp (s := a :: r) (by simp) (fun x hx => hm x (by simp at hx ⊢; exact .inr hx)) hl.2 hs.tail hu.2 hnew
      refine ⟨h, t, by rw [popT, if_pos hc]; exact e, fun x hx => ?_, e2, e3, e4, ?_, e6, e7⟩
      · exact List.mem_cons_of_mem _ (e1 x hx)
      · rw [e5]; simp
    · refine ⟨b, a :: r, by rw [popT, if_neg hc], fun x hx => hx, hl, hs, hu, rfl, fun x hx => hh b rfl x hx, ?_⟩
      intro a' r' e
      simp at e
      obtain ⟨rfl, rfl⟩ := e
      omega

theorem chain_push {S : Int × Int → Prop} {p : Int × Int} (hp : ∀ x, S x → lexP x p) {s : List (Int × Int)} (hne : s ≠ []) (h : Chain S s) : Chain (fun x => S x ∨ x = p) (p :: popT p s) := by
  obtain ⟨q, t, e, e1, e2, e3, e4, e5, e6, e7⟩ := popT_inv hp hne h.mem h.lex h.strict h.sup (fun k hk x hx => .inl (h.top k hk x hx))
  rw [e]
  have hq : S q := h.mem q (e1 q (by simp))
  have hqp : lexP q p := hp q hq
  refine ⟨?_, ⟨hqp, e2⟩, ?_, ⟨?_, ?_⟩, ?_, ?_⟩
  · intro x hx
    rcases List.mem_cons.1 hx with rfl | hx
    · exact .inr rfl
    · exact .inl (h.mem x (e1 x hx))
  · cases t with
    | nil => trivial
    | cons a r => exact ⟨e7 a r rfl, e3⟩
  · intro x hx
    rcases hx with hx | rfl
    · rcases e6 x hx with h1 | h1
      · rcases h1 with rfl | h1
        · rw [turnI_first]; exact Int.le_refl _
        · cases t with
          | nil =>
            exfalso
            have := h.low q (by rw [← e5]; rfl) x hx
            rcases this with rfl | this
            · exact lexP_irrefl _ h1
            · exact lexP_asymm h1 this
          | cons a r =>
            have k1 := e4.1 x hx
            have k2 := e7 a r rfl
            have k3 : lexP a q := e2.1
            have := det_nonneg (a := q.1 - x.1) (b := q.2 - x.2) (c := q.1 - a.1) (d := q.2 - a.2) (e := p.1 - q.1) (f := p.2 - q.2) (.inr h1) k3 (.inr hqp)
              (by unfold turnI at k1; unfold detI at *; grind) (by unfold turnI at k2; unfold detI at *; grind)
            unfold turnI; unfold detI at *; grind
      · exact h1
    · rw [turnI_self]; exact Int.le_refl _
  · have hpos := edges_pos (p := p) e2 e3 (fun k hk => by obtain rfl : q = k := (by simpa using hk); exact hqp) (fun b a r e => by simp at e; obtain ⟨rfl, rfl⟩ := e; exact e7 a r rfl)
    refine Edges.mono ?_ (e4.and hpos)
    rintro a b ⟨k1, k2⟩ x (hx | rfl)
    · exact k1 x hx
    · exact Int.le_of_lt k2
  · intro k hk x hx
    obtain rfl : p = k := by simpa using hk
    rcases hx with hx | rfl
    · exact .inr (hp x hx)
    · exact .inl rfl
  · intro k hk x hx
    have hk' : k ∈ s.getLast? := by
      rw [← e5]
      simpa [List.getLast?_cons_cons] using hk
    rcases hx with hx | rfl
    · exact h.low k hk' x hx
    · exact .inr (hp k (h.mem k (List.mem_of_getLast? hk')))

theorem chain_one (p : Int × Int) : Chain (fun x => x = p) [p] :=
  ⟨fun x hx => by simpa using hx, trivial, trivial, trivial, fun h hh x hx => by obtain rfl : p = h := (by simpa using hh); exact .inl hx,
   fun h hh x hx => by obtain rfl : p = h := (by simpa using hh); exact .inl hx.symm⟩

theorem chainR_snoc (l : List (Int × Int)) (p : Int × Int) : chainR (l ++ [p]) = p :: popT p (chainR l) := by simp [chainR, List.foldl_append]

/-- The walk round a row in order leaves its chain. -/
theorem chain_of : ∀ (n : Nat) (l : List (Int × Int)), l.length = n + 1 → l.Pairwise lexP → Chain (· ∈ l) (chainR l) ∧ chainR l ≠ []
  | 0, l, hl, _ => by
    match l, hl with
    | [p], _ => exact ⟨by have := chain_one p; simpa [chainR, popT] using this, by simp [chainR]⟩
  | n + 1, l, hl, hp => by
    obtain ⟨l0, p, rfl⟩ : ∃ l0 p, l = l0 ++ [p] := ⟨l.dropLast, l.getLast (by intro h; simp [h] at hl), (List.dropLast_concat_getLast _).symm⟩
    have h0 : l0.length = n + 1 := by simp at hl; omega
    rw [List.pairwise_append] at hp
    obtain ⟨ih, hne⟩ := chain_of n l0 h0 hp.1
    have := chain_push (p := p) (fun x hx => hp.2.2 x hx p (by simp)) hne ih
    rw [chainR_snoc]
    refine ⟨?_, by simp⟩
    have e : (fun x => x ∈ l0 ∨ x = p) = (fun x => x ∈ l0 ++ [p]) := by funext x; simp
    rw [e] at this
    exact this

/-- Two chains over one set are one. -/
theorem chain_unique : ∀ (n : Nat) {S : Int × Int → Prop} {s s' : List (Int × Int)}, s.length + s'.length = n → s ≠ [] → s' ≠ [] → Chain S s → Chain S s' → s = s' := by
  intro n
  induction n using Nat.strongRecOn with
  | _ n ih =>
  intro S s s' hn h0 h0' h h'
  match s, s', h0, h0', h, h', hn with
  | b :: t, b' :: t', _, _, h, h', hn =>
    obtain rfl : b = b' := leP_antisymm (h'.top b' rfl b (h.mem b (by simp))) (h.top b rfl b' (h'.mem b' (by simp)))
    match t, t', h, h', hn with
    | [], [], _, _, _ => rfl
    | [], a :: r, h, h', _ =>
      exfalso
      have k1 := h.low b rfl a (h'.mem a (by simp))
      have k2 : lexP a b := h'.lex.1
      rcases k1 with rfl | k1
      · exact lexP_irrefl _ k2
      · exact lexP_asymm k1 k2
    | a :: r, [], h, h', _ =>
      exfalso
      have k1 := h'.low b rfl a (h.mem a (by simp))
      have k2 : lexP a b := h.lex.1
      rcases k1 with rfl | k1
      · exact lexP_irrefl _ k2
      · exact lexP_asymm k1 k2
    | a :: r, a' :: r', h, h', hn =>
      have la : lexP a b := h.lex.1
      have la' : lexP a' b := h'.lex.1
      have Sa : S a := h.mem a (by simp)
      have Sa' : S a' := h'.mem a' (by simp)
      have t1 := h.sup.1 a' Sa'
      have t2 := h'.sup.1 a Sa
      -- one step of the argument, for both sides
      have key : ∀ (x y : Int × Int) (r : List (Int × Int)), Chain S (b :: y :: r) → S x → lexP x y → lexP y b → detI (b.1 - x.1) (b.2 - x.2) (b.1 - y.1) (b.2 - y.2) = 0 → False := by
        intro x y r hc Sx lxy lyb hz
        match r, hc with
        | [], hc =>
          have := hc.low y rfl x Sx
          rcases this with rfl | this
          · exact lexP_irrefl _ lxy
          · exact lexP_asymm lxy this
        | z :: r, hc =>
          have k1 := hc.strict.1
          have k2 := hc.sup.2.1 x Sx
          have k3 : lexP z y := hc.lex.2.1
          have := det_pos (a := y.1 - x.1) (b := y.2 - x.2) (c := y.1 - z.1) (d := y.2 - z.2) (e := b.1 - y.1) (f := b.2 - y.2) lxy k3 lyb
            (by unfold turnI at k2; unfold detI at *; grind) (by unfold turnI at k1; unfold detI at *; grind)
          unfold detI at *; grind
      have hz : detI (b.1 - a.1) (b.2 - a.2) (b.1 - a'.1) (b.2 - a'.2) = 0 := by
        rw [turnI_back] at t1 t2
        rw [detI_swap (b.1 - a'.1)] at t2
        omega
      have haa : a = a' := by
        rcases lexP_total a a' with hlt | rfl | hlt
        · exact (key a a' r' h' Sa hlt la' hz).elim
        · rfl
        · exact (key a' a r h Sa' hlt la (by rw [detI_swap, hz]; rfl)).elim
      subst haa
      have hS : ∀ {u : List (Int × Int)}, Chain S (b :: a :: u) → Chain (fun x => S x ∧ leP x a) (a :: u) := by
        intro u hc
        refine ⟨?_, hc.lex.2, hc.strict.tail, Edges.mono (fun _ _ k x hx => k x hx.1) hc.sup.2, ?_, ?_⟩
        · intro x hx
          refine ⟨hc.mem x (List.mem_cons_of_mem _ hx), ?_⟩
          rcases List.mem_cons.1 hx with rfl | hx
          · exact .inl rfl
          · have : ∀ (u : List (Int × Int)) (a : Int × Int), Edges lexP (a :: u) → ∀ x ∈ u, lexP x a := by
              intro u
              induction u with
              | nil => intro a _ x hx; cases hx
              | cons c u ihu =>
                intro a hE x hx
                rcases List.mem_cons.1 hx with rfl | hx
                · exact hE.1
                · exact lexP_trans (ihu c hE.2 x hx) hE.1
            exact .inr (this u a hc.lex.2 x hx)
        · intro k hk x hx
          obtain rfl : a = k := by simpa using hk
          exact hx.2
        · intro k hk x hx
          exact hc.low k (by simpa [List.getLast?_cons_cons] using hk) x hx.1
      have := ih ((a :: r).length + (a :: r').length) (by simp at hn ⊢; omega) rfl (by simp) (by simp) (hS h) (hS h')
      rw [this]

end Go.Proofs.YtngbdopgdcjdeaaGreatDoor

namespace Go.Proofs.YtngbdopgdcjdeaaGreatDoor

/-- The coefficient of an exponent; its point. -/
def cf (zs : List Int) (i : Int) : Int := zs.getD i.toNat 0
def pt (zs : List Int) (i : Int) : Int × Int := (i, cf zs i)
def popI (zs : List Int) (i : Int) : List Int → List Int
  | b :: a :: r => if turnI (pt zs a) (pt zs b) (pt zs i) ≤ 0 then popI zs i (a :: r) else b :: a :: r
  | s => s
/-- The corners of the first k coefficients, the last one first. -/
def cornR (zs : List Int) : Nat → List Int
  | 0 => []
  | k + 1 => if cf zs k = 1000000000 then cornR zs k else (k : Int) :: popI zs k (cornR zs k)
def ptsTo (zs : List Int) : Nat → List (Int × Int)
  | 0 => []
  | k + 1 => if cf zs k = 1000000000 then ptsTo zs k else ptsTo zs k ++ [pt zs k]

theorem popI_map (zs : List Int) (i : Int) : ∀ s : List Int, (popI zs i s).map (pt zs) = popT (pt zs i) (s.map (pt zs))
  | [] => rfl
  | [_] => rfl
  | b :: a :: r => by
    simp only [popI, popT, List.map_cons]
    split
    · exact popI_map zs i (a :: r)
    · rfl
theorem popI_mem (zs : List Int) (i : Int) : ∀ (s : List Int) (x : Int), x ∈ popI zs i s → x ∈ s
  | [], x, h => h
  | [_], x, h => h
  | b :: a :: r, x, h => by
    simp only [popI] at h
    split at h
    · exact List.mem_cons_of_mem _ (popI_mem zs i (a :: r) x h)
    · exact h
theorem cornR_map (zs : List Int) : ∀ k : Nat, (cornR zs k).map (pt zs) = chainR (ptsTo zs k)
  | 0 => rfl
  | k + 1 => by
    simp only [cornR, ptsTo]
    split
    · exact cornR_map zs k
    · rw [chainR_snoc, List.map_cons, popI_map, cornR_map zs k]
theorem ptsTo_mem (zs : List Int) (x : Int × Int) : ∀ k : Nat, x ∈ ptsTo zs k ↔ ∃ j : Nat, j < k ∧ cf zs j ≠ 1000000000 ∧ x = pt zs j
  | 0 => by simp [ptsTo]
  | k + 1 => by
    have ih := ptsTo_mem zs x k
    simp only [ptsTo]
    split
    · rename_i h
      rw [ih]
      constructor
      · rintro ⟨j, h1, h2⟩; exact ⟨j, by omega, h2⟩
      · rintro ⟨j, h1, h2, h3⟩
        rcases Nat.lt_or_ge j k with hlt | hge
        · exact ⟨j, hlt, h2, h3⟩
        · obtain rfl : j = k := by omega
          exact absurd h h2
    · rename_i h
      rw [List.mem_append, ih]
      constructor
      · rintro (⟨j, h1, h2⟩ | h1)
        · exact ⟨j, by omega, h2⟩
        · exact ⟨k, by omega, h, by simpa using h1⟩
      · rintro ⟨j, h1, h2, h3⟩
        rcases Nat.lt_or_ge j k with hlt | hge
        · exact .inl ⟨j, hlt, h2, h3⟩
        · obtain rfl : j = k := by omega
          exact .inr (by simpa using h3)
theorem ptsTo_sorted (zs : List Int) : ∀ k : Nat, (ptsTo zs k).Pairwise lexP
  | 0 => .nil
  | k + 1 => by
    simp only [ptsTo]
    split
    · exact ptsTo_sorted zs k
    · refine List.pairwise_append.2 ⟨ptsTo_sorted zs k, by simp, fun x hx y hy => ?_⟩
      obtain ⟨j, h1, _, rfl⟩ := (ptsTo_mem zs x k).1 hx
      obtain rfl : y = pt zs k := by simpa using hy
      left
      simp [pt]
      omega
theorem cornR_mem (zs : List Int) : ∀ (k : Nat) (x : Int), x ∈ cornR zs k → 0 ≤ x ∧ x < k ∧ cf zs x ≠ 1000000000
  | 0, x, h => by simp [cornR] at h
  | k + 1, x, h => by
    simp only [cornR] at h
    split at h
    · have := cornR_mem zs k x h; omega
    · rename_i hk
      rcases List.mem_cons.1 h with rfl | h
      · exact ⟨by omega, by omega, hk⟩
      · have := cornR_mem zs k x (popI_mem zs _ _ _ h); omega
theorem popI_ne (zs : List Int) (i : Int) : ∀ s : List Int, s ≠ [] → popI zs i s ≠ []
  | [], h => absurd rfl h
  | [_], _ => by simp [popI]
  | b :: a :: r, _ => by
    simp only [popI]
    split
    · exact popI_ne zs i (a :: r) (by simp)
    · simp
theorem popI_last (zs : List Int) (i : Int) : ∀ s : List Int, (popI zs i s).getLast? = s.getLast?
  | [] => rfl
  | [_] => rfl
  | b :: a :: r => by
    simp only [popI]
    split
    · rw [popI_last zs i (a :: r)]; simp
    · rfl

/-- What is known of a polynomial's coefficients. -/
structure IsPol (zs : List Int) : Prop where
  pos : 1 ≤ zs.length
  num : ∀ j : Nat, j < zs.length → numB (cf zs j) = true
  top : cf zs ((zs.length - 1 : Nat) : Int) ≠ 1000000000
theorem IsPol.fin {zs : List Int} (h : IsPol zs) {x : Int} (h0 : 0 ≤ x) (h1 : x < zs.length) (h2 : cf zs x ≠ 1000000000) : -1000000 ≤ cf zs x ∧ cf zs x ≤ 1000000 := by
  have := h.num x.toNat (by omega)
  rw [Int.toNat_of_nonneg h0, numB_true] at this
  omega
theorem corn_head {zs : List Int} (h : IsPol zs) : ∃ t, cornR zs zs.length = ((zs.length - 1 : Nat) : Int) :: t := by
  obtain ⟨m, hm⟩ : ∃ m, zs.length = m + 1 := ⟨zs.length - 1, by have := h.pos; omega⟩
  have ht := h.top
  rw [hm] at ht ⊢
  simp only [Nat.add_sub_cancel] at ht ⊢
  exact ⟨_, by rw [cornR, if_neg ht]⟩
theorem corn_chain {zs : List Int} (h : IsPol zs) : Chain (fun x => ∃ j : Nat, j < zs.length ∧ cf zs j ≠ 1000000000 ∧ x = pt zs j) ((cornR zs zs.length).map (pt zs)) := by
  obtain ⟨t, ht⟩ := corn_head h
  have hne : ptsTo zs zs.length ≠ [] := by
    intro e
    have := (ptsTo_mem zs (pt zs ((zs.length - 1 : Nat) : Int)) zs.length).2 ⟨zs.length - 1, by have := h.pos; omega, h.top, rfl⟩
    rw [e] at this
    cases this
  have hc := (chain_of ((ptsTo zs zs.length).length - 1) (ptsTo zs zs.length) (by have := List.length_pos_iff.2 hne; omega) (ptsTo_sorted zs _)).1
  rw [← cornR_map] at hc
  have e : (fun x => x ∈ ptsTo zs zs.length) = (fun x => ∃ j : Nat, j < zs.length ∧ cf zs j ≠ 1000000000 ∧ x = pt zs j) := by
    funext x; rw [ptsTo_mem]
  rw [e] at hc
  exact hc

/-- The least whole number that is not below the side from i to k at j. -/
def segL (zs : List Int) (i k j : Int) : Int := -((-(cf zs i * (k - j) + cf zs k * (j - i))) / (k - i))
/-- The least coefficient at j, by the corners (the last one first). -/
def valAt (zs : List Int) (j : Int) : List Int → Int
  | k :: i :: r => if j = k then cf zs k else if i < j ∧ j < k then segL zs i k j else valAt zs j (i :: r)
  | [k] => if j = k then cf zs k else 1000000000
  | [] => 1000000000
def rtl (zs : List Int) : List Int := (List.range zs.length).map fun j : Nat => valAt zs (j : Int) (cornR zs zs.length)
theorem rtl_len (zs : List Int) : (rtl zs).length = zs.length := by simp [rtl]
theorem rtl_at {zs : List Int} {j : Nat} (h : j < zs.length) : cf (rtl zs) j = valAt zs j (cornR zs zs.length) := by
  simp [cf, rtl, List.getD, h]

theorem segL_above {zs : List Int} {i k j : Int} (h : i < k) : 0 ≤ turnI (pt zs i) (pt zs k) (j, segL zs i k j) := by
  have h1 := Int.ediv_mul_le (-(cf zs i * (k - j) + cf zs k * (j - i))) (show k - i ≠ 0 by omega)
  unfold segL turnI detI pt
  simp only
  generalize (-(cf zs i * (k - j) + cf zs k * (j - i))) / (k - i) = q at *
  grind
theorem segL_le {zs : List Int} {i k j : Int} (h : i < j) (h' : j < k) (hi : cf zs i ≤ 1000000) (hk : cf zs k ≤ 1000000) : segL zs i k j ≤ 1000000 := by
  have h1 : -1000000 ≤ (-(cf zs i * (k - j) + cf zs k * (j - i))) / (k - i) := by
    refine (Int.le_ediv_iff_mul_le (by omega)).2 ?_
    have p1 := Int.mul_le_mul_of_nonneg_right hi (show 0 ≤ k - j by omega)
    have p2 := Int.mul_le_mul_of_nonneg_right hk (show 0 ≤ j - i by omega)
    grind
  unfold segL; omega

/-- A point that is not below its own side is not below any: convexity. -/
theorem own_all {x : Int × Int} : ∀ {s : List (Int × Int)}, Edges (fun a b => a.1 < b.1) s → Strict s → Edges (fun a b => a.1 ≤ x.1 → x.1 ≤ b.1 → 0 ≤ turnI a b x) s →
    (∀ h ∈ s.head?, x.1 ≤ h.1) → (∀ h ∈ s.getLast?, h.1 ≤ x.1) → Edges (fun a b => 0 ≤ turnI a b x) s
  | [], _, _, _, _, _ => trivial
  | [_], _, _, _, _, _ => trivial
  | [b, a], _, _, ho, hh, hl => ⟨ho.1 (hl a rfl) (hh b rfl), trivial⟩
  | c :: b :: a :: r, hx, hs, ho, hh, hl => by
    by_cases hb : x.1 < b.1
    · have ih := own_all (s := b :: a :: r) hx.2 hs.2 ho.2 (fun h hh' => by obtain rfl : b = h := (by simpa using hh'); omega) (fun h hh' => hl h (by simpa [List.getLast?_cons_cons] using hh'))
      refine ⟨?_, ih⟩
      have h1 := ih.1
      have h2 := hs.1
      have := det_nonneg (a := b.1 - x.1) (b := b.2 - x.2) (c := b.1 - a.1) (d := b.2 - a.2) (e := c.1 - b.1) (f := c.2 - b.2) (.inr (.inl (by omega))) (.inl (by have := hx.2.1; omega)) (.inr (.inl (by have := hx.1; omega)))
        (by unfold turnI at h1; unfold detI at *; grind) (by unfold turnI at h2; unfold detI at *; grind)
      unfold turnI; unfold detI at *; grind
    · have h1 := ho.1 (by omega) (hh c rfl)
      refine ⟨h1, ?_⟩
      have aux : ∀ (s : List (Int × Int)) (b c : Int × Int), Edges (fun a b => a.1 < b.1) (c :: b :: s) → Strict (c :: b :: s) → b.1 ≤ x.1 → 0 ≤ turnI b c x → Edges (fun a b => 0 ≤ turnI a b x) (b :: s) := by
        intro s
        induction s with
        | nil => intro b c _ _ _ _; trivial
        | cons a r ih =>
          intro b c hx hs hbx h1
          have h2 := hs.1
          have h3 : 0 ≤ turnI a b x := by
            have := det_nonneg (a := b.1 - a.1) (b := b.2 - a.2) (c := c.1 - b.1) (d := c.2 - b.2) (e := x.1 - b.1) (f := x.2 - b.2) (.inr (.inl (by have := hx.2.1; omega))) (.inl (by have := hx.1; omega))
            by_cases he : b.1 < x.1
            · have := this (.inr (.inl (by omega))) (by unfold turnI at h2; unfold detI at *; grind) (by unfold turnI at h1; unfold detI at *; grind)
              unfold turnI; unfold detI at *; grind
            · have he' : x.1 - b.1 = 0 := by omega
              have hy : 0 ≤ x.2 - b.2 := by
                refine nonneg_of_mul (c := c.1 - b.1) (by have := hx.1; omega) ?_
                unfold turnI detI at h1
                rw [he', Int.mul_zero] at h1
                omega
              have := Int.mul_nonneg (show 0 ≤ b.1 - a.1 by have := hx.2.1; omega) hy
              have e1 : x.1 = b.1 := by omega
              unfold turnI detI
              rw [e1]
              grind
          exact ⟨h3, ih a b hx.2 hs.2 (by have := hx.2.1; omega) h3⟩
      exact aux (a :: r) b c hx hs (by omega) h1

/-- The corners, over the least coefficients. -/
theorem corn_least {zs : List Int} (h : IsPol zs) : (∀ k ∈ cornR zs zs.length, cf (rtl zs) k = cf zs k) ∧
    Chain (fun x => ∃ j : Nat, j < zs.length ∧ cf (rtl zs) j ≠ 1000000000 ∧ x = pt (rtl zs) j) ((cornR zs zs.length).map (pt (rtl zs))) := by
  have hc := corn_chain h
  have hmem := cornR_mem zs zs.length
  -- the corners fall
  have hfall : ∀ s : List Int, (∀ x ∈ s, 0 ≤ x ∧ x < zs.length ∧ cf zs x ≠ 1000000000) → Edges lexP (s.map (pt zs)) → s.Pairwise (· > ·) := by
    intro s
    induction s with
    | nil => intro _ _; exact .nil
    | cons b s ih =>
      intro hm hE
      have ih' := ih (fun x hx => hm x (List.mem_cons_of_mem _ hx)) hE.tail
      refine List.pairwise_cons.2 ⟨?_, ih'⟩
      cases s with
      | nil => intro x hx; cases hx
      | cons a r =>
        have h1 : lexP (pt zs a) (pt zs b) := hE.1
        have h2 : a < b := by
          rcases h1 with h1 | ⟨h1, h2⟩
          · simp [pt] at h1; omega
          · simp [pt] at h1 h2
            have : a = b := by omega
            subst this
            omega
        intro x hx
        rcases List.mem_cons.1 hx with rfl | hx
        · exact h2
        · have := (List.pairwise_cons.1 ih').1 x hx
          omega
  have hsort := hfall _ hmem hc.lex
  -- the values at the corners
  have hval : ∀ (s : List Int), s.Pairwise (· > ·) → ∀ k ∈ s, valAt zs k s = cf zs k := by
    intro s
    induction s with
    | nil => intro _ k hk; cases hk
    | cons b s ih =>
      intro hp k hk
      rcases List.mem_cons.1 hk with rfl | hk
      · cases s <;> simp [valAt]
      · have h1 := (List.pairwise_cons.1 hp).1 k hk
        cases s with
        | nil => cases hk
        | cons a r =>
          have h2 : k ≤ a := by
            rcases List.mem_cons.1 hk with rfl | hk
            · omega
            · have := (List.pairwise_cons.1 (List.pairwise_cons.1 hp).2).1 k hk; omega
          rw [valAt, if_neg (by omega), if_neg (by omega)]
          exact ih (List.pairwise_cons.1 hp).2 k hk
  have hv : ∀ k ∈ cornR zs zs.length, cf (rtl zs) k = cf zs k := by
    intro k hk
    have hb := hmem k hk
    have := rtl_at (zs := zs) (j := k.toNat) (by omega)
    rw [Int.toNat_of_nonneg hb.1] at this
    rw [this]
    exact hval _ hsort k hk
  refine ⟨hv, ?_⟩
  have hpt : ∀ k ∈ cornR zs zs.length, pt (rtl zs) k = pt zs k := fun k hk => by unfold pt; rw [hv k hk]
  have hmap : (cornR zs zs.length).map (pt (rtl zs)) = (cornR zs zs.length).map (pt zs) := List.map_congr_left hpt
  -- where the least coefficients are
  have hown : ∀ (s : List Int) (j : Int), s.Pairwise (· > ·) → (∀ x ∈ s, 0 ≤ x ∧ x < zs.length ∧ cf zs x ≠ 1000000000) → valAt zs j s ≠ 1000000000 →
      (∀ h ∈ s.head?, j ≤ h) ∧ (∀ h ∈ s.getLast?, h ≤ j) ∧ Edges (fun a b => a.1 ≤ j → j ≤ b.1 → 0 ≤ turnI a b (j, valAt zs j s)) (s.map (pt zs)) := by
    intro s j
    induction s with
    | nil => intro _ _ hne; exact absurd rfl hne
    | cons b s ih =>
      intro hp hm hne
      cases s with
      | nil =>
        simp only [valAt] at hne
        split at hne
        · rename_i hjb; subst hjb; exact ⟨by simp, by simp, trivial⟩
        · exact absurd rfl hne
      | cons a r =>
        have hab : b > a := (List.pairwise_cons.1 hp).1 a (by simp)
        have hlow : ∀ h ∈ (b :: a :: r).getLast?, h ≤ a := by
          intro h hh
          have hh' : h ∈ (a :: r).getLast? := by simpa [List.getLast?_cons_cons] using hh
          rcases List.mem_cons.1 (List.mem_of_getLast? hh') with rfl | hx
          · omega
          · have := (List.pairwise_cons.1 (List.pairwise_cons.1 hp).2).1 h hx; omega
        by_cases hjb : j = b
        · subst hjb
          have e : valAt zs j (j :: a :: r) = cf zs j := by simp [valAt]
          refine ⟨by simp, fun h hh => by have := hlow h hh; omega, ?_⟩
          rw [e]
          refine ⟨fun _ _ => by rw [show (j, cf zs j) = pt zs j from rfl, turnI_self]; exact Int.le_refl _, ?_⟩
          have : ∀ (t : List Int), (∀ x ∈ t, x < j) → Edges (fun a b => a.1 ≤ j → j ≤ b.1 → 0 ≤ turnI a b (j, cf zs j)) (t.map (pt zs)) := by
            intro t
            induction t with
            | nil => intro _; trivial
            | cons c t iht =>
              intro hlt
              cases t with
              | nil => trivial
              | cons d t => exact ⟨fun _ h2 => by have := hlt c (by simp); simp [pt] at h2; omega, iht (fun x hx => hlt x (List.mem_cons_of_mem _ hx))⟩
          exact this (a :: r) (fun x hx => (List.pairwise_cons.1 hp).1 x hx)
        · by_cases hin : a < j ∧ j < b
          · have e : valAt zs j (b :: a :: r) = segL zs a b j := by rw [valAt, if_neg hjb, if_pos hin]
            refine ⟨fun h hh => by obtain rfl : b = h := (by simpa using hh); omega, fun h hh => by have := hlow h hh; omega, ?_⟩
            rw [e]
            refine ⟨fun _ _ => segL_above (by omega), ?_⟩
            have : ∀ (t : List Int), (∀ x ∈ t, x < j) → Edges (fun a' b' => a'.1 ≤ j → j ≤ b'.1 → 0 ≤ turnI a' b' (j, segL zs a b j)) (t.map (pt zs)) := by
              intro t
              induction t with
              | nil => intro _; trivial
              | cons c t iht =>
                intro hlt
                cases t with
                | nil => trivial
                | cons d t => exact ⟨fun _ h2 => by have := hlt c (by simp); simp [pt] at h2; omega, iht (fun x hx => hlt x (List.mem_cons_of_mem _ hx))⟩
            refine this (a :: r) (fun x hx => ?_)
            rcases List.mem_cons.1 hx with rfl | hx
            · exact hin.1
            · have := (List.pairwise_cons.1 (List.pairwise_cons.1 hp).2).1 x hx; omega
          · have e : valAt zs j (b :: a :: r) = valAt zs j (a :: r) := by rw [valAt, if_neg hjb, if_neg hin]
            rw [e] at hne ⊢
            obtain ⟨i1, i2, i3⟩ := ih (List.pairwise_cons.1 hp).2 (fun x hx => hm x (List.mem_cons_of_mem _ hx)) hne
            have hja : j ≤ a := i1 a rfl
            exact ⟨fun h hh => by obtain rfl : b = h := (by simpa using hh); omega, fun h hh => i2 h (by simpa [List.getLast?_cons_cons] using hh), fun _ h2 => by
              by_cases hja' : j = a
              · subst hja'
                have : valAt zs j (j :: r) = cf zs j := hval _ (List.pairwise_cons.1 hp).2 j (by simp)
                rw [this, show (j, cf zs j) = pt zs j from rfl, turnI_first]
                exact Int.le_refl _
              · rename_i h1
                simp [pt] at h1; omega, i3⟩
  have hfst : ∀ s : List Int, s.Pairwise (· > ·) → Edges (fun a b => a.1 < b.1) (s.map (pt zs)) := by
    intro s
    induction s with
    | nil => intro _; trivial
    | cons b s ih =>
      intro hp
      cases s with
      | nil => trivial
      | cons a r => exact ⟨by have := (List.pairwise_cons.1 hp).1 a (by simp); simp [pt]; omega, ih (List.pairwise_cons.1 hp).2⟩
  have hside : ∀ x, (∃ j : Nat, j < zs.length ∧ cf (rtl zs) j ≠ 1000000000 ∧ x = pt (rtl zs) j) →
      (∀ h ∈ (cornR zs zs.length).head?, x.1 ≤ h) ∧ (∀ h ∈ (cornR zs zs.length).getLast?, h ≤ x.1) ∧ Edges (fun a b => 0 ≤ turnI a b x) ((cornR zs zs.length).map (pt zs)) := by
    rintro x ⟨j, hj, hne, rfl⟩
    rw [rtl_at hj] at hne
    obtain ⟨i1, i2, i3⟩ := hown _ (j : Int) hsort hmem hne
    have e : pt (rtl zs) (j : Int) = ((j : Int), valAt zs j (cornR zs zs.length)) := by unfold pt; rw [rtl_at hj]
    rw [e]
    refine ⟨i1, i2, own_all (hfst _ hsort) hc.strict i3 ?_ ?_⟩
    · intro h hh
      simp only [List.head?_map, Option.mem_def, Option.map_eq_some_iff] at hh
      obtain ⟨k, hk, rfl⟩ := hh
      exact i1 k hk
    · intro h hh
      simp only [List.getLast?_map, Option.mem_def, Option.map_eq_some_iff] at hh
      obtain ⟨k, hk, rfl⟩ := hh
      exact i2 k hk
  have hcmp : ∀ {a b : Int × Int}, a.1 ≤ b.1 → (a.1 = b.1 → a = b) → leP a b := by
    intro a b h1 h2
    by_cases he : a.1 = b.1
    · exact .inl (h2 he)
    · exact .inr (.inl (by omega))
  rw [hmap]
  refine ⟨?_, hc.lex, hc.strict, ?_, ?_, ?_⟩
  · intro x hx
    simp only [List.mem_map] at hx
    obtain ⟨k, hk, rfl⟩ := hx
    have hb := hmem k hk
    refine ⟨k.toNat, by omega, ?_, ?_⟩
    · rw [Int.toNat_of_nonneg hb.1, hv k hk]; exact hb.2.2
    · rw [Int.toNat_of_nonneg hb.1, hpt k hk]
  · have : ∀ (t : List (Int × Int)) (Sx : Int × Int → Prop), (∀ x, Sx x → Edges (fun a b => 0 ≤ turnI a b x) t) → Edges (fun a b => ∀ x, Sx x → 0 ≤ turnI a b x) t := by
      intro t Sx
      induction t with
      | nil => intro _; trivial
      | cons b t iht =>
        intro hall
        cases t with
        | nil => trivial
        | cons a t => exact ⟨fun x hx => (hall x hx).1, iht (fun x hx => (hall x hx).2)⟩
    exact this _ _ (fun x hx => (hside x hx).2.2)
  · intro h hh x hx
    simp only [List.head?_map, Option.mem_def, Option.map_eq_some_iff] at hh
    obtain ⟨k, hk, rfl⟩ := hh
    have h1 := (hside x hx).1 k hk
    obtain ⟨j, hj, hne, rfl⟩ := hx
    refine hcmp h1 fun he => ?_
    have : (j : Int) = k := he
    rw [this, hpt k (List.mem_of_mem_head? hk)]
  · intro h hh x hx
    simp only [List.getLast?_map, Option.mem_def, Option.map_eq_some_iff] at hh
    obtain ⟨k, hk, rfl⟩ := hh
    have h1 := (hside x hx).2.1 k hk
    obtain ⟨j, hj, hne, rfl⟩ := hx
    refine hcmp h1 fun he => ?_
    have : k = (j : Int) := he
    rw [← this, hpt k (List.mem_of_getLast? hk)]

/-- Two polynomials have the same least coefficients just where they have the same corners with the same coefficients. -/
theorem same_function {zs ys : List Int} (hz : IsPol zs) (hy : IsPol ys) : rtl zs = rtl ys ↔ cornR zs zs.length = cornR ys ys.length ∧ ∀ k ∈ cornR zs zs.length, cf zs k = cf ys k := by
  constructor
  · intro h
    have hl : zs.length = ys.length := by rw [← rtl_len zs, h, rtl_len]
    obtain ⟨v1, c1⟩ := corn_least hz
    obtain ⟨v2, c2⟩ := corn_least hy
    rw [← h, ← hl] at c2
    have hne : ∀ ws : List Int, IsPol ws → ∀ r, (cornR ws ws.length).map (pt r) ≠ [] := by
      intro ws hw r
      obtain ⟨t, ht⟩ := corn_head hw
      rw [ht]; simp
    have := chain_unique _ rfl (hne zs hz _) (by have := hne ys hy (rtl zs); rw [← hl] at this; exact this) c1 c2
    have e : cornR zs zs.length = cornR ys ys.length := by
      have h2 := congrArg (List.map Prod.fst) this
      simp only [List.map_map] at h2
      have e1 : (Prod.fst ∘ pt (rtl zs)) = id := by funext i; rfl
      rw [e1, List.map_id, List.map_id] at h2
      rw [h2, hl]
    refine ⟨e, fun k hk => ?_⟩
    rw [← v1 k hk, h]
    exact v2 k (by rw [← e]; exact hk)
  · rintro ⟨e, hv⟩
    obtain ⟨t1, h1⟩ := corn_head hz
    obtain ⟨t2, h2⟩ := corn_head hy
    have hl : zs.length = ys.length := by
      have : ((zs.length - 1 : Nat) : Int) = ((ys.length - 1 : Nat) : Int) := by
        have h3 := e
        rw [h1, h2] at h3
        exact (List.cons.inj h3).1
      have := hz.pos
      have := hy.pos
      omega
    have hva : ∀ (s : List Int) (j : Int), (∀ k ∈ s, cf zs k = cf ys k) → valAt zs j s = valAt ys j s := by
      intro s j
      induction s with
      | nil => intro _; rfl
      | cons b s ih =>
        intro hs
        cases s with
        | nil => simp only [valAt]; rw [hs b (by simp)]
        | cons a r =>
          simp only [valAt]
          rw [ih (fun k hk => hs k (List.mem_cons_of_mem _ hk)), hs b (by simp)]
          unfold segL
          rw [hs b (by simp), hs a (by simp)]
    unfold rtl
    rw [← e, ← hl]
    exact List.map_congr_left fun j _ => hva _ _ hv

end Go.Proofs.YtngbdopgdcjdeaaGreatDoor

namespace Go.Proofs.YtngbdopgdcjdeaaGreatDoor
open Go.RowKit

/-- The cells of a slice whose address is known. -/
theorem Reads.cells {w : World} {b off size n : Nat} {xs : List Value} (h : Reads w (some ⟨b, off, none⟩) size n xs) : ∀ j u, xs[j]? = some u → w.cell? ⟨b, off + j, none⟩ = some u := by
  intro j u hu
  have hn : 0 < n := by
    rcases Nat.eq_zero_or_pos n with h0 | h0
    · have h1 := h.1
      rw [h0, Nat.zero_mul] at h1
      rw [List.eq_nil_of_length_eq_zero h1] at hu
      simp at hu
    · exact h0
  obtain ⟨b', off', e, hc⟩ := h.2 hn
  simp only [Option.some.injEq, Addr.mk.injEq, and_true] at e
  obtain ⟨rfl, rfl⟩ := e
  exact hc j u hu
/-- What a slice of pairs holds, as cells. -/
def pv : List (Int × Int) → List Value
  | [] => []
  | r :: rs => .int .i64 r.1 :: .int .i64 r.2 :: pv rs
theorem pv_len : ∀ zs : List (Int × Int), (pv zs).length = zs.length * 2
  | [] => rfl
  | _ :: rs => by simp only [pv, List.length_cons, pv_len rs]; omega
/-- The pair at a place. -/
def pat (zs : List (Int × Int)) (k : Nat) : Int × Int := zs.getD k (0, 0)
theorem pat_eq {zs : List (Int × Int)} {k : Nat} (h : k < zs.length) : pat zs k = zs[k] := by simp [pat, List.getD, h]
theorem pv_at : ∀ {zs : List (Int × Int)} {k : Nat}, k < zs.length → (pv zs)[k * 2]? = some (.int .i64 (pat zs k).1) ∧ (pv zs)[k * 2 + 1]? = some (.int .i64 (pat zs k).2)
  | [], _, h => by simp at h
  | r :: rs, 0, _ => ⟨rfl, rfl⟩
  | r :: rs, k + 1, h => by
    have ih := pv_at (zs := rs) (k := k) (by simpa using h)
    have e : (k + 1) * 2 = k * 2 + 1 + 1 := by omega
    have e2 : pat (r :: rs) (k + 1) = pat rs k := by simp [pat, List.getD]
    rw [e, e2]
    exact ih
theorem pv_append : ∀ xs ys : List (Int × Int), pv (xs ++ ys) = pv xs ++ pv ys
  | [], _ => rfl
  | r :: rs, ys => by simp [pv, pv_append rs ys]
theorem pv_take : ∀ (zs : List (Int × Int)) (k : Nat), (pv zs).take (k * 2) = pv (zs.take k)
  | _, 0 => by simp [pv]
  | [], k + 1 => by simp [pv]
  | r :: rs, k + 1 => by
    have e : (k + 1) * 2 = k * 2 + 1 + 1 := by omega
    rw [e]
    simp [pv, pv_take rs k]
theorem pv_set2 : ∀ (l : List (Int × Int)) (j : Nat) (a b : Int), j < l.length → ((pv l).set (j * 2) (.int .i64 a)).set (j * 2 + 1) (.int .i64 b) = pv (l.set j (a, b))
  | [], _, _, _, h => by simp at h
  | r :: rs, 0, _, _, _ => rfl
  | r :: rs, j + 1, a, b, h => by
    have ih := pv_set2 rs j a b (by simpa using h)
    have e : (j + 1) * 2 = j * 2 + 1 + 1 := by omega
    rw [e]
    simp only [pv, List.set_cons_succ]
    exact congrArg _ (congrArg _ ih)
theorem pv_one : ∀ (zs : List (Int × Int)) (u : Value), u ∈ pv zs → u.oneCell' = true
  | [], u, h => by simp [pv] at h
  | r :: rs, u, h => by
    simp only [pv, List.mem_cons] at h
    rcases h with rfl | rfl | h
    · rfl
    · rfl
    · exact pv_one rs u h
/-- The marks that a law lays into a slice of pairs. -/
def pmarks (k : Int) (n : Nat) : List (Int × Int) := (List.range n).map fun i : Nat => (k + 2 * (i : Int), k + 2 * (i : Int) + 1)
theorem pmarks_len (k : Int) (n : Nat) : (pmarks k n).length = n := by simp [pmarks]
theorem pmarks_at {k : Int} {n i : Nat} (h : i < n) : pat (pmarks k n) i = (k + 2 * (i : Int), k + 2 * (i : Int) + 1) := by simp [pat, pmarks, List.getD, h]
theorem pmarks_step {zs : List (Int × Int)} {k : Int} {i : Nat} (h : i < zs.length) : ((pmarks k i ++ zs.drop i).set i (k + 2 * (i : Int), k + 2 * (i : Int) + 1)) = pmarks k (i + 1) ++ zs.drop (i + 1) := by
  have e : (pmarks k i).length = i := pmarks_len k i
  rw [List.set_append_right _ _ (by omega), e, Nat.sub_self, List.drop_eq_getElem_cons h, List.set_cons_zero]
  simp [pmarks, List.range_succ]

/-- The cells of a slice of pairs, read at a place. -/
theorem Reads.pair {w : World} {a : Option Addr} {n : Nat} {zs : List (Int × Int)} (h : Reads w a 2 n (pv zs)) {k : Nat} (hk : k < n) :
    ∃ b off, a = some ⟨b, off, none⟩ ∧ w.cell? ⟨b, off + k * 2, none⟩ = some (.int .i64 (pat zs k).1) ∧ w.cell? ⟨b, off + k * 2 + 1, none⟩ = some (.int .i64 (pat zs k).2) := by
  have hl : zs.length = n := by have := h.1; rw [pv_len] at this; omega
  obtain ⟨b, off, ha, hc⟩ := h.2 (by omega)
  have h3 := pv_at (zs := zs) (k := k) (by omega)
  exact ⟨b, off, ha, hc _ _ h3.1, hc _ _ h3.2⟩

theorem point_info : (Tryz.prog.info? 55).map (fun i => (i.zero, i.size, i.bytes)) = some (some (.agg #[.int .i64 0, .int .i64 0]), 2, 16) := by kernel_rfl

end Go.Proofs.YtngbdopgdcjdeaaGreatDoor

namespace Go.Proofs.YtngbdopgdcjdeaaGreatDoor
open Go.RowKit

theorem snoc_ind {α : Type} {P : List α → Prop} (h0 : P []) (h1 : ∀ l x, P l → P (l ++ [x])) (l : List α) : P l := by
  have h : ∀ n (l : List α), l.length = n → P l := by
    intro n
    induction n with
    | zero => intro l hl; rw [List.eq_nil_of_length_eq_zero hl]; exact h0
    | succ n ih =>
      intro l hl
      have hne : l ≠ [] := by intro e; rw [e] at hl; simp at hl
      rw [← List.dropLast_concat_getLast hne]
      exact h1 _ _ (ih _ (by rw [List.length_dropLast]; omega))
  exact h _ l rfl
theorem cell_fresh {w : World} {n : Nat} (h : n = w.heap.size) (v : Value) (t : TypeId) : (w.alloc (.cells #[v] t)).cell? ⟨n, 0, none⟩ = some v := by
  subst h; simp
theorem own_cap {w : World} {B : Nat} {E : TypeId} {size : Nat} {a : Option Addr} {n c : Nat} {xs : List Value} (k : w.ownsRow B E size (.slice a n c) n xs) : n ≤ c ∧ c ≤ maxLen := by
  rcases k.2 with ⟨h, h0⟩ | ⟨g, cap, cur, hv, hb, _, r1, r2, _⟩
  · simp only [Value.slice.injEq] at h; omega
  · simp only [Value.slice.injEq, true_and] at hv
    omega
/-- How many elements a slice value has. -/
def slLen : Value → Nat
  | .slice _ n _ => n
  | _ => 0
theorem popI_len (zs : List Int) (i : Int) : ∀ s : List Int, (popI zs i s).length ≤ s.length
  | [] => Nat.le_refl _
  | [_] => Nat.le_refl _
  | b :: a :: r => by
    simp only [popI]
    split
    · have := popI_len zs i (a :: r); simp at this ⊢; omega
    · simp
theorem cornR_len (zs : List Int) : ∀ k : Nat, (cornR zs k).length ≤ k
  | 0 => by simp [cornR]
  | k + 1 => by
    have ih := cornR_len zs k
    simp only [cornR]
    split
    · omega
    · have := popI_len zs k (cornR zs k); simp; omega
theorem iv_top (b : Int) (r : List Int) : (iv (b :: r).reverse)[r.length]? = some (.int .i64 b) := by
  simp [iv]
theorem iv_two (b a : Int) (r : List Int) : (iv (b :: a :: r).reverse)[r.length]? = some (.int .i64 a) := by
  simp [iv]
theorem iv_pop (b : Int) (r : List Int) : iv (b :: r).reverse = iv r.reverse ++ [.int .i64 b] := by simp [iv]
theorem cf_at {zs : List Int} {k : Nat} (h : k < zs.length) : (iv zs)[k]? = some (.int .i64 (cf zs k)) := by
  have := iv_at h
  simpa [cf] using this
theorem num_bd {z : Int} (h : numB z = true) (hne : z ≠ 1000000000) : -1000000 ≤ z ∧ z ≤ 1000000 := by
  rw [numB_true] at h; omega
theorem turn_le {zs : List Int} {a b i : Int} : turnI (pt zs a) (pt zs b) (pt zs i) ≤ 0 ↔ ¬ ((cf zs b - cf zs a) * (i - a) < (cf zs i - cf zs a) * (b - a)) := by
  unfold turnI detI pt
  simp only
  have e : (b - a) * (cf zs i - cf zs a) = (cf zs i - cf zs a) * (b - a) := Int.mul_comm _ _
  omega
/-- The finite places, in their order; the corners by them. -/
def finI (zs : List Int) : Nat → List Int
  | 0 => []
  | k + 1 => if cf zs k = 1000000000 then finI zs k else finI zs k ++ [(k : Int)]
def cornF (zs : List Int) (l : List Int) : List Int := l.foldl (fun s i => i :: popI zs i s) []
theorem cornF_snoc (zs l : List Int) (i : Int) : cornF zs (l ++ [i]) = i :: popI zs i (cornF zs l) := by simp [cornF, List.foldl_append]
theorem cornF_fin (zs : List Int) : ∀ k : Nat, cornF zs (finI zs k) = cornR zs k
  | 0 => rfl
  | k + 1 => by
    simp only [finI, cornR]
    split
    · exact cornF_fin zs k
    · rw [cornF_snoc, cornF_fin zs k]
theorem finI_len (zs : List Int) : ∀ k : Nat, (finI zs k).length ≤ k
  | 0 => by simp [finI]
  | k + 1 => by
    have := finI_len zs k
    simp only [finI]
    split <;> simp <;> omega
theorem finI_mem (zs : List Int) : ∀ (k : Nat) (x : Int), x ∈ finI zs k → 0 ≤ x ∧ x < k ∧ cf zs x ≠ 1000000000
  | 0, x, h => by simp [finI] at h
  | k + 1, x, h => by
    simp only [finI] at h
    split at h
    · have := finI_mem zs k x h; omega
    · rename_i hk
      rcases List.mem_append.1 h with h | h
      · have := finI_mem zs k x h; omega
      · obtain rfl : x = k := by simpa using h
        exact ⟨by omega, by omega, hk⟩
theorem finI_sorted (zs : List Int) : ∀ k : Nat, (finI zs k).Pairwise (· < ·)
  | 0 => .nil
  | k + 1 => by
    simp only [finI]
    split
    · exact finI_sorted zs k
    · refine List.pairwise_append.2 ⟨finI_sorted zs k, by simp, fun x hx y hy => ?_⟩
      have := finI_mem zs k x hx
      obtain rfl : y = k := by simpa using hy
      omega
theorem cornF_mem (zs : List Int) : ∀ (l : List Int) (x : Int), x ∈ cornF zs l → x ∈ l := by
  refine snoc_ind (P := fun l => ∀ x ∈ cornF zs l, x ∈ l) (by intro x hx; simp [cornF] at hx) ?_
  intro l i ih x hx
  rw [cornF_snoc] at hx
  rcases List.mem_cons.1 hx with rfl | hx
  · simp
  · exact List.mem_append_left _ (ih x (popI_mem zs _ _ _ hx))
theorem cornF_len (zs : List Int) (l : List Int) : (cornF zs l).length ≤ l.length := by
  refine snoc_ind (P := fun l => (cornF zs l).length ≤ l.length) (by simp [cornF]) ?_ l
  intro l i ih
  rw [cornF_snoc]
  have := popI_len zs i (cornF zs l)
  simp; omega

end Go.Proofs.YtngbdopgdcjdeaaGreatDoor

namespace Go.Proofs.YtngbdopgdcjdeaaGreatDoor
open Go.RowKit

theorem dec_take {zs ys : List Int} {k : Nat} (hz : k < zs.length) (hy : k < ys.length) (h : zs.take k = ys.take k) (e : zs.getD k 0 = ys.getD k 0) : zs.take (k + 1) = ys.take (k + 1) := by
  rw [List.take_succ_eq_append_getElem hz, List.take_succ_eq_append_getElem hy, h]
  simp [List.getD, hz, hy] at e
  rw [e]
theorem ne_at {zs ys : List Int} {k : Nat} (e : zs.getD k 0 ≠ ys.getD k 0) : zs ≠ ys := by rintro rfl; exact e rfl

set_option maxHeartbeats 1000000 in
theorem l1Same_any (a a' : Option Addr) (n n' c c' : Nat) (zs ys : List Int) (hn : n ≤ 1073741824) (hn' : n' ≤ 1073741824) (w : World) (h : Reads w a 1 n (iv zs)) (h' : Reads w a' 1 n' (iv ys)) :
    Calls Tryz.prog 37 #[.slice a n c, .slice a' n' c'] w fun r w' => r = .returned (.bool (decide (zs = ys))) ∧ Ext w w' := by
  have hl : zs.length = n := by have := h.1; rw [iv_len] at this; omega
  have hl' : ys.length = n' := by have := h'.1; rw [iv_len] at this; omega
  subst hl
  subst hl'
  by_cases hll : zs.length = ys.length
  rotate_left
  · have hd : decide (zs = ys) = false := decide_eq_false (fun e => hll (by rw [e]))
    have hne : ((zs.length : Int) != (ys.length : Int)) = true := by simp; omega
    have hne2 : ((zs.length : Int) == (ys.length : Int)) = false := by simp; omega
    rw [hd]
    have HL := Lib.hid hll
    clear hll hd
    go_enter Tryz.func37, Tryz.ntmps37
    go_wp2
    go_ret
    exact ⟨rfl, Ext.refl _⟩
  · obtain ⟨d, hd⟩ : ∃ d, d = decide (zs = ys) := ⟨_, rfl⟩
    rw [← hd]
    have HD := Lib.hid hd
    have HL := Lib.hid hll
    obtain ⟨m, hm⟩ : ∃ m, m = ys.length := ⟨_, rfl⟩
    have HM := Lib.hid hm
    rw [hll, ← hm] at h hn
    rw [← hm] at h'
    rw [show zs.length = m by omega, show ys.length = m by omega]
    clear hd hll hm hn'
    go_enter Tryz.func37, Tryz.ntmps37
    go_wp2
    go_loopw [13] (fun t wr => ∃ k : Nat, k ≤ m ∧ t = .int .i64 k ∧ Hid (zs.take k = ys.take k) ∧ Ext w wr) (fun t _ => m - (intOf t).toNat)
    case atStart => exact ⟨0, Nat.zero_le _, rfl, Lib.hid (by simp), Ext.refl _⟩
    case round =>
      obtain ⟨k, hk, rfl, hT, hE⟩ := hrel
      by_cases hlt : k < m
      · have hlz : k < zs.length := by have := HL.out; have := HM.out; omega
        have hly : k < ys.length := by have := HM.out; omega
        obtain ⟨b, off, rfl, hcell⟩ := (Reads.ext hE h).2 (by omega)
        obtain ⟨b', off', rfl, hcell'⟩ := (Reads.ext hE h').2 (by omega)
        have hck := hcell k _ (iv_at hlz)
        have hck' := hcell' k _ (iv_at hly)
        have HS := Lib.hid (fun e => dec_take hlz hly hT.out e)
        have HN := Lib.hid (fun e => (decide_eq_false (ne_at (zs := zs) (ys := ys) (k := k) e)))
        generalize zs.getD k 0 = x at *
        generalize ys.getD k 0 = y at *
        clear hcell hcell' h h'
        by_cases hxy : x = y
        · have HS2 := Lib.hid (HS.out hxy)
          clear HS HN
          subst hxy
          go_wp2
          go_quiet (fail)
          go_wp2
          go_roundw
          case rel => exact ⟨k + 1, by omega, by go_num, HS2, hE.drewN _⟩
          case measure => simp [intOf]; omega
        · have HF := Lib.hid (HD.out.trans (HN.out hxy))
          have hxy2 : (x != y) = true := by simpa using hxy
          have HX := Lib.hid hxy
          clear hxy HS HN
          go_wp2
          go_quiet (fail)
          go_wp2
          go_ret
          exact ⟨ret_bool HF.out.symm, hE.drewN _⟩
      · have HT : Hid (d = true) := by
          show d = true
          rw [HD.out]
          refine decide_eq_true ?_
          have h1 := hT.out
          have h2 := HL.out
          have h3 := HM.out
          rwa [List.take_of_length_le (by omega), List.take_of_length_le (by omega)] at h1
        go_wp2
        go_ret
        exact ⟨ret_bool HT.out.symm, hE⟩

set_option maxHeartbeats 1000000 in
theorem slicesEqual_any (a a' : Option Addr) (n n' c c' : Nat) (zs ys : List Int) (hn : n ≤ 1073741824) (hn' : n' ≤ 1073741824) (w : World) (h : Reads w a 1 n (iv zs)) (h' : Reads w a' 1 n' (iv ys)) :
    Calls Tryz.prog 49 #[.slice a n c, .slice a' n' c'] w fun r w' => r = .returned (.bool (decide (zs = ys))) ∧ Ext w w' := by
  have hl : zs.length = n := by have := h.1; rw [iv_len] at this; omega
  have hl' : ys.length = n' := by have := h'.1; rw [iv_len] at this; omega
  subst hl
  subst hl'
  by_cases hll : zs.length = ys.length
  rotate_left
  · have hd : decide (zs = ys) = false := decide_eq_false (fun e => hll (by rw [e]))
    have hne : ((zs.length : Int) != (ys.length : Int)) = true := by simp; omega
    have hne2 : ((zs.length : Int) == (ys.length : Int)) = false := by simp; omega
    rw [hd]
    have HL := Lib.hid hll
    clear hll hd
    go_enter Tryz.func49, Tryz.ntmps49
    go_wp2
    go_ret
    exact ⟨rfl, Ext.refl _⟩
  · obtain ⟨d, hd⟩ : ∃ d, d = decide (zs = ys) := ⟨_, rfl⟩
    rw [← hd]
    have HD := Lib.hid hd
    have HL := Lib.hid hll
    obtain ⟨m, hm⟩ : ∃ m, m = ys.length := ⟨_, rfl⟩
    have HM := Lib.hid hm
    rw [hll, ← hm] at h hn
    rw [← hm] at h'
    rw [show zs.length = m by omega, show ys.length = m by omega]
    clear hd hll hm hn'
    go_enter Tryz.func49, Tryz.ntmps49
    go_wp2
    go_loopw [13] (fun t wr => ∃ k : Nat, k ≤ m ∧ t = .int .i64 k ∧ Hid (zs.take k = ys.take k) ∧ Ext w wr) (fun t _ => m - (intOf t).toNat)
    case atStart => exact ⟨0, Nat.zero_le _, rfl, Lib.hid (by simp), Ext.refl _⟩
    case round =>
      obtain ⟨k, hk, rfl, hT, hE⟩ := hrel
      by_cases hlt : k < m
      · have hlz : k < zs.length := by have := HL.out; have := HM.out; omega
        have hly : k < ys.length := by have := HM.out; omega
        obtain ⟨b, off, rfl, hcell⟩ := (Reads.ext hE h).2 (by omega)
        obtain ⟨b', off', rfl, hcell'⟩ := (Reads.ext hE h').2 (by omega)
        have hck := hcell k _ (iv_at hlz)
        have hck' := hcell' k _ (iv_at hly)
        have HS := Lib.hid (fun e => dec_take hlz hly hT.out e)
        have HN := Lib.hid (fun e => (decide_eq_false (ne_at (zs := zs) (ys := ys) (k := k) e)))
        generalize zs.getD k 0 = x at *
        generalize ys.getD k 0 = y at *
        clear hcell hcell' h h'
        by_cases hxy : x = y
        · have HS2 := Lib.hid (HS.out hxy)
          clear HS HN
          subst hxy
          go_wp2
          go_quiet (fail)
          go_wp2
          go_roundw
          case rel => exact ⟨k + 1, by omega, by go_num, HS2, hE.drewN _⟩
          case measure => simp [intOf]; omega
        · have HF := Lib.hid (HD.out.trans (HN.out hxy))
          have hxy2 : (x != y) = true := by simpa using hxy
          have HX := Lib.hid hxy
          clear hxy HS HN
          go_wp2
          go_quiet (fail)
          go_wp2
          go_ret
          exact ⟨ret_bool HF.out.symm, hE.drewN _⟩
      · have HT : Hid (d = true) := by
          show d = true
          rw [HD.out]
          refine decide_eq_true ?_
          have h1 := hT.out
          have h2 := HL.out
          have h3 := HM.out
          rwa [List.take_of_length_le (by omega), List.take_of_length_le (by omega)] at h1
        go_wp2
        go_ret
        exact ⟨ret_bool HT.out.symm, hE⟩

theorem floor_tdiv {a b : Int} (hb : 0 < b) : a / b = if a < 0 ∧ a.tmod b ≠ 0 then a.tdiv b - 1 else a.tdiv b := by
  have h1 := Int.tdiv_eq_ediv (a := a) (b := b)
  have h2 := Int.mul_tdiv_add_tmod a b
  have h3 : b.sign = 1 := Int.sign_eq_one_of_pos hb
  by_cases ha : 0 ≤ a
  · rw [if_neg (by omega)]
    rw [if_pos (.inl ha)] at h1
    omega
  · by_cases hd : b ∣ a
    · have hm : a.tmod b = 0 := Int.tmod_eq_zero_of_dvd hd
      rw [if_neg (by intro h; exact h.2 hm)]
      rw [if_pos (.inr hd)] at h1
      omega
    · have hm : a.tmod b ≠ 0 := fun e => hd (Int.dvd_of_tmod_eq_zero e)
      rw [if_pos ⟨by omega, hm⟩]
      rw [if_neg (by intro h; rcases h with h | h; exact ha h; exact hd h), h3] at h1
      omega

/-- The corners rise. -/
theorem corn_rise {zs : List Int} : (cornR zs zs.length).Pairwise (· > ·) := by
  have hgen : ∀ (k : Nat), (cornR zs k).Pairwise (· > ·) := by
    intro k
    induction k with
    | zero => exact .nil
    | succ k ih =>
      simp only [cornR]
      split
      · exact ih
      · refine List.pairwise_cons.2 ⟨fun x hx => ?_, ?_⟩
        · have := cornR_mem zs k x (popI_mem zs _ _ _ hx); omega
        · have : ∀ s : List Int, s.Pairwise (· > ·) → (popI zs k s).Pairwise (· > ·) := by
            intro s
            induction s with
            | nil => intro h; exact h
            | cons b s ihs =>
              intro h
              cases s with
              | nil => exact h
              | cons a r =>
                simp only [popI]
                split
                · exact ihs (List.pairwise_cons.1 h).2
                · exact h
          exact this _ ih
  exact hgen _

end Go.Proofs.YtngbdopgdcjdeaaGreatDoor

namespace Go.Proofs.YtngbdopgdcjdeaaGreatDoor
open Go.RowKit

theorem toTerm_any (a b c : Int) (w : World) :
    Calls Tryz.prog 13 #[.agg #[.int .i64 a, .int .i64 b, .int .i64 c]] w fun r w' => r = .returned (.agg #[.int .i64 a, .int .i64 b, .int .i64 c]) ∧ Ext w w' := by
  go_enter Tryz.func13, Tryz.ntmps13
  go_wp2
  refine bodyPost_ret (v := .agg #[.int .i64 a, .int .i64 b, .int .i64 c]) (by simp [results, Tryz.results13, go_sem]) rfl ⟨rfl, (by repeat (first | exact Ext.refl _ | assumption | apply Ext.alloc | apply Ext.drew | apply Ext.drewN | (refine Ext.trans ?_ (by assumption)) | (refine Ext.setCell ?_ (by (try simp) <;> omega) _)))⟩

theorem eqTerm_same (a b c : Int) (w : World) :
    Calls Tryz.prog 17 #[.agg #[.int .i64 a, .int .i64 b, .int .i64 c], .agg #[.int .i64 a, .int .i64 b, .int .i64 c]] w fun r w' => r = .returned (.bool true) ∧ Ext w w' := by
  go_enter Tryz.func17, Tryz.ntmps17
  go_wp2
  go_ret
  exact ⟨rfl, (by repeat (first | exact Ext.refl _ | assumption | apply Ext.alloc | apply Ext.drew | apply Ext.drewN | (refine Ext.trans ?_ (by assumption)) | (refine Ext.setCell ?_ (by (try simp) <;> omega) _)))⟩

end Go.Proofs.YtngbdopgdcjdeaaGreatDoor

namespace Go.Proofs.YtngbdopgdcjdeaaGreatDoor
open Go.RowKit

/-- What a slice of triples holds, as cells. -/
def tv : List (Int × Int × Int) → List Value
  | [] => []
  | r :: rs => .int .i64 r.1 :: .int .i64 r.2.1 :: .int .i64 r.2.2 :: tv rs
theorem tv_len : ∀ zs : List (Int × Int × Int), (tv zs).length = zs.length * 3
  | [] => rfl
  | _ :: rs => by simp only [tv, List.length_cons, tv_len rs]; omega
/-- The triple at a place. -/
def tat (zs : List (Int × Int × Int)) (k : Nat) : Int × Int × Int := zs.getD k (0, 0, 0)
theorem tv_at : ∀ {zs : List (Int × Int × Int)} {k : Nat}, k < zs.length → (tv zs)[k * 3]? = some (.int .i64 (tat zs k).1) ∧ (tv zs)[k * 3 + 1]? = some (.int .i64 (tat zs k).2.1) ∧ (tv zs)[k * 3 + 2]? = some (.int .i64 (tat zs k).2.2)
  | [], _, h => by simp at h
  | r :: rs, 0, _ => ⟨rfl, rfl, rfl⟩
  | r :: rs, k + 1, h => by
    have ih := tv_at (zs := rs) (k := k) (by simpa using h)
    have e : (k + 1) * 3 = k * 3 + 1 + 1 + 1 := by omega
    have e2 : tat (r :: rs) (k + 1) = tat rs k := by simp [tat, List.getD]
    rw [e, e2]
    exact ih
theorem tv_append : ∀ xs ys : List (Int × Int × Int), tv (xs ++ ys) = tv xs ++ tv ys
  | [], _ => rfl
  | r :: rs, ys => by simp [tv, tv_append rs ys]
theorem tv_take : ∀ (zs : List (Int × Int × Int)) (k : Nat), (tv zs).take (k * 3) = tv (zs.take k)
  | _, 0 => by simp [tv]
  | [], k + 1 => by simp [tv]
  | r :: rs, k + 1 => by
    have e : (k + 1) * 3 = k * 3 + 1 + 1 + 1 := by omega
    rw [e]
    simp [tv, tv_take rs k]
theorem take_set3 {xs ys : List Value} {k m : Nat} {a b c : Value} (hy : ys.length = m) (hk : k * 3 + 2 < m) (h : ys.take (k * 3) = xs.take (k * 3)) (h0 : xs[k * 3]? = some a) (h1 : xs[k * 3 + 1]? = some b) (h2 : xs[k * 3 + 2]? = some c) :
    (((ys.set (k * 3) a).set (k * 3 + 1) b).set (k * 3 + 2) c).take ((k + 1) * 3) = xs.take ((k + 1) * 3) := by
  apply List.ext_getElem?
  intro i
  rw [List.getElem?_take, List.getElem?_take]
  by_cases hi : i < (k + 1) * 3
  · rw [if_pos hi, if_pos hi]
    rcases Nat.lt_or_ge i (k * 3) with hlt | hge
    · have e := congrArg (fun l => l[i]?) h
      simp only [List.getElem?_take, if_pos hlt] at e
      rw [List.getElem?_set_ne (by omega), List.getElem?_set_ne (by omega), List.getElem?_set_ne (by omega), e]
    · have h3 : i = k * 3 ∨ i = k * 3 + 1 ∨ i = k * 3 + 2 := by omega
      rcases h3 with rfl | rfl | rfl
      · rw [List.getElem?_set_ne (by omega), List.getElem?_set_ne (by omega), List.getElem?_set_self (by omega), h0]
      · rw [List.getElem?_set_ne (by omega), List.getElem?_set_self (by simp; omega), h1]
      · rw [List.getElem?_set_self (by simp; omega), h2]
  · rw [if_neg hi, if_neg hi]

theorem tv_set3 : ∀ (l : List (Int × Int × Int)) (j : Nat) (a b c : Int), j < l.length → (((tv l).set (j * 3) (.int .i64 a)).set (j * 3 + 1) (.int .i64 b)).set (j * 3 + 2) (.int .i64 c) = tv (l.set j (a, b, c))
  | [], _, _, _, _, h => by simp at h
  | r :: rs, 0, _, _, _, _ => rfl
  | r :: rs, j + 1, a, b, c, h => by
    have ih := tv_set3 rs j a b c (by simpa using h)
    have e : (j + 1) * 3 = j * 3 + 1 + 1 + 1 := by omega
    rw [e]
    simp only [tv, List.set_cons_succ]
    exact congrArg _ (congrArg _ (congrArg _ ih))
/-- The marks that a law lays into a slice of triples. -/
def tmarks (k : Int) (n : Nat) : List (Int × Int × Int) := (List.range n).map fun i : Nat => (k + 3 * (i : Int), k + 3 * (i : Int) + 1, k + 3 * (i : Int) + 1 + 1)
theorem tmarks_len (k : Int) (n : Nat) : (tmarks k n).length = n := by simp [tmarks]
theorem tmarks_at {k : Int} {n i : Nat} (h : i < n) : tat (tmarks k n) i = (k + 3 * (i : Int), k + 3 * (i : Int) + 1, k + 3 * (i : Int) + 1 + 1) := by simp [tat, tmarks, List.getD, h]
theorem tmarks_step {zs : List (Int × Int × Int)} {k : Int} {i : Nat} (h : i < zs.length) : ((tmarks k i ++ zs.drop i).set i (k + 3 * (i : Int), k + 3 * (i : Int) + 1, k + 3 * (i : Int) + 1 + 1)) = tmarks k (i + 1) ++ zs.drop (i + 1) := by
  have e : (tmarks k i).length = i := tmarks_len k i
  rw [List.set_append_right _ _ (by omega), e, Nat.sub_self, List.drop_eq_getElem_cons h, List.set_cons_zero]
  simp [tmarks, List.range_succ]

/-- A new slice of n triples. -/
def MadeTri (E : TypeId) (B n : Nat) (zs : List (Int × Int × Int)) (w : World) (r : Ending) (w' : World) : Prop :=
  ∃ g, r = .returned (.slice (some ⟨g, 0, none⟩) n n) ∧ w'.ownsRow B E 3 (.slice (some ⟨g, 0, none⟩) n n) n (tv zs) ∧ Ext w w'

/-- The cells of a slice of triples, read at a place. -/
theorem Reads.tri {w : World} {a : Option Addr} {n : Nat} {zs : List (Int × Int × Int)} (h : Reads w a 3 n (tv zs)) {k : Nat} (hk : k < n) :
    ∃ b off, a = some ⟨b, off, none⟩ ∧ w.cell? ⟨b, off + k * 3, none⟩ = some (.int .i64 (tat zs k).1) ∧ w.cell? ⟨b, off + k * 3 + 1, none⟩ = some (.int .i64 (tat zs k).2.1) ∧ w.cell? ⟨b, off + k * 3 + 2, none⟩ = some (.int .i64 (tat zs k).2.2) := by
  have hl : zs.length = n := by have := h.1; rw [tv_len] at this; omega
  obtain ⟨b, off, ha, hc⟩ := h.2 (by omega)
  have h3 := tv_at (zs := zs) (k := k) (by omega)
  exact ⟨b, off, ha, hc _ _ h3.1, hc _ _ h3.2.1, hc _ _ h3.2.2⟩

theorem term_info : (Tryz.prog.info? 41).map (fun i => (i.zero, i.size, i.bytes)) = some (some (.agg #[.int .i64 0, .int .i64 0, .int .i64 0]), 3, 24) := by kernel_rfl

set_option maxHeartbeats 1000000 in
theorem toTermS_any (a : Option Addr) (n c : Nat) (zs : List (Int × Int × Int)) (hn : n ≤ 1048576) (w : World) (h : Reads w a 3 n (tv zs)) :
    Calls Tryz.prog 6 #[.slice a n c] w (MadeTri 41 w.heap.size n zs w) := by
  obtain ⟨i0, hi, hz0, hz1, hz2⟩ := info_parts term_info
  have hl : zs.length = n := by have := h.1; rw [tv_len] at this; omega
  go_enter Tryz.func6, Tryz.ntmps6
  go_wp2_with (refine wpList_make_full _ rfl (.tmp 6) (.tmp 6) 26 rfl w.heap.size 41 i0 (.agg #[.int .i64 0, .int .i64 0, .int .i64 0]) 3 Tryz.underlying26 hi hz0 hz1 .i64 .i64 _ _ n rfl rfl rfl rfl (by rw [hz2]; omega) (by unfold maxLen; omega) (Nat.le_refl _) ?_)
  intro w1 hown hgr
  have hb1 : Ext w w1 := Ext.of_grown hgr
  clear hi hz0 hz1 hz2
  go_wp2
  go_loopw [4] (fun s wr => ∃ (k : Nat) (ys : List Value), k ≤ n ∧ s = .int .i64 k ∧ wr.ownsRow w.heap.size 41 3 (.slice (some ⟨w.heap.size, 0, none⟩) n n) n ys ∧ ys.take (k * 3) = (tv zs).take (k * 3) ∧ Ext w wr) (fun s _ => n - (intOf s).toNat)
  case atStart => exact ⟨0, _, Nat.zero_le _, rfl, hown, by simp, hb1⟩
  case round =>
    obtain ⟨k, ys, hk, rfl, hownr, hys, hbr⟩ := hrel
    have hyl : ys.length = n * 3 := hownr.1
    have HY := Lib.hid hys
    clear hys hown hgr
    by_cases hlt : k < n
    · obtain ⟨b, off, rfl, hc0, hc1, hc2⟩ := (Reads.ext hbr h).tri hlt
      have T := tv_at (zs := zs) (k := k) (by omega)
      generalize (tat zs k).1 = x at hc0 T
      generalize (tat zs k).2.1 = y at hc1 T
      generalize (tat zs k).2.2 = z at hc2 T
      have HT := Lib.hid T
      have HL := Lib.hid hyl
      clear h T hl
      go_wp2_with fail
      refine (toTerm_any _ _ _ _).mono ?_
      rintro e w2 ⟨rfl, hb2⟩
      replace hownr := own_ext hb2 hownr
      obtain ⟨o0, ho0⟩ : ∃ o, w2.cell? ⟨w.heap.size, k * 3, none⟩ = some o := ⟨_, by rw [hownr.cellAt _ (by omega)]; exact List.getElem?_eq_getElem (by omega)⟩
      obtain ⟨o1, ho1⟩ : ∃ o, w2.cell? ⟨w.heap.size, k * 3 + 1, none⟩ = some o := ⟨_, by rw [hownr.cellAt _ (by omega)]; exact List.getElem?_eq_getElem (by omega)⟩
      obtain ⟨o2, ho2⟩ : ∃ o, w2.cell? ⟨w.heap.size, k * 3 + 2, none⟩ = some o := ⟨_, by rw [hownr.cellAt _ (by omega)]; exact List.getElem?_eq_getElem (by omega)⟩
      have f0 := hownr.frozenAt (k * 3)
      have f1 := hownr.frozenAt (k * 3 + 1)
      have f2 := hownr.frozenAt (k * 3 + 2)
      have s0 := hownr.stored (k * 3) (.int .i64 x)
      have s1 := s0.1.stored (k * 3 + 1) (.int .i64 y)
      have s2 := s1.1.stored (k * 3 + 2) (.int .i64 z)
      clear hownr hyl
      go_wp2
      go_roundw
      case rel => exact ⟨k + 1, _, by omega, by go_num, s2.1, take_set3 HL.out (by omega) HY.out HT.out.1 HT.out.2.1 HT.out.2.2, ((((hbr.trans hb2).grown s0.2 (by simp)).grown s1.2 (by simp)).grown s2.2 (by simp))⟩
      case measure => simp [intOf]; omega
    · have hkn : n = k := by omega
      have e : ys = tv zs := by
        have h1 := HY.out
        rwa [List.take_of_length_le (by omega), List.take_of_length_le (by rw [tv_len]; omega)] at h1
      subst e
      clear hkn
      go_wp2
      go_ret
      exact ⟨_, rfl, hownr, hbr⟩

theorem szTermS_yes (a : Option Addr) (n c : Nat) (left : Int) (h : (n : Int) ≤ left) (hl : left ≤ 1073741824) (w : World) :
    Calls Tryz.prog 4 #[.slice a n c, .int .i64 left] w fun r w' => r = .returned (.int .i64 (left - n)) ∧ w = w' := by
  go_enter Tryz.func4, Tryz.ntmps4
  go_wp2
  go_ret
  exact ⟨rfl, rfl⟩

theorem szTermS_no (a : Option Addr) (n c : Nat) (left : Int) (h : left < (n : Int)) (h0 : 0 ≤ left) (hl : left ≤ 1073741824) (hn : n ≤ 9223372036854775807) (w : World) :
    Calls Tryz.prog 4 #[.slice a n c, .int .i64 left] w fun r w' => r = .returned (.int .i64 (-1)) ∧ w = w' := by
  go_enter Tryz.func4, Tryz.ntmps4
  go_wp2
  go_ret
  exact ⟨rfl, rfl⟩

theorem eqTermS_same (a a' : Option Addr) (n c c' : Nat) (zs : List (Int × Int × Int)) (hn : n ≤ 1073741824) (w : World) (h : Reads w a 3 n (tv zs)) (h' : Reads w a' 3 n (tv zs)) :
    Calls Tryz.prog 8 #[.slice a n c, .slice a' n c'] w fun r w' => r = .returned (.bool true) ∧ Ext w w' := by
  go_enter Tryz.func8, Tryz.ntmps8
  go_wp2
  go_loopw [5] (fun s wr => ∃ k : Nat, k ≤ n ∧ s = .int .i64 k ∧ Ext w wr) (fun s _ => n - (intOf s).toNat)
  case atStart => exact ⟨0, Nat.zero_le _, rfl, Ext.refl _⟩
  case round =>
    obtain ⟨k, hk, rfl, hbr⟩ := hrel
    by_cases hlt : k < n
    · obtain ⟨b, off, rfl, hp0, hp1, hp2⟩ := (Reads.ext hbr h).tri hlt
      obtain ⟨b', off', rfl, hq0, hq1, hq2⟩ := (Reads.ext hbr h').tri hlt
      generalize (tat zs k).1 = x at hp0 hq0
      generalize (tat zs k).2.1 = y at hp1 hq1
      generalize (tat zs k).2.2 = z at hp2 hq2
      have Pc0 := Ext.keeps hp0
      have Pc1 := Ext.keeps hp1
      have Pc2 := Ext.keeps hp2
      have Qc0 := Ext.keeps hq0
      have Qc1 := Ext.keeps hq1
      have Qc2 := Ext.keeps hq2
      clear h h'
      have hE : Ext wr wr := Ext.refl _
      go_wp2
      have qP0 := fun s : Past wr => Pc0 s.w s.ext
      have qP1 := fun s : Past wr => Pc1 s.w s.ext
      have qP2 := fun s : Past wr => Pc2 s.w s.ext
      have qQ0 := fun s : Past wr => Qc0 s.w s.ext
      have qQ1 := fun s : Past wr => Qc1 s.w s.ext
      have qQ2 := fun s : Past wr => Qc2 s.w s.ext
      refine wp_region_past wr (by first | exact hE | exact Ext.alloc hE _ | exact Ext.drew hE | exact Ext.drewN hE _) (by kernel_rfl) (by kernel_rfl) ?_
      repeat (go_big_quiet_step (((go_at_call 17; exact past_ext (eqTerm_same _ _ _ _)))))
      refine wpQuiet_nil ?_
      intro _ hw'
      obtain ⟨⟨w2, hE⟩, hw''⟩ := hw'
      subst hw''
      clear qP0 qP1 qP2 qQ0 qQ1 qQ2
      go_wp2
      go_roundw
      case rel => exact ⟨k + 1, by omega, by go_num, hbr.trans hE⟩
      case measure => simp [intOf]; omega
    · go_wp2
      go_ret
      exact ⟨rfl, hbr⟩

end Go.Proofs.YtngbdopgdcjdeaaGreatDoor

namespace Go.Proofs.YtngbdopgdcjdeaaGreatDoor
open Go.RowKit

theorem gcd_ext (a b : Int) (ha1 : -9223372036854775807 ≤ a) (ha2 : a ≤ 9223372036854775807) (hb1 : -9223372036854775807 ≤ b) (hb2 : b ≤ 9223372036854775807) (w : World) :
    Calls Tryz.prog 66 #[.int .i64 a, .int .i64 b] w fun r w' => r = .returned (.int .i64 (gcdI a b)) ∧ Ext w w' :=
  (gcd_any a b ha1 ha2 hb1 hb2 w).mono fun _ _ ⟨he, n, hn⟩ => ⟨he, hn ▸ Ext.drewN (Ext.refl w) n⟩

theorem cross_any (a b c d : Int) (a1 : -1000000 ≤ a) (a2 : a ≤ 1000000) (b1 : -1000000 ≤ b) (b2 : b ≤ 1000000) (c1 : -1000000 ≤ c) (c2 : c ≤ 1000000) (d1 : -1000000 ≤ d) (d2 : d ≤ 1000000) (w : World) :
    Calls Tryz.prog 52 #[.agg #[.int .i64 a, .int .i64 b], .agg #[.int .i64 c, .int .i64 d]] w fun r w' => r = .returned (.int .i64 (detI a b c d)) ∧ Ext w w' := by
  have k1 := mul_bd a1 a2 d1 d2
  have k2 := mul_bd b1 b2 c1 c2
  go_enter Tryz.func52, Tryz.ntmps52
  go_wp2
  go_ret
  exact ⟨rfl, (by repeat (first | exact Ext.refl _ | assumption | apply Ext.alloc | apply Ext.drew | apply Ext.drewN | (refine Ext.trans ?_ (by assumption)) | (refine Ext.setCell ?_ (by (try simp) <;> omega) _)))⟩

end Go.Proofs.YtngbdopgdcjdeaaGreatDoor

namespace Go.Proofs.YtngbdopgdcjdeaaGreatDoor
open Go.RowKit

/-- Whether steps come before others. -/
def befB (x y u v : Int) : Bool := decide (x < u) || (decide (x = u) && decide (y < v))
/-- The order of two points, as a number. -/
def cmpI (x y u v : Int) : Int := if x = u then y - v else x - u
theorem cmpI_nonneg (x y u v : Int) : decide (0 ≤ cmpI x y u v) = !befB x y u v := by
  unfold cmpI befB
  split
  · rename_i h; subst h; rw [Bool.eq_iff_iff]; simp
  · rename_i h; rw [Bool.eq_iff_iff]; simp [h]
/-- What is asked of the ray at a place. -/
def okAt (zs : List (Int × Int × Int)) (k : Nat) : Bool := rayB (tat zs k).1 (tat zs k).2.1 (tat zs k).2.2 && (k == 0 || befB (tat zs (k - 1)).1 (tat zs (k - 1)).2.1 (tat zs k).1 (tat zs k).2.1)
def okTo (zs : List (Int × Int × Int)) : Nat → Bool
  | 0 => true
  | k + 1 => okTo zs k && okAt zs k
theorem okTo_bad {zs : List (Int × Int × Int)} {k : Nat} (h : okAt zs k = false) : ∀ n, k < n → okTo zs n = false
  | 0, hn => by omega
  | n + 1, hn => by
    rcases Nat.lt_or_ge k n with hlt | hge
    · simp [okTo, okTo_bad h n hlt]
    · have e : k = n := by omega
      subst e
      simp [okTo, h]
theorem okTo_at {zs : List (Int × Int × Int)} {k : Nat} : ∀ n, okTo zs n = true → k < n → okAt zs k = true
  | 0, _, hn => by omega
  | n + 1, h, hn => by
    simp only [okTo, Bool.and_eq_true] at h
    rcases Nat.lt_or_ge k n with hlt | hge
    · exact okTo_at n h.1 hlt
    · have e : k = n := by omega
      rw [e]; exact h.2
/-- A star. -/
def starB (zs : List (Int × Int × Int)) : Bool := okTo zs zs.length && decide ((zs.length : Int) ≤ 10)
theorem starB_cases (zs : List (Int × Int × Int)) : starB zs = false ∨ (starB zs = true ∧ zs.length ≤ 10 ∧ ∀ k, k < zs.length → (-20 ≤ (tat zs k).1 ∧ (tat zs k).1 ≤ 20) ∧ (-20 ≤ (tat zs k).2.1 ∧ (tat zs k).2.1 ≤ 20) ∧ (1 ≤ (tat zs k).2.2 ∧ (tat zs k).2.2 ≤ 20)) := by
  cases h : starB zs
  · exact .inl rfl
  · simp only [starB, Bool.and_eq_true, decide_eq_true_eq] at h
    refine .inr ⟨rfl, by omega, fun k hk => ?_⟩
    have h1 := okTo_at _ h.1 hk
    simp only [okAt, Bool.and_eq_true] at h1
    have h2 := rayB_true.1 h1.1
    exact ⟨h2.1, h2.2.1, h2.2.2.2⟩

theorem comparePoints_any (a b c d : Int) (a1 : -1000000000 ≤ a) (a2 : a ≤ 1000000000) (b1 : -1000000000 ≤ b) (b2 : b ≤ 1000000000) (c1 : -1000000000 ≤ c) (c2 : c ≤ 1000000000) (d1 : -1000000000 ≤ d) (d2 : d ≤ 1000000000) (w : World) :
    Calls Tryz.prog 96 #[.agg #[.int .i64 a, .int .i64 b], .agg #[.int .i64 c, .int .i64 d]] w fun r w' => r = .returned (.int .i64 (cmpI a b c d)) ∧ Ext w w' := by
  by_cases hac : a = c
  · subst hac
    go_enter Tryz.func96, Tryz.ntmps96
    go_wp2
    go_ret
    exact ⟨ret_int (by simp [cmpI]), (by repeat (first | exact Ext.refl _ | assumption | apply Ext.alloc | apply Ext.drew | apply Ext.drewN | (refine Ext.trans ?_ (by assumption)) | (refine Ext.setCell ?_ (by (try simp) <;> omega) _)))⟩
  · go_enter Tryz.func96, Tryz.ntmps96
    go_wp2
    go_ret
    exact ⟨ret_int (by simp [cmpI, hac]), (by repeat (first | exact Ext.refl _ | assumption | apply Ext.alloc | apply Ext.drew | apply Ext.drewN | (refine Ext.trans ?_ (by assumption)) | (refine Ext.setCell ?_ (by (try simp) <;> omega) _)))⟩

end Go.Proofs.YtngbdopgdcjdeaaGreatDoor

namespace Go.Proofs.YtngbdopgdcjdeaaGreatDoor
open Go.ChangeShapes Go.WideShapes Go.ChangeAt Go.RowKit Go.Joins Go.Deep

theorem own : ownKnob Tryz.prog.godebug = none := by kernel_rfl
theorem laidOut : laidOutB Tryz.prog = true := by kernel_rfl

theorem b64 {n : Int} (h : (Lit.int .i64 n).wf = true) : B64 n := by
  simp [Lit.wf, IntKind.min, IntKind.max, IntKind.signed, IntKind.bits] at h
  exact ⟨by omega, by omega⟩

theorem isRow_of {w : World} {x : Addr} {len cap : Nat} {zs : List Int} (hl : len ≤ cap) (hm : cap ≤ maxLen) (hz : zs.length = cap)
    (hc : ∀ i, i < zs.length → w.cell? (x.add i) = some (.int .i64 (zs.getD i 0))) (hb : ∀ n ∈ zs, B64 n) : IsRow w (some x) len cap (zs.take len) := by
  refine ⟨⟨by simp; omega, fun hpos => ?_⟩, hl, hm, fun z hz => hb z (List.mem_of_mem_take hz)⟩
  obtain ⟨b, off, rfl, hcc⟩ := ints_at hc (by omega)
  refine ⟨b, off, rfl, fun j u hu => ?_⟩
  simp only [List.getElem?_map, Option.map_eq_some_iff] at hu
  obtain ⟨z, hz1, rfl⟩ := hu
  rw [List.getElem?_take] at hz1
  split at hz1
  · have hj : j < zs.length := (List.getElem?_eq_some_iff.1 hz1).1
    rw [hcc j hj]
    simp [List.getD, hz1]
  · simp at hz1

end Go.Proofs.YtngbdopgdcjdeaaGreatDoor

namespace Go.Proofs.YtngbdopgdcjdeaaGreatDoor
open Go.ChangeShapes Go.WideShapes Go.ChangeAt Go.RowKit Go.Joins Go.Deep

/-- A slice of triples that came in. -/
def IsTri (w : World) (a : Option Addr) (len cap : Nat) (zs : List (Int × Int × Int)) : Prop :=
  Reads w a 3 len (tv zs) ∧ len ≤ cap ∧ cap ≤ maxLen ∧ ∀ z ∈ zs, B64 z.1 ∧ B64 z.2.1 ∧ B64 z.2.2
theorem isTri_nil (w : World) : IsTri w none 0 0 [] := ⟨⟨rfl, fun h => by omega⟩, Nat.le_refl _, by simp [maxLen], by simp⟩

theorem list_of {Q : Nat → Int → Prop} : ∀ n : Nat, (∀ i, i < n → ∃ z, Q i z) → ∃ zs : List Int, zs.length = n ∧ ∀ i, i < n → Q i (zs.getD i 0)
  | 0, _ => ⟨[], rfl, fun i h => by omega⟩
  | n + 1, h => by
    obtain ⟨zs, hl, hq⟩ := list_of n (fun i hi => h i (by omega))
    obtain ⟨z, hz⟩ := h n (by omega)
    refine ⟨zs ++ [z], by simp [hl], fun i hi => ?_⟩
    by_cases e : i < n
    · have := hq i e
      simpa [List.getD, List.getElem?_append_left (show i < zs.length by omega)] using this
    · obtain rfl : i = n := by omega
      simpa [List.getD, ← hl] using hl ▸ hz

theorem triples_of : ∀ (n : Nat) (zs : List Int), zs.length = n * 3 → ∃ ts : List (Int × Int × Int), tv ts = zs.map (.int .i64) ∧ ∀ t ∈ ts, t.1 ∈ zs ∧ t.2.1 ∈ zs ∧ t.2.2 ∈ zs
  | 0, zs, h => ⟨[], by cases zs <;> simp_all [tv], by simp⟩
  | n + 1, zs, h => by
    match zs, h with
    | a :: b :: c :: r, h =>
      obtain ⟨ts, ht, hm⟩ := triples_of n r (by simp at h; omega)
      refine ⟨(a, b, c) :: ts, by simp [tv, ht], fun t ht => ?_⟩
      rcases List.mem_cons.1 ht with rfl | ht
      · simp
      · have := hm t ht
        simp [this]
    | [_, _], h => simp at h; omega
    | [_], h => simp at h; omega
    | [], h => simp at h

section
variable {H : Type} {enc : TypeId × Value → H} {P : Program} {w : World} {base : Nat} {held : Bool}
theorem open_rows3 {t e I : TypeId} {f0 f1 f2 : Field} {a0 : Option Addr} {len0 cap0 : Nat} {d : DataW H} {p : List MemPlace} (ht : P.underlying t = some (.slice e)) (he : P.underlying e = some (.struct #[f0, f1, f2]))
    (hI : P.underlying I = some (.int .i64)) (hone : oneCellFields P #[f0, f1, f2] = true) (hC : P.cellsOf e = 3) (hty : f0.type = I ∧ f1.type = I ∧ f2.type = I)
    (h : DataW.Trod enc P w base (fun _ => true) held t (.slice a0 len0 cap0) d p) : ∃ zs, IsTri w a0 len0 cap0 zs := by
  obtain ⟨fuel, h⟩ := h
  rcases open_slice ht h with h0 | ⟨a, len, cap, m, n, D, Pl, hcs, hb, hl, hm, hmm, hx, hi⟩
  · simp [Value.cells] at h0
    obtain ⟨⟨rfl, rfl, rfl⟩, _⟩ := h0
    exact ⟨[], isTri_nil w⟩
  · simp [Value.cells] at hcs
    obtain ⟨rfl, rfl, rfl⟩ := hcs
    simp at hmm
    subst hmm
    have hq : ∀ i, i < m * 3 → ∃ z, w.cell? (a.add i) = some (.int .i64 z) ∧ B64 z := by
      intro i hi3
      obtain ⟨cs', hc, ht'⟩ := hi (i / 3) (by omega)
      rw [hC] at hc
      obtain ⟨ys, n', hn', hy, hlen, hyl, hf⟩ := DataW.trod_struct he ht'
      obtain ⟨_, hcl, hat⟩ := World.cells?_some hc
      have hj : i % 3 < 3 := by omega
      obtain ⟨f, hfj, hft⟩ : ∃ f, (#[f0, f1, f2] : Array Field)[i % 3]? = some f ∧ f.type = I := by
        have h3 : i % 3 = 0 ∨ i % 3 = 1 ∨ i % 3 = 2 := by omega
        rcases h3 with e | e | e <;> rw [e]
        · exact ⟨_, rfl, hty.1⟩
        · exact ⟨_, rfl, hty.2.1⟩
        · exact ⟨_, rfl, hty.2.2⟩
      obtain ⟨ho, hk⟩ := hone_of hone (i % 3) f hfj
      have hcell := hat (i % 3) hj
      have h1 := hf (i % 3) f hfj
      rw [ho, hk] at h1
      have hone' : (cs'.drop (i % 3)).take 1 = [cs'[i % 3]'(by omega)] := by
        rw [List.drop_eq_getElem_cons (by omega)]
        rfl
      rw [hone', hft] at h1
      have hys : ys[i % 3]? = some (ys[i % 3]'(by simp at hyl; omega)) := List.getElem?_eq_getElem (by simp at hyl; omega)
      obtain ⟨z, hz, _, hwz⟩ := DataW.trod_int hI (h1.trans hys)
      refine ⟨z, ?_, b64 hwz⟩
      rw [Go.Deep.add_add] at hcell
      have e3 : i / 3 * 3 + i % 3 = i := by omega
      rw [e3] at hcell
      rw [hcell, List.getElem?_eq_getElem (by omega)]
      exact congrArg some (by simpa using hz)
    obtain ⟨ns, hnl, hn⟩ := list_of _ hq
    have hz : (ns.take (len0 * 3)).length = len0 * 3 := by simp; omega
    obtain ⟨ts, htv, htm⟩ := triples_of len0 _ hz
    refine ⟨ts, ⟨by rw [htv]; simpa using hz, fun hpos => ?_⟩, hl, hm, fun z hz => ?_⟩
    · obtain ⟨b, off, rfl, hcc⟩ := ints_at (zs := ns) (fun i hi => (hn i (by omega)).1) (by omega)
      refine ⟨b, off, rfl, fun j u hu => ?_⟩
      rw [htv] at hu
      simp only [List.getElem?_map, Option.map_eq_some_iff] at hu
      obtain ⟨z, hz1, rfl⟩ := hu
      rw [List.getElem?_take] at hz1
      split at hz1
      · have hj : j < ns.length := (List.getElem?_eq_some_iff.1 hz1).1
        rw [hcc j hj]
        simp [List.getD, hz1]
      · simp at hz1
    · have hb : ∀ y ∈ ns.take (len0 * 3), B64 y := by
        intro y hy
        obtain ⟨i, hi, rfl⟩ := List.getElem_of_mem (List.mem_of_mem_take hy)
        have := (hn i (by omega)).2
        simpa [List.getD, List.getElem?_eq_getElem hi] using this
      obtain ⟨h1, h2, h3⟩ := htm z hz
      exact ⟨hb _ h1, hb _ h2, hb _ h3⟩
end

end Go.Proofs.YtngbdopgdcjdeaaGreatDoor

namespace Go.Proofs.YtngbdopgdcjdeaaGreatDoor
open Go.RowKit

end Go.Proofs.YtngbdopgdcjdeaaGreatDoor

namespace Go.Proofs.YtngbdopgdcjdeaaGreatDoor
open Go.RowKit

/-- The sum of the first k rays, by parts. -/
def sX (zs : List (Int × Int × Int)) : Nat → Int
  | 0 => 0
  | k + 1 => sX zs k + (tat zs k).2.2 * (tat zs k).1
def sY (zs : List (Int × Int × Int)) : Nat → Int
  | 0 => 0
  | k + 1 => sY zs k + (tat zs k).2.2 * (tat zs k).2.1
/-- What is known of the rays of a star. -/
def Small (zs : List (Int × Int × Int)) : Prop := zs.length ≤ 10 ∧ ∀ k, k < zs.length → (-20 ≤ (tat zs k).1 ∧ (tat zs k).1 ≤ 20) ∧ (-20 ≤ (tat zs k).2.1 ∧ (tat zs k).2.1 ≤ 20) ∧ (1 ≤ (tat zs k).2.2 ∧ (tat zs k).2.2 ≤ 20)
theorem prod_bd {a b : Int} (ha : 1 ≤ a ∧ a ≤ 20) (hb : -20 ≤ b ∧ b ≤ 20) : -400 ≤ a * b ∧ a * b ≤ 400 := by
  obtain ⟨a1, a2⟩ := ha
  obtain ⟨b1, b2⟩ := hb
  constructor
  · have h1 : a * (-20) ≤ a * b := Int.mul_le_mul_of_nonneg_left b1 (by omega)
    omega
  · have h1 : a * b ≤ a * 20 := Int.mul_le_mul_of_nonneg_left b2 (by omega)
    omega
theorem sX_bd {zs : List (Int × Int × Int)} (h : Small zs) : ∀ k : Nat, k ≤ zs.length → -(400 * (k : Int)) ≤ sX zs k ∧ sX zs k ≤ 400 * (k : Int)
  | 0, _ => by simp [sX]
  | k + 1, hk => by
    have ih := sX_bd h k (by omega)
    have hp := h.2 k (by omega)
    have hq := prod_bd hp.2.2 hp.1
    simp only [sX]
    omega
theorem sY_bd {zs : List (Int × Int × Int)} (h : Small zs) : ∀ k : Nat, k ≤ zs.length → -(400 * (k : Int)) ≤ sY zs k ∧ sY zs k ≤ 400 * (k : Int)
  | 0, _ => by simp [sY]
  | k + 1, hk => by
    have ih := sY_bd h k (by omega)
    have hp := h.2 k (by omega)
    have hq := prod_bd hp.2.2 hp.2.1
    simp only [sY]
    omega

/-- A box of two numbers that the call may write. -/
def Box2 (w : World) (b : Nat) (x y : Int) : Prop := Has w b [.int .i64 x, .int .i64 y] ∧ ∀ i, w.frozen? ⟨b, i, none⟩ = false
theorem Box2.lt {w : World} {b : Nat} {x y : Int} (h : Box2 w b x y) : b < w.heap.size := by
  rcases Nat.lt_or_ge b w.heap.size with hlt | hge
  · exact hlt
  · have h0 := h.1 0 _ rfl
    simp [World.cell?, Array.getElem?_eq_none hge] at h0
theorem Box2.ext {w w' : World} {b : Nat} {x y : Int} (h : Ext w w') (k : Box2 w b x y) : Box2 w' b x y := ⟨Has.ext h k.1, fun i => by rw [h.frozen b i k.lt]; exact k.2 i⟩
theorem Box2.set {w : World} {b : Nat} {x y : Int} (k : Box2 w b x y) (u v : Int) : Box2 ((w.setCell ⟨b, 0, none⟩ (.int .i64 u)).setCell ⟨b, 1, none⟩ (.int .i64 v)) b u v := by
  have h0 := k.1 0 _ rfl
  have h1 := k.1 1 _ rfl
  refine ⟨fun i z hi => ?_, fun i => by simpa using k.2 i⟩
  match i, hi with
  | 0, hi =>
    obtain rfl : Value.int .i64 u = z := by simpa using hi
    rw [World.cell?_setCell_other _ _ _ _ (by simp), World.cell?_setCell_same _ _ _ h0]
  | 1, hi =>
    obtain rfl : Value.int .i64 v = z := by simpa using hi
    rw [World.cell?_setCell_same _ _ _ (u := .int .i64 y) (by rw [World.cell?_setCell_other _ _ _ _ (by simp)]; exact h1)]
  | i + 2, hi => simp at hi
theorem Box2.new (w : World) (x y : Int) (t : TypeId) : Box2 (w.alloc (.cells #[.int .i64 x, .int .i64 y] t)) w.heap.size x y :=
  ⟨Has.new w _ t, fun i => by simp⟩
theorem Box2.far {w : World} {b : Nat} {x y : Int} (k : Box2 w b x y) {p : Addr} (hp : p.block ≠ b) (u : Value) : Box2 (w.setCell p u) b x y := by
  refine ⟨fun i z hi => ?_, fun i => by simpa using k.2 i⟩
  rw [World.cell?_setCell_other _ _ _ _ (by rintro rfl; exact hp rfl)]
  exact k.1 i z hi

end Go.Proofs.YtngbdopgdcjdeaaGreatDoor

namespace Go.Proofs.YtngbdopgdcjdeaaGreatDoor
open Go.RowKit

theorem small_of {zs : List (Int × Int × Int)} : starB zs = false ∨ (starB zs = true ∧ Small zs) := by
  rcases starB_cases zs with h | ⟨h, h1, h2⟩
  · exact .inl h
  · exact .inr ⟨h, h1, h2⟩
/-- A star whose sum is zero. -/
def balB (zs : List (Int × Int × Int)) : Bool := (sX zs zs.length == 0) && (sY zs zs.length == 0)

end Go.Proofs.YtngbdopgdcjdeaaGreatDoor

namespace Go.Proofs.YtngbdopgdcjdeaaGreatDoor
open Go.RowKit

end Go.Proofs.YtngbdopgdcjdeaaGreatDoor

namespace Go.Proofs.YtngbdopgdcjdeaaGreatDoor
open Go.RowKit

theorem gcdI_neg (x y : Int) : gcdI (-x) (-y) = gcdI x y := by simp [gcdI]
/-- The ray that sums with (x, y) to zero. -/
def lackB (x y : Int) : Bool := rayB ((-x).tdiv (gcdI (-x) (-y))) ((-y).tdiv (gcdI (-x) (-y))) (gcdI (-x) (-y))
def missOk (zs : List (Int × Int × Int)) : Bool := starB zs && !balB zs && lackB (sX zs zs.length) (sY zs zs.length)
def missX (zs : List (Int × Int × Int)) : Int := gI (missOk zs) ((-(sX zs zs.length)).tdiv (gcdI (-(sX zs zs.length)) (-(sY zs zs.length))))
def missY (zs : List (Int × Int × Int)) : Int := gI (missOk zs) ((-(sY zs zs.length)).tdiv (gcdI (-(sX zs zs.length)) (-(sY zs zs.length))))
def missN (zs : List (Int × Int × Int)) : Int := gI (missOk zs) (gcdI (-(sX zs zs.length)) (-(sY zs zs.length)))
theorem miss_no {zs : List (Int × Int × Int)} (h : missOk zs = false) : missX zs = 0 ∧ missY zs = 0 ∧ missN zs = 0 := by simp [missX, missY, missN, h, gI]
theorem miss_yes {zs : List (Int × Int × Int)} (h : missOk zs = true) : missX zs = (-(sX zs zs.length)).tdiv (gcdI (-(sX zs zs.length)) (-(sY zs zs.length))) ∧ missY zs = (-(sY zs zs.length)).tdiv (gcdI (-(sX zs zs.length)) (-(sY zs zs.length))) ∧ missN zs = gcdI (-(sX zs zs.length)) (-(sY zs zs.length)) := by simp [missX, missY, missN, h, gI]
theorem balB_no {zs : List (Int × Int × Int)} (h : balB zs = false) : sX zs zs.length ≠ 0 ∨ sY zs zs.length ≠ 0 := by
  simp only [balB] at h
  by_cases h1 : sX zs zs.length = 0
  · refine .inr fun h2 => ?_
    rw [h1, h2] at h
    simp at h
  · exact .inl h1

theorem minus_any (a b c d : Int) (ha : -1000000000 ≤ a ∧ a ≤ 1000000000) (hb : -1000000000 ≤ b ∧ b ≤ 1000000000) (hc : -1000000000 ≤ c ∧ c ≤ 1000000000) (hd : -1000000000 ≤ d ∧ d ≤ 1000000000) (w : World) :
    Calls Tryz.prog 70 #[.agg #[.int .i64 a, .int .i64 b], .agg #[.int .i64 c, .int .i64 d]] w fun r w' => r = .returned (.agg #[.int .i64 (a - c), .int .i64 (b - d)]) ∧ Ext w w' := by
  have HA := (Has.alloc (Has.new w #[.int .i64 a, .int .i64 b] 55) (.cells #[.int .i64 c, .int .i64 d] 55))
  have Ac0 := Ext.keeps (HA 0 _ rfl)
  have Ac1 := Ext.keeps (HA 1 _ rfl)
  clear HA
  have HB := (Has.new2 w (.cells #[.int .i64 a, .int .i64 b] 55) #[.int .i64 c, .int .i64 d] 55)
  have Bc0 := Ext.keeps (HB 0 _ rfl)
  have Bc1 := Ext.keeps (HB 1 _ rfl)
  clear HB
  have hE : Ext ((w.alloc (.cells #[.int .i64 a, .int .i64 b] 55)).alloc (.cells #[.int .i64 c, .int .i64 d] 55)) ((w.alloc (.cells #[.int .i64 a, .int .i64 b] 55)).alloc (.cells #[.int .i64 c, .int .i64 d] 55)) := Ext.refl _
  go_enter Tryz.func70, Tryz.ntmps70
  go_wp2
  refine bodyPost_ret (v := .agg #[.int .i64 (a - c), .int .i64 (b - d)]) (by simp [results, Tryz.results70, go_sem]) rfl ⟨rfl, (by repeat (first | exact Ext.refl _ | assumption | apply Ext.alloc | apply Ext.drew | apply Ext.drewN | (refine Ext.trans ?_ (by assumption)) | (refine Ext.setCell ?_ (by (try simp) <;> omega) _)))⟩

end Go.Proofs.YtngbdopgdcjdeaaGreatDoor

namespace Go.Proofs.YtngbdopgdcjdeaaGreatDoor

def negP (p : Int × Int) : Int × Int := (-p.1, -p.2)
theorem negP_negP (p : Int × Int) : negP (negP p) = p := by simp [negP]
theorem turnI_neg (a b c : Int × Int) : turnI (negP a) (negP b) (negP c) = turnI a b c := by unfold turnI detI negP; simp only; grind
theorem lexP_neg {a b : Int × Int} : lexP (negP a) (negP b) ↔ lexP b a := by unfold lexP lexV negP; simp only; omega
theorem popT_neg (p : Int × Int) : ∀ s : List (Int × Int), (popT p s).map negP = popT (negP p) (s.map negP)
  | [] => rfl
  | [_] => rfl
  | b :: a :: r => by
    simp only [popT, List.map_cons, turnI_neg]
    split
    · rw [popT_neg p (a :: r)]; rfl
    · rfl
theorem chainR_neg (l : List (Int × Int)) : (chainR l).map negP = chainR (l.map negP) := by
  suffices h : ∀ (l s : List (Int × Int)), (l.foldl (fun s p => p :: popT p s) s).map negP = (l.map negP).foldl (fun s p => p :: popT p s) (s.map negP) from h l []
  intro l
  induction l with
  | nil => intro s; rfl
  | cons p l ih =>
    intro s
    simp only [List.foldl_cons, List.map_cons]
    rw [ih, List.map_cons, popT_neg]

/-- The hull of points in order, each one once. -/
def hullL (l : List (Int × Int)) : List (Int × Int) := if l.length < 2 then l else (chainR l).tail.reverse ++ (chainR l.reverse).tail.reverse

theorem edges_idx {R : Int × Int → Int × Int → Prop} : ∀ {s : List (Int × Int)}, Edges R s → ∀ k, k + 1 < s.length → R (s.getD (k + 1) (0, 0)) (s.getD k (0, 0))
  | [], _, k, h => by simp at h
  | [_], _, k, h => by simp at h
  | b :: a :: r, hE, 0, _ => hE.1
  | b :: a :: r, hE, k + 1, h => by
    have := edges_idx (s := a :: r) hE.2 k (by simpa using h)
    simpa using this
theorem strict_idx : ∀ {s : List (Int × Int)}, Strict s → ∀ k, k + 2 < s.length → 0 < turnI (s.getD (k + 2) (0, 0)) (s.getD (k + 1) (0, 0)) (s.getD k (0, 0))
  | [], _, k, h => by simp at h
  | [_], _, k, h => by simp at h
  | [_, _], _, k, h => by simp only [List.length_cons, List.length_nil] at h; omega
  | c :: b :: a :: r, hS, 0, _ => hS.1
  | c :: b :: a :: r, hS, k + 1, h => by
    have := strict_idx (s := b :: a :: r) hS.2 k (by simpa using h)
    simpa using this
theorem getD_get {s : List (Int × Int)} {k : Nat} (h : k < s.length) : s.getD k (0, 0) = s[k] := by simp [List.getD, h]
theorem getD_rev {s : List (Int × Int)} {k : Nat} (h : k < s.length) : s.reverse.getD k (0, 0) = s.getD (s.length - 1 - k) (0, 0) := by
  simp [List.getD, List.getElem?_reverse h]
theorem edges_rev {R : Int × Int → Int × Int → Prop} {s : List (Int × Int)} (hE : Edges R s) {k : Nat} (h : k + 1 < s.length) : R (s.reverse.getD k (0, 0)) (s.reverse.getD (k + 1) (0, 0)) := by
  rw [getD_rev (by omega), getD_rev (by omega)]
  have := edges_idx hE (s.length - 1 - (k + 1)) (by omega)
  rwa [show s.length - 1 - (k + 1) + 1 = s.length - 1 - k by omega] at this
theorem strict_rev {s : List (Int × Int)} (hS : Strict s) {k : Nat} (h : k + 2 < s.length) : 0 < turnI (s.reverse.getD k (0, 0)) (s.reverse.getD (k + 1) (0, 0)) (s.reverse.getD (k + 2) (0, 0)) := by
  rw [getD_rev (by omega), getD_rev (by omega), getD_rev (by omega)]
  have := strict_idx hS (s.length - 1 - (k + 2)) (by omega)
  rwa [show s.length - 1 - (k + 2) + 2 = s.length - 1 - k by omega, show s.length - 1 - (k + 2) + 1 = s.length - 1 - (k + 1) by omega] at this

/-- One half of a hull as it is walked: from one end of the row to the other. 'up': the order's own way. -/
structure Half (S : Int × Int → Prop) (R : Int × Int → Int × Int → Prop) (m : Nat) (P : Nat → Int × Int) : Prop where
  mem : ∀ k, k < m → S (P k)
  lt : ∀ k, k + 1 < m → R (P k) (P (k + 1))
  strict : ∀ k, k + 2 < m → 0 < turnI (P k) (P (k + 1)) (P (k + 2))
  sup : ∀ k, k + 1 < m → ∀ x, S x → 0 ≤ turnI (P k) (P (k + 1)) x
  first : ∀ x, S x → x = P 0 ∨ R (P 0) x
  last : ∀ x, S x → x = P (m - 1) ∨ R x (P (m - 1))

theorem half_of {l : List (Int × Int)} (hne : l ≠ []) (hp : l.Pairwise lexP) : Half (· ∈ l) lexP (chainR l).length (fun k => (chainR l).reverse.getD k (0, 0)) ∧ 0 < (chainR l).length := by
  obtain ⟨hC, h0⟩ := chain_of (l.length - 1) l (by have := List.length_pos_iff.2 hne; omega) hp
  have hpos : 0 < (chainR l).length := List.length_pos_iff.2 h0
  refine ⟨⟨?_, fun k h => edges_rev hC.lex h, fun k h => strict_rev hC.strict h, fun k h => edges_rev hC.sup h, ?_, ?_⟩, hpos⟩
  · intro k hk
    apply hC.mem
    have : (chainR l).reverse.getD k (0, 0) = (chainR l).reverse[k]'(by simpa using hk) := getD_get (by simpa using hk)
    rw [this]
    exact List.mem_reverse.1 (List.getElem_mem _)
  · intro x hx
    have := hC.low ((chainR l).getLast h0) (List.getLast?_eq_some_getLast h0) x hx
    have e : (chainR l).reverse.getD 0 (0, 0) = (chainR l).getLast h0 := by
      rw [getD_rev hpos, List.getLast_eq_getElem, getD_get (by omega)]
      rfl
    show x = (chainR l).reverse.getD 0 (0, 0) ∨ lexP ((chainR l).reverse.getD 0 (0, 0)) x
    rw [e]
    rcases this with h | h
    · exact .inl h.symm
    · exact .inr h
  · intro x hx
    have := hC.top ((chainR l).head h0) (List.head?_eq_some_head h0) x hx
    have e : (chainR l).reverse.getD ((chainR l).length - 1) (0, 0) = (chainR l).head h0 := by
      rw [getD_rev (by omega), List.head_eq_getElem, getD_get (by omega)]
      simp
    show x = (chainR l).reverse.getD ((chainR l).length - 1) (0, 0) ∨ lexP x ((chainR l).reverse.getD ((chainR l).length - 1) (0, 0))
    rw [e]
    exact this

def gtP (a b : Int × Int) : Prop := lexP b a
theorem getD_neg {s : List (Int × Int)} {k : Nat} (h : k < s.length) : (s.map negP).getD k (0, 0) = negP (s.getD k (0, 0)) := by
  simp [List.getD, h]
theorem half_back {l : List (Int × Int)} (hne : l ≠ []) (hp : l.Pairwise lexP) : Half (· ∈ l) gtP (chainR l.reverse).length (fun k => (chainR l.reverse).reverse.getD k (0, 0)) ∧ 0 < (chainR l.reverse).length := by
  have hq : (l.reverse.map negP).Pairwise lexP := by
    rw [List.pairwise_map, List.pairwise_reverse]
    exact hp.imp fun h => lexP_neg.2 h
  obtain ⟨hH, hpos⟩ := half_of (l := l.reverse.map negP) (by simpa using hne) hq
  rw [← chainR_neg] at hH hpos
  rw [List.length_map] at hH hpos
  have hm : ∀ x, x ∈ l ↔ negP x ∈ l.reverse.map negP := by
    intro x
    simp only [List.mem_map, List.mem_reverse]
    constructor
    · intro h; exact ⟨x, h, rfl⟩
    · rintro ⟨y, hy, e⟩
      have : y = x := by rw [← negP_negP y, e, negP_negP]
      exact this ▸ hy
  have hg : ∀ k, k < (chainR l.reverse).length → ((chainR l.reverse).map negP).reverse.getD k (0, 0) = negP ((chainR l.reverse).reverse.getD k (0, 0)) := by
    intro k hk
    rw [← List.map_reverse, getD_neg (by simpa using hk)]
  refine ⟨⟨?_, ?_, ?_, ?_, ?_, ?_⟩, hpos⟩
  · intro k hk
    rw [hm]
    have := hH.mem k hk
    rwa [hg k hk] at this
  · intro k hk
    have := hH.lt k hk
    simp only [hg k (by omega), hg (k + 1) hk] at this
    exact lexP_neg.1 this
  · intro k hk
    have := hH.strict k hk
    simp only [hg k (by omega), hg (k + 1) (by omega), hg (k + 2) hk, turnI_neg] at this
    exact this
  · intro k hk x hx
    have := hH.sup k hk (negP x) ((hm x).1 hx)
    simp only [hg k (by omega), hg (k + 1) hk, turnI_neg] at this
    exact this
  · intro x hx
    have := hH.first (negP x) ((hm x).1 hx)
    simp only [hg 0 hpos] at this
    rcases this with h | h
    · left
      rw [← negP_negP x, h, negP_negP]
    · right; exact lexP_neg.1 h
  · intro x hx
    have := hH.last (negP x) ((hm x).1 hx)
    simp only [hg ((chainR l.reverse).length - 1) (by omega)] at this
    rcases this with h | h
    · left
      rw [← negP_negP x, h, negP_negP]
    · right; exact lexP_neg.1 h

/-- Three points on one line lie on one line. -/
theorem flat_line {p q a b c : Int × Int} (hpq : p ≠ q) (ha : turnI p q a = 0) (hb : turnI p q b = 0) (hc : turnI p q c = 0) : turnI a b c = 0 := by
  have hB : detI (q.1 - p.1) (q.2 - p.2) (b.1 - a.1) (b.2 - a.2) = 0 := by unfold turnI detI at *; grind
  have hC : detI (q.1 - p.1) (q.2 - p.2) (c.1 - a.1) (c.2 - a.2) = 0 := by unfold turnI detI at *; grind
  have hu : q.1 - p.1 ≠ 0 ∨ q.2 - p.2 ≠ 0 := by
    by_cases h1 : q.1 - p.1 = 0
    · right
      intro h2
      exact hpq (Prod.ext (by omega) (by omega))
    · exact .inl h1
  show detI (b.1 - a.1) (b.2 - a.2) (c.1 - a.1) (c.2 - a.2) = 0
  generalize q.1 - p.1 = u at *
  generalize q.2 - p.2 = v at *
  generalize b.1 - a.1 = e at *
  generalize b.2 - a.2 = f at *
  generalize c.1 - a.1 = g at *
  generalize c.2 - a.2 = h at *
  rcases hu with hu | hu
  · have : u * detI e f g h = 0 := by unfold detI at *; grind
    rcases Int.mul_eq_zero.1 this with h0 | h0
    · exact absurd h0 hu
    · exact h0
  · have : v * detI e f g h = 0 := by unfold detI at *; grind
    rcases Int.mul_eq_zero.1 this with h0 | h0
    · exact absurd h0 hu
    · exact h0

/-- Not all points lie on one line. -/
def Wide (l : List (Int × Int)) : Prop := ∃ a b c, a ∈ l ∧ b ∈ l ∧ c ∈ l ∧ turnI a b c ≠ 0
theorem Wide.no {l : List (Int × Int)} (h : Wide l) {p q : Int × Int} (hpq : p ≠ q) (hz : ∀ x ∈ l, turnI p q x = 0) : False := by
  obtain ⟨a, b, c, ha, hb, hc, hn⟩ := h
  exact hn (flat_line hpq (hz a ha) (hz b hb) (hz c hc))
theorem turnI_rev (p q x : Int × Int) : turnI q p x = -turnI p q x := by unfold turnI detI; grind
theorem Wide.two {l : List (Int × Int)} (h : Wide l) {p q : Int × Int} (hpq : p ≠ q) (h1 : ∀ x ∈ l, 0 ≤ turnI p q x) (h2 : ∀ x ∈ l, 0 ≤ turnI q p x) : False :=
  h.no hpq fun x hx => by
    have a := h1 x hx
    have b := h2 x hx
    rw [turnI_rev] at b
    omega

theorem getD_append {a b : List (Int × Int)} {k : Nat} : (a ++ b).getD k (0, 0) = if k < a.length then a.getD k (0, 0) else b.getD (k - a.length) (0, 0) := by
  simp only [List.getD, List.getElem?_append]
  split <;> rfl
theorem getD_tail_rev {s : List (Int × Int)} {k : Nat} (h : k + 1 < s.length) : s.tail.reverse.getD k (0, 0) = s.reverse.getD k (0, 0) := by
  rw [getD_rev (by simp; omega), getD_rev (by omega), getD_get (by simp; omega), getD_get (by omega)]
  simp only [List.length_tail, List.getElem_tail]
  congr 1
  omega

/-- What is known of the hull of two points or more: m ways up the order, then n ways back. -/
structure HullW (l : List (Int × Int)) (m n : Nat) (H : List (Int × Int)) : Prop where
  len : H.length = m + n
  hm : 0 < m
  hn : 0 < n
  up : ∀ k, k < m → lexP (H.getD k (0, 0)) (H.getD ((k + 1) % (m + n)) (0, 0))
  down : ∀ k, m ≤ k → k < m + n → lexP (H.getD ((k + 1) % (m + n)) (0, 0)) (H.getD k (0, 0))
  mem : ∀ k, k < m + n → H.getD k (0, 0) ∈ l
  sup : ∀ k, k < m + n → ∀ x ∈ l, 0 ≤ turnI (H.getD k (0, 0)) (H.getD ((k + 1) % (m + n)) (0, 0)) x
  strict : ∀ k, k + 1 < m → 0 < turnI (H.getD k (0, 0)) (H.getD (k + 1) (0, 0)) (H.getD (k + 2) (0, 0))
  strictB : ∀ k, m ≤ k → k + 1 < m + n → 0 < turnI (H.getD k (0, 0)) (H.getD (k + 1) (0, 0)) (H.getD ((k + 2) % (m + n)) (0, 0))

theorem hull_w {l : List (Int × Int)} (h2 : 2 ≤ l.length) (hp : l.Pairwise lexP) : ∃ m n, HullW l m n (hullL l) := by
  have hne : l ≠ [] := by rintro rfl; simp at h2
  obtain ⟨hU, hu0⟩ := half_of hne hp
  obtain ⟨hD, hd0⟩ := half_back hne hp
  have he : hullL l = (chainR l).tail.reverse ++ (chainR l.reverse).tail.reverse := by unfold hullL; rw [if_neg (by omega)]
  generalize hUf : (fun k => (chainR l).reverse.getD k (0, 0)) = U at hU
  generalize hDf : (fun k => (chainR l.reverse).reverse.getD k (0, 0)) = D at hD
  have hul : (chainR l).tail.reverse.length = (chainR l).length - 1 := by simp
  have hdl : (chainR l.reverse).tail.reverse.length = (chainR l.reverse).length - 1 := by simp
  have hUe : ∀ k, (chainR l).reverse.getD k (0, 0) = U k := fun k => by rw [← hUf]
  have hDe : ∀ k, (chainR l.reverse).reverse.getD k (0, 0) = D k := fun k => by rw [← hDf]
  generalize hM : (chainR l).length = M at *
  generalize hN : (chainR l.reverse).length = N at *
  -- the ends of the two halves are the ends of the row
  have a01 : ∃ a b, a ∈ l ∧ b ∈ l ∧ lexP a b := by
    match l, h2, hp with
    | a :: b :: r, _, hp => exact ⟨a, b, by simp, by simp, (List.pairwise_cons.1 hp).1 b (by simp)⟩
  obtain ⟨a, b, ha, hb, hab⟩ := a01
  have hM2 : 2 ≤ M := by
    rcases (show M = 1 ∨ 2 ≤ M by omega) with h | h
    · exfalso
      have all : ∀ x ∈ l, x = U 0 := by
        intro x hx
        have g1 := hU.first x hx
        have g2 := hU.last x hx
        rw [h] at g2
        rcases g1 with g | g
        · exact g
        · rcases g2 with k | k
          · exact k
          · exact absurd k (lexP_asymm g)
      rw [all a ha, all b hb] at hab
      exact lexP_irrefl _ hab
    · exact h
  have hN2 : 2 ≤ N := by
    rcases (show N = 1 ∨ 2 ≤ N by omega) with h | h
    · exfalso
      have all : ∀ x ∈ l, x = D 0 := by
        intro x hx
        have g1 := hD.first x hx
        have g2 := hD.last x hx
        rw [h] at g2
        rcases g1 with g | g
        · exact g
        · rcases g2 with k | k
          · exact k
          · exact absurd k (lexP_asymm g)
      rw [all a ha, all b hb] at hab
      exact lexP_irrefl _ hab
    · exact h
  have eMin : D (N - 1) = U 0 := by
    rcases hU.first (D (N - 1)) (hD.mem _ (by omega)) with g | g
    · exact g
    · rcases hD.last (U 0) (hU.mem _ (by omega)) with k | k
      · exact k.symm
      · exact absurd k (lexP_asymm g)
  have eMax : D 0 = U (M - 1) := by
    rcases hU.last (D 0) (hD.mem _ (by omega)) with g | g
    · exact g
    · rcases hD.first (U (M - 1)) (hU.mem _ (by omega)) with k | k
      · exact k.symm
      · exact absurd k (lexP_asymm g)
  obtain ⟨m, hm⟩ : ∃ m, M = m + 1 := ⟨M - 1, by omega⟩
  obtain ⟨n, hn⟩ : ∃ n, N = n + 1 := ⟨N - 1, by omega⟩
  rw [hm] at hul hM hU eMax
  rw [hn] at hdl hN hD eMin
  simp only [Nat.add_sub_cancel] at hul hdl eMax eMin
  have hlow : ∀ k, k < m → (hullL l).getD k (0, 0) = U k := by
    intro k hk
    rw [he, getD_append, if_pos (by omega), getD_tail_rev (by omega), hUe]
  have hhigh : ∀ k, m ≤ k → k < m + n → (hullL l).getD k (0, 0) = D (k - m) := by
    intro k hk hk2
    rw [he, getD_append, if_neg (by omega), hul, getD_tail_rev (by omega), hDe]
  have hlow2 : ∀ k, k < m → (hullL l).getD ((k + 1) % (m + n)) (0, 0) = U (k + 1) := by
    intro k hk
    rw [Nat.mod_eq_of_lt (by omega)]
    rcases (show k + 1 < m ∨ k + 1 = m by omega) with h | h
    · exact hlow _ h
    · rw [h, hhigh _ (Nat.le_refl _) (by omega), Nat.sub_self, eMax]
  have hhigh2 : ∀ k, m ≤ k → k < m + n → (hullL l).getD ((k + 1) % (m + n)) (0, 0) = D (k + 1 - m) := by
    intro k hk hk2
    rcases (show k + 1 < m + n ∨ k + 1 = m + n by omega) with h | h
    · rw [Nat.mod_eq_of_lt h, hhigh _ (by omega) h]
    · rw [h, Nat.mod_self, hlow 0 (by omega), ← eMin]
      congr 1
      omega
  refine ⟨m, n, ?_, by omega, by omega, ?_, ?_, ?_, ?_, ?_, ?_⟩
  · rw [he, List.length_append, hul, hdl]
  · intro k hk
    rw [hlow k hk, hlow2 k hk]
    exact hU.lt k (by omega)
  · intro k hk hk2
    rw [hhigh k hk hk2, hhigh2 k hk hk2]
    have := hD.lt (k - m) (by omega)
    rw [show k - m + 1 = k + 1 - m by omega] at this
    exact this
  · intro k hk
    rcases (show k < m ∨ m ≤ k by omega) with h | h
    · rw [hlow k h]; exact hU.mem k (by omega)
    · rw [hhigh k h hk]; exact hD.mem _ (by omega)
  · intro k hk x hx
    rcases (show k < m ∨ m ≤ k by omega) with h | h
    · rw [hlow k h, hlow2 k h]; exact hU.sup k (by omega) x hx
    · rw [hhigh k h hk, hhigh2 k h hk]
      have := hD.sup (k - m) (by omega) x hx
      rw [show k - m + 1 = k + 1 - m by omega] at this
      exact this
  · intro k hk
    have e2 := hlow2 (k + 1) hk
    rw [Nat.mod_eq_of_lt (by omega)] at e2
    rw [hlow k (by omega), hlow (k + 1) hk, e2]
    exact hU.strict k (by omega)
  · intro k hk hk2
    have e2 := hhigh2 (k + 1) (by omega) hk2
    rw [hhigh k hk (by omega), hhigh (k + 1) (by omega) hk2, e2]
    have := hD.strict (k - m) (by omega)
    rw [show k - m + 1 = k + 1 - m by omega, show k - m + 2 = k + 1 + 1 - m by omega] at this
    exact this

theorem lexP_ne {a b : Int × Int} (h : lexP a b) : a ≠ b := by rintro rfl; exact lexP_irrefl _ h

section
variable {l H : List (Int × Int)} {m n : Nat} (hH : HullW l m n H) (hW : Wide l)
include hH
/-- The corner k, the next one. -/
theorem HullW.ne {k : Nat} (hk : k < m + n) : H.getD k (0, 0) ≠ H.getD ((k + 1) % (m + n)) (0, 0) := by
  rcases (show k < m ∨ m ≤ k by omega) with h | h
  · exact lexP_ne (hH.up k h)
  · exact (lexP_ne (hH.down k h hk)).symm
include hW
theorem HullW.three : 3 ≤ m + n := by
  have h1 := hH.hm
  have h2 := hH.hn
  rcases (show m + n = 2 ∨ 3 ≤ m + n by omega) with h | h
  · exfalso
    have hm1 : m = 1 := by omega
    have hn1 : n = 1 := by omega
    subst hm1 hn1
    have s0 := hH.sup 0 (by omega)
    have s1 := hH.sup 1 (by omega)
    simp only [show (0 + 1) % (1 + 1) = 1 from rfl, show (1 + 1) % (1 + 1) = 0 from rfl] at s0 s1
    exact hW.two (by have := hH.ne (k := 0) (by omega); simpa using this) s0 s1
  · exact h
/-- On each way there is a corner strictly at the left. -/
theorem HullW.left {k : Nat} (hk : k < m + n) : ∃ j, j < m + n ∧ 0 < turnI (H.getD k (0, 0)) (H.getD ((k + 1) % (m + n)) (0, 0)) (H.getD j (0, 0)) := by
  by_cases hex : ∃ j, j < m + n ∧ 0 < turnI (H.getD k (0, 0)) (H.getD ((k + 1) % (m + n)) (0, 0)) (H.getD j (0, 0))
  · exact hex
  · exfalso
    have hz : ∀ j, j < m + n → turnI (H.getD k (0, 0)) (H.getD ((k + 1) % (m + n)) (0, 0)) (H.getD j (0, 0)) = 0 := by
      intro j hj
      have h1 := hH.sup k hk _ (hH.mem j hj)
      rcases (show 0 < turnI (H.getD k (0, 0)) (H.getD ((k + 1) % (m + n)) (0, 0)) (H.getD j (0, 0)) ∨ turnI (H.getD k (0, 0)) (H.getD ((k + 1) % (m + n)) (0, 0)) (H.getD j (0, 0)) = 0 by omega) with h | h
      · exact absurd ⟨j, hj, h⟩ hex
      · exact h
    have hf : ∀ i j q, i < m + n → j < m + n → q < m + n → turnI (H.getD i (0, 0)) (H.getD j (0, 0)) (H.getD q (0, 0)) = 0 :=
      fun i j q hi hj hq => flat_line (hH.ne hk) (hz i hi) (hz j hj) (hz q hq)
    have h1 := hH.hm
    have h2 := hH.hn
    have h3 := hH.three hW
    rcases (show 2 ≤ m ∨ 2 ≤ n by omega) with h | h
    · have := hH.strict 0 (by omega)
      rw [hf 0 1 2 (by omega) (by omega) (by omega)] at this
      omega
    · have := hH.strictB m (Nat.le_refl _) (by omega)
      rw [hf m (m + 1) _ (by omega) (by omega) (Nat.mod_lt _ (by omega))] at this
      omega
/-- The first three corners turn to the left. -/
theorem HullW.turn : 0 < turnI (H.getD 0 (0, 0)) (H.getD 1 (0, 0)) (H.getD 2 (0, 0)) := by
  have h1 := hH.hm
  have h2 := hH.hn
  have h3 := hH.three hW
  rcases (show 2 ≤ m ∨ m = 1 by omega) with h | h
  · exact hH.strict 0 (by omega)
  · subst h
    have s0 := hH.sup 0 (by omega)
    have s1 := hH.sup 1 (by omega)
    have u0 := hH.up 0 (by omega)
    have d1 := hH.down 1 (by omega) (by omega)
    rw [Nat.mod_eq_of_lt (show 0 + 1 < 1 + n by omega)] at s0 u0
    rw [Nat.mod_eq_of_lt (show 1 + 1 < 1 + n by omega)] at s1 d1
    simp only [Nat.zero_add, Nat.reduceAdd] at s0 s1 u0 d1
    have m2 := s0 _ (hH.mem 2 (by omega))
    rcases (show 0 < turnI (H.getD 0 (0, 0)) (H.getD 1 (0, 0)) (H.getD 2 (0, 0)) ∨ turnI (H.getD 0 (0, 0)) (H.getD 1 (0, 0)) (H.getD 2 (0, 0)) = 0 by omega) with h | h
    · exact h
    · exfalso
      generalize H.getD 0 (0, 0) = P at *
      generalize H.getD 1 (0, 0) = Q at *
      generalize H.getD 2 (0, 0) = R at *
      refine hW.no (lexP_ne u0) fun x hx => ?_
      have k0 := s0 x hx
      have k1 := s1 x hx
      -- u = R - Q, v = P - Q, both to the left; u and v are parallel
      have e1 : (P.1 - Q.1) * turnI Q R x = (R.1 - Q.1) * (-turnI P Q x) := by unfold turnI detI at *; grind
      have e2 : (P.2 - Q.2) * turnI Q R x = (R.2 - Q.2) * (-turnI P Q x) := by unfold turnI detI at *; grind
      generalize turnI Q R x = A at *
      generalize turnI P Q x = B at *
      unfold lexP lexV at u0 d1
      rcases (show B = 0 ∨ 0 < B by omega) with hB | hB
      · exact hB
      · exfalso
        rcases u0 with g | ⟨g, g'⟩
        · rcases d1 with f | ⟨f, f'⟩
          · have a1 := Int.mul_nonneg (show 0 ≤ Q.1 - P.1 by omega) k1
            have a2 := Int.mul_pos f hB
            have e3 : (P.1 - Q.1) * A = -((Q.1 - P.1) * A) := by rw [← Int.neg_mul]; congr 1; omega
            have e4 : (R.1 - Q.1) * -B = (Q.1 - R.1) * B := by grind
            omega
          · have e5 : R.1 = Q.1 := by omega
            unfold turnI detI at h
            have a3 := Int.mul_pos g f'
            have e6 : (Q.1 - P.1) * (Q.2 - R.2) = -((Q.1 - P.1) * (R.2 - P.2) - (Q.2 - P.2) * (R.1 - P.1)) := by rw [e5]; grind
            omega
        · rcases d1 with f | ⟨f, f'⟩
          · have e5 : P.1 = Q.1 := by omega
            unfold turnI detI at h
            have a3 := Int.mul_pos g' f
            have e6 : (Q.2 - P.2) * (Q.1 - R.1) = (Q.1 - P.1) * (R.2 - P.2) - (Q.2 - P.2) * (R.1 - P.1) := by rw [e5]; grind
            omega
          · have a1 := Int.mul_nonneg (show 0 ≤ Q.2 - P.2 by omega) k1
            have a2 := Int.mul_pos f' hB
            have e3 : (P.2 - Q.2) * A = -((Q.2 - P.2) * A) := by rw [← Int.neg_mul]; congr 1; omega
            have e4 : (R.2 - Q.2) * -B = (Q.2 - R.2) * B := by grind
            omega
omit hW
theorem HullW.upTo {i j : Nat} (h : i < j) (hj : j < m) : lexP (H.getD i (0, 0)) (H.getD j (0, 0)) := by
  obtain ⟨d, rfl⟩ : ∃ d, j = i + 1 + d := ⟨j - i - 1, by omega⟩
  clear h
  have hn := hH.hn
  induction d with
  | zero =>
    have := hH.up i (by omega)
    rwa [Nat.mod_eq_of_lt (by omega)] at this
  | succ d ih =>
    have := hH.up (i + 1 + d) (by omega)
    rw [Nat.mod_eq_of_lt (by omega)] at this
    exact lexP_trans (ih (by omega)) this
theorem HullW.downTo {i j : Nat} (hi : m ≤ i) (h : i < j) (hj : j < m + n) : lexP (H.getD j (0, 0)) (H.getD i (0, 0)) := by
  obtain ⟨d, rfl⟩ : ∃ d, j = i + 1 + d := ⟨j - i - 1, by omega⟩
  clear h
  induction d with
  | zero =>
    have := hH.down i (by omega) (by omega)
    rwa [Nat.mod_eq_of_lt (by omega)] at this
  | succ d ih =>
    have := hH.down (i + 1 + d) (by omega) (by omega)
    rw [Nat.mod_eq_of_lt (by omega)] at this
    exact lexP_trans this (ih (by omega))
/-- No way is gone twice, in its own direction. -/
theorem HullW.once {i j : Nat} (h : i < j) (hj : j < m + n) : ¬ (H.getD i (0, 0) = H.getD j (0, 0) ∧ H.getD ((i + 1) % (m + n)) (0, 0) = H.getD ((j + 1) % (m + n)) (0, 0)) := by
  rintro ⟨e1, e2⟩
  rcases (show j < m ∨ m ≤ j by omega) with hjm | hjm
  · exact lexP_ne (hH.upTo h hjm) e1
  · rcases (show i < m ∨ m ≤ i by omega) with him | him
    · have a1 := hH.up i him
      have a2 := hH.down j hjm hj
      rw [e1, e2] at a1
      exact lexP_asymm a1 a2
    · exact lexP_ne (hH.downTo him h hj) e1.symm
include hW
/-- .. nor backward. -/
theorem HullW.back {i j : Nat} (hi : i < m + n) (hj : j < m + n) : ¬ (H.getD i (0, 0) = H.getD ((j + 1) % (m + n)) (0, 0) ∧ H.getD ((i + 1) % (m + n)) (0, 0) = H.getD j (0, 0)) := by
  rintro ⟨e1, e2⟩
  have s1 := hH.sup i hi
  have s2 := hH.sup j hj
  rw [← e1, ← e2] at s2
  exact hW.two (hH.ne hi) s1 s2
end

end Go.Proofs.YtngbdopgdcjdeaaGreatDoor

namespace Go.Proofs.YtngbdopgdcjdeaaGreatDoor
open Go.RowKit Go.Shelf Go.Lib Go.Sort

section
variable {α : Type} [Inhabited α] {enc : α → Value}
theorem heap_put {w : World} {g n : Nat} {os : Array Obj} {cur : Array Value} {e : TypeId} {fr : Nat × Nat} (d : Array α) (hb : w.heap[g]? = some (.cells cur e fr)) :
    (grow (putRow enc (Sort.ahead w n) g 0 d) os).heap[g]? = some (.cells (putCells enc 0 d cur) e fr) := by
  have hg : g < w.heap.size := (Array.getElem?_eq_some_iff.1 hb).1
  rw [heap_grow_old _ _ (by simpa using hg)]
  simp [putRow, mapBlock, Sort.ahead, Array.getElem?_modify, hb, onCells]
theorem grown_put {w : World} {g n : Nat} {os : Array Obj} (d : Array α) : w.grownBy (grow (putRow enc (Sort.ahead w n) g 0 d) os) (some g) := by
  refine ⟨rfl, rfl, rfl, by simp, fun k hk hne => ?_⟩
  rw [heap_grow_old _ _ (by simpa using hk)]
  have : g ≠ k := fun e => hne (by rw [e])
  simp [putRow, mapBlock, Sort.ahead, Array.getElem?_modify, this]
theorem take_put (cur : Array Value) (ts : List α) (h : ts.length ≤ cur.size) : (putCells enc 0 ts.toArray cur).toList.take ts.length = ts.map enc := by
  apply List.ext_getElem?
  intro j
  by_cases hj : j < ts.length
  · rw [List.getElem?_take_of_lt hj, Array.getElem?_toList]
    simp [putCells, hj, show j < cur.size by omega]
  · rw [List.getElem?_take_eq_none (by omega), List.getElem?_eq_none (by simp; omega)]
theorem own_put {w : World} {base g cap n m size : Nat} {e : TypeId} {os : Array Obj} {cur : Array Value} {ts : List α} (hl : ts.length = m * size) (hbase : base ≤ g) (hb : w.heap[g]? = some (.cells cur e (0, 0)))
    (h1 : m ≤ cap) (h2 : cap ≤ maxLen) (h3 : cur.size = cap * size) :
    (grow (putRow enc (Sort.ahead w n) g 0 ts.toArray) os).ownsRow base e size (.slice (some ⟨g, 0, none⟩) m cap) m (ts.map enc) :=
  ⟨by simp [hl], .inr ⟨g, cap, _, rfl, hbase, heap_put _ hb, h1, h2, by simp [putCells, h3], by rw [← hl]; exact take_put cur ts (by rw [hl, h3]; exact Nat.mul_le_mul_right _ h1)⟩⟩
theorem holds_put {w : World} {g : Nat} {cur : Array Value} {e : TypeId} {ss : List α} (hb : w.heap[g]? = some (.cells cur e (0, 0))) (ht : cur.toList.take ss.length = ss.map enc) : Holds enc w g 0 ss.toArray := by
  intro j hj
  have hj' : j < ss.length := by simpa using hj
  refine ⟨?_, by simp [World.frozen?, hb]⟩
  have h1 : (cur.toList.take ss.length)[j]? = (ss.map enc)[j]? := by rw [ht]
  rw [List.getElem?_take_of_lt hj'] at h1
  simp only [World.cell?, hb, Nat.zero_add]
  simp only [Option.isSome_none, Bool.false_eq_true, if_false]
  rw [← Array.getElem?_toList, h1]
  simp [hj']
end

/-- A permutation of what was there, in the order of 'cf', behind a sort. -/
theorem perm_of {α : Type} [Inhabited α] {cf : α → α → Int} {d d' : Array α} (hp : PermIn 0 d.size d d') (hs : SortedIn (ltOf cf) 0 d.size d') : d'.toList.Perm d.toList ∧ d'.toList.Pairwise (fun a b => ¬ cf b a < 0) := by
  obtain ⟨h1, _, h3⟩ := hp
  have e1 : d.extract 0 d.size = d := by simp
  have e2 : d'.extract 0 d.size = d' := by rw [← h1]; simp
  rw [e1, e2] at h3
  refine ⟨h3, ?_⟩
  rw [List.pairwise_iff_getElem]
  intro i j hi hj hij
  have hi' : i < d'.size := by simpa using hi
  have hj' : j < d'.size := by simpa using hj
  have := hs i j (Nat.zero_le _) hij (by omega)
  rw [getElem!_pos d' i hi', getElem!_pos d' j hj'] at this
  simpa [ltOf] using this

section
variable {Q : Int × Int → Prop} [Inhabited {p // Q p}]
def enc2 (p : {p : Int × Int // Q p}) : List Value := [.int .i64 p.1.1, .int .i64 p.1.2]
theorem flat2 (d : Array {p : Int × Int // Q p}) : (flatK enc2 2 d).toList = pv (d.toList.map (·.1)) := by
  apply List.ext_getElem?
  intro j
  by_cases hj : j < d.size * 2
  · have h2 : j / 2 < d.size := by omega
    have hl : j / 2 < (d.toList.map (·.1)).length := by simpa using h2
    obtain ⟨p0, p1⟩ := pv_at hl
    rw [pat_eq hl] at p0 p1
    simp only [List.getElem_map, Array.getElem_toList] at p0 p1
    have hg : (flatK enc2 2 d).toList[j]? = some ((flatK enc2 2 d)[j]!) := by
      rw [Array.getElem?_toList, Array.getElem?_eq_getElem (by simpa using hj), getElem!_pos]
    rw [hg, get_flatK _ _ _ _ hj, getElem!_pos d (j / 2) h2]
    rcases Nat.mod_two_eq_zero_or_one j with h | h
    · rw [show j / 2 * 2 = j by omega] at p0
      rw [h, p0]
      rfl
    · rw [show j / 2 * 2 + 1 = j by omega] at p1
      rw [h, p1]
      rfl
  · rw [List.getElem?_eq_none (by simp; omega), List.getElem?_eq_none (by rw [pv_len]; simp; omega)]
end
section
variable {Q : Int × Int × Int → Prop} [Inhabited {p // Q p}]
def enc3 (p : {p : Int × Int × Int // Q p}) : List Value := [.int .i64 p.1.1, .int .i64 p.1.2.1, .int .i64 p.1.2.2]
theorem tat_eq {zs : List (Int × Int × Int)} {k : Nat} (h : k < zs.length) : tat zs k = zs[k] := by simp [tat, List.getD, h]
theorem flat3 (d : Array {p : Int × Int × Int // Q p}) : (flatK enc3 3 d).toList = tv (d.toList.map (·.1)) := by
  apply List.ext_getElem?
  intro j
  by_cases hj : j < d.size * 3
  · have h2 : j / 3 < d.size := by omega
    have hl : j / 3 < (d.toList.map (·.1)).length := by simpa using h2
    obtain ⟨p0, p1, p2⟩ := tv_at hl
    rw [tat_eq hl] at p0 p1 p2
    simp only [List.getElem_map, Array.getElem_toList] at p0 p1 p2
    have hg : (flatK enc3 3 d).toList[j]? = some ((flatK enc3 3 d)[j]!) := by
      rw [Array.getElem?_toList, Array.getElem?_eq_getElem (by simpa using hj), getElem!_pos]
    rw [hg, get_flatK _ _ _ _ hj, getElem!_pos d (j / 3) h2]
    rcases (show j % 3 = 0 ∨ j % 3 = 1 ∨ j % 3 = 2 by omega) with h | h | h
    · rw [show j / 3 * 3 = j by omega] at p0
      rw [h, p0]
      rfl
    · rw [show j / 3 * 3 + 1 = j by omega] at p1
      rw [h, p1]
      rfl
    · rw [show j / 3 * 3 + 2 = j by omega] at p2
      rw [h, p2]
      rfl
  · rw [List.getElem?_eq_none (by simp; omega), List.getElem?_eq_none (by rw [tv_len]; simp; omega)]
end

/-- Behind the sort of points: a permutation in order, in the same slice. -/
def SortedP (cf : Int × Int → Int × Int → Int) (B : Nat) (E : TypeId) (g n c : Nat) (zs : List (Int × Int)) (w : World) (e : Ending) (w' : World) : Prop :=
  e = .returned (.tuple #[]) ∧ ∃ ys, ys.Perm zs ∧ ys.Pairwise (fun a b => ¬ cf b a < 0) ∧ w'.ownsRow B E 2 (.slice (some ⟨g, 0, none⟩) n c) n (pv ys) ∧ w.grownBy w' (some g)
theorem isAggP (w : World) : (isAgg 55).run Tryz.prog w = .ok true w := by simp [isAgg] <;> kernel_rfl
theorem sizeOfP (w : World) : (Go.sizeOf 55).run Tryz.prog w = .ok 2 w := by simp [Go.sizeOf] <;> kernel_rfl
set_option maxHeartbeats 1000000 in
theorem sortP_any {Q : Int × Int → Prop} [Inhabited {p // Q p}] (cf : Int × Int → Int × Int → Int) (hO : SWO (ltOf fun x y : {p // Q p} => cf x.1 y.1)) (cmp : Nat) (eg : ∀ args w, (callFunc cmp args).run Tryz.prog w = .ok (.enter cmp args) w)
    (hcmp : ∀ (x y : Int × Int) (w : World), Q x → Q y → Calls Tryz.prog cmp #[.agg #[.int .i64 x.1, .int .i64 x.2], .agg #[.int .i64 y.1, .int .i64 y.2]] w fun e w' => e = .returned (.int .i64 (cf x y)) ∧ ∃ q os, w' = grow (w.drewN q) os)
    (zs : List (Int × Int)) (hQ : ∀ z ∈ zs, Q z) (B n c g : Nat) (w : World) (hn : n ≤ 1048576) (h : w.ownsRow B 55 2 (.slice (some ⟨g, 0, none⟩) n c) n (pv zs)) :
    Calls Tryz.prog 95 #[.slice (some ⟨g, 0, none⟩) n c, .func (.func cmp) #[] #[]] w (SortedP cf B 55 g n c zs w) := by
  obtain ⟨hlen, hnil | ⟨g', cap, cur, hv, hbase, hb, h1, h2, h3, h4⟩⟩ := h
  · cases hnil.1
  cases hv
  rw [pv_len] at hlen
  have hzn : zs.length = n := by omega
  obtain ⟨d, hd⟩ : ∃ d : Array {p // Q p}, d = (zs.attach.map fun z => (⟨z.1, hQ z.1 z.2⟩ : {p // Q p})).toArray := ⟨_, rfl⟩
  have hdz : d.toList.map (·.1) = zs := by
    rw [hd]
    simp [Function.comp_def]
    exact List.attach_map_subtype_val zs
  have hdn : d.size = n := by rw [hd]; simp [hzn]
  have hf : flatK enc2 2 d = (pv zs).toArray := by
    apply Array.ext'
    rw [flat2, hdz]
  have hH : HoldsK enc2 2 w g 0 d := by
    unfold HoldsK
    rw [hf]
    exact holds_put hb (by rw [pv_len, hzn, h4]; simp)
  have hcon := AnyQ.slices_SortFunc layPoint 2 isAggP sizeOfP enc2 (fun _ => rfl) (fun x v hv => by simp [enc2] at hv; rcases hv with rfl | rfl <;> rfl) (fun x y => cf x.1 y.1) hO cmp #[] g 0 c d w eg
    (fun m os dk _ x y => hcmp x.1 y.1 _ x.2 y.2) hH (Array.getElem?_eq_some_iff.1 hb).1 (by omega)
  rw [hdn] at hcon
  change Calls Tryz.prog 95 _ _ _ at hcon
  refine hcon.mono fun e w' ⟨he, d', k, os, hp, hs, hw⟩ => ?_
  rw [← hdn] at hp hs
  obtain ⟨p1, p2⟩ := perm_of hp hs
  have hl' : d'.size = n := by rw [hp.1, hdn]
  have hf' : flatK enc2 2 d' = (pv (d'.toList.map (·.1))).toArray := by
    apply Array.ext'
    rw [flat2]
  refine ⟨he, d'.toList.map (·.1), ?_, ?_, ?_, ?_⟩
  · rw [← hdz]; exact p1.map _
  · rw [List.pairwise_map]; exact p2
  · rw [hw]
    unfold sortWorldK putRowK
    rw [hf']
    have := own_put (enc := (id : Value → Value)) (n := k) (os := os) (ts := pv (d'.toList.map (·.1))) (m := n) (size := 2) (by rw [pv_len]; simp [hl']) hbase hb h1 h2 h3
    simpa using this
  · rw [hw]
    exact grown_put _
end Go.Proofs.YtngbdopgdcjdeaaGreatDoor

namespace Go.Proofs.YtngbdopgdcjdeaaGreatDoor
open Go.RowKit

/-- A point whose turns stay small. -/
def PB (p : Int × Int) : Prop := (-500000 ≤ p.1 ∧ p.1 ≤ 500000) ∧ (-500000 ≤ p.2 ∧ p.2 ≤ 500000)
theorem own_shrink {w : World} {B : Nat} {E : TypeId} {size : Nat} {a : Option Addr} {n m c : Nat} {xs : List Value} (k : w.ownsRow B E size (.slice a n c) n xs) (h : m ≤ n) (h0 : 0 < n) : w.ownsRow B E size (.slice a m c) m (xs.take (m * size)) := by
  obtain ⟨h1, h2 | ⟨g, cap, cur, hv, hb, hc, k1, k2, k3, k4⟩⟩ := k
  · have := h2.2; omega
  · cases hv
    have hm : m * size ≤ n * size := Nat.mul_le_mul_right _ h
    refine ⟨by rw [List.length_take, h1]; omega, .inr ⟨g, c, cur, rfl, hb, hc, by omega, k2, k3, ?_⟩⟩
    rw [← k4, List.take_take, Nat.min_eq_left hm]
theorem pv_pop (b : Int × Int) (r : List (Int × Int)) : (pv (b :: r).reverse).take (r.length * 2) = pv r.reverse := by
  rw [pv_take]; congr 1; simp
theorem pat_top (b : Int × Int) (r : List (Int × Int)) : pat (b :: r).reverse r.length = b := by simp [pat, List.getD]
theorem pat_two (b a : Int × Int) (r : List (Int × Int)) : pat (b :: a :: r).reverse r.length = a := by simp [pat, List.getD]
theorem popT_len (p : Int × Int) : ∀ s : List (Int × Int), (popT p s).length ≤ s.length
  | [] => Nat.le_refl _
  | [_] => Nat.le_refl _
  | b :: a :: r => by
    simp only [popT]
    split
    · have := popT_len p (a :: r); simp at this ⊢; omega
    · simp
theorem popT_mem (p : Int × Int) : ∀ (s : List (Int × Int)) (x : Int × Int), x ∈ popT p s → x ∈ s
  | [], _, h => h
  | [_], _, h => h
  | b :: a :: r, x, h => by
    simp only [popT] at h
    split at h
    · exact List.mem_cons_of_mem _ (popT_mem p (a :: r) x h)
    · exact h
theorem ptSnoc {P : List (Int × Int) → Prop} (h0 : P []) (h1 : ∀ l x, P l → P (l ++ [x])) (l : List (Int × Int)) : P l := by
  have h : ∀ n (l : List (Int × Int)), l.length = n → P l := by
    intro n
    induction n with
    | zero => intro l hl; rw [List.eq_nil_of_length_eq_zero hl]; exact h0
    | succ n ih =>
      intro l hl
      have hne : l ≠ [] := by intro e; rw [e] at hl; simp at hl
      rw [← List.dropLast_concat_getLast hne]
      exact h1 _ _ (ih _ (by rw [List.length_dropLast]; omega))
  exact h _ l rfl
theorem chainR_len (l : List (Int × Int)) : (chainR l).length ≤ l.length := by
  refine ptSnoc (P := fun l => (chainR l).length ≤ l.length) (by simp [chainR]) ?_ l
  intro l i ih
  rw [chainR_snoc]
  have := popT_len i (chainR l)
  simp; omega
theorem chainR_mem (l : List (Int × Int)) : ∀ x ∈ chainR l, x ∈ l := by
  refine ptSnoc (P := fun l => ∀ x ∈ chainR l, x ∈ l) (by intro x hx; simp [chainR] at hx) ?_ l
  intro l i ih x hx
  rw [chainR_snoc] at hx
  rcases List.mem_cons.1 hx with rfl | hx
  · simp
  · exact List.mem_append_left _ (ih x (popT_mem _ _ _ hx))
theorem chainR_pos {l : List (Int × Int)} (h : l ≠ []) : 0 < (chainR l).length := by
  rw [← List.dropLast_concat_getLast h, chainR_snoc]; simp

/-- A slice of points of the call's own. -/
def OwnsPts (B : Nat) (zs : List (Int × Int)) (w : World) (r : Ending) (w' : World) : Prop :=
  ∃ a c, r = .returned (.slice a zs.length c) ∧ w'.ownsRow B 55 2 (.slice a zs.length c) zs.length (pv zs) ∧ Ext w w'
theorem own_nonePt (w : World) (B : Nat) : w.ownsRow B 55 2 (.slice none 0 0) 0 (pv []) := ⟨rfl, .inl ⟨rfl, rfl⟩⟩
/-- 'append(out, points..)', out nil or the call's own. -/
theorem wpList_appQ {w : World} {ops : Array Oper} {rest : List Oper} {o : Oper} {a : Act} {Q : Exit → Act → World → Prop} (hgd : o.guard = none) (s x : Operand)
    (ho : o.op = .call { callee := .builtin .append, args := #[s, x], argTypes := #[59, 59] })
    (W : World) (base : Nat) (a0 : Option Addr) (n c : Nat) (xs : List (Int × Int)) (hs : a.eval s = .slice a0 n c) (hown : w.ownsRow base 55 2 (.slice a0 n c) n (pv xs))
    (ad : Addr) (m c' : Nat) (zs : List (Int × Int)) (hx : a.eval x = .slice (some ad) m c') (hl : zs.length = m) (hr : ∀ j u, (pv zs)[j]? = some u → w.cell? (ad.add j) = some u)
    (hn : n ≤ 1048576) (hm : m ≤ 1048576) (hb : base ≤ w.heap.size) (hE : Ext W w) (hW : W.heap.size ≤ base)
    (h : ∀ a1 c1 w', w'.ownsRow base 55 2 (.slice a1 (n + m) c1) (n + m) (pv (xs ++ zs)) → Ext W w' → wpList Tryz.prog ops Q rest (a.put o.dst (.slice a1 (n + m) c1)) w') :
    wpList Tryz.prog ops Q (o :: rest) a w := by
  obtain ⟨i0, hi, hz0, hz1, hz2⟩ := info_parts point_info
  refine wpList_append_own w hgd s x 59 ho base 55 i0 (.agg #[.int .i64 0, .int .i64 0]) 2 16 Tryz.underlying59 hi hz0 hz1 hz2 rfl (by decide) _ n (pv xs) hs hown ad m c' (pv zs) hx (by rw [pv_len, hl]) hr (pv_one zs) ?_ ?_ hb ?_
  · unfold maxLen; omega
  · omega
  · intro v' w' h1 h2 _
    obtain ⟨a1, c1, rfl⟩ := own_form h1
    refine h a1 c1 w' ?_ (hE.grown h2 fun k hk => Nat.le_trans hW (hown.lt k hk).1)
    rw [pv_append]; exact h1
/-- The cells of one point that lies alone in a block. -/
theorem one_cells {w : World} {g : Nat} {x y : Int} (h0 : w.cell? ⟨g, 0, none⟩ = some (.int .i64 x)) (h1 : w.cell? ⟨g, 1, none⟩ = some (.int .i64 y)) : ∀ (j : Nat) (u : Value), (pv [(x, y)])[j]? = some u → w.cell? ((⟨g, 0, none⟩ : Addr).add j) = some u := by
  intro j u hj
  match j, hj with
  | 0, hj => simp [pv] at hj; subst hj; simpa [Addr.add] using h0
  | 1, hj => simp [pv] at hj; subst hj; simpa [Addr.add] using h1

theorem comparePoints_grown (x y : Int × Int) (hx : PB x) (hy : PB y) (w : World) :
    Calls Tryz.prog 96 #[.agg #[.int .i64 x.1, .int .i64 x.2], .agg #[.int .i64 y.1, .int .i64 y.2]] w fun e w' => e = .returned (.int .i64 (cmpI x.1 x.2 y.1 y.2)) ∧ ∃ q os, w' = Sort.grow (w.drewN q) os := by
  obtain ⟨a, b⟩ := x
  obtain ⟨c, d⟩ := y
  unfold PB at hx hy
  simp only at hx hy ⊢
  by_cases hac : a = c
  · subst hac
    go_enter Tryz.func96, Tryz.ntmps96
    go_wp2
    go_ret
    exact ⟨ret_int (by simp [cmpI]), 0, _, by rw [Sort.alloc_eq_grow, Sort.alloc_eq_grow, Sort.grow_grow]; rfl⟩
  · have e1 : (a == c) = false := by simpa using hac
    have e2 : (a != c) = true := by simpa using hac
    go_enter Tryz.func96, Tryz.ntmps96
    go_wp2
    go_ret
    exact ⟨ret_int (by simp [cmpI, hac]), 0, _, by rw [Sort.alloc_eq_grow, Sort.alloc_eq_grow, Sort.grow_grow]; rfl⟩
instance : Inhabited {p // PB p} := ⟨⟨(0, 0), by unfold PB; simp⟩⟩
theorem cmpI_lex (x y : Int × Int) : cmpI x.1 x.2 y.1 y.2 < 0 ↔ lexP x y := by
  unfold cmpI lexP lexV; split <;> omega
theorem swoP : Sort.SWO (Go.Proofs.ltOf fun x y : {p : Int × Int // PB p} => cmpI x.1.1 x.1.2 y.1.1 y.1.2) where
  irrefl x := by unfold Go.Proofs.ltOf; rw [decide_eq_false_iff_not, cmpI_lex]; exact lexP_irrefl _
  trans x y z := by unfold Go.Proofs.ltOf; simp only [decide_eq_true_eq, cmpI_lex]; exact lexP_trans
  ntrans x y z := by
    unfold Go.Proofs.ltOf
    simp only [decide_eq_false_iff_not, cmpI_lex]
    intro h1 h2 h3
    rcases leP_of_not h1 with e | e
    · exact h2 (e ▸ h3)
    · exact h2 (lexP_trans e h3)
theorem pyTurn_any (x y z : Int × Int) (hx : PB x) (hy : PB y) (hz : PB z) (w : World) :
    Calls Tryz.prog 21 #[.agg #[.int .i64 x.1, .int .i64 x.2], .agg #[.int .i64 y.1, .int .i64 y.2], .agg #[.int .i64 z.1, .int .i64 z.2]] w fun r w' => r = .returned (.int .i64 (turnI x y z)) ∧ Ext w w' := by
  obtain ⟨a, b⟩ := x
  obtain ⟨c, d⟩ := y
  obtain ⟨e, f⟩ := z
  unfold PB at hx hy hz
  simp only at hx hy hz ⊢
  have k1 := mul_bd (A := 1000000) (D := 1000000) (a := c - a) (d := f - b) (by omega) (by omega) (by omega) (by omega)
  have k2 := mul_bd (A := 1000000) (D := 1000000) (a := d - b) (d := e - a) (by omega) (by omega) (by omega) (by omega)
  go_enter Tryz.func21, Tryz.ntmps21
  go_wp2
  go_ret
  exact ⟨ret_int (by unfold turnI detI; rfl), (by repeat (first | exact Ext.refl _ | assumption | apply Ext.alloc | apply Ext.drew | apply Ext.drewN | (refine Ext.trans ?_ (by assumption)) | (refine Ext.setCell ?_ (by (try simp) <;> omega) _)))⟩
theorem turn_any (x y z : Int × Int) (hx : PB x) (hy : PB y) (hz : PB z) (w : World) :
    Calls Tryz.prog 59 #[.agg #[.int .i64 x.1, .int .i64 x.2], .agg #[.int .i64 y.1, .int .i64 y.2], .agg #[.int .i64 z.1, .int .i64 z.2]] w fun r w' => r = .returned (.int .i64 (turnI x y z)) ∧ Ext w w' := by
  obtain ⟨a, b⟩ := x
  obtain ⟨c, d⟩ := y
  obtain ⟨e, f⟩ := z
  unfold PB at hx hy hz
  simp only at hx hy hz ⊢
  have HA := (Has.alloc (Has.alloc (Has.new w #[.int .i64 a, .int .i64 b] 55) (.cells #[.int .i64 c, .int .i64 d] 55)) (.cells #[.int .i64 e, .int .i64 f] 55))
  have Ac0 := Ext.keeps (HA 0 _ rfl)
  have Ac1 := Ext.keeps (HA 1 _ rfl)
  clear HA
  have HB := (Has.alloc (Has.new2 w (.cells #[.int .i64 a, .int .i64 b] 55) #[.int .i64 c, .int .i64 d] 55) (.cells #[.int .i64 e, .int .i64 f] 55))
  have Bc0 := Ext.keeps (HB 0 _ rfl)
  have Bc1 := Ext.keeps (HB 1 _ rfl)
  clear HB
  have HC := (Has.new3 w (.cells #[.int .i64 a, .int .i64 b] 55) (.cells #[.int .i64 c, .int .i64 d] 55) #[.int .i64 e, .int .i64 f] 55)
  have Cc0 := Ext.keeps (HC 0 _ rfl)
  have Cc1 := Ext.keeps (HC 1 _ rfl)
  clear HC
  have hE : Ext (((w.alloc (.cells #[.int .i64 a, .int .i64 b] 55)).alloc (.cells #[.int .i64 c, .int .i64 d] 55)).alloc (.cells #[.int .i64 e, .int .i64 f] 55)) (((w.alloc (.cells #[.int .i64 a, .int .i64 b] 55)).alloc (.cells #[.int .i64 c, .int .i64 d] 55)).alloc (.cells #[.int .i64 e, .int .i64 f] 55)) := Ext.refl _
  have hr : detI (c - a) (d - b) (e - a) (f - b) = turnI (a, b) (c, d) (e, f) := rfl
  go_enter Tryz.func59, Tryz.ntmps59
  go_wp2
  have qA0 := fun s : Past (((w.alloc (.cells #[.int .i64 a, .int .i64 b] 55)).alloc (.cells #[.int .i64 c, .int .i64 d] 55)).alloc (.cells #[.int .i64 e, .int .i64 f] 55)) => Ac0 s.w s.ext
  have qA1 := fun s : Past (((w.alloc (.cells #[.int .i64 a, .int .i64 b] 55)).alloc (.cells #[.int .i64 c, .int .i64 d] 55)).alloc (.cells #[.int .i64 e, .int .i64 f] 55)) => Ac1 s.w s.ext
  have qB0 := fun s : Past (((w.alloc (.cells #[.int .i64 a, .int .i64 b] 55)).alloc (.cells #[.int .i64 c, .int .i64 d] 55)).alloc (.cells #[.int .i64 e, .int .i64 f] 55)) => Bc0 s.w s.ext
  have qB1 := fun s : Past (((w.alloc (.cells #[.int .i64 a, .int .i64 b] 55)).alloc (.cells #[.int .i64 c, .int .i64 d] 55)).alloc (.cells #[.int .i64 e, .int .i64 f] 55)) => Bc1 s.w s.ext
  have qC0 := fun s : Past (((w.alloc (.cells #[.int .i64 a, .int .i64 b] 55)).alloc (.cells #[.int .i64 c, .int .i64 d] 55)).alloc (.cells #[.int .i64 e, .int .i64 f] 55)) => Cc0 s.w s.ext
  have qC1 := fun s : Past (((w.alloc (.cells #[.int .i64 a, .int .i64 b] 55)).alloc (.cells #[.int .i64 c, .int .i64 d] 55)).alloc (.cells #[.int .i64 e, .int .i64 f] 55)) => Cc1 s.w s.ext
  refine wp_region_past (((w.alloc (.cells #[.int .i64 a, .int .i64 b] 55)).alloc (.cells #[.int .i64 c, .int .i64 d] 55)).alloc (.cells #[.int .i64 e, .int .i64 f] 55)) (by first | exact hE | exact Ext.alloc hE _ | exact Ext.drew hE | exact Ext.drewN hE _) (by kernel_rfl) (by kernel_rfl) ?_
  repeat (go_big_quiet_step ((first | (go_at_call 70; exact past_ext (minus_any _ _ _ _ (by omega) (by omega) (by omega) (by omega) _)) | (go_at_call 52; exact past_ext (cross_any _ _ _ _ (by omega) (by omega) (by omega) (by omega) (by omega) (by omega) (by omega) (by omega) _)))))
  refine wpQuiet_nil ?_
  intro _ hw'
  obtain ⟨⟨w1, hE⟩, hw''⟩ := hw'
  subst hw''
  clear qA0 qA1 qB0 qB1 qC0 qC1
  go_wp2
  go_ret
  exact ⟨ret_int (by first | rfl | assumption), (by repeat (first | exact Ext.refl _ | assumption | apply Ext.alloc | apply Ext.drew | apply Ext.drewN | (refine Ext.trans ?_ (by assumption)) | (refine Ext.setCell ?_ (by (try simp) <;> omega) _)))⟩
theorem pyBefore_any (x y : Int × Int) (t : Bool) (ht : t = true ↔ lexP x y) (w : World) :
    Calls Tryz.prog 68 #[.agg #[.int .i64 x.1, .int .i64 x.2], .agg #[.int .i64 y.1, .int .i64 y.2]] w fun r w' => r = .returned (.bool t) ∧ Ext w w' := by
  obtain ⟨a, b⟩ := x
  obtain ⟨c, d⟩ := y
  have HT := Lib.hid (show (decide (a < c) || (decide (a = c) && decide (b < d))) = t by
    rw [Bool.eq_iff_iff, ht]; simp [lexP, lexV]; omega)
  clear ht
  by_cases h1 : a < c
  · go_enter Tryz.func68, Tryz.ntmps68
    go_wp2
    go_ret
    exact ⟨ret_bool (by rw [← HT.out]; simp [h1]), (by repeat (first | exact Ext.refl _ | assumption | apply Ext.alloc | apply Ext.drew | apply Ext.drewN | (refine Ext.trans ?_ (by assumption)) | (refine Ext.setCell ?_ (by (try simp) <;> omega) _)))⟩
  · have d1 : decide (a < c) = false := by simpa using h1
    by_cases h2 : a = c
    · subst h2
      go_enter Tryz.func68, Tryz.ntmps68
      go_wp2
      go_ret
      exact ⟨ret_bool (by rw [← HT.out]; simp), (by repeat (first | exact Ext.refl _ | assumption | apply Ext.alloc | apply Ext.drew | apply Ext.drewN | (refine Ext.trans ?_ (by assumption)) | (refine Ext.setCell ?_ (by (try simp) <;> omega) _)))⟩
    · have d2 : (a == c) = false := by simpa using h2
      go_enter Tryz.func68, Tryz.ntmps68
      go_wp2
      go_ret
      exact ⟨ret_bool (by rw [← HT.out]; simp [h1, h2]), (by repeat (first | exact Ext.refl _ | assumption | apply Ext.alloc | apply Ext.drew | apply Ext.drewN | (refine Ext.trans ?_ (by assumption)) | (refine Ext.setCell ?_ (by (try simp) <;> omega) _)))⟩
end Go.Proofs.YtngbdopgdcjdeaaGreatDoor

namespace Go.Proofs.YtngbdopgdcjdeaaGreatDoor
open Go Go.RowKit

section
variable {P : Program} {ops : Array Oper} {md : Region.Mode} {C : World → Prop}

/-- Every order of the operations ahead of number n comes to 'fin'. -/
def headAny (P : Program) (md : Region.Mode) (ops : Array Oper) (C : World → Prop) (n : Nat) (fin : Array Bool → Act → Prop) : Nat → Array Bool → Act → Prop
  | 0, l, a => fin l a
  | k + 1, l, a => Region.ready md ops l ≠ [] ∧ ∀ i ∈ Region.ready md ops l, i < n ∧ qOp P ops C i (headAny P md ops C n fin k (l.setIfInBounds i true)) a

theorem headAny_wp {n g : Nat} {fin : Array Bool → Act → Prop} {Q : Exit → Act → World → Prop} (hfin : ∀ l a w, C w → fin l a → wpAny P md ops Q g l a w) :
    ∀ (k : Nat) (l : Array Bool) (a : Act) (w : World), C w → headAny P md ops C n fin k l a → wpAny P md ops Q (k + g) l a w
  | 0, l, a, w, hw, h => by rw [Nat.zero_add]; exact hfin l a w hw h
  | k + 1, l, a, w, hw, h => by
    rw [show k + 1 + g = (k + g) + 1 by omega]
    exact ⟨fun e => absurd e h.1, fun i hi => wpOp_of_qOp hw (fun a' w' hw' => headAny_wp hfin k _ a' w' hw') (h.2 i hi).2⟩

theorem headAny_take {n i : Nat} {oi : Oper} {v : Value} {fin : Array Bool → Act → Prop} (hi : ops[i]? = some oi) (hsel : ∀ (j : Nat) (o : Oper) cs b, ops[j]? = some o → o.op ≠ .select cs b)
    (hs : Region.sinkB md ops n = true) (hc : Region.chainB md ops n = true) (hn : n < ops.size) (hin : i < n) (hdone : ∀ l a, fin l a → ∀ j ∈ Region.ready md ops l, n ≤ j) :
    ∀ (k : Nat) (l : Array Bool) (a : Act), HeadInv md ops n l →
      (∀ j oj, ops[j]? = some oj → j ≠ i → l.getD j true = false → (∀ e ∈ oj.after, Region.binds md e = true → e.on ≠ i) → oi.apart ops oj = true) →
      i ∈ Region.ready md ops l → YieldsIn P ops C oi v a → headAny P md ops C n fin k (l.setIfInBounds i true) (a.put oi.dst v) → headAny P md ops C n fin (k + 1) l a := by
  intro k
  induction k with
  | zero =>
    intro l a inv _ hr hy H
    refine ⟨fun e => (by rw [e] at hr; cases hr), fun j hj => ?_⟩
    have hun := (mem_ready.1 hr).1
    have hjn : j < n := by
      rcases Nat.lt_or_ge j n with h | h
      · exact h
      · exact absurd hj (tail_waits hs hc hn inv _ i rfl hin hun j h)
    refine ⟨hjn, ?_⟩
    by_cases hji : j = i
    · subst hji; exact hy.qOp hi H
    · exact absurd (hdone _ _ H j (ready_mono hj hji)) (by omega)
  | succ k ih =>
    intro l a inv hfree hr hy H
    refine ⟨fun e => (by rw [e] at hr; cases hr), fun j hj => ?_⟩
    have hun := (mem_ready.1 hr).1
    have hjn : j < n := by
      rcases Nat.lt_or_ge j n with h | h
      · exact h
      · exact absurd hj (tail_waits hs hc hn inv _ i rfl hin hun j h)
    refine ⟨hjn, ?_⟩
    by_cases hji : j = i
    · subst hji; exact hy.qOp hi H
    · obtain ⟨hjun, oj, hoj, hall⟩ := mem_ready.1 hj
      have hnot : ∀ e ∈ oj.after, Region.binds md e = true → e.on ≠ i := by
        intro e he hb heq
        have h1 := hall e he hb
        rw [heq, getD_both hun] at h1
        cases h1
      have h2 := qOp_put hoj (hfree j oj hoj hji hjun hnot) (fun cs b => hsel i oi cs b hi) (fun cs b => hsel j oj cs b hoj) hy (H.2 j (ready_mono hj hji)).2
      refine qOp_mono (fun a' h3 => ih (l.setIfInBounds j true) a' (inv.set hj hjn) (fun q oq hq hqi hqun hqno => ?_) (ready_mono hr (Ne.symm hji)) h3.1 ?_) h2
      · refine hfree q oq hq hqi ?_ hqno
        by_cases hjq : j = q
        · subst hjq; exact hjun
        · rw [getD_set_ne true hjq] at hqun; exact hqun
      · rw [Array.setIfInBounds_comm _ _ hji]
        exact h3.2

theorem headAny_lex {n g : Nat} {R : Act → Prop} (hsel : Region.noSelect ops = true) (hs : Region.sinkB md ops n = true) (hc : Region.chainB md ops n = true) (hn : n < ops.size) :
    ∀ (l : List Oper) (k : Nat) (listed : Array Bool) (a : Act), (∀ j, j < l.length → l[j]? = ops[k + j]?) → k + l.length = n → HeadInv md ops n listed →
    Region.lexHead md ops g l.length k listed = true → wpQuiet P ops C R l a →
    headAny P md ops C n (fun listed' a' => Region.seqB md ops g n listed' = true ∧ R a') l.length listed a
  | [], k, listed, a, _, hk, _, hB, h => by
    obtain rfl : k = n := by simpa using hk
    exact ⟨by simpa [Region.lexHead] using hB, h⟩
  | o :: l, k, listed, a, hl, hk, inv, hB, h => by
    have h0 : ops[k]? = some o := by simpa using (hl 0 (by simp)).symm
    simp only [List.length_cons, Region.lexHead, Bool.and_eq_true] at hB
    have hkn : k < n := by simp only [List.length_cons] at hk; omega
    have hr : k ∈ Region.ready md ops listed := by simpa using hB.1.1
    obtain ⟨v, hy, hK⟩ := yieldsIn_of_qOp h0 (show qOp P ops C k (wpQuiet P ops C R l) a by unfold qOp; simp only [h0]; exact h)
    exact headAny_take h0 (Region.noSelect_spec hsel) hs hc hn hkn (fun listed' a' hL => seqB_ready hL.1) l.length listed a inv (Region.free_spec h0 hB.1.2) hr hy
      (headAny_lex hsel hs hc hn l (k + 1) _ _ (fun j hj => by have := hl (j + 1) (by simp; omega); simpa [Nat.add_assoc, Nat.add_comm 1 j] using this) (by simp only [List.length_cons] at hk; omega) (inv.set hr hkn) hB.2 hK)
end

/-- One walk of the head in the text's order, at the class 'comes of W'; then the tail. -/
theorem wp_region_past_tail {P : Program} {id : Nat} {Q : Exit → Act → World → Prop} {a : Act} {w : World} {l : List Oper} (n : Nat) (W : World) (hE : Ext W w) (hm : P.follows .mixedOrders = true) (hB : Region.lexTailB .any l.toArray n = true)
    (h : wpQuiet P l.toArray (fun w' => ∃ s : Past W, w' = s.w) (fun a' => ∀ w', (∃ s : Past W, w' = s.w) → wpList P l.toArray Q (l.drop n) a' w') (l.take n) a) : (Code.region id l.toArray true).wp P Q a w := by
  simp only [Region.lexTailB, Bool.and_eq_true, decide_eq_true_eq] at hB
  obtain ⟨⟨⟨⟨hsel, hn⟩, hs⟩, hc⟩, hlex⟩ := hB
  have hn' : n < l.length := by simpa using hn
  have htl : (l.take n).length = n := by simp; omega
  have hdl : (l.drop n).length = l.toArray.size - n := by simp
  have inv0 : HeadInv .any l.toArray n (Array.replicate l.toArray.size false) :=
    ⟨by simp, fun j oj _ hl => (by rw [getD_replicate_false] at hl; cases hl), fun t _ ht => getD_in (by simpa using ht) (getD_replicate_false _ _)⟩
  have H := headAny_lex (md := .any) (g := l.toArray.size - n) hsel hs hc hn (l.take n) 0 _ a (fun j hj => by
    have hj' : j < n := by rw [htl] at hj; exact hj
    simp [hj']) (by simpa using htl) inv0 (by rw [htl]; exact hlex) h
  refine wp_region_any hm ?_
  have H2 := headAny_wp (Q := Q) (g := l.toArray.size - n) (fun listed a' w' hw' hL => by
    have := wpAny_of_seq (md := .any) (Q' := Q) (l.drop n) n listed a' w' (fun j => by simp [List.getElem?_drop]) (by rw [hdl]; exact hL.1) (hL.2 w' hw')
    rwa [hdl] at this) _ _ _ _ (show ∃ s : Past W, { w with drawn := w.drawn + 1 } = s.w from ⟨⟨w.drew, hE.drew⟩, rfl⟩) H
  rw [htl, show n + (l.toArray.size - n) = l.toArray.size by omega] at H2
  exact H2

end Go.Proofs.YtngbdopgdcjdeaaGreatDoor

namespace Go.Proofs.YtngbdopgdcjdeaaGreatDoor
open Go.RowKit

theorem cell_at_newQ {w : World} {cs : Array Value} {t : TypeId} {b i : Nat} {v : Value} (hb : b = w.heap.size) (h : cs[i]? = some v) : (w.alloc (.cells cs t)).cell? ⟨b, i, none⟩ = some v := by
  subst hb; simp [h]
theorem own_capQ {w : World} {B : Nat} {E : TypeId} {size : Nat} {a : Option Addr} {n c : Nat} {xs : List Value} (k : w.ownsRow B E size (.slice a n c) n xs) : n ≤ c ∧ c ≤ maxLen := by
  rcases k.2 with ⟨h, h0⟩ | ⟨g, cap, cur, hv, hb, _, r1, r2, _⟩
  · simp only [Value.slice.injEq] at h; omega
  · simp only [Value.slice.injEq, true_and] at hv
    omega
/-- How many elements a slice value has. -/
def slLenQ : Value → Nat
  | .slice _ n _ => n
  | _ => 0
set_option maxHeartbeats 2000000 in
theorem pyHalf_any (a : Option Addr) (n c : Nat) (zs : List (Int × Int)) (hn : n ≤ 1000) (hz : ∀ z ∈ zs, PB z) (w : World) (h : Reads w a 2 n (pv zs)) :
    Calls Tryz.prog 57 #[.slice a n c] w (OwnsPts w.heap.size (chainR zs).reverse w) := by
  have hl : zs.length = n := by have := h.1; rw [pv_len] at this; omega
  subst hl
  have HZ := Lib.hid hz
  clear hz
  go_enter Tryz.func57, Tryz.ntmps57
  go_wp2
  go_loopw [3, 8] (fun s t wr => ∃ (k : Nat) (a1 : Option Addr) (c1 : Nat), k ≤ zs.length ∧ t = .int .i64 k ∧ s = .slice a1 (chainR (zs.take k)).length c1 ∧ wr.ownsRow w.heap.size 55 2 (.slice a1 (chainR (zs.take k)).length c1) (chainR (zs.take k)).length (pv (chainR (zs.take k)).reverse) ∧ Ext w wr) (fun _ t _ => zs.length - (intOf t).toNat)
  case atStart => exact ⟨0, none, 0, Nat.zero_le _, rfl, rfl, own_nonePt _ _, Ext.refl _⟩
  case round =>
    obtain ⟨k, a1, c1, hk, rfl, rfl, hown, hE⟩ := hrel
    have hlen : (chainR (zs.take k)).length ≤ 1000 := by have := chainR_len (zs.take k); simp at this; omega
    have HM := Lib.hid (fun x (hx : x ∈ chainR (zs.take k)) => HZ.out x (List.mem_of_mem_take (chainR_mem _ x hx)))
    by_cases hlt : k < zs.length
    · obtain ⟨b, off, rfl, hp0, hp1⟩ := (Reads.ext hE h).pair hlt
      have HC := Lib.hid (show chainR (zs.take (k + 1)) = pat zs k :: popT (pat zs k) (chainR (zs.take k)) by rw [List.take_succ_eq_append_getElem hlt, chainR_snoc, pat_eq hlt])
      have HPB := Lib.hid (show PB (pat zs k) by rw [pat_eq hlt]; exact HZ.out _ (List.getElem_mem hlt))
      generalize chainR (zs.take k) = S at *
      generalize pat zs k = p at *
      obtain ⟨p1, p2⟩ := p
      simp only at hp0 hp1
      obtain ⟨wo, hwo⟩ : ∃ wo, wo = wr := ⟨_, rfl⟩
      subst hwo
      clear h
      go_wp2
      obtain ⟨V, hV0⟩ : ∃ V, V = wo.alloc (.cells #[.int .i64 p1, .int .i64 p2] 55) := ⟨_, rfl⟩
      obtain ⟨bb, hbb⟩ : ∃ bb, bb = wo.heap.size := ⟨_, rfl⟩
      have g0 : V.cell? ⟨bb, 0, none⟩ = some (.int .i64 p1) := by rw [hV0, hbb]; exact cell_at_newQ rfl rfl
      have g1 : V.cell? ⟨bb, 1, none⟩ = some (.int .i64 p2) := by rw [hV0, hbb]; exact cell_at_newQ rfl rfl
      have hownV := own_ext (show Ext wo V by rw [hV0]; exact Ext.alloc (Ext.refl _) _) hown
      have hEV : Ext w V := by rw [hV0]; exact Ext.alloc hE _
      rw [← hV0, ← hbb]
      clear hV0 hbb hown hE hp0 hp1
      go_loopw [3] (fun s wr => ∃ (st : List (Int × Int)) (a2 : Option Addr) (c2 : Nat), s = .slice a2 st.length c2 ∧ (∀ x ∈ st, PB x) ∧ popT (p1, p2) st = popT (p1, p2) S ∧ st.length ≤ 1000 ∧ wr.ownsRow w.heap.size 55 2 (.slice a2 st.length c2) st.length (pv st.reverse) ∧ Ext V wr) (fun s _ => slLenQ s)
      case atStart => exact ⟨S, a1, c1, rfl, HM.out, rfl, hlen, hownV, Ext.refl _⟩
      case round =>
        clear hownV HM
        obtain ⟨st, a2, c2, rfl, hm, hpop, hsl, hown, hE⟩ := hrel
        have HO := Lib.hid hown
        have HP := Lib.hid hpop
        have HM := Lib.hid hm
        clear hpop hm
        have Pc0 := Ext.rebase hE (Ext.keeps g0)
        have Pc1 := Ext.rebase hE (Ext.keeps g1)
        have hEw := hEV.trans hE
        have h0 := Pc0 _ (Ext.refl _)
        have h0' := Pc1 _ (Ext.refl _)
        by_cases h1 : st.length ≤ 1
        · have HS : Hid (popT (p1, p2) S = st) := by
            show popT (p1, p2) S = st
            rw [← HP.out]
            match st, h1 with
            | [], _ => rfl
            | [_], _ => rfl
          clear hown HP HM g0 g1 h0 h0' hE
          have hg : decide (1 < (st.length : Int)) = false := by simp; omega
          have hE : Ext wr wr := Ext.refl _
          go_wp2
          have qP0 := fun s : Past wr => Pc0 s.w s.ext
          have qP1 := fun s : Past wr => Pc1 s.w s.ext
          refine wp_region_past wr (by first | exact hE | exact Ext.alloc hE _ | exact Ext.drew hE | exact Ext.drewN hE _) (by kernel_rfl) (by kernel_rfl) ?_
          repeat (go_big_quiet_step ((fail)))
          refine wpQuiet_nil ?_
          intro _ hw'
          obtain ⟨⟨w1, hE⟩, hw''⟩ := hw'
          subst hw''
          clear qP0 qP1
          have hEw1 := hEw.trans hE
          have h0 := Pc0 _ hE
          have h0' := Pc1 _ hE
          replace HO := Lib.hid (own_ext hE HO.out)
          clear hE Pc0 Pc1
          go_wp2_with (at_builtin; go_must (refine wpList_appQ rfl _ _ rfl w w.heap.size _ _ _ st.reverse rfl (own_ext (Ext.alloc (Ext.refl _) _) HO.out) ⟨_, 0, none⟩ 1 1 [(p1, p2)] rfl rfl (one_cells (by simp) (by simp)) (by omega) (by omega) (by have := hEw1.size; simp at this ⊢; omega) (hEw1.alloc _) (Nat.le_refl _) ?_))
          intro a3 c3 w3 hown3 hE3
          go_wp2
          go_roundw
          case rel => exact ⟨k + 1, a3, c3, by omega, by go_num, by rw [HC.out, HS.out]; simp, by rw [HC.out, HS.out]; simpa using hown3, hE3⟩
          case measure => simp [intOf]; omega
        · obtain ⟨y, x, r, rfl⟩ : ∃ y x r, st = y :: x :: r := by
            match st, h1 with
            | [], h1 => exact absurd (Nat.zero_le _) h1
            | [_], h1 => exact absurd (Nat.le_refl _) h1
            | y :: x :: r, _ => exact ⟨y, x, r, rfl⟩
          obtain ⟨g, rfl, hg1, hg2⟩ := own_head hown (by simp)
          obtain ⟨_, _, e1, y0, y1⟩ := (own_reads hown).pair (k := r.length + 1) (by simp)
          obtain ⟨_, _, e2, x0, x1⟩ := (own_reads hown).pair (k := r.length) (by simp; omega)
          simp only [Option.some.injEq, Addr.mk.injEq, and_true] at e1 e2
          obtain ⟨rfl, rfl⟩ := e1
          obtain ⟨rfl, rfl⟩ := e2
          rw [show r.length + 1 = (x :: r).length from rfl, pat_top] at y0 y1
          rw [pat_two] at x0 x1
          have HX := Lib.hid (fun e : turnI x y (p1, p2) ≤ 0 => show popT (p1, p2) (y :: x :: r) = popT (p1, p2) (x :: r) by simp only [popT]; rw [if_pos e])
          have HY := Lib.hid (fun e : ¬ turnI x y (p1, p2) ≤ 0 => show popT (p1, p2) (y :: x :: r) = y :: x :: r by simp only [popT]; rw [if_neg e])
          have HT := Lib.hid (fun w => pyTurn_any x y (p1, p2) (HM.out x (by simp)) (HM.out y (by simp)) HPB.out w)
          have HPo := Lib.hid (show wr.ownsRow w.heap.size 55 2 (.slice (some ⟨g, 0, none⟩) (r.length + 1) c2) (r.length + 1) (pv (x :: r).reverse) by
            have := own_shrink hown (m := (x :: r).length) (by simp) (by simp)
            rwa [pv_pop] at this)
          have hcap := (own_capQ HO.out).1
          simp only [List.length_cons] at hcap hsl x0 x1 y0 y1
          generalize turnI x y (p1, p2) = T at HX HY HT
          obtain ⟨x1', x2'⟩ := x
          obtain ⟨y1', y2'⟩ := y
          simp only [Nat.zero_add] at x0 x1 y0 y1 HT
          have Xc0 := Ext.keeps x0
          have Xc1 := Ext.keeps x1
          have Yc0 := Ext.keeps y0
          have Yc1 := Ext.keeps y1
          have hE0 := hE
          clear hown h0 h0' g0 g1 hE
          have hE : Ext wr wr := Ext.refl _
          have ml0 : (0 : Int) ≤ (r.length : Int) := by omega
          have hg : decide ((1 : Int) < (r.length : Int) + 1 + 1) = true := by simp; omega
          have w1' : IntKind.i64.wrap ((r.length : Int) + 1 + 1 - 2) = (r.length : Int) := by rw [wrap_i64] <;> omega
          have w2' : IntKind.i64.wrap ((r.length : Int) + 1 + 1 - 1) = (r.length : Int) + 1 := by rw [wrap_i64] <;> omega
          have w3' : ((r.length : Int) + 1).toNat = r.length + 1 := by omega
          have l1' : (r.length : Int) < (r.length : Int) + 1 + 1 := by omega
          have l2' : (r.length : Int) + 1 < (r.length : Int) + 1 + 1 := by omega
          have l3' : (0 : Int) ≤ (r.length : Int) + 1 := by omega
          simp only [List.length_cons]
          by_cases hT : T ≤ 0
          · have hT2 : decide (T ≤ 0) = true := decide_eq_true hT
            have HN : Hid (popT (p1, p2) ((x1', x2') :: r) = popT (p1, p2) S) := by
              show popT (p1, p2) ((x1', x2') :: r) = popT (p1, p2) S
              rw [← HP.out]
              exact (HX.out hT).symm
            have HM2 := Lib.hid (fun z (hz : z ∈ (x1', x2') :: r) => HM.out z (List.mem_cons_of_mem _ hz))
            clear HX HY HP HM HO hT
            go_wp2
            have qP0 := fun s : Past wr => Pc0 s.w s.ext
            have qP1 := fun s : Past wr => Pc1 s.w s.ext
            have qX0 := fun s : Past wr => Xc0 s.w s.ext
            have qX1 := fun s : Past wr => Xc1 s.w s.ext
            have qY0 := fun s : Past wr => Yc0 s.w s.ext
            have qY1 := fun s : Past wr => Yc1 s.w s.ext
            refine wp_region_past wr (by first | exact hE | exact Ext.alloc hE _ | exact Ext.drew hE | exact Ext.drewN hE _) (by kernel_rfl) (by kernel_rfl) ?_
            repeat (go_big_quiet_step (((go_at_call 21; exact past_ext (HT.out _)))))
            refine wpQuiet_nil ?_
            intro _ hw'
            obtain ⟨⟨w1, hE⟩, hw''⟩ := hw'
            subst hw''
            clear qP0 qP1 qX0 qX1 qY0 qY1
            have HR := Lib.hid (own_ext hE HPo.out)
            clear HPo
            go_wp2
            go_roundw
            case rel => exact ⟨(x1', x2') :: r, some ⟨g, 0, none⟩, c2, by simp, HM2.out, HN.out, by simp; omega, HR.out, hE0.trans hE⟩
            case measure => simp [slLenQ]
          · have hT2 : decide (T ≤ 0) = false := decide_eq_false hT
            have HS : Hid (popT (p1, p2) S = (y1', y2') :: (x1', x2') :: r) := by
              show popT (p1, p2) S = (y1', y2') :: (x1', x2') :: r
              rw [← HP.out]
              exact HY.out hT
            replace HO := Lib.hid (show wr.ownsRow w.heap.size 55 2 (.slice (some ⟨g, 0, none⟩) (r.length + 1 + 1) c2) (r.length + 1 + 1) (pv ((y1', y2') :: (x1', x2') :: r).reverse) from HO.out)
            clear HX HY HP HM HPo hT hE0
            go_wp2
            have qP0 := fun s : Past wr => Pc0 s.w s.ext
            have qP1 := fun s : Past wr => Pc1 s.w s.ext
            have qX0 := fun s : Past wr => Xc0 s.w s.ext
            have qX1 := fun s : Past wr => Xc1 s.w s.ext
            have qY0 := fun s : Past wr => Yc0 s.w s.ext
            have qY1 := fun s : Past wr => Yc1 s.w s.ext
            refine wp_region_past wr (by first | exact hE | exact Ext.alloc hE _ | exact Ext.drew hE | exact Ext.drewN hE _) (by kernel_rfl) (by kernel_rfl) ?_
            repeat (go_big_quiet_step (((go_at_call 21; exact past_ext (HT.out _)))))
            refine wpQuiet_nil ?_
            intro _ hw'
            obtain ⟨⟨w1, hE⟩, hw''⟩ := hw'
            subst hw''
            clear qP0 qP1 qX0 qX1 qY0 qY1
            have hEw1 := hEw.trans hE
            have h0 := Pc0 _ hE
            have h0' := Pc1 _ hE
            replace HO := Lib.hid (own_ext hE HO.out)
            clear hE Pc0 Pc1
            go_wp2_with (at_builtin; go_must (refine wpList_appQ rfl _ _ rfl w w.heap.size _ _ _ ((y1', y2') :: (x1', x2') :: r).reverse rfl (own_ext (Ext.alloc (Ext.refl _) _) HO.out) ⟨_, 0, none⟩ 1 1 [(p1, p2)] rfl rfl (one_cells (by simp) (by simp)) (by omega) (by omega) (by have := hEw1.size; simp at this ⊢; omega) (hEw1.alloc _) (Nat.le_refl _) ?_))
            intro a3 c3 w3 hown3 hE3
            go_wp2
            go_roundw
            case rel => exact ⟨k + 1, a3, c3, by omega, by go_num, by rw [HC.out, HS.out]; simp, by rw [HC.out, HS.out]; simpa using hown3, hE3⟩
            case measure => simp [intOf]; omega
    · have hkn : Hid (k = zs.length) := by show k = zs.length; omega
      have e : zs.take k = zs := by rw [hkn.out]; exact List.take_length
      rw [e] at hown ⊢
      go_wp2
      go_ret
      exact ⟨a1, c1, by simp, by simpa using hown, hE⟩


set_option maxHeartbeats 2000000 in
theorem half_any (a : Option Addr) (n c : Nat) (zs : List (Int × Int)) (hn : n ≤ 1000) (hne : zs ≠ []) (hz : ∀ z ∈ zs, PB z) (w : World) (h : Reads w a 2 n (pv zs)) :
    Calls Tryz.prog 98 #[.slice a n c] w (OwnsPts w.heap.size (chainR zs).tail.reverse w) := by
  have hl : zs.length = n := by have := h.1; rw [pv_len] at this; omega
  subst hl
  have HZ := Lib.hid hz
  clear hz
  go_enter Tryz.func98, Tryz.ntmps98
  go_wp2
  go_loopw [3, 9] (fun s t wr => ∃ (k : Nat) (a1 : Option Addr) (c1 : Nat), k ≤ zs.length ∧ t = .int .i64 k ∧ s = .slice a1 (chainR (zs.take k)).length c1 ∧ wr.ownsRow w.heap.size 55 2 (.slice a1 (chainR (zs.take k)).length c1) (chainR (zs.take k)).length (pv (chainR (zs.take k)).reverse) ∧ Ext w wr) (fun _ t _ => zs.length - (intOf t).toNat)
  case atStart => exact ⟨0, some ⟨w.heap.size, 0, none⟩, 0, Nat.zero_le _, rfl, rfl, World.ownsRow_lit w #[] 0 (Nat.le_refl _) (by unfold maxLen; omega) rfl, (by repeat (first | exact Ext.refl _ | assumption | apply Ext.alloc | apply Ext.drew | apply Ext.drewN | (refine Ext.trans ?_ (by assumption)) | (refine Ext.setCell ?_ (by (try simp) <;> omega) _)))⟩
  case round =>
    obtain ⟨k, a1, c1, hk, rfl, rfl, hown, hE⟩ := hrel
    have hlen : (chainR (zs.take k)).length ≤ 1000 := by have := chainR_len (zs.take k); simp at this; omega
    have HM := Lib.hid (fun x (hx : x ∈ chainR (zs.take k)) => HZ.out x (List.mem_of_mem_take (chainR_mem _ x hx)))
    by_cases hlt : k < zs.length
    · obtain ⟨b, off, rfl, hp0, hp1⟩ := (Reads.ext hE h).pair hlt
      have HC := Lib.hid (show chainR (zs.take (k + 1)) = pat zs k :: popT (pat zs k) (chainR (zs.take k)) by rw [List.take_succ_eq_append_getElem hlt, chainR_snoc, pat_eq hlt])
      have HPB := Lib.hid (show PB (pat zs k) by rw [pat_eq hlt]; exact HZ.out _ (List.getElem_mem hlt))
      generalize chainR (zs.take k) = S at *
      generalize pat zs k = p at *
      obtain ⟨p1, p2⟩ := p
      simp only at hp0 hp1
      obtain ⟨wo, hwo⟩ : ∃ wo, wo = wr := ⟨_, rfl⟩
      subst hwo
      clear h
      go_wp2
      obtain ⟨V, hV0⟩ : ∃ V, V = wo.alloc (.cells #[.int .i64 p1, .int .i64 p2] 55) := ⟨_, rfl⟩
      obtain ⟨bb, hbb⟩ : ∃ bb, bb = wo.heap.size := ⟨_, rfl⟩
      have g0 : V.cell? ⟨bb, 0, none⟩ = some (.int .i64 p1) := by rw [hV0, hbb]; exact cell_at_newQ rfl rfl
      have g1 : V.cell? ⟨bb, 1, none⟩ = some (.int .i64 p2) := by rw [hV0, hbb]; exact cell_at_newQ rfl rfl
      have hownV := own_ext (show Ext wo V by rw [hV0]; exact Ext.alloc (Ext.refl _) _) hown
      have hEV : Ext w V := by rw [hV0]; exact Ext.alloc hE _
      rw [← hV0, ← hbb]
      clear hV0 hbb hown hE hp0 hp1
      go_loopw [3] (fun s wr => ∃ (st : List (Int × Int)) (a2 : Option Addr) (c2 : Nat), s = .slice a2 st.length c2 ∧ (∀ x ∈ st, PB x) ∧ popT (p1, p2) st = popT (p1, p2) S ∧ st.length ≤ 1000 ∧ wr.ownsRow w.heap.size 55 2 (.slice a2 st.length c2) st.length (pv st.reverse) ∧ Ext V wr) (fun s _ => slLenQ s)
      case atStart => exact ⟨S, a1, c1, rfl, HM.out, rfl, hlen, hownV, Ext.refl _⟩
      case round =>
        clear hownV HM
        obtain ⟨st, a2, c2, rfl, hm, hpop, hsl, hown, hE⟩ := hrel
        have HO := Lib.hid hown
        have HP := Lib.hid hpop
        have HM := Lib.hid hm
        clear hpop hm
        have Pc0 := Ext.rebase hE (Ext.keeps g0)
        have Pc1 := Ext.rebase hE (Ext.keeps g1)
        have hEw := hEV.trans hE
        have h0 := Pc0 _ (Ext.refl _)
        have h0' := Pc1 _ (Ext.refl _)
        by_cases h1 : st.length ≤ 1
        · have HS : Hid (popT (p1, p2) S = st) := by
            show popT (p1, p2) S = st
            rw [← HP.out]
            match st, h1 with
            | [], _ => rfl
            | [_], _ => rfl
          clear hown HP HM g0 g1 h0 h0' hE
          have hg : decide (1 < (st.length : Int)) = false := by simp; omega
          have hE : Ext wr wr := Ext.refl _
          go_wp2
          have qP0 := fun s : Past wr => Pc0 s.w s.ext
          have qP1 := fun s : Past wr => Pc1 s.w s.ext
          refine wp_region_past wr (by first | exact hE | exact Ext.alloc hE _ | exact Ext.drew hE | exact Ext.drewN hE _) (by kernel_rfl) (by kernel_rfl) ?_
          repeat (go_big_quiet_step ((fail)))
          refine wpQuiet_nil ?_
          intro _ hw'
          obtain ⟨⟨w1, hE⟩, hw''⟩ := hw'
          subst hw''
          clear qP0 qP1
          have hEw1 := hEw.trans hE
          have h0 := Pc0 _ hE
          have h0' := Pc1 _ hE
          replace HO := Lib.hid (own_ext hE HO.out)
          clear hE Pc0 Pc1
          go_wp2_with (at_builtin; go_must (refine wpList_appQ rfl _ _ rfl w w.heap.size _ _ _ st.reverse rfl (own_ext (Ext.alloc (Ext.refl _) _) HO.out) ⟨_, 0, none⟩ 1 1 [(p1, p2)] rfl rfl (one_cells (by simp) (by simp)) (by omega) (by omega) (by have := hEw1.size; simp at this ⊢; omega) (hEw1.alloc _) (Nat.le_refl _) ?_))
          intro a3 c3 w3 hown3 hE3
          go_wp2
          go_roundw
          case rel => exact ⟨k + 1, a3, c3, by omega, by go_num, by rw [HC.out, HS.out]; simp, by rw [HC.out, HS.out]; simpa using hown3, hE3⟩
          case measure => simp [intOf]; omega
        · obtain ⟨y, x, r, rfl⟩ : ∃ y x r, st = y :: x :: r := by
            match st, h1 with
            | [], h1 => exact absurd (Nat.zero_le _) h1
            | [_], h1 => exact absurd (Nat.le_refl _) h1
            | y :: x :: r, _ => exact ⟨y, x, r, rfl⟩
          obtain ⟨g, rfl, hg1, hg2⟩ := own_head hown (by simp)
          obtain ⟨_, _, e1, y0, y1⟩ := (own_reads hown).pair (k := r.length + 1) (by simp)
          obtain ⟨_, _, e2, x0, x1⟩ := (own_reads hown).pair (k := r.length) (by simp; omega)
          simp only [Option.some.injEq, Addr.mk.injEq, and_true] at e1 e2
          obtain ⟨rfl, rfl⟩ := e1
          obtain ⟨rfl, rfl⟩ := e2
          rw [show r.length + 1 = (x :: r).length from rfl, pat_top] at y0 y1
          rw [pat_two] at x0 x1
          have HX := Lib.hid (fun e : turnI x y (p1, p2) ≤ 0 => show popT (p1, p2) (y :: x :: r) = popT (p1, p2) (x :: r) by simp only [popT]; rw [if_pos e])
          have HY := Lib.hid (fun e : ¬ turnI x y (p1, p2) ≤ 0 => show popT (p1, p2) (y :: x :: r) = y :: x :: r by simp only [popT]; rw [if_neg e])
          have HT := Lib.hid (fun w => turn_any x y (p1, p2) (HM.out x (by simp)) (HM.out y (by simp)) HPB.out w)
          have HPo := Lib.hid (show wr.ownsRow w.heap.size 55 2 (.slice (some ⟨g, 0, none⟩) (r.length + 1) c2) (r.length + 1) (pv (x :: r).reverse) by
            have := own_shrink hown (m := (x :: r).length) (by simp) (by simp)
            rwa [pv_pop] at this)
          have hcap := (own_capQ HO.out).1
          simp only [List.length_cons] at hcap hsl x0 x1 y0 y1
          generalize turnI x y (p1, p2) = T at HX HY HT
          obtain ⟨x1', x2'⟩ := x
          obtain ⟨y1', y2'⟩ := y
          simp only [Nat.zero_add] at x0 x1 y0 y1 HT
          have Xc0 := Ext.keeps x0
          have Xc1 := Ext.keeps x1
          have Yc0 := Ext.keeps y0
          have Yc1 := Ext.keeps y1
          have hE0 := hE
          clear hown h0 h0' g0 g1 hE
          have hE : Ext wr wr := Ext.refl _
          have ml0 : (0 : Int) ≤ (r.length : Int) := by omega
          have hg : decide ((1 : Int) < (r.length : Int) + 1 + 1) = true := by simp; omega
          have w1' : IntKind.i64.wrap ((r.length : Int) + 1 + 1 - 2) = (r.length : Int) := by rw [wrap_i64] <;> omega
          have w2' : IntKind.i64.wrap ((r.length : Int) + 1 + 1 - 1) = (r.length : Int) + 1 := by rw [wrap_i64] <;> omega
          have w3' : ((r.length : Int) + 1).toNat = r.length + 1 := by omega
          have l1' : (r.length : Int) < (r.length : Int) + 1 + 1 := by omega
          have l2' : (r.length : Int) + 1 < (r.length : Int) + 1 + 1 := by omega
          have l3' : (0 : Int) ≤ (r.length : Int) + 1 := by omega
          simp only [List.length_cons]
          by_cases hT : T ≤ 0
          · have hT2 : decide (T ≤ 0) = true := decide_eq_true hT
            have HN : Hid (popT (p1, p2) ((x1', x2') :: r) = popT (p1, p2) S) := by
              show popT (p1, p2) ((x1', x2') :: r) = popT (p1, p2) S
              rw [← HP.out]
              exact (HX.out hT).symm
            have HM2 := Lib.hid (fun z (hz : z ∈ (x1', x2') :: r) => HM.out z (List.mem_cons_of_mem _ hz))
            clear HX HY HP HM HO hT
            go_wp2
            have qP0 := fun s : Past wr => Pc0 s.w s.ext
            have qP1 := fun s : Past wr => Pc1 s.w s.ext
            have qX0 := fun s : Past wr => Xc0 s.w s.ext
            have qX1 := fun s : Past wr => Xc1 s.w s.ext
            have qY0 := fun s : Past wr => Yc0 s.w s.ext
            have qY1 := fun s : Past wr => Yc1 s.w s.ext
            refine wp_region_past wr (by first | exact hE | exact Ext.alloc hE _ | exact Ext.drew hE | exact Ext.drewN hE _) (by kernel_rfl) (by kernel_rfl) ?_
            repeat (go_big_quiet_step (((go_at_call 59; exact past_ext (HT.out _)))))
            refine wpQuiet_nil ?_
            intro _ hw'
            obtain ⟨⟨w1, hE⟩, hw''⟩ := hw'
            subst hw''
            clear qP0 qP1 qX0 qX1 qY0 qY1
            have HR := Lib.hid (own_ext hE HPo.out)
            clear HPo
            go_wp2
            go_roundw
            case rel => exact ⟨(x1', x2') :: r, some ⟨g, 0, none⟩, c2, by simp, HM2.out, HN.out, by simp; omega, HR.out, hE0.trans hE⟩
            case measure => simp [slLenQ]
          · have hT2 : decide (T ≤ 0) = false := decide_eq_false hT
            have HS : Hid (popT (p1, p2) S = (y1', y2') :: (x1', x2') :: r) := by
              show popT (p1, p2) S = (y1', y2') :: (x1', x2') :: r
              rw [← HP.out]
              exact HY.out hT
            replace HO := Lib.hid (show wr.ownsRow w.heap.size 55 2 (.slice (some ⟨g, 0, none⟩) (r.length + 1 + 1) c2) (r.length + 1 + 1) (pv ((y1', y2') :: (x1', x2') :: r).reverse) from HO.out)
            clear HX HY HP HM HPo hT hE0
            go_wp2
            have qP0 := fun s : Past wr => Pc0 s.w s.ext
            have qP1 := fun s : Past wr => Pc1 s.w s.ext
            have qX0 := fun s : Past wr => Xc0 s.w s.ext
            have qX1 := fun s : Past wr => Xc1 s.w s.ext
            have qY0 := fun s : Past wr => Yc0 s.w s.ext
            have qY1 := fun s : Past wr => Yc1 s.w s.ext
            refine wp_region_past wr (by first | exact hE | exact Ext.alloc hE _ | exact Ext.drew hE | exact Ext.drewN hE _) (by kernel_rfl) (by kernel_rfl) ?_
            repeat (go_big_quiet_step (((go_at_call 59; exact past_ext (HT.out _)))))
            refine wpQuiet_nil ?_
            intro _ hw'
            obtain ⟨⟨w1, hE⟩, hw''⟩ := hw'
            subst hw''
            clear qP0 qP1 qX0 qX1 qY0 qY1
            have hEw1 := hEw.trans hE
            have h0 := Pc0 _ hE
            have h0' := Pc1 _ hE
            replace HO := Lib.hid (own_ext hE HO.out)
            clear hE Pc0 Pc1
            go_wp2_with (at_builtin; go_must (refine wpList_appQ rfl _ _ rfl w w.heap.size _ _ _ ((y1', y2') :: (x1', x2') :: r).reverse rfl (own_ext (Ext.alloc (Ext.refl _) _) HO.out) ⟨_, 0, none⟩ 1 1 [(p1, p2)] rfl rfl (one_cells (by simp) (by simp)) (by omega) (by omega) (by have := hEw1.size; simp at this ⊢; omega) (hEw1.alloc _) (Nat.le_refl _) ?_))
            intro a3 c3 w3 hown3 hE3
            go_wp2
            go_roundw
            case rel => exact ⟨k + 1, a3, c3, by omega, by go_num, by rw [HC.out, HS.out]; simp, by rw [HC.out, HS.out]; simpa using hown3, hE3⟩
            case measure => simp [intOf]; omega
    · have hkn : Hid (k = zs.length) := by show k = zs.length; omega
      have e : zs.take k = zs := by rw [hkn.out]; exact List.take_length
      rw [e] at hown ⊢
      have hpos := chainR_pos hne
      have hlen' : (chainR zs).length ≤ 1000 := by have := chainR_len zs; omega
      generalize chainR zs = S at *
      obtain ⟨y, r, rfl⟩ : ∃ y r, S = y :: r := by
        match S, hpos with
        | y :: r, _ => exact ⟨y, r, rfl⟩
      obtain ⟨g, rfl, hg1, hg2⟩ := own_head hown (by simp)
      have hcap := (own_capQ hown).1
      have HPo := Lib.hid (show wr.ownsRow w.heap.size 55 2 (.slice (some ⟨g, 0, none⟩) r.length c1) r.length (pv r.reverse) by
        have := own_shrink hown (m := r.length) (by simp) (by simp)
        rwa [pv_pop] at this)
      simp only [List.length_cons] at hcap hlen' ⊢
      have hcap2 : (r.length : Int) ≤ c1 := by omega
      have ml0 : (0 : Int) ≤ (r.length : Int) := by omega
      have w2' : IntKind.i64.wrap ((r.length : Int) + 1 - 1) = (r.length : Int) := by rw [wrap_i64] <;> omega
      clear hown
      go_wp2
      go_ret
      exact ⟨some ⟨g, 0, none⟩, c1, by simp, by simpa using HPo.out, hE⟩


end Go.Proofs.YtngbdopgdcjdeaaGreatDoor

namespace Go.Proofs.YtngbdopgdcjdeaaGreatDoor
open Go Go.RowKit

section
variable {P : Program} (w : World)
theorem run_app_nilsrc (base : Nat) (t ty e : TypeId) (i : TypeInfo) (size : Nat) (ht : P.underlying t = some (.slice e)) (hi : P.info? e = some i)
    (v : Value) (n : Nat) (xs : List Value) (hown : w.ownsRow base e size v n xs) (c : Nat) : (Builtin.append_ #[t, t] ty #[v, .slice none 0 c]).run P w = .ok v w := by
  rcases hown.2 with ⟨rfl, rfl⟩ | ⟨g, cap, cur, rfl, _, _, hnc, _⟩
  · simp [Builtin.append_, run_underlying ht, sizeOf, typeInfo, hi, Builtin.lenOf, Builtin.firstCells]
  · simp [Builtin.append_, run_underlying ht, sizeOf, typeInfo, hi, Builtin.lenOf, Builtin.firstCells, hnc, storeCells]
theorem run_app_any (base : Nat) (t ty e : TypeId) (i : TypeInfo) (z : Value) (size bytes : Nat) (ht : P.underlying t = some (.slice e)) (hi : P.info? e = some i) (hz : i.zero = some z)
    (hsize : i.size = size) (hby : i.bytes = bytes) (hzs : z.cells.size = size) (hsz : 0 < size)
    (v : Value) (n : Nat) (xs : List Value) (hown : w.ownsRow base e size v n xs)
    (A : Option Addr) (m c : Nat) (news : List Value) (hr : Reads w A size m news) (h1 : ∀ u ∈ news, u.oneCell' = true)
    (h63 : n + m ≤ maxLen) (hbytes : (n + m) * bytes ≤ 140737488355328) (hbase : base ≤ w.heap.size) :
    ∃ v' w', (Builtin.append_ #[t, t] ty #[v, .slice A m c]).run P w = .ok v' w' ∧ w'.ownsRow base e size v' (n + m) (xs ++ news) ∧ w.grownBy w' v.ownBlock ∧
      (v'.ownBlock = v.ownBlock ∨ v'.ownBlock = some w.heap.size) := by
  have hnil : m = 0 → news = [] := fun h0 => List.eq_nil_of_length_eq_zero (by have := hr.1; rw [h0] at this; simpa using this)
  rcases A with _ | ad
  · have hm : m = 0 := by
      rcases Nat.eq_zero_or_pos m with h0 | h0
      · exact h0
      · obtain ⟨b, off, h, _⟩ := hr.2 h0
        cases h
    rw [hnil hm]
    subst hm
    exact ⟨v, w, run_app_nilsrc w base t ty e i size ht hi v n xs hown c, by simpa using hown, World.grownBy.refl w _, .inl rfl⟩
  · have hcells : ∀ j u, news[j]? = some u → w.cell? (ad.add j) = some u := by
      intro j u hu
      rcases Nat.eq_zero_or_pos m with h0 | h0
      · rw [hnil h0] at hu
        simp at hu
      · obtain ⟨b, off, h, hc⟩ := hr.2 h0
        injection h with h
        subst h
        have hcj := hc j u hu
        by_cases h0' : j = 0
        · subst h0'; simpa [Addr.add] using hcj
        · simpa [Addr.add, h0'] using hcj
    obtain ⟨v', w', hrun, h2, h3, _, h5⟩ := run_append_own_at (P := P) w base t ty e i z size bytes ht hi hz hsize hby hzs hsz v n xs hown ad m c news hr.1 hcells h1 h63 hbytes hbase
    exact ⟨v', w', hrun, h2, h3, h5⟩
theorem wp_app_any {o : Oper} {a : Act} {K : Act → World → Prop} {Q : Exit → Act → World → Prop} (s x : Operand) (t : TypeId)
    (ho : o.op = .call { callee := .builtin .append, args := #[s, x], argTypes := #[t, t] })
    (base : Nat) (e : TypeId) (i : TypeInfo) (z : Value) (size bytes : Nat) (ht : P.underlying t = some (.slice e)) (hi : P.info? e = some i) (hz : i.zero = some z)
    (hsize : i.size = size) (hby : i.bytes = bytes) (hzs : z.cells.size = size) (hsz : 0 < size)
    (v : Value) (n : Nat) (xs : List Value) (hs : a.eval s = v) (hown : w.ownsRow base e size v n xs)
    (A : Option Addr) (m c : Nat) (news : List Value) (hx : a.eval x = .slice A m c) (hr : Reads w A size m news) (h1 : ∀ u ∈ news, u.oneCell' = true)
    (h63 : n + m ≤ maxLen) (hbytes : (n + m) * bytes ≤ 140737488355328) (hbase : base ≤ w.heap.size)
    (h : ∀ a' c' w', w'.ownsRow base e size (.slice a' (n + m) c') (n + m) (xs ++ news) → w.grownBy w' v.ownBlock → ((Value.slice a' (n + m) c').ownBlock = v.ownBlock ∨ (Value.slice a' (n + m) c').ownBlock = some w.heap.size) → K (a.put o.dst (.slice a' (n + m) c')) w') : o.wp P a w K Q := by
  obtain ⟨v', w', hrun, h2, h3, h4⟩ := run_app_any (P := P) w base t o.type e i z size bytes ht hi hz hsize hby hzs hsz v n xs hown A m c news hr h1 h63 hbytes hbase
  obtain ⟨a', c', rfl⟩ := own_form h2
  unfold Oper.wp execOp
  simp only [ho, resolve, invoke, builtin, Sem.run_bind, Sem.run_pure, Result.andThen_ok, List.map_toArray, List.map_cons, List.map_nil, hs, hx, hrun]
  exact h a' c' w' h2 h3 h4
theorem wpList_app_any {ops : Array Oper} {rest : List Oper} {o : Oper} {a : Act} {Q : Exit → Act → World → Prop} (hgd : o.guard = none) (s x : Operand) (t : TypeId)
    (ho : o.op = .call { callee := .builtin .append, args := #[s, x], argTypes := #[t, t] })
    (base : Nat) (e : TypeId) (i : TypeInfo) (z : Value) (size bytes : Nat) (ht : P.underlying t = some (.slice e)) (hi : P.info? e = some i) (hz : i.zero = some z)
    (hsize : i.size = size) (hby : i.bytes = bytes) (hzs : z.cells.size = size) (hsz : 0 < size)
    (v : Value) (n : Nat) (xs : List Value) (hs : a.eval s = v) (hown : w.ownsRow base e size v n xs)
    (A : Option Addr) (m c : Nat) (news : List Value) (hx : a.eval x = .slice A m c) (hr : Reads w A size m news) (h1 : ∀ u ∈ news, u.oneCell' = true)
    (h63 : n + m ≤ maxLen) (hbytes : (n + m) * bytes ≤ 140737488355328) (hbase : base ≤ w.heap.size)
    (h : ∀ a' c' w', w'.ownsRow base e size (.slice a' (n + m) c') (n + m) (xs ++ news) → w.grownBy w' v.ownBlock → ((Value.slice a' (n + m) c').ownBlock = v.ownBlock ∨ (Value.slice a' (n + m) c').ownBlock = some w.heap.size) → wpList P ops Q rest (a.put o.dst (.slice a' (n + m) c')) w') : wpList P ops Q (o :: rest) a w :=
  wpList_plain hgd fun _ hK => wp_app_any w s x t ho base e i z size bytes ht hi hz hsize hby hzs hsz v n xs hs hown A m c news hx hr h1 h63 hbytes hbase fun a' c' w' h2 h3 h4 => hK _ _ (h a' c' w' h2 h3 h4)
theorem step_app_any {ops : Array Oper} {o : Oper} {a : Act} {K : Act → World → Prop} {Q : Exit → Act → World → Prop} {E : Prop} (hgd : o.guard = none) (s x : Operand) (t : TypeId)
    (ho : o.op = .call { callee := .builtin .append, args := #[s, x], argTypes := #[t, t] })
    (base : Nat) (e : TypeId) (i : TypeInfo) (z : Value) (size bytes : Nat) (ht : P.underlying t = some (.slice e)) (hi : P.info? e = some i) (hz : i.zero = some z)
    (hsize : i.size = size) (hby : i.bytes = bytes) (hzs : z.cells.size = size) (hsz : 0 < size)
    (v : Value) (n : Nat) (xs : List Value) (hs : a.eval s = v) (hown : w.ownsRow base e size v n xs)
    (A : Option Addr) (m c : Nat) (news : List Value) (hx : a.eval x = .slice A m c) (hr : Reads w A size m news) (h1 : ∀ u ∈ news, u.oneCell' = true)
    (h63 : n + m ≤ maxLen) (hbytes : (n + m) * bytes ≤ 140737488355328) (hbase : base ≤ w.heap.size)
    (h : ∀ a' c' w', w'.ownsRow base e size (.slice a' (n + m) c') (n + m) (xs ++ news) → w.grownBy w' v.ownBlock → ((Value.slice a' (n + m) c').ownBlock = v.ownBlock ∨ (Value.slice a' (n + m) c').ownBlock = some w.heap.size) → K (a.put o.dst (.slice a' (n + m) c')) w') :
    if Region.wanted o (yielded ops a.tmps) = true then Oper.wp P o a w K Q else E := by
  have hw : Region.wanted o (yielded ops a.tmps) = true := by simp [Region.wanted, hgd]
  rw [if_pos hw]
  exact wp_app_any w s x t ho base e i z size bytes ht hi hz hsize hby hzs hsz v n xs hs hown A m c news hx hr h1 h63 hbytes hbase h
theorem step_app_N {ops : Array Oper} {o : Oper} {a : Act} {K : Act → World → Prop} {Q : Exit → Act → World → Prop} {E : Prop} (hgd : o.guard = none) (s x : Operand) (t : TypeId)
    (ho : o.op = .call { callee := .builtin .append, args := #[s, x], argTypes := #[t, t] })
    (base : Nat) (e : TypeId) (i : TypeInfo) (z : Value) (size bytes : Nat) (ht : P.underlying t = some (.slice e)) (hi : P.info? e = some i) (hz : i.zero = some z)
    (hsize : i.size = size) (hby : i.bytes = bytes) (hzs : z.cells.size = size) (hsz : 0 < size) (N : Nat)
    (v : Value) (n : Nat) (xs : List Value) (hs : a.eval s = v) (hown : w.ownsRow base e size v n xs)
    (A : Option Addr) (m c : Nat) (news : List Value) (hx : a.eval x = .slice A m c) (hr : Reads w A size m news) (h1 : ∀ u ∈ news, u.oneCell' = true) (hN : n + m = N)
    (h63 : N ≤ maxLen) (hbytes : N * bytes ≤ 140737488355328) (hbase : base ≤ w.heap.size)
    (h : ∀ a' c' w', w'.ownsRow base e size (.slice a' N c') N (xs ++ news) → w.grownBy w' v.ownBlock → K (a.put o.dst (.slice a' N c')) w') :
    if Region.wanted o (yielded ops a.tmps) = true then Oper.wp P o a w K Q else E := by
  subst hN
  exact step_app_any w hgd s x t ho base e i z size bytes ht hi hz hsize hby hzs hsz v n xs hs hown A m c news hx hr h1 h63 hbytes hbase fun a' c' w' h2 h3 _ => h a' c' w' h2 h3
end

/-- A new slice without elements. -/
theorem own_empty (w : World) (base : Nat) (e : TypeId) (size : Nat) (h : base ≤ w.heap.size) : (w.alloc (.cells #[] e)).ownsRow base e size (.slice (some ⟨w.heap.size, 0, none⟩) 0 0) 0 [] := by
  have := World.ownsRow_lit (base := base) (e := e) (size := size) w #[] 0 h (by unfold maxLen; omega) (by simp)
  simpa using this
/-- A first part, a last part of a row that is read. -/
theorem Reads.take {w : World} {a : Option Addr} {size n k : Nat} {xs : List Value} (h : Reads w a size n xs) (hk : k ≤ n) : Reads w a size k (xs.take (k * size)) := by
  have hm : k * size ≤ n * size := Nat.mul_le_mul_right _ hk
  refine ⟨by rw [List.length_take, h.1]; omega, fun h0 => ?_⟩
  obtain ⟨b, off, rfl, hc⟩ := h.2 (by omega)
  refine ⟨b, off, rfl, fun j u hu => ?_⟩
  rw [List.getElem?_take] at hu
  split at hu
  · exact hc j u hu
  · cases hu
theorem Reads.drop {w : World} {b off size n k : Nat} {xs : List Value} (h : Reads w (some ⟨b, off, none⟩) size n xs) (hk : k ≤ n) : Reads w (some ⟨b, off + k * size, none⟩) size (n - k) (xs.drop (k * size)) := by
  refine ⟨by rw [List.length_drop, h.1, Nat.sub_mul], fun h0 => ⟨b, off + k * size, rfl, fun j u hu => ?_⟩⟩
  obtain ⟨b', off', e, hc⟩ := h.2 (by omega)
  simp only [Option.some.injEq, Addr.mk.injEq, and_true] at e
  obtain ⟨rfl, rfl⟩ := e
  rw [List.getElem?_drop] at hu
  have := hc _ u hu
  rwa [← Nat.add_assoc] at this
theorem Reads.zero {w : World} {a : Option Addr} {size : Nat} : Reads w a size 0 [] := ⟨by simp, fun h => by omega⟩
theorem grown_keep {w w' : World} {row : Option Nat} {b o : Nat} {v : Value} (hg : w.grownBy w' row) (h : w.cell? ⟨b, o, none⟩ = some v) (hne : some b ≠ row) : w'.cell? ⟨b, o, none⟩ = some v := World.grownBy.cell hg h hne

end Go.Proofs.YtngbdopgdcjdeaaGreatDoor
