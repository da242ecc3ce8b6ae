/-
  Plain words: what a text of a number, of a fraction, of a line splits into, and what is read of it.
-/
import Derived.Test.YtgoaedhgkkbajaaDoorSplit
import Derived.Test.YtgoaedhgkkbajaaDoorRead
namespace Go.Proofs.YtgoaedhgkkbajaaDoor

theorem splitGo_none {b : UInt8} : ∀ (r cur : List UInt8), (∀ c ∈ r, c ≠ b) → splitGo b cur r = [cur ++ r]
  | [], cur, _ => by simp [splitGo]
  | c :: r, cur, h => by
    rw [splitGo, if_neg (h c (by simp)), splitGo_none r (cur ++ [c]) (fun x hx => h x (by simp [hx]))]
    simp
theorem splitGo_some {b : UInt8} : ∀ (r cur : List UInt8) (t : List UInt8), (∀ c ∈ r, c ≠ b) → splitGo b cur (r ++ b :: t) = (cur ++ r) :: splitGo b [] t
  | [], cur, t, _ => by simp [splitGo]
  | c :: r, cur, t, h => by
    rw [List.cons_append, splitGo, if_neg (h c (by simp)), splitGo_some r (cur ++ [c]) t (fun x hx => h x (by simp [hx]))]
    simp
theorem itoa_bytes (n : Int) : ∀ c ∈ Lib.itoa n, c = 45 ∨ isD c = true := by
  intro c hc
  unfold Lib.itoa at hc
  split at hc
  · rcases List.mem_cons.1 hc with h | h
    · exact .inl h
    · exact .inr (dec_digits _ c h)
  · exact .inr (dec_digits _ c hc)
theorem itoa_free {b : UInt8} (h1 : b ≠ 45) (h2 : isD b = false) (n : Int) : ∀ c ∈ Lib.itoa n, c ≠ b := by
  intro c hc e
  rcases itoa_bytes n c hc with h | h
  · exact h1 (e ▸ h)
  · rw [e, h2] at h; cases h
theorem split_one {b : UInt8} (h1 : b ≠ 45) (h2 : isD b = false) (m : Int) : splitL b (Lib.itoa m) = [Lib.itoa m] := by
  unfold splitL
  rw [splitGo_none _ _ (itoa_free h1 h2 m)]
  rfl
theorem split_two {b : UInt8} (h1 : b ≠ 45) (h2 : isD b = false) (m n : Int) : splitL b (Lib.itoa m ++ b :: Lib.itoa n) = [Lib.itoa m, Lib.itoa n] := by
  unfold splitL
  rw [splitGo_some _ _ _ (itoa_free h1 h2 m), splitGo_none _ _ (itoa_free h1 h2 n)]
  rfl
theorem split_three {b : UInt8} (h1 : b ≠ 45) (h2 : isD b = false) (m n k : Int) : splitL b (Lib.itoa m ++ b :: (Lib.itoa n ++ b :: Lib.itoa k)) = [Lib.itoa m, Lib.itoa n, Lib.itoa k] := by
  unfold splitL
  rw [splitGo_some _ _ _ (itoa_free h1 h2 m), splitGo_some _ _ _ (itoa_free h1 h2 n), splitGo_none _ _ (itoa_free h1 h2 k)]
  rfl
theorem dec_len : ∀ (k u : Nat), u < 10 ^ (k + 1) → (Lib.decDigits u).length ≤ k + 1
  | 0, u, h => by rw [Lib.decDigits, dif_pos (by simpa using h)]; simp
  | k + 1, u, h => by
    rw [Lib.decDigits]
    split
    · simp
    · have : u / 10 < 10 ^ (k + 1) := by rw [Nat.pow_succ] at h; omega
      have := dec_len k (u / 10) this
      simp; omega
theorem read_dec {u : Nat} (h : u < 10000000000) : readL (Lib.decDigits u) = (u : Int) := by
  have h1 := dec_len 9 u (by simpa using h)
  have h2 : 1 ≤ (Lib.decDigits u).length := List.length_pos_iff.2 (dec_ne u)
  unfold readL
  rw [if_pos ⟨⟨h2, h1⟩, List.all_eq_true.2 (dec_digits u)⟩, dec_val]

theorem decFrom_val : ∀ (l : List UInt8) (acc : Nat), (∀ c ∈ l, isD c = true) → Lib.decFrom acc l = some (valD acc l)
  | [], acc, _ => rfl
  | c :: r, acc, h => by
    have hc := h c (by simp)
    simp only [isD, Bool.and_eq_true, decide_eq_true_eq] at hc
    have hd : Lib.digitVal c = some (c.toNat - 48) := by unfold Lib.digitVal; rw [if_pos hc]
    rw [Lib.decFrom, hd]
    show Lib.decFrom (acc * 10 + (c.toNat - 48)) r = _
    rw [decFrom_val r _ (fun x hx => h x (by simp [hx])), Nat.mul_comm]
    rfl
theorem decNat_dec (u : Nat) : Lib.decNat (Lib.decDigits u) = some u := by
  unfold Lib.decNat
  have h1 : (Lib.decDigits u).isEmpty = false := by
    cases h : Lib.decDigits u with
    | nil => exact absurd h (dec_ne u)
    | cons _ _ => rfl
  rw [h1]
  show Lib.decFrom 0 _ = _
  rw [decFrom_val _ _ (dec_digits u), dec_val]
theorem atoi_itoa (n : Int) : Lib.atoi (Lib.itoa n) = some n := by
  by_cases hn : n < 0
  · rw [itoa_neg hn]
    rw [Lib.atoi, if_pos (show ((45 : UInt8) == 45) = true from rfl), decNat_dec]
    simp; omega
  · rw [itoa_pos hn]
    obtain ⟨c, r, hcr⟩ : ∃ c r, Lib.decDigits n.toNat = c :: r := by
      cases h : Lib.decDigits n.toNat with
      | nil => exact absurd h (dec_ne _)
      | cons c r => exact ⟨c, r, rfl⟩
    have hc := dec_digits n.toNat c (by rw [hcr]; simp)
    have h1 : (c == 45) = false := by
      simp only [beq_eq_false_iff_ne, ne_eq]; rintro rfl; simp [isD] at hc
    have h2 : (c == 43) = false := by
      simp only [beq_eq_false_iff_ne, ne_eq]; rintro rfl; simp [isD] at hc
    rw [hcr, Lib.atoi, h1, h2, ← hcr, decNat_dec]
    simp; omega
/-- A fraction's text, as bytes. -/
def fracL (x y : Int) : List UInt8 := if y = 1 then Lib.itoa x else Lib.itoa x ++ 47 :: Lib.itoa y
/-- What the reference reads of a text: a fraction that may be none. -/
def numL (p : List UInt8) : Int := match p with
  | 45 :: t => -1 * readL t
  | t => 1 * readL t
def candL (l : List UInt8) : Option (Int × Int) := match splitL 47 l with
  | [p] => some (numL p, 1)
  | [p, d] => some (numL p, readL d)
  | _ => none
theorem numL_itoa {n : Int} (h : -1000000000 ≤ n ∧ n ≤ 1000000000) : numL (Lib.itoa n) = n := by
  by_cases hn : n < 0
  · rw [itoa_neg hn]
    show -1 * readL (Lib.decDigits n.natAbs) = n
    rw [read_dec (by omega)]
    omega
  · rw [itoa_pos hn]
    obtain ⟨c, r, hcr⟩ : ∃ c r, Lib.decDigits n.toNat = c :: r := by
      cases h : Lib.decDigits n.toNat with
      | nil => exact absurd h (dec_ne _)
      | cons c r => exact ⟨c, r, rfl⟩
    have hc := dec_digits n.toNat c (by rw [hcr]; simp)
    have h1 : c ≠ 45 := by rintro rfl; simp [isD] at hc
    have e : numL (Lib.decDigits n.toNat) = 1 * readL (Lib.decDigits n.toNat) := by
      rw [hcr]
      unfold numL
      split
      · rename_i t ht; exact absurd (List.cons.inj ht).1 h1
      · rfl
    rw [e, read_dec (by omega)]
    omega
theorem cand_frac {x y : Int} (hx : -1000000000 ≤ x ∧ x ≤ 1000000000) (hy : 1 ≤ y ∧ y ≤ 1000000000) : candL (fracL x y) = some (x, y) := by
  unfold fracL
  split
  · rename_i h
    subst h
    unfold candL
    rw [split_one (by decide) (by decide)]
    simp only [numL_itoa hx]
  · unfold candL
    rw [split_two (by decide) (by decide)]
    have hr : readL (Lib.itoa y) = y := by rw [itoa_pos (by omega), read_dec (by omega)]; omega
    simp only [numL_itoa hx, hr]

end Go.Proofs.YtgoaedhgkkbajaaDoor
