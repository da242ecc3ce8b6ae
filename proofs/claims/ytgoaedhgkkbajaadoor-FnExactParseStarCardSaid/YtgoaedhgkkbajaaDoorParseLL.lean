/-
  Plain words: what is read of a text of whole numbers with separators, by the program (Cut, Atoi) and by the reference (Split, its own reading), and that at the text of a line both read the line.
-/
import Derived.Test.YtgoaedhgkkbajaaDoorParseFL
namespace Go.Proofs.YtgoaedhgkkbajaaDoor

/-- The whole numbers of a text with these separators between them, as the program reads them. -/
def wholeL : List UInt8 → List UInt8 → Option (List Int)
  | [], s => match atV s with
    | none => none
    | some n => some [n]
  | b :: r, s => match atV (Lib.cut s [b]).1 with
    | none => none
    | some n => if (Lib.cut s [b]).2.2 = true then (match wholeL r (Lib.cut s [b]).2.1 with
      | none => none
      | some l => some (n :: l)) else none
/-- What the reference reads of a text without a needless 0; its number of a text; its text of a number. -/
def readC (l : List UInt8) : Int := if l.head? = some 48 ∧ 1 < l.length then -1 else readL l
def parL (l : List UInt8) : Int := if l = [105, 110, 102] then 1000000000 else if 1 < l.length ∧ l.head? = some 45 then -readC l.tail else readC l
def nuTL (n : Int) : List UInt8 := if n = 1000000000 then [105, 110, 102] else Lib.itoa n
def parB (l : List UInt8) : Bool := numB (parL l) && decide (nuTL (parL l) = l)
/-- All numbers of texts, if each one is a number's. -/
def parsL : List (List UInt8) → Option (List Int)
  | [] => some []
  | p :: r => if parB p = true then (match parsL r with
    | none => none
    | some l => some (parL p :: l)) else none
def lineLL (a b c : Int) : List UInt8 := Lib.itoa a ++ 32 :: (Lib.itoa b ++ 32 :: Lib.itoa c)
theorem dec_readC {u : Nat} (h : u < 10000000000) : readC (Lib.decDigits u) = (u : Int) := by
  unfold readC
  rw [if_neg, read_dec h]
  rintro ⟨h1, h2⟩
  rcases Nat.eq_zero_or_pos u with h0 | h0
  · subst h0; rw [dec_zero] at h2; simp at h2
  · exact dec_head u h0 h1
theorem par_itoa {n : Int} (h : -1000000 ≤ n ∧ n ≤ 1000000) : parL (Lib.itoa n) = n := by
  by_cases hn : n < 0
  · have hl : 0 < (Lib.decDigits n.natAbs).length := List.length_pos_iff.2 (dec_ne _)
    rw [itoa_neg hn]
    unfold parL
    rw [if_neg (by intro e; exact absurd (List.cons.inj e).1 (by decide)), if_pos ⟨by simp; omega, rfl⟩, List.tail_cons, dec_readC (by omega)]
    omega
  · rw [itoa_pos hn]
    obtain ⟨c, r, hcr⟩ : ∃ c r, Lib.decDigits n.toNat = c :: r := by
      cases h : Lib.decDigits n.toNat with
      | nil => exact absurd h (dec_ne _)
      | cons c r => exact ⟨c, r, rfl⟩
    have hc := dec_digits n.toNat c (by rw [hcr]; simp)
    have h1 : c ≠ 45 := by rintro rfl; simp [isD] at hc
    have h2 : c ≠ 105 := by rintro rfl; simp [isD] at hc
    unfold parL
    rw [if_neg (by rw [hcr]; intro e; exact h2 (List.cons.inj e).1), if_neg (by rw [hcr]; rintro ⟨_, e⟩; simp at e; exact h1 e), dec_readC (by omega)]
    omega
theorem parB_itoa {n : Int} (h : -1000000 ≤ n ∧ n ≤ 1000000) : parB (Lib.itoa n) = true := by
  unfold parB
  rw [par_itoa h]
  have : nuTL n = Lib.itoa n := by unfold nuTL; rw [if_neg (by omega)]
  rw [this, numB_true.2 (.inl h)]
  simp
theorem whole_three {b d : UInt8} (hb : b ≠ 45 ∧ isD b = false) (hd : d ≠ 45 ∧ isD d = false) {x y z : Int} (hx : -10000000000 < x ∧ x < 10000000000) (hy : -10000000000 < y ∧ y < 10000000000) (hz : -10000000000 < z ∧ z < 10000000000) :
    wholeL [b, d] (Lib.itoa x ++ b :: (Lib.itoa y ++ d :: Lib.itoa z)) = some [x, y, z] := by
  have c1 := cut_hit (t := Lib.itoa y ++ d :: Lib.itoa z) (itoa_free hb.1 hb.2 x)
  have c2 := cut_hit (t := Lib.itoa z) (itoa_free hd.1 hd.2 y)
  simp only [wholeL, c1, c2, atV_itoa hx, atV_itoa hy, atV_itoa hz, if_true]
theorem parsL_len : ∀ {ps : List (List UInt8)} {l : List Int}, parsL ps = some l → l.length = ps.length
  | [], l, h => by simp [parsL] at h; subst h; rfl
  | p :: r, l, h => by
    simp only [parsL] at h
    split at h
    · split at h
      · cases h
      · rename_i m hm
        obtain rfl := Option.some.inj h
        simp [parsL_len hm]
    · cases h
theorem parsL_app : ∀ (ps : List (List UInt8)) (p : List UInt8), parsL (ps ++ [p]) = (parsL ps).bind fun l => if parB p = true then some (l ++ [parL p]) else none
  | [], p => by
    simp only [List.nil_append, parsL]
    split <;> rfl
  | q :: r, p => by
    rw [List.cons_append, parsL, parsL, parsL_app r p]
    split
    · cases parsL r with
      | none => rfl
      | some l => by_cases h : parB p = true <;> simp [h]
    · rfl
theorem wholeL_len : ∀ {bs s : List UInt8} {l : List Int}, wholeL bs s = some l → l.length = bs.length + 1
  | [], s, l, h => by
    simp only [wholeL] at h
    split at h
    · cases h
    · obtain rfl := Option.some.inj h; rfl
  | b :: r, s, l, h => by
    simp only [wholeL] at h
    split at h
    · cases h
    · split at h
      · split at h
        · cases h
        · rename_i m hm
          obtain rfl := Option.some.inj h
          simp [wholeL_len hm]
      · cases h
/-- The line that the program reads, that the reference reads. -/
def lineI (l : List UInt8) : Option (Int × Int × Int) := match wholeL [32, 32] l with
  | some [a, b, c] => some (a, b, c)
  | _ => none
def lineS (l : List UInt8) : Option (Int × Int × Int) := match parsL (splitL 32 l) with
  | some [a, b, c] => some (a, b, c)
  | _ => none
theorem lineI_line {a b c : Int} (ha : -1000000 ≤ a ∧ a ≤ 1000000) (hb : -1000000 ≤ b ∧ b ≤ 1000000) (hc : -1000000 ≤ c ∧ c ≤ 1000000) : lineI (lineLL a b c) = some (a, b, c) := by
  unfold lineI lineLL
  rw [whole_three (by decide) (by decide) (by omega) (by omega) (by omega)]
theorem lineS_line {a b c : Int} (ha : -1000000 ≤ a ∧ a ≤ 1000000) (hb : -1000000 ≤ b ∧ b ≤ 1000000) (hc : -1000000 ≤ c ∧ c ≤ 1000000) : lineS (lineLL a b c) = some (a, b, c) := by
  unfold lineS lineLL
  rw [split_three (by decide) (by decide)]
  simp only [parsL, parB_itoa ha, parB_itoa hb, parB_itoa hc, par_itoa ha, par_itoa hb, par_itoa hc, if_true]

end Go.Proofs.YtgoaedhgkkbajaaDoor
