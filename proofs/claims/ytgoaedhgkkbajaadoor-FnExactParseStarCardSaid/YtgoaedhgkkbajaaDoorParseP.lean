/-
  Plain words on texts of numbers: digits, their number, the way back.
-/
import Derived.Test.YtgoaedhgkkbajaaDoorPlain
import Derived.Lib.ItoaNum
import Derived.Lib.Atoi
namespace Go.Proofs.YtgoaedhgkkbajaaDoor

/-- A byte that is a digit. -/
def isD (c : UInt8) : Bool := decide (48 ≤ c.toNat) && decide (c.toNat ≤ 57)
/-- The number of digits read on from n. -/
def valD (n : Nat) (l : List UInt8) : Nat := l.foldl (fun n c => 10 * n + (c.toNat - 48)) n
theorem valD_snoc (n : Nat) (l : List UInt8) (c : UInt8) : valD n (l ++ [c]) = 10 * valD n l + (c.toNat - 48) := by simp [valD]
theorem digit_nat {d : Nat} (h : d < 10) : (UInt8.ofNat (48 + d)).toNat = 48 + d := by
  rw [UInt8.toNat_ofNat', Nat.mod_eq_of_lt (by omega)]
theorem digit_of {c : UInt8} (h : isD c = true) : c = UInt8.ofNat (48 + (c.toNat - 48)) := by
  simp only [isD, Bool.and_eq_true, decide_eq_true_eq] at h
  apply UInt8.toNat_inj.1
  rw [digit_nat (by omega)]
  omega
theorem dec_digits : ∀ (u : Nat), ∀ c ∈ Lib.decDigits u, isD c = true := by
  intro u
  induction u using Nat.strongRecOn with
  | ind u ih =>
    intro c hc
    rw [Lib.decDigits] at hc
    split at hc
    · simp only [List.mem_singleton] at hc
      subst hc
      rw [isD, digit_nat (by omega)]
      simp; omega
    · rcases List.mem_append.1 hc with h | h
      · exact ih (u / 10) (by omega) c h
      · simp only [List.mem_singleton] at h
        subst h
        rw [isD, digit_nat (by omega)]
        simp; omega
theorem dec_val : ∀ (u : Nat), valD 0 (Lib.decDigits u) = u := by
  intro u
  induction u using Nat.strongRecOn with
  | ind u ih =>
    rw [Lib.decDigits]
    split
    · have := digit_nat (d := u) (by omega)
      show 10 * 0 + ((UInt8.ofNat (48 + u)).toNat - 48) = u
      omega
    · rw [valD_snoc, ih (u / 10) (by omega), digit_nat (by omega)]
      omega
theorem dec_ne (u : Nat) : Lib.decDigits u ≠ [] := by
  intro h
  rw [Lib.decDigits] at h
  split at h <;> simp at h
theorem dec_inj {u v : Nat} (h : Lib.decDigits u = Lib.decDigits v) : u = v := by rw [← dec_val u, ← dec_val v, h]
/-- A text of digits that is what its number is written as. -/
def canonD (l : List UInt8) : Bool := !l.isEmpty && l.all isD && !(l.head? == some 48 && decide (1 < l.length))
theorem head_app {l r : List UInt8} (h : l ≠ []) : (l ++ r).head? = l.head? := by
  cases l with
  | nil => exact absurd rfl h
  | cons a t => rfl
theorem dec_zero : Lib.decDigits 0 = [48] := by rw [Lib.decDigits]; rfl
theorem dec_head : ∀ (u : Nat), 0 < u → (Lib.decDigits u).head? ≠ some 48 := by
  intro u
  induction u using Nat.strongRecOn with
  | ind u ih =>
    intro h0 h
    rw [Lib.decDigits] at h
    split at h
    · simp only [List.head?_cons, Option.some.injEq] at h
      have := congrArg UInt8.toNat h
      rw [digit_nat (by omega)] at this
      simp at this
      omega
    · have hne := dec_ne (u / 10)
      rw [head_app hne] at h
      exact ih (u / 10) (by omega) (by omega) h
theorem canon_dec (u : Nat) : canonD (Lib.decDigits u) = true := by
  unfold canonD
  have h1 : (Lib.decDigits u).isEmpty = false := by
    cases h : Lib.decDigits u with
    | nil => exact absurd h (dec_ne u)
    | cons _ _ => rfl
  have h2 : (Lib.decDigits u).all isD = true := List.all_eq_true.2 (dec_digits u)
  rw [h1, h2]
  rcases Nat.eq_zero_or_pos u with h0 | h0
  · subst h0; rw [dec_zero]; rfl
  · have := dec_head u h0
    simp [this]
/-- Digits that do not begin with a needless 0 are what their number is written as. -/
theorem canon_snoc (l : List UInt8) (c : UInt8) (hl : l ≠ []) : canonD (l ++ [c]) = (canonD l && isD c && !(l.head? == some 48)) := by
  unfold canonD
  have h1 : (l ++ [c]).isEmpty = false := by cases l <;> simp
  have h2 : l.isEmpty = false := by cases l <;> simp_all
  have h3 : decide (1 < (l ++ [c]).length) = true := by
    have : 0 < l.length := List.length_pos_iff.2 hl
    simp; omega
  rw [h1, h2, h3, head_app hl, List.all_append]
  cases hd : (l.head? == some 48) <;> cases ha : l.all isD <;> cases hc : isD c <;> simp [hc]
theorem dec_canon (l : List UInt8) (h : canonD l = true) : Lib.decDigits (valD 0 l) = l := by
  have key : ∀ (n : Nat) (l : List UInt8), l.length = n → canonD l = true → Lib.decDigits (valD 0 l) = l ∧ (l.head? ≠ some 48 → 0 < valD 0 l) := by
    intro n
    induction n with
    | zero => intro l hl h; rw [List.eq_nil_of_length_eq_zero hl] at h; simp [canonD] at h
    | succ n ih =>
      intro l hl h
      rcases List.eq_nil_or_concat l with rfl | ⟨m, c, rfl⟩
      · simp at hl
      rw [List.concat_eq_append] at *
      by_cases hm : m = []
      · subst hm
        simp only [List.nil_append] at *
        have hc : isD c = true := by simp [canonD] at h; exact h
        have e := digit_of hc
        have hb : c.toNat - 48 < 10 := by simp only [isD, Bool.and_eq_true, decide_eq_true_eq] at hc; omega
        have hv : valD 0 [c] = c.toNat - 48 := by simp [valD]
        rw [hv]
        refine ⟨by rw [Lib.decDigits, dif_pos hb, ← e], fun hh => ?_⟩
        rcases Nat.eq_zero_or_pos (c.toNat - 48) with h0 | h0
        · rw [h0] at e
          exact absurd (by rw [List.head?_cons, e]; rfl) hh
        · exact h0
      · rw [canon_snoc m c hm] at h
        simp only [Bool.and_eq_true, Bool.not_eq_true'] at h
        obtain ⟨⟨h1, h2⟩, h3⟩ := h
        obtain ⟨i1, i2⟩ := ih m (by simpa using hl) h1
        have hp := i2 (by intro e; rw [e] at h3; simp at h3)
        have hb : c.toNat - 48 < 10 := by simp only [isD, Bool.and_eq_true, decide_eq_true_eq] at h2; omega
        have e := digit_of h2
        rw [valD_snoc]
        refine ⟨?_, fun _ => by omega⟩
        rw [Lib.decDigits, dif_neg (by omega), show (10 * valD 0 m + (c.toNat - 48)) / 10 = valD 0 m by omega, show (10 * valD 0 m + (c.toNat - 48)) % 10 = c.toNat - 48 by omega, i1, ← e]
  exact (key l.length l rfl h).1
theorem itoa_inj {m n : Int} (h : Lib.itoa m = Lib.itoa n) : m = n := by
  have hd : ∀ u, ∀ l, Lib.decDigits u ≠ 45 :: l := fun u l e => by
    have := dec_digits u 45 (by rw [e]; simp)
    simp [isD] at this
  unfold Lib.itoa at h
  split at h <;> split at h
  · have := dec_inj (List.cons.inj h).2; omega
  · exact absurd h.symm (hd _ _)
  · exact absurd h (hd _ _)
  · have := dec_inj h; omega

end Go.Proofs.YtgoaedhgkkbajaaDoor
