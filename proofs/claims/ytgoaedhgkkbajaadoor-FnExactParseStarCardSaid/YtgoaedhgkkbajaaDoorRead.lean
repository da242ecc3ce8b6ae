/-
  The reference's reading of digits.
-/
import Derived.Test.YtgoaedhgkkbajaaDoorDigits
import Derived.Test.YtgoaedhgkkbajaaDoorParseP
namespace Go.Proofs.YtgoaedhgkkbajaaDoor
open Go.RowKit

/-- The number of at most ten digits, or -1. -/
def readL (l : List UInt8) : Int := if (1 ≤ l.length ∧ l.length ≤ 10) ∧ l.all isD = true then (valD 0 l : Int) else -1
theorem valD_bd : ∀ (l : List UInt8), valD 0 l < 10 ^ l.length ∨ ¬ l.all isD = true := by
  intro l
  have key : ∀ (n : Nat) (l : List UInt8), l.length = n → l.all isD = true → valD 0 l < 10 ^ n := by
    intro n
    induction n with
    | zero => intro l hl _; rw [List.eq_nil_of_length_eq_zero hl]; decide
    | succ n ih =>
      intro l hl h
      rcases List.eq_nil_or_concat l with rfl | ⟨m, c, rfl⟩
      · simp at hl
      rw [List.concat_eq_append] at *
      simp only [List.all_append, List.all_cons, List.all_nil, Bool.and_true, Bool.and_eq_true] at h
      have := ih m (by simpa using hl) h.1
      have hc := h.2
      simp only [isD, Bool.and_eq_true, decide_eq_true_eq] at hc
      rw [valD_snoc, Nat.pow_succ]
      omega
  by_cases h : l.all isD = true
  · exact .inl (key _ l rfl h)
  · exact .inr h
theorem valD_small {{l : List UInt8}} (h : l.length ≤ 10) (hd : l.all isD = true) : valD 0 l < 10000000000 := by
  rcases valD_bd l with h1 | h1
  · have : 10 ^ l.length ≤ 10 ^ 10 := Nat.pow_le_pow_right (by omega) h
    omega
  · exact absurd hd h1
set_option maxHeartbeats 2000000 in
theorem frRead_any (l : List UInt8) (w : World) :
    Calls Tryd.prog 82 #[.string (txt l)] w fun r w' => r = .returned (.int .i64 (readL l)) ∧ w = w' := by
  have hsz : (txt l).size = l.length := txt_size l
  by_cases hn : 1 ≤ l.length ∧ l.length ≤ 10
  · have HI := Lib.hid (fun w => l1In_any (l.length : Int) 1 10 w)
    rw [show inB (l.length : Int) 1 10 = true by simp [inB]; omega] at HI
    go_enter Tryd.func82, Tryd.ntmps82
    go_wp2_with fail
    refine (HI.out _).mono ?_
    rintro e _ ⟨rfl, rfl⟩
    go_wp2
    go_loop [3, 4] (fun s t => ∃ i : Nat, i ≤ l.length ∧ t = .int .i64 i ∧ s = .int .i64 (valD 0 (l.take i)) ∧ Hid ((l.take i).all isD = true)) (fun _ t => l.length - (intOf t).toNat)
    case atStart => exact ⟨0, Nat.zero_le _, rfl, rfl, Lib.hid rfl⟩
    case round =>
      obtain ⟨i, hi, rfl, rfl, HA⟩ := hrel
      by_cases hlt : i < l.length
      · have p : i < (txt l).size := by rw [hsz]; exact hlt
        obtain ⟨ch, hch⟩ : ∃ ch, ch = l[i]'hlt := ⟨_, rfl⟩
        have HC := Lib.hid (show ((txt l)[i]'p) = ch by rw [hch]; rfl)
        have HS := Lib.hid (show valD 0 (l.take (i + 1)) = 10 * valD 0 (l.take i) + (ch.toNat - 48) by rw [hch, List.take_succ_eq_append_getElem hlt, valD_snoc])
        have HA2 := Lib.hid (show (l.take (i + 1)).all isD = isD ch by rw [hch, List.take_succ_eq_append_getElem hlt, List.all_append, HA.out]; simp)
        have HM := Lib.hid (show ch ∈ l by rw [hch]; exact List.getElem_mem hlt)
        have hvb := valD_small (l := l.take i) (by rw [List.length_take]; omega) HA.out
        generalize valD 0 (l.take i) = v at *
        clear hch
        cases hd : isD ch
        · have hr := Lib.hid (show readL l = -1 by
            unfold readL
            rw [if_neg (fun h => by
              have := List.all_eq_true.1 h.2 ch HM.out
              rw [hd] at this
              cases this)])
          have hbad : (ch.toNat : Int) < 48 ∨ ¬ (ch.toNat : Int) < 48 ∧ 57 < (ch.toNat : Int) := by
            simp only [isD, Bool.and_eq_false_iff, decide_eq_false_iff_not] at hd
            omega
          rw [← HC.out] at hbad
          clear hd
          rcases hbad with h1 | ⟨h1, h2⟩
          · go_wp2
            go_ret
            exact ⟨by rw [hr.out] <;> rfl, rfl⟩
          · go_wp2
            go_ret
            exact ⟨by rw [hr.out] <;> rfl, rfl⟩
        · have hgood : ¬ (ch.toNat : Int) < 48 ∧ ¬ 57 < (ch.toNat : Int) := by
            simp only [isD, Bool.and_eq_true, decide_eq_true_eq] at hd
            omega
          rw [hd] at HA2
          rw [← HC.out] at hgood HS
          clear hd
          obtain ⟨h1, h2⟩ := hgood
          go_wp2
          go_round
          case rel => exact ⟨i + 1, by omega, by go_num, by rw [HS.out]; go_num, HA2⟩
          case measure => simp [intOf]; omega
      · obtain rfl : i = l.length := by omega
        have hr := Lib.hid (show readL l = (valD 0 l : Int) by
          unfold readL
          rw [if_pos ⟨hn, by have := HA.out; rwa [List.take_length] at this⟩])
        rw [List.take_length]
        go_wp2
        go_ret
        exact ⟨by rw [hr.out] <;> rfl, rfl⟩
  · have HI := Lib.hid (fun w => l1In_any (l.length : Int) 1 10 w)
    rw [show inB (l.length : Int) 1 10 = false by simp [inB]; omega] at HI
    have hr := Lib.hid (show readL l = -1 by unfold readL; rw [if_neg (fun h => hn h.1)])
    go_enter Tryd.func82, Tryd.ntmps82
    go_wp2_with fail
    refine (HI.out _).mono ?_
    rintro e _ ⟨rfl, rfl⟩
    go_wp2
    go_ret
    exact ⟨by rw [hr.out] <;> rfl, rfl⟩
end Go.Proofs.YtgoaedhgkkbajaaDoor
