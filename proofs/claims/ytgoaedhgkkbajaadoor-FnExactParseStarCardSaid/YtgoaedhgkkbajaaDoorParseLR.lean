/-
  The reference's reading of numbers of at most 10 (6) digits; its number of a text.
-/
import Derived.Test.YtgoaedhgkkbajaaDoorParseSP
import Derived.Test.YtgoaedhgkkbajaaDoorParseFW
namespace Go.Proofs.YtgoaedhgkkbajaaDoor
open Go.RowKit

set_option maxHeartbeats 2000000 in
theorem nuRead_any (l : List UInt8) (w : World) (hlim : l.length ≤ 1048576) :
    Calls Tryd.prog 86 #[.string (txt l)] w fun r w' => r = .returned (.int .i64 (readC l)) ∧ w = w' := by
  have hsz : (txt l).size = l.length := txt_size l
  have HI := Lib.hid (fun w => l1In_any (l.length : Int) 1 10 w)
  by_cases hn : 1 ≤ l.length ∧ l.length ≤ 10
  · rw [show inB (l.length : Int) 1 10 = true by simp [inB]; omega] at HI
    have p0 : 0 < (txt l).size := by rw [hsz]; omega
    obtain ⟨c0, hc0⟩ : ∃ c0, c0 = l[0]'(by omega) := ⟨_, rfl⟩
    have HC0 := Lib.hid (show ((txt l)[0]'p0) = c0 by rw [hc0]; rfl)
    have HH := Lib.hid (show l.head? = some c0 by rw [hc0]; cases l with | nil => simp at hn | cons a r => rfl)
    clear hc0
    by_cases h48 : c0 = 48
    · have e1 : (((txt l)[0]'p0).toNat : Int) = 48 := by rw [HC0.out, h48]; rfl
      by_cases h1 : 1 < l.length
      · have hr := Lib.hid (show readC l = -1 by unfold readC; rw [if_pos ⟨by rw [HH.out, h48], h1⟩])
        have h1' : decide ((1 : Int) < (l.length : Int)) = true := by simp; omega
        go_enter Tryd.func86, Tryd.ntmps86
        go_wp2_with fail
        refine (HI.out _).mono ?_
        rintro e _ ⟨rfl, rfl⟩
        go_wp2
        go_ret
        exact ⟨by rw [hr.out] <;> rfl, rfl⟩
      · have hd := Lib.hid (show ¬ (l.head? = some 48 ∧ 1 < l.length) from fun h => h1 h.2)
        have HGOOD := Lib.hid (fun (h : l.all isD = true) => show readC l = (valD 0 l : Int) by unfold readC; rw [if_neg hd.out]; unfold readL; rw [if_pos ⟨hn, h⟩])
        have HBAD := Lib.hid (fun (ch : UInt8) (hm : ch ∈ l) (hb : isD ch = false) => show readC l = -1 by unfold readC; rw [if_neg hd.out]; unfold readL; rw [if_neg (fun h => by have := List.all_eq_true.1 h.2 ch hm; rw [hb] at this; cases this)])
        have h1' : decide ((1 : Int) < (l.length : Int)) = false := by simp; omega
        go_enter Tryd.func86, Tryd.ntmps86
        go_wp2_with fail
        refine (HI.out _).mono ?_
        rintro e _ ⟨rfl, rfl⟩
        go_wp2
        go_loop [3, 4] (fun s t => ∃ i : Nat, i ≤ l.length ∧ t = .int .i64 i ∧ s = .int .i64 (valD 0 (l.take i)) ∧ Hid ((l.take i).all isD = true)) (fun _ t => l.length - (intOf t).toNat)
        case atStart => exact ⟨0, Nat.zero_le _, rfl, rfl, Lib.hid rfl⟩
        case round =>
          obtain ⟨i, hi, rfl, rfl, HA⟩ := hrel
          by_cases hlt : i < l.length
          · have p : i < (txt l).size := by rw [hsz]; exact hlt
            obtain ⟨ch, hch⟩ : ∃ ch, ch = l[i]'hlt := ⟨_, rfl⟩
            have HC := Lib.hid (show ((txt l)[i]'p) = ch by rw [hch]; rfl)
            have HS := Lib.hid (show valD 0 (l.take (i + 1)) = 10 * valD 0 (l.take i) + (ch.toNat - 48) by rw [hch, List.take_succ_eq_append_getElem hlt, valD_snoc])
            have HA2 := Lib.hid (show (l.take (i + 1)).all isD = isD ch by rw [hch, List.take_succ_eq_append_getElem hlt, List.all_append, HA.out]; simp)
            have HM := Lib.hid (show ch ∈ l by rw [hch]; exact List.getElem_mem hlt)
            have hvb := valD_small (l := l.take i) (by rw [List.length_take]; omega) HA.out
            generalize valD 0 (l.take i) = v at *
            clear hch
            cases hd : isD ch
            · have hr := Lib.hid (show readC l = -1 from HBAD.out ch HM.out hd)
              have hbad : (ch.toNat : Int) < 48 ∨ ¬ (ch.toNat : Int) < 48 ∧ 57 < (ch.toNat : Int) := by
                simp only [isD, Bool.and_eq_false_iff, decide_eq_false_iff_not] at hd
                omega
              rw [← HC.out] at hbad
              clear hd
              rcases hbad with h1 | ⟨h1, h2⟩
              · go_wp2
                go_ret
                exact ⟨by rw [hr.out] <;> rfl, rfl⟩
              · go_wp2
                go_ret
                exact ⟨by rw [hr.out] <;> rfl, rfl⟩
            · have hgood : ¬ (ch.toNat : Int) < 48 ∧ ¬ 57 < (ch.toNat : Int) := by
                simp only [isD, Bool.and_eq_true, decide_eq_true_eq] at hd
                omega
              rw [hd] at HA2
              rw [← HC.out] at hgood HS
              clear hd
              obtain ⟨h1, h2⟩ := hgood
              go_wp2
              go_round
              case rel => exact ⟨i + 1, by omega, by go_num, by rw [HS.out]; go_num, HA2⟩
              case measure => simp [intOf]; omega
          · obtain rfl : i = l.length := by omega
            have hr := Lib.hid (show readC l = (valD 0 l : Int) from HGOOD.out (by have := HA.out; rwa [List.take_length] at this))
            rw [List.take_length]
            go_wp2
            go_ret
            exact ⟨by rw [hr.out] <;> rfl, rfl⟩
    · have hd := Lib.hid (show ¬ (l.head? = some 48 ∧ 1 < l.length) from fun h => h48 (by have := h.1; rw [HH.out] at this; exact Option.some.inj this))
      have HGOOD := Lib.hid (fun (h : l.all isD = true) => show readC l = (valD 0 l : Int) by unfold readC; rw [if_neg hd.out]; unfold readL; rw [if_pos ⟨hn, h⟩])
      have HBAD := Lib.hid (fun (ch : UInt8) (hm : ch ∈ l) (hb : isD ch = false) => show readC l = -1 by unfold readC; rw [if_neg hd.out]; unfold readL; rw [if_neg (fun h => by have := List.all_eq_true.1 h.2 ch hm; rw [hb] at this; cases this)])
      have e1 : ¬ (((txt l)[0]'p0).toNat : Int) = 48 := by rw [HC0.out]; exact fun e => h48 (UInt8.toNat_inj.1 (by show c0.toNat = 48; omega))
      go_enter Tryd.func86, Tryd.ntmps86
      go_wp2_with fail
      refine (HI.out _).mono ?_
      rintro e _ ⟨rfl, rfl⟩
      go_wp2
      go_loop [3, 4] (fun s t => ∃ i : Nat, i ≤ l.length ∧ t = .int .i64 i ∧ s = .int .i64 (valD 0 (l.take i)) ∧ Hid ((l.take i).all isD = true)) (fun _ t => l.length - (intOf t).toNat)
      case atStart => exact ⟨0, Nat.zero_le _, rfl, rfl, Lib.hid rfl⟩
      case round =>
        obtain ⟨i, hi, rfl, rfl, HA⟩ := hrel
        by_cases hlt : i < l.length
        · have p : i < (txt l).size := by rw [hsz]; exact hlt
          obtain ⟨ch, hch⟩ : ∃ ch, ch = l[i]'hlt := ⟨_, rfl⟩
          have HC := Lib.hid (show ((txt l)[i]'p) = ch by rw [hch]; rfl)
          have HS := Lib.hid (show valD 0 (l.take (i + 1)) = 10 * valD 0 (l.take i) + (ch.toNat - 48) by rw [hch, List.take_succ_eq_append_getElem hlt, valD_snoc])
          have HA2 := Lib.hid (show (l.take (i + 1)).all isD = isD ch by rw [hch, List.take_succ_eq_append_getElem hlt, List.all_append, HA.out]; simp)
          have HM := Lib.hid (show ch ∈ l by rw [hch]; exact List.getElem_mem hlt)
          have hvb := valD_small (l := l.take i) (by rw [List.length_take]; omega) HA.out
          generalize valD 0 (l.take i) = v at *
          clear hch
          cases hd : isD ch
          · have hr := Lib.hid (show readC l = -1 from HBAD.out ch HM.out hd)
            have hbad : (ch.toNat : Int) < 48 ∨ ¬ (ch.toNat : Int) < 48 ∧ 57 < (ch.toNat : Int) := by
              simp only [isD, Bool.and_eq_false_iff, decide_eq_false_iff_not] at hd
              omega
            rw [← HC.out] at hbad
            clear hd
            rcases hbad with h1 | ⟨h1, h2⟩
            · go_wp2
              go_ret
              exact ⟨by rw [hr.out] <;> rfl, rfl⟩
            · go_wp2
              go_ret
              exact ⟨by rw [hr.out] <;> rfl, rfl⟩
          · have hgood : ¬ (ch.toNat : Int) < 48 ∧ ¬ 57 < (ch.toNat : Int) := by
              simp only [isD, Bool.and_eq_true, decide_eq_true_eq] at hd
              omega
            rw [hd] at HA2
            rw [← HC.out] at hgood HS
            clear hd
            obtain ⟨h1, h2⟩ := hgood
            go_wp2
            go_round
            case rel => exact ⟨i + 1, by omega, by go_num, by rw [HS.out]; go_num, HA2⟩
            case measure => simp [intOf]; omega
        · obtain rfl : i = l.length := by omega
          have hr := Lib.hid (show readC l = (valD 0 l : Int) from HGOOD.out (by have := HA.out; rwa [List.take_length] at this))
          rw [List.take_length]
          go_wp2
          go_ret
          exact ⟨by rw [hr.out] <;> rfl, rfl⟩
  · rw [show inB (l.length : Int) 1 10 = false by simp [inB]; omega] at HI
    have hr := Lib.hid (show readC l = -1 by unfold readC; split; rfl; unfold readL; rw [if_neg (fun h => hn h.1)])
    go_enter Tryd.func86, Tryd.ntmps86
    go_wp2_with fail
    refine (HI.out _).mono ?_
    rintro e _ ⟨rfl, rfl⟩
    go_wp2
    go_ret
    exact ⟨by rw [hr.out] <;> rfl, rfl⟩
set_option maxHeartbeats 2000000 in
theorem l1Read_any (l : List UInt8) (w : World) (hlim : l.length ≤ 1048576) :
    Calls Tryd.prog 61 #[.string (txt l)] w fun r w' => r = .returned (.int .i64 (readW l)) ∧ w = w' := by
  have hsz : (txt l).size = l.length := txt_size l
  have HI := Lib.hid (fun w => l1In_any (l.length : Int) 1 6 w)
  by_cases hn : 1 ≤ l.length ∧ l.length ≤ 6
  · rw [show inB (l.length : Int) 1 6 = true by simp [inB]; omega] at HI
    have p0 : 0 < (txt l).size := by rw [hsz]; omega
    obtain ⟨c0, hc0⟩ : ∃ c0, c0 = l[0]'(by omega) := ⟨_, rfl⟩
    have HC0 := Lib.hid (show ((txt l)[0]'p0) = c0 by rw [hc0]; rfl)
    have HH := Lib.hid (show l.head? = some c0 by rw [hc0]; cases l with | nil => simp at hn | cons a r => rfl)
    clear hc0
    by_cases h48 : c0 = 48
    · have e1 : (((txt l)[0]'p0).toNat : Int) = 48 := by rw [HC0.out, h48]; rfl
      by_cases h1 : 1 < l.length
      · have hr := Lib.hid (show readW l = -1 by unfold readW; rw [if_neg (fun h => h.1.2 ⟨by rw [HH.out, h48], h1⟩)])
        have h1' : decide ((1 : Int) < (l.length : Int)) = true := by simp; omega
        go_enter Tryd.func61, Tryd.ntmps61
        go_wp2_with fail
        refine (HI.out _).mono ?_
        rintro e _ ⟨rfl, rfl⟩
        go_wp2
        go_ret
        exact ⟨by rw [hr.out] <;> rfl, rfl⟩
      · have hd := Lib.hid (show ¬ (l.head? = some 48 ∧ 1 < l.length) from fun h => h1 h.2)
        have HGOOD := Lib.hid (fun (h : l.all isD = true) => show readW l = (valD 0 l : Int) by unfold readW; rw [if_pos ⟨⟨hn, hd.out⟩, h⟩])
        have HBAD := Lib.hid (fun (ch : UInt8) (hm : ch ∈ l) (hb : isD ch = false) => show readW l = -1 by unfold readW; rw [if_neg (fun h => by have := List.all_eq_true.1 h.2 ch hm; rw [hb] at this; cases this)])
        have h1' : decide ((1 : Int) < (l.length : Int)) = false := by simp; omega
        go_enter Tryd.func61, Tryd.ntmps61
        go_wp2_with fail
        refine (HI.out _).mono ?_
        rintro e _ ⟨rfl, rfl⟩
        go_wp2
        go_loop [3, 4] (fun s t => ∃ i : Nat, i ≤ l.length ∧ t = .int .i64 i ∧ s = .int .i64 (valD 0 (l.take i)) ∧ Hid ((l.take i).all isD = true)) (fun _ t => l.length - (intOf t).toNat)
        case atStart => exact ⟨0, Nat.zero_le _, rfl, rfl, Lib.hid rfl⟩
        case round =>
          obtain ⟨i, hi, rfl, rfl, HA⟩ := hrel
          by_cases hlt : i < l.length
          · have p : i < (txt l).size := by rw [hsz]; exact hlt
            obtain ⟨ch, hch⟩ : ∃ ch, ch = l[i]'hlt := ⟨_, rfl⟩
            have HC := Lib.hid (show ((txt l)[i]'p) = ch by rw [hch]; rfl)
            have HS := Lib.hid (show valD 0 (l.take (i + 1)) = 10 * valD 0 (l.take i) + (ch.toNat - 48) by rw [hch, List.take_succ_eq_append_getElem hlt, valD_snoc])
            have HA2 := Lib.hid (show (l.take (i + 1)).all isD = isD ch by rw [hch, List.take_succ_eq_append_getElem hlt, List.all_append, HA.out]; simp)
            have HM := Lib.hid (show ch ∈ l by rw [hch]; exact List.getElem_mem hlt)
            have hvb := valD_small (l := l.take i) (by rw [List.length_take]; omega) HA.out
            generalize valD 0 (l.take i) = v at *
            clear hch
            cases hd : isD ch
            · have hr := Lib.hid (show readW l = -1 from HBAD.out ch HM.out hd)
              have hbad : (ch.toNat : Int) < 48 ∨ ¬ (ch.toNat : Int) < 48 ∧ 57 < (ch.toNat : Int) := by
                simp only [isD, Bool.and_eq_false_iff, decide_eq_false_iff_not] at hd
                omega
              rw [← HC.out] at hbad
              clear hd
              rcases hbad with h1 | ⟨h1, h2⟩
              · go_wp2
                go_ret
                exact ⟨by rw [hr.out] <;> rfl, rfl⟩
              · go_wp2
                go_ret
                exact ⟨by rw [hr.out] <;> rfl, rfl⟩
            · have hgood : ¬ (ch.toNat : Int) < 48 ∧ ¬ 57 < (ch.toNat : Int) := by
                simp only [isD, Bool.and_eq_true, decide_eq_true_eq] at hd
                omega
              rw [hd] at HA2
              rw [← HC.out] at hgood HS
              clear hd
              obtain ⟨h1, h2⟩ := hgood
              go_wp2
              go_round
              case rel => exact ⟨i + 1, by omega, by go_num, by rw [HS.out]; go_num, HA2⟩
              case measure => simp [intOf]; omega
          · obtain rfl : i = l.length := by omega
            have hr := Lib.hid (show readW l = (valD 0 l : Int) from HGOOD.out (by have := HA.out; rwa [List.take_length] at this))
            rw [List.take_length]
            go_wp2
            go_ret
            exact ⟨by rw [hr.out] <;> rfl, rfl⟩
    · have hd := Lib.hid (show ¬ (l.head? = some 48 ∧ 1 < l.length) from fun h => h48 (by have := h.1; rw [HH.out] at this; exact Option.some.inj this))
      have HGOOD := Lib.hid (fun (h : l.all isD = true) => show readW l = (valD 0 l : Int) by unfold readW; rw [if_pos ⟨⟨hn, hd.out⟩, h⟩])
      have HBAD := Lib.hid (fun (ch : UInt8) (hm : ch ∈ l) (hb : isD ch = false) => show readW l = -1 by unfold readW; rw [if_neg (fun h => by have := List.all_eq_true.1 h.2 ch hm; rw [hb] at this; cases this)])
      have e1 : ¬ (((txt l)[0]'p0).toNat : Int) = 48 := by rw [HC0.out]; exact fun e => h48 (UInt8.toNat_inj.1 (by show c0.toNat = 48; omega))
      go_enter Tryd.func61, Tryd.ntmps61
      go_wp2_with fail
      refine (HI.out _).mono ?_
      rintro e _ ⟨rfl, rfl⟩
      go_wp2
      go_loop [3, 4] (fun s t => ∃ i : Nat, i ≤ l.length ∧ t = .int .i64 i ∧ s = .int .i64 (valD 0 (l.take i)) ∧ Hid ((l.take i).all isD = true)) (fun _ t => l.length - (intOf t).toNat)
      case atStart => exact ⟨0, Nat.zero_le _, rfl, rfl, Lib.hid rfl⟩
      case round =>
        obtain ⟨i, hi, rfl, rfl, HA⟩ := hrel
        by_cases hlt : i < l.length
        · have p : i < (txt l).size := by rw [hsz]; exact hlt
          obtain ⟨ch, hch⟩ : ∃ ch, ch = l[i]'hlt := ⟨_, rfl⟩
          have HC := Lib.hid (show ((txt l)[i]'p) = ch by rw [hch]; rfl)
          have HS := Lib.hid (show valD 0 (l.take (i + 1)) = 10 * valD 0 (l.take i) + (ch.toNat - 48) by rw [hch, List.take_succ_eq_append_getElem hlt, valD_snoc])
          have HA2 := Lib.hid (show (l.take (i + 1)).all isD = isD ch by rw [hch, List.take_succ_eq_append_getElem hlt, List.all_append, HA.out]; simp)
          have HM := Lib.hid (show ch ∈ l by rw [hch]; exact List.getElem_mem hlt)
          have hvb := valD_small (l := l.take i) (by rw [List.length_take]; omega) HA.out
          generalize valD 0 (l.take i) = v at *
          clear hch
          cases hd : isD ch
          · have hr := Lib.hid (show readW l = -1 from HBAD.out ch HM.out hd)
            have hbad : (ch.toNat : Int) < 48 ∨ ¬ (ch.toNat : Int) < 48 ∧ 57 < (ch.toNat : Int) := by
              simp only [isD, Bool.and_eq_false_iff, decide_eq_false_iff_not] at hd
              omega
            rw [← HC.out] at hbad
            clear hd
            rcases hbad with h1 | ⟨h1, h2⟩
            · go_wp2
              go_ret
              exact ⟨by rw [hr.out] <;> rfl, rfl⟩
            · go_wp2
              go_ret
              exact ⟨by rw [hr.out] <;> rfl, rfl⟩
          · have hgood : ¬ (ch.toNat : Int) < 48 ∧ ¬ 57 < (ch.toNat : Int) := by
              simp only [isD, Bool.and_eq_true, decide_eq_true_eq] at hd
              omega
            rw [hd] at HA2
            rw [← HC.out] at hgood HS
            clear hd
            obtain ⟨h1, h2⟩ := hgood
            go_wp2
            go_round
            case rel => exact ⟨i + 1, by omega, by go_num, by rw [HS.out]; go_num, HA2⟩
            case measure => simp [intOf]; omega
        · obtain rfl : i = l.length := by omega
          have hr := Lib.hid (show readW l = (valD 0 l : Int) from HGOOD.out (by have := HA.out; rwa [List.take_length] at this))
          rw [List.take_length]
          go_wp2
          go_ret
          exact ⟨by rw [hr.out] <;> rfl, rfl⟩
  · rw [show inB (l.length : Int) 1 6 = false by simp [inB]; omega] at HI
    have hr := Lib.hid (show readW l = -1 by unfold readW; rw [if_neg (fun h => hn h.1.1)])
    go_enter Tryd.func61, Tryd.ntmps61
    go_wp2_with fail
    refine (HI.out _).mono ?_
    rintro e _ ⟨rfl, rfl⟩
    go_wp2
    go_ret
    exact ⟨by rw [hr.out] <;> rfl, rfl⟩
theorem readC_bd (l : List UInt8) : -1 ≤ readC l ∧ readC l < 10000000000 := by
  unfold readC
  split
  · omega
  · exact readL_bd l
theorem nuText_any (n : Int) (h : numB n = true) (w : World) :
    Calls Tryd.prog 87 #[.int .i64 n] w fun r w' => r = .returned (.string (txt (nuTL n))) ∧ Ext w w' := by
  have hb := numB_true.1 h
  by_cases hn : n = 1000000000
  · subst hn
    have HT := Lib.hid (show txt (nuTL 1000000000) = ⟨#[105, 110, 102]⟩ from rfl)
    go_enter Tryd.func87, Tryd.ntmps87
    go_wp2
    go_ret
    exact ⟨by rw [HT.out] <;> rfl, Ext.refl _⟩
  · have HT := Lib.hid (show nuTL n = Lib.itoa n by unfold nuTL; rw [if_neg hn])
    have HL := Lib.hid (fun w => l1Int_any n (by omega) (by omega) w)
    go_enter Tryd.func87, Tryd.ntmps87
    go_wp2_with fail
    refine (HL.out _).mono ?_
    rintro e w1 ⟨rfl, hb1⟩
    go_wp2
    go_ret
    exact ⟨by rw [HT.out] <;> rfl, hb1⟩
set_option maxHeartbeats 2000000 in
set_option linter.unusedSimpArgs false in
theorem nuParse_any (l : List UInt8) (hlim : l.length ≤ 1048576) (w : World) :
    Calls Tryd.prog 59 #[.string (txt l)] w fun r w' => r = .returned (.tuple #[.int .i64 (gI (parB l) (parL l)), .bool (parB l)]) ∧ Ext w w' := by
  have hsz : (txt l).size = l.length := txt_size l
  have hinf : txt [105, 110, 102] = ⟨#[105, 110, 102]⟩ := rfl
  by_cases hi : l = [105, 110, 102]
  · have HN := Lib.hid (show parL l = 1000000000 by unfold parL; rw [if_pos hi])
    have hq0 : ((txt l).toList == [105, 110, 102]) = true := by rw [txt_toList, hi]; rfl
    clear hi
    obtain ⟨N, hN⟩ : ∃ N : Int, N = 1000000000 := ⟨_, rfl⟩
    rw [← hN] at HN
    go_enter Tryd.func59, Tryd.ntmps59
    go_wp2_with fail
    rw [← hN]
    clear hN
    cases hB : numB N
    · have HG := Lib.hid (fun w => nuGood_any N w)
      rw [hB] at HG
      have HV := Lib.hid (show parB l = false by unfold parB; rw [HN.out, hB]; rfl)
      go_wp2_with fail
      refine (HG.out _).mono ?_
      rintro e _ ⟨rfl, rfl⟩
      go_wp2
      go_ret2
      exact ⟨by rw [HV.out] <;> rfl, Ext.refl _⟩
    · have HG := Lib.hid (fun w => nuGood_any N w)
      rw [hB] at HG
      have HT := Lib.hid (fun w => nuText_any N hB w)
      go_wp2_with fail
      refine (HG.out _).mono ?_
      rintro e _ ⟨rfl, rfl⟩
      go_wp2_with fail
      refine (HT.out _).mono ?_
      rintro e w2 ⟨rfl, hb2⟩
      by_cases hE : nuTL N = l
      · have HV := Lib.hid (show parB l = true by unfold parB; rw [HN.out, hB]; simp [hE])
        have hq : ((txt (nuTL N)).toList == (txt l).toList) = true := by rw [hE]; simp
        have HN2 := Lib.hid (show N = gI true (parL l) by rw [HN.out]; rfl)
        clear hE
        go_wp2
        go_ret2
        exact ⟨by rw [HV.out, ← HN2.out] <;> rfl, hb2⟩
      · have HV := Lib.hid (show parB l = false by unfold parB; rw [HN.out]; simp [hE])
        have hq : ((txt (nuTL N)).toList == (txt l).toList) = false := by
          rw [txt_toList, txt_toList]
          simp only [beq_eq_false_iff_ne, ne_eq]
          exact hE
        clear hE
        go_wp2
        go_ret2
        exact ⟨by rw [HV.out] <;> rfl, hb2⟩
  · have hq0 : ((txt l).toList == [105, 110, 102]) = false := by
      rw [txt_toList]
      simp only [beq_eq_false_iff_ne, ne_eq]
      exact hi
    by_cases h45 : 1 < l.length ∧ l.head? = some 45
    · have HN0 := Lib.hid (show parL l = -readC l.tail by unfold parL; rw [if_neg hi, if_pos h45])
      obtain ⟨t, ht⟩ : ∃ t, l = 45 :: t := by
        cases l with
        | nil => simp at h45
        | cons a r => simp at h45; exact ⟨r, by rw [h45.2]⟩
      have htl : t.length < l.length := by rw [ht]; simp
      have HR0 := Lib.hid (fun w => nuRead_any l w hlim)
      have HR := Lib.hid (fun w => nuRead_any t w (by omega))
      have hbd0 := readC_bd l
      have hbd := readC_bd t
      rw [show l.tail = t by rw [ht]; rfl] at HN0
      have hp : 0 < (txt l).size := by rw [hsz]; omega
      have hi1 : (((txt l)[0]'hp).toNat : Int) = 45 := by
        have : (txt l)[0]'hp = 45 := by subst ht; rfl
        rw [this]; rfl
      have hcut : (txt l).extract 1 l.length = txt t := by rw [txt_cut, List.take_length, ht]; rfl
      have h1 : decide ((1 : Int) < (l.length : Int)) = true := by have := h45.1; simp; omega
      generalize readC l = X at *
      generalize readC t = Y at *
      have hw : IntKind.i64.wrap (-Y) = -Y := by rw [wrap_i64] <;> omega
      obtain ⟨N, hN⟩ : ∃ N : Int, N = -Y := ⟨_, rfl⟩
      have HN := Lib.hid (show parL l = N by rw [HN0.out, hN])
      clear hi h45 HN0 ht
      go_enter Tryd.func59, Tryd.ntmps59
      go_wp2_with fail
      refine (HR0.out _).mono ?_
      rintro e _ ⟨rfl, rfl⟩
      go_wp2_with fail
      refine (HR.out _).mono ?_
      rintro e _ ⟨rfl, rfl⟩
      go_wp2_with fail
      rw [← hN]
      clear hN hw
      cases hB : numB N
      · have HG := Lib.hid (fun w => nuGood_any N w)
        rw [hB] at HG
        have HV := Lib.hid (show parB l = false by unfold parB; rw [HN.out, hB]; rfl)
        go_wp2_with fail
        refine (HG.out _).mono ?_
        rintro e _ ⟨rfl, rfl⟩
        go_wp2
        go_ret2
        exact ⟨by rw [HV.out] <;> rfl, Ext.refl _⟩
      · have HG := Lib.hid (fun w => nuGood_any N w)
        rw [hB] at HG
        have HT := Lib.hid (fun w => nuText_any N hB w)
        go_wp2_with fail
        refine (HG.out _).mono ?_
        rintro e _ ⟨rfl, rfl⟩
        go_wp2_with fail
        refine (HT.out _).mono ?_
        rintro e w2 ⟨rfl, hb2⟩
        by_cases hE : nuTL N = l
        · have HV := Lib.hid (show parB l = true by unfold parB; rw [HN.out, hB]; simp [hE])
          have hq : ((txt (nuTL N)).toList == (txt l).toList) = true := by rw [hE]; simp
          have HN2 := Lib.hid (show N = gI true (parL l) by rw [HN.out]; rfl)
          clear hE
          go_wp2
          go_ret2
          exact ⟨by rw [HV.out, ← HN2.out] <;> rfl, hb2⟩
        · have HV := Lib.hid (show parB l = false by unfold parB; rw [HN.out]; simp [hE])
          have hq : ((txt (nuTL N)).toList == (txt l).toList) = false := by
            rw [txt_toList, txt_toList]
            simp only [beq_eq_false_iff_ne, ne_eq]
            exact hE
          clear hE
          go_wp2
          go_ret2
          exact ⟨by rw [HV.out] <;> rfl, hb2⟩
    · have HN := Lib.hid (show parL l = readC l by unfold parL; rw [if_neg hi, if_neg h45])
      have HR0 := Lib.hid (fun w => nuRead_any l w hlim)
      have hbd := readC_bd l
      have h1 : decide ((1 : Int) < (l.length : Int)) = false ∨ (decide ((1 : Int) < (l.length : Int)) = true ∧ ∃ hp : 0 < (txt l).size, ¬ (((txt l)[0]'hp).toNat : Int) = 45) := by
        by_cases hl : 1 < l.length
        · refine .inr ⟨by simp; omega, by rw [hsz]; omega, ?_⟩
          cases l with
          | nil => simp at hl
          | cons a r =>
            have : a ≠ 45 := fun e => h45 ⟨hl, by rw [e]; rfl⟩
            show ¬ ((a.toNat : Int) = 45)
            exact fun e => this (UInt8.toNat_inj.1 (by show a.toNat = 45; omega))
        · exact .inl (by simp; omega)
      generalize readC l = N at *
      clear hi h45
      rcases h1 with h1 | ⟨h1, hp, h2⟩
      · go_enter Tryd.func59, Tryd.ntmps59
        go_wp2_with fail
        refine (HR0.out _).mono ?_
        rintro e _ ⟨rfl, rfl⟩
        cases hB : numB N
        · have HG := Lib.hid (fun w => nuGood_any N w)
          rw [hB] at HG
          have HV := Lib.hid (show parB l = false by unfold parB; rw [HN.out, hB]; rfl)
          go_wp2_with fail
          refine (HG.out _).mono ?_
          rintro e _ ⟨rfl, rfl⟩
          go_wp2
          go_ret2
          exact ⟨by rw [HV.out] <;> rfl, Ext.refl _⟩
        · have HG := Lib.hid (fun w => nuGood_any N w)
          rw [hB] at HG
          have HT := Lib.hid (fun w => nuText_any N hB w)
          go_wp2_with fail
          refine (HG.out _).mono ?_
          rintro e _ ⟨rfl, rfl⟩
          go_wp2_with fail
          refine (HT.out _).mono ?_
          rintro e w2 ⟨rfl, hb2⟩
          by_cases hE : nuTL N = l
          · have HV := Lib.hid (show parB l = true by unfold parB; rw [HN.out, hB]; simp [hE])
            have hq : ((txt (nuTL N)).toList == (txt l).toList) = true := by rw [hE]; simp
            have HN2 := Lib.hid (show N = gI true (parL l) by rw [HN.out]; rfl)
            clear hE
            go_wp2
            go_ret2
            exact ⟨by rw [HV.out, ← HN2.out] <;> rfl, hb2⟩
          · have HV := Lib.hid (show parB l = false by unfold parB; rw [HN.out]; simp [hE])
            have hq : ((txt (nuTL N)).toList == (txt l).toList) = false := by
              rw [txt_toList, txt_toList]
              simp only [beq_eq_false_iff_ne, ne_eq]
              exact hE
            clear hE
            go_wp2
            go_ret2
            exact ⟨by rw [HV.out] <;> rfl, hb2⟩
      · go_enter Tryd.func59, Tryd.ntmps59
        go_wp2_with fail
        refine (HR0.out _).mono ?_
        rintro e _ ⟨rfl, rfl⟩
        cases hB : numB N
        · have HG := Lib.hid (fun w => nuGood_any N w)
          rw [hB] at HG
          have HV := Lib.hid (show parB l = false by unfold parB; rw [HN.out, hB]; rfl)
          go_wp2_with fail
          refine (HG.out _).mono ?_
          rintro e _ ⟨rfl, rfl⟩
          go_wp2
          go_ret2
          exact ⟨by rw [HV.out] <;> rfl, Ext.refl _⟩
        · have HG := Lib.hid (fun w => nuGood_any N w)
          rw [hB] at HG
          have HT := Lib.hid (fun w => nuText_any N hB w)
          go_wp2_with fail
          refine (HG.out _).mono ?_
          rintro e _ ⟨rfl, rfl⟩
          go_wp2_with fail
          refine (HT.out _).mono ?_
          rintro e w2 ⟨rfl, hb2⟩
          by_cases hE : nuTL N = l
          · have HV := Lib.hid (show parB l = true by unfold parB; rw [HN.out, hB]; simp [hE])
            have hq : ((txt (nuTL N)).toList == (txt l).toList) = true := by rw [hE]; simp
            have HN2 := Lib.hid (show N = gI true (parL l) by rw [HN.out]; rfl)
            clear hE
            go_wp2
            go_ret2
            exact ⟨by rw [HV.out, ← HN2.out] <;> rfl, hb2⟩
          · have HV := Lib.hid (show parB l = false by unfold parB; rw [HN.out]; simp [hE])
            have hq : ((txt (nuTL N)).toList == (txt l).toList) = false := by
              rw [txt_toList, txt_toList]
              simp only [beq_eq_false_iff_ne, ne_eq]
              exact hE
            clear hE
            go_wp2
            go_ret2
            exact ⟨by rw [HV.out] <;> rfl, hb2⟩
end Go.Proofs.YtgoaedhgkkbajaaDoor
