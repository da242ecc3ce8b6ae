/-
  MeetSum.
-/
import Derived.Test.YtlkhjedlokklaaaMCount
namespace Go.Proofs.Ytlkhjedlokklaaa
open Go.RowKit

theorem mtAsked_any (a b : Option Addr) (n m c d : Nat) (xs ys : List (Int × Int × Int)) (p q : Int) (hn : n ≤ 1073741824) (hm : m ≤ 1073741824) (w : World) (h : Reads w a 3 n (tv xs)) (h' : Reads w b 3 m (tv ys)) :
    Calls Try.prog 74 #[.slice a n c, .slice b m d, .int .i64 p, .int .i64 q] w fun r w' => r = .returned (.bool (starB xs && starB ys && stepB 1000 p q && freeTo xs p q n && freeTo ys p q m)) ∧ Ext w w' := by
  have hw0 := Ext.refl w
  cases h0 : starB xs
  · go_enter Try.func74, Try.ntmps74
    go_wp2_with fail
    refine (stGood_any _ _ _ xs hn _ (h.ext hw0)).mono ?_
    rw [h0]
    rintro e w1 ⟨rfl, hb1⟩
    have hz1 := hb1
    go_wp2
    go_ret
    exact ⟨ret_bool (by simp), (hw0.trans hb1)⟩
  · have hsx : Small xs := by
      rcases small_of (zs := xs) with hz | ⟨_, hz⟩
      · rw [hz] at h0; cases h0
      · exact hz
    cases h1 : starB ys
    · go_enter Try.func74, Try.ntmps74
      go_wp2_with fail
      refine (stGood_any _ _ _ xs hn _ (h.ext hw0)).mono ?_
      rw [h0]
      rintro e w1 ⟨rfl, hb1⟩
      have hz1 := hb1
      go_wp2_with fail
      refine (stGood_any _ _ _ ys hm _ (h'.ext (hw0.trans hb1))).mono ?_
      rw [h1]
      rintro e w2 ⟨rfl, hb2⟩
      have hz2 := hz1.trans hb2
      go_wp2
      go_ret
      exact ⟨ret_bool (by simp), ((hw0.trans hb1).trans hb2)⟩
    · have hsy : Small ys := by
        rcases small_of (zs := ys) with hz | ⟨_, hz⟩
        · rw [hz] at h1; cases h1
        · exact hz
      cases h2 : stepB 1000 p q
      · go_enter Try.func74, Try.ntmps74
        go_wp2_with fail
        refine (stGood_any _ _ _ xs hn _ (h.ext hw0)).mono ?_
        rw [h0]
        rintro e w1 ⟨rfl, hb1⟩
        have hz1 := hb1
        go_wp2_with fail
        refine (stGood_any _ _ _ ys hm _ (h'.ext (hw0.trans hb1))).mono ?_
        rw [h1]
        rintro e w2 ⟨rfl, hb2⟩
        have hz2 := hz1.trans hb2
        go_wp2_with fail
        refine (mtMove_any _ _ _).mono ?_
        rw [h2]
        rintro e _ ⟨rfl, rfl⟩
        go_wp2
        go_ret
        exact ⟨ret_bool (by simp), ((hw0.trans hb1).trans hb2)⟩
      · have hst := stepB_true.1 h2
        have hp := hst.1
        have hq := hst.2.1
        cases h3 : freeTo xs p q n
        · go_enter Try.func74, Try.ntmps74
          go_wp2_with fail
          refine (stGood_any _ _ _ xs hn _ (h.ext hw0)).mono ?_
          rw [h0]
          rintro e w1 ⟨rfl, hb1⟩
          have hz1 := hb1
          go_wp2_with fail
          refine (stGood_any _ _ _ ys hm _ (h'.ext (hw0.trans hb1))).mono ?_
          rw [h1]
          rintro e w2 ⟨rfl, hb2⟩
          have hz2 := hz1.trans hb2
          go_wp2_with fail
          refine (mtMove_any _ _ _).mono ?_
          rw [h2]
          rintro e _ ⟨rfl, rfl⟩
          go_wp2_with fail
          refine (mtFree_any _ _ _ xs p q hsx hp hq _ (h.ext ((hw0.trans hb1).trans hb2))).mono ?_
          rw [h3]
          rintro e w3 ⟨rfl, hb3⟩
          have hz3 := hz2.trans hb3
          go_wp2
          go_ret
          exact ⟨ret_bool (by simp), (((hw0.trans hb1).trans hb2).trans hb3)⟩
        · skip
          cases h4 : freeTo ys p q m
          · go_enter Try.func74, Try.ntmps74
            go_wp2_with fail
            refine (stGood_any _ _ _ xs hn _ (h.ext hw0)).mono ?_
            rw [h0]
            rintro e w1 ⟨rfl, hb1⟩
            have hz1 := hb1
            go_wp2_with fail
            refine (stGood_any _ _ _ ys hm _ (h'.ext (hw0.trans hb1))).mono ?_
            rw [h1]
            rintro e w2 ⟨rfl, hb2⟩
            have hz2 := hz1.trans hb2
            go_wp2_with fail
            refine (mtMove_any _ _ _).mono ?_
            rw [h2]
            rintro e _ ⟨rfl, rfl⟩
            go_wp2_with fail
            refine (mtFree_any _ _ _ xs p q hsx hp hq _ (h.ext ((hw0.trans hb1).trans hb2))).mono ?_
            rw [h3]
            rintro e w3 ⟨rfl, hb3⟩
            have hz3 := hz2.trans hb3
            go_wp2_with fail
            refine (mtFree_any _ _ _ ys p q hsy hp hq _ (h'.ext (((hw0.trans hb1).trans hb2).trans hb3))).mono ?_
            rw [h4]
            rintro e w4 ⟨rfl, hb4⟩
            have hz4 := hz3.trans hb4
            go_wp2
            go_ret
            exact ⟨ret_bool (by simp), ((((hw0.trans hb1).trans hb2).trans hb3).trans hb4)⟩
          · skip
            go_enter Try.func74, Try.ntmps74
            go_wp2_with fail
            refine (stGood_any _ _ _ xs hn _ (h.ext hw0)).mono ?_
            rw [h0]
            rintro e w1 ⟨rfl, hb1⟩
            have hz1 := hb1
            go_wp2_with fail
            refine (stGood_any _ _ _ ys hm _ (h'.ext (hw0.trans hb1))).mono ?_
            rw [h1]
            rintro e w2 ⟨rfl, hb2⟩
            have hz2 := hz1.trans hb2
            go_wp2_with fail
            refine (mtMove_any _ _ _).mono ?_
            rw [h2]
            rintro e _ ⟨rfl, rfl⟩
            go_wp2_with fail
            refine (mtFree_any _ _ _ xs p q hsx hp hq _ (h.ext ((hw0.trans hb1).trans hb2))).mono ?_
            rw [h3]
            rintro e w3 ⟨rfl, hb3⟩
            have hz3 := hz2.trans hb3
            go_wp2_with fail
            refine (mtFree_any _ _ _ ys p q hsy hp hq _ (h'.ext (((hw0.trans hb1).trans hb2).trans hb3))).mono ?_
            rw [h4]
            rintro e w4 ⟨rfl, hb4⟩
            have hz4 := hz3.trans hb4
            go_wp2
            go_ret
            exact ⟨ret_bool (by simp), ((((hw0.trans hb1).trans hb2).trans hb3).trans hb4)⟩

def gP (t : Bool) (l : List (Nat × Nat)) : List (Nat × Nat) := if t then l else []
set_option maxHeartbeats 1000000 in
theorem MeetingPairs_any (a b : Option Addr) (n m c d : Nat) (xs ys : List (Int × Int × Int)) (p q : Int) (hn : n ≤ 1073741824) (hm : m ≤ 1073741824) (w : World) (h : Reads w a 3 n (tv xs)) (h' : Reads w b 3 m (tv ys)) :
    Calls Try.prog 76 #[.slice a n c, .slice b m d, .int .i64 p, .int .i64 q] w fun r w' => ∃ a1 c1 B, r = .returned (.tuple #[.slice a1 (gP (starB xs && starB ys && stepB 1000 p q && freeTo xs p q n && freeTo ys p q m) (allP xs ys p q n)).length c1, .bool (starB xs && starB ys && stepB 1000 p q && freeTo xs p q n && freeTo ys p q m)]) ∧ OwnP w' B (.slice a1 (gP (starB xs && starB ys && stepB 1000 p q && freeTo xs p q n && freeTo ys p q m) (allP xs ys p q n)).length c1) (gP (starB xs && starB ys && stepB 1000 p q && freeTo xs p q n && freeTo ys p q m) (allP xs ys p q n)) ∧ Ext w w' := by
  have hw0 : Ext w (w.alloc (.cells #[.int .i64 p, .int .i64 q] 73)) := (Ext.refl w).alloc _
  have HM := Has.new w #[.int .i64 p, .int .i64 q] 73
  have Mc0 := Ext.keeps (HM 0 _ rfl)
  have Mc1 := Ext.keeps (HM 1 _ rfl)
  clear HM
  cases h0 : starB xs
  · go_enter Try.func76, Try.ntmps76
    go_wp2_with fail
    refine (isStar_any _ _ _ xs hn _ (h.ext hw0)).mono ?_
    rw [h0]
    rintro e w1 ⟨rfl, hb1⟩
    have hz1 := hb1
    go_wp2
    go_ret2
    exact ⟨none, 0, 0, by simp [gP], by simpa [gP] using OwnP.none _ _, (hw0.trans hb1)⟩
  · have hsx : Small xs := by
      rcases small_of (zs := xs) with hz | ⟨_, hz⟩
      · rw [hz] at h0; cases h0
      · exact hz
    cases h1 : starB ys
    · go_enter Try.func76, Try.ntmps76
      go_wp2_with fail
      refine (isStar_any _ _ _ xs hn _ (h.ext hw0)).mono ?_
      rw [h0]
      rintro e w1 ⟨rfl, hb1⟩
      have hz1 := hb1
      go_wp2_with fail
      refine (isStar_any _ _ _ ys hm _ (h'.ext (hw0.trans hb1))).mono ?_
      rw [h1]
      rintro e w2 ⟨rfl, hb2⟩
      have hz2 := hz1.trans hb2
      go_wp2
      go_ret2
      exact ⟨none, 0, 0, by simp [gP], by simpa [gP] using OwnP.none _ _, ((hw0.trans hb1).trans hb2)⟩
    · have hsy : Small ys := by
        rcases small_of (zs := ys) with hz | ⟨_, hz⟩
        · rw [hz] at h1; cases h1
        · exact hz
      cases h2 : stepB 1000 p q
      · go_enter Try.func76, Try.ntmps76
        go_wp2_with fail
        refine (isStar_any _ _ _ xs hn _ (h.ext hw0)).mono ?_
        rw [h0]
        rintro e w1 ⟨rfl, hb1⟩
        have hz1 := hb1
        go_wp2_with fail
        refine (isStar_any _ _ _ ys hm _ (h'.ext (hw0.trans hb1))).mono ?_
        rw [h1]
        rintro e w2 ⟨rfl, hb2⟩
        have hz2 := hz1.trans hb2
        go_wp2_with fail
        refine (isMove_any _ _ _).mono ?_
        rw [h2]
        rintro e _ ⟨rfl, rfl⟩
        go_wp2
        go_ret2
        exact ⟨none, 0, 0, by simp [gP], by simpa [gP] using OwnP.none _ _, ((hw0.trans hb1).trans hb2)⟩
      · have hst := stepB_true.1 h2
        have hp := hst.1
        have hq := hst.2.1
        cases h3 : freeTo xs p q n
        · go_enter Try.func76, Try.ntmps76
          go_wp2_with fail
          refine (isStar_any _ _ _ xs hn _ (h.ext hw0)).mono ?_
          rw [h0]
          rintro e w1 ⟨rfl, hb1⟩
          have hz1 := hb1
          go_wp2_with fail
          refine (isStar_any _ _ _ ys hm _ (h'.ext (hw0.trans hb1))).mono ?_
          rw [h1]
          rintro e w2 ⟨rfl, hb2⟩
          have hz2 := hz1.trans hb2
          go_wp2_with fail
          refine (isMove_any _ _ _).mono ?_
          rw [h2]
          rintro e _ ⟨rfl, rfl⟩
          go_wp2_with fail
          refine (isGeneral_any _ _ _ xs p q hsx hp hq _ (h.ext ((hw0.trans hb1).trans hb2))).mono ?_
          rw [h3]
          rintro e w3 ⟨rfl, hb3⟩
          have hz3 := hz2.trans hb3
          go_wp2
          go_ret2
          exact ⟨none, 0, 0, by simp [gP], by simpa [gP] using OwnP.none _ _, (((hw0.trans hb1).trans hb2).trans hb3)⟩
        · skip
          cases h4 : freeTo ys p q m
          · go_enter Try.func76, Try.ntmps76
            go_wp2_with fail
            refine (isStar_any _ _ _ xs hn _ (h.ext hw0)).mono ?_
            rw [h0]
            rintro e w1 ⟨rfl, hb1⟩
            have hz1 := hb1
            go_wp2_with fail
            refine (isStar_any _ _ _ ys hm _ (h'.ext (hw0.trans hb1))).mono ?_
            rw [h1]
            rintro e w2 ⟨rfl, hb2⟩
            have hz2 := hz1.trans hb2
            go_wp2_with fail
            refine (isMove_any _ _ _).mono ?_
            rw [h2]
            rintro e _ ⟨rfl, rfl⟩
            go_wp2_with fail
            refine (isGeneral_any _ _ _ xs p q hsx hp hq _ (h.ext ((hw0.trans hb1).trans hb2))).mono ?_
            rw [h3]
            rintro e w3 ⟨rfl, hb3⟩
            have hz3 := hz2.trans hb3
            go_wp2_with fail
            refine (isGeneral_any _ _ _ ys p q hsy hp hq _ (h'.ext (((hw0.trans hb1).trans hb2).trans hb3))).mono ?_
            rw [h4]
            rintro e w4 ⟨rfl, hb4⟩
            have hz4 := hz3.trans hb4
            go_wp2
            go_ret2
            exact ⟨none, 0, 0, by simp [gP], by simpa [gP] using OwnP.none _ _, ((((hw0.trans hb1).trans hb2).trans hb3).trans hb4)⟩
          · skip
            go_enter Try.func76, Try.ntmps76
            go_wp2_with fail
            refine (isStar_any _ _ _ xs hn _ (h.ext hw0)).mono ?_
            rw [h0]
            rintro e w1 ⟨rfl, hb1⟩
            have hz1 := hb1
            go_wp2_with fail
            refine (isStar_any _ _ _ ys hm _ (h'.ext (hw0.trans hb1))).mono ?_
            rw [h1]
            rintro e w2 ⟨rfl, hb2⟩
            have hz2 := hz1.trans hb2
            go_wp2_with fail
            refine (isMove_any _ _ _).mono ?_
            rw [h2]
            rintro e _ ⟨rfl, rfl⟩
            go_wp2_with fail
            refine (isGeneral_any _ _ _ xs p q hsx hp hq _ (h.ext ((hw0.trans hb1).trans hb2))).mono ?_
            rw [h3]
            rintro e w3 ⟨rfl, hb3⟩
            have hz3 := hz2.trans hb3
            go_wp2_with fail
            refine (isGeneral_any _ _ _ ys p q hsy hp hq _ (h'.ext (((hw0.trans hb1).trans hb2).trans hb3))).mono ?_
            rw [h4]
            rintro e w4 ⟨rfl, hb4⟩
            have hz4 := hz3.trans hb4
            go_wp2_with fail
            refine (meetingPairs_any _ _ _ _ _ _ xs ys p q hsx hsy hp hq _ (h.ext ((((hw0.trans hb1).trans hb2).trans hb3).trans hb4)) (h'.ext ((((hw0.trans hb1).trans hb2).trans hb3).trans hb4))).mono ?_
            rintro e w5 ⟨a1, c1, rfl, hown, hb5⟩
            go_wp2
            go_ret2
            exact ⟨a1, c1, _, by simp [gP], by simpa [gP] using hown, ((((hw0.trans hb1).trans hb2).trans hb3).trans hb4).trans hb5⟩

theorem spec_MeetSum_any (a b : Option Addr) (n m c d : Nat) (xs ys : List (Int × Int × Int)) (p q : Int) (hn : n ≤ 1073741824) (hm : m ≤ 1073741824) (w : World) (h : Reads w a 3 n (tv xs)) (h' : Reads w b 3 m (tv ys)) :
    Calls Try.prog 33 #[.slice a n c, .slice b m d, .int .i64 p, .int .i64 q] w fun r w' => r = .returned (.tuple #[.int .i64 (gI (starB xs && starB ys && stepB 1000 p q && freeTo xs p q n && freeTo ys p q m) (psum xs ys (allP xs ys p q n) (allP xs ys p q n).length)), .bool (starB xs && starB ys && stepB 1000 p q && freeTo xs p q n && freeTo ys p q m)]) ∧ Ext w w' := by
  cases hA : (starB xs && starB ys && stepB 1000 p q && freeTo xs p q n && freeTo ys p q m)
  · go_enter Try.func33, Try.ntmps33
    go_wp2_with fail
    refine (mtAsked_any _ _ _ _ _ _ xs ys p q hn hm _ h h').mono ?_
    rw [hA]
    rintro e w1 ⟨rfl, hb1⟩
    go_wp2
    go_ret2
    exact ⟨rfl, hb1⟩
  · have hO := hA
    simp only [Bool.and_eq_true] at hO
    have hst := stepB_true.1 hO.1.1.2
    have hsx : Small xs := by
      rcases small_of (zs := xs) with hz | ⟨_, hz⟩
      · rw [hO.1.1.1.1] at hz; cases hz
      · exact hz
    have hsy : Small ys := by
      rcases small_of (zs := ys) with hz | ⟨_, hz⟩
      · rw [hO.1.1.1.2] at hz; cases hz
      · exact hz
    clear hO
    go_enter Try.func33, Try.ntmps33
    go_wp2_with fail
    refine (mtAsked_any _ _ _ _ _ _ xs ys p q hn hm _ h h').mono ?_
    rw [hA]
    rintro e w1 ⟨rfl, hb1⟩
    go_wp2_with fail
    refine (mtSum_any _ _ _ _ _ _ xs ys p q hsx hsy hst.1 hst.2.1 _ (h.ext hb1) (h'.ext hb1)).mono ?_
    rintro e w2 ⟨rfl, hb2⟩
    go_wp2
    go_ret2
    exact ⟨rfl, hb1.trans hb2⟩

theorem impl_MeetSum_any (a b : Option Addr) (n m c d : Nat) (xs ys : List (Int × Int × Int)) (p q : Int) (hn : n ≤ 1073741824) (hm : m ≤ 1073741824) (w : World) (h : Reads w a 3 n (tv xs)) (h' : Reads w b 3 m (tv ys)) :
    Calls Try.prog 34 #[.slice a n c, .slice b m d, .int .i64 p, .int .i64 q] w fun r w' => r = .returned (.tuple #[.int .i64 (gI (starB xs && starB ys && stepB 1000 p q && freeTo xs p q n && freeTo ys p q m) (psum xs ys (allP xs ys p q n) (allP xs ys p q n).length)), .bool (starB xs && starB ys && stepB 1000 p q && freeTo xs p q n && freeTo ys p q m)]) ∧ Ext w w' := by
  have hl : xs.length = n := by have := h.1; rw [tv_len] at this; omega
  cases hA : (starB xs && starB ys && stepB 1000 p q && freeTo xs p q n && freeTo ys p q m)
  · go_enter Try.func34, Try.ntmps34
    go_wp2_with fail
    refine (MeetingPairs_any _ _ _ _ _ _ xs ys p q hn hm _ h h').mono ?_
    rw [hA]
    rintro e w1 ⟨a1, c1, B, rfl, hown, hb1⟩
    go_wp2
    go_ret2
    exact ⟨rfl, hb1⟩
  · have hO := hA
    simp only [Bool.and_eq_true] at hO
    have hsx : Small xs := by
      rcases small_of (zs := xs) with hz | ⟨_, hz⟩
      · rw [hO.1.1.1.1] at hz; cases hz
      · exact hz
    have hsy : Small ys := by
      rcases small_of (zs := ys) with hz | ⟨_, hz⟩
      · rw [hO.1.1.1.2] at hz; cases hz
      · exact hz
    have hP := allP_places hsx hsy p q
    clear hO
    go_enter Try.func34, Try.ntmps34
    go_wp2_with fail
    refine (MeetingPairs_any _ _ _ _ _ _ xs ys p q hn hm _ h h').mono ?_
    rw [hA]
    rintro e w1 ⟨a1, c1, B, rfl, hown, hb1⟩
    go_wp2_with fail
    refine (meetSum_any _ _ _ _ _ _ xs ys _ _ _ _ (by rw [← hl]; exact hP) hsx hsy _ (h.ext hb1) (h'.ext hb1) hown).mono ?_
    rintro e w2 ⟨rfl, hb2⟩
    go_wp2
    go_ret2
    exact ⟨rfl, hb1.trans hb2⟩

set_option maxHeartbeats 1000000 in
theorem law_MeetSum (a : Option Addr) (n c : Nat) (xs : List (Int × Int × Int)) (b : Option Addr) (m d : Nat) (ys : List (Int × Int × Int)) (p q : Int) (w : World) (hr : IsTri w a n c xs) (hr' : IsTri w b m d ys) :
    Calls Try.prog 9 #[.slice a n c, .slice b m d, .int .i64 p, .int .i64 q] w fun r w' => r = .returned (.bool true) ∧ Ext w w' := by
  have h := hr.1
  have h' := hr'.1
  have hc1 := hr.2.1
  have hc2 := hr.2.2.1
  have hd1 := hr'.2.1
  have hd2 := hr'.2.2.1
  unfold maxLen at hc2 hd2
  clear hr hr'
  by_cases hn : n ≤ 1048576
  rotate_left
  · go_enter Try.func9, Try.ntmps9
    go_wp2_with fail
    refine (szRayS_no _ _ _ _ (by omega) (by omega) (by omega) (by omega) _).mono ?_
    rintro e _ ⟨rfl, rfl⟩
    go_wp2
    go_ret
    exact ⟨rfl, Ext.refl _⟩
  · by_cases hm : (m : Int) ≤ 1048576 - n
    rotate_left
    · go_enter Try.func9, Try.ntmps9
      go_wp2_with fail
      refine (szRayS_yes _ _ _ _ (by omega) (by omega) _).mono ?_
      rintro e _ ⟨rfl, rfl⟩
      go_wp2_with fail
      refine (szRayS_no _ _ _ (1048576 - (n : Int)) (by omega) (by omega) (by omega) (by omega) _).mono ?_
      rintro e _ ⟨rfl, rfl⟩
      go_wp2
      go_ret
      exact ⟨rfl, Ext.refl _⟩
    · go_enter Try.func9, Try.ntmps9
      go_wp2_with fail
      refine (szRayS_yes _ _ _ _ (by omega) (by omega) _).mono ?_
      rintro e _ ⟨rfl, rfl⟩
      go_wp2_with fail
      refine (szRayS_yes _ _ _ (1048576 - (n : Int)) (by omega) (by omega) _).mono ?_
      rintro e _ ⟨rfl, rfl⟩
      go_wp2_with fail
      refine (toRayS_any _ _ _ xs hn _ h).mono ?_
      rintro e w1 ⟨g1, rfl, ho1, hE⟩
      go_wp2_with fail
      refine (toRayS_any _ _ _ ys (by omega) _ (h'.ext hE)).mono ?_
      rintro e w2 ⟨g2, rfl, ho2, hb⟩
      replace hE := hE.trans hb
      replace ho1 := own_ext hb ho1
      go_wp2_with fail
      refine (spec_MeetSum_any _ _ _ _ _ _ xs ys p q (by omega) (by omega) _ (own_reads ho1) (own_reads ho2)).mono ?_
      rintro e w3 ⟨rfl, hb⟩
      replace hE := hE.trans hb
      clear ho1 ho2
      go_wp2_with fail
      refine (toRayS_any _ _ _ xs hn _ (h.ext hE)).mono ?_
      rintro e w4 ⟨g3, rfl, ho1, hb⟩
      replace hE := hE.trans hb
      go_wp2_with fail
      refine (toRayS_any _ _ _ ys (by omega) _ (h'.ext hE)).mono ?_
      rintro e w5 ⟨g4, rfl, ho2, hb⟩
      replace hE := hE.trans hb
      replace ho1 := own_ext hb ho1
      go_wp2_with fail
      refine (impl_MeetSum_any _ _ _ _ _ _ xs ys p q (by omega) (by omega) _ (own_reads ho1) (own_reads ho2)).mono ?_
      rintro e w6 ⟨rfl, hb⟩
      replace hE := hE.trans hb
      replace ho1 := own_ext hb ho1
      replace ho2 := own_ext hb ho2
      go_wp2_with fail
      refine (toRayS_any _ _ _ xs hn _ (h.ext hE)).mono ?_
      rintro e w7 ⟨g5, rfl, ho3, hb⟩
      replace hE := hE.trans hb
      replace ho1 := own_ext hb ho1
      replace ho2 := own_ext hb ho2
      go_wp2_with fail
      refine (eqRayS_same _ _ _ _ _ xs (by omega) _ (own_reads ho1) (own_reads ho3)).mono ?_
      rintro e w8 ⟨rfl, hb⟩
      replace hE := hE.trans hb
      replace ho2 := own_ext hb ho2
      clear ho1 ho3
      go_wp2_with fail
      refine (toRayS_any _ _ _ ys (by omega) _ (h'.ext hE)).mono ?_
      rintro e w9 ⟨g6, rfl, ho3, hb⟩
      replace hE := hE.trans hb
      replace ho2 := own_ext hb ho2
      go_wp2_with fail
      refine (eqRayS_same _ _ _ _ _ ys (by omega) _ (own_reads ho2) (own_reads ho3)).mono ?_
      rintro e w10 ⟨rfl, hb⟩
      replace hE := hE.trans hb
      go_wp2
      go_ret
      exact ⟨rfl, hE⟩

end Go.Proofs.Ytlkhjedlokklaaa
