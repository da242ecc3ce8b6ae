/-
  MeetCount.
-/
import Derived.Test.YtlkhjedlokklaaaMSum
namespace Go.Proofs.Ytlkhjedlokklaaa
open Go.RowKit

theorem mtStar_any (a : Option Addr) (n c : Nat) (zs : List (Int × Int × Int)) (hn : n ≤ 1073741824) (w : World) (h : Reads w a 3 n (tv zs)) :
    Calls Try.prog 78 #[.slice a n c] w fun r w' => r = .returned (.bool (starB zs && balB zs)) ∧ Ext w w' := by
  rcases small_of (zs := zs) with hb | ⟨hb, hs⟩
  · go_enter Try.func78, Try.ntmps78
    go_wp2_with fail
    refine (stGood_any _ _ _ zs hn _ h).mono ?_
    rw [hb]
    rintro e w1 ⟨rfl, hb1⟩
    go_wp2
    go_ret
    exact ⟨ret_bool (by rw [hb]; rfl), hb1⟩
  · go_enter Try.func78, Try.ntmps78
    go_wp2_with fail
    refine (stGood_any _ _ _ zs hn _ h).mono ?_
    rw [hb]
    rintro e w1 ⟨rfl, hb1⟩
    go_wp2_with fail
    refine (stBalanced_any _ _ _ zs hs _ (h.ext hb1)).mono ?_
    rintro e w2 ⟨rfl, hb2⟩
    go_wp2
    go_ret
    exact ⟨ret_bool (by rw [hb]; rfl), hb1.trans hb2⟩

theorem isBalancedW_any (a : Option Addr) (n c : Nat) (zs : List (Int × Int × Int)) (hn : n ≤ 1073741824) (w : World) (h : Reads w a 3 n (tv zs)) :
    Calls Try.prog 59 #[.slice a n c] w fun r w' => r = .returned (.bool (starB zs && balB zs)) ∧ Ext w w' := by
  rcases small_of (zs := zs) with hb | ⟨hb, hs⟩
  · go_enter Try.func59, Try.ntmps59
    go_wp2_with fail
    refine (isStar_any _ _ _ zs hn _ h).mono ?_
    rw [hb]
    rintro e w1 ⟨rfl, hb1⟩
    go_wp2
    go_ret
    exact ⟨ret_bool (by rw [hb]; rfl), hb1⟩
  · refine (isBalanced_any _ _ _ zs hb hs _ h).mono ?_
    rintro e w2 ⟨rfl, hb2⟩
    exact ⟨ret_bool (by rw [hb]; rfl), hb2⟩

theorem mtCount_any (a b : Option Addr) (n m c d : Nat) (xs ys : List (Int × Int × Int)) (hsx : Small xs) (hsy : Small ys) (w : World) (h : Reads w a 3 n (tv xs)) (h' : Reads w b 3 m (tv ys)) :
    Calls Try.prog 79 #[.slice a n c, .slice b m d] w fun r w' => r = .returned (.int .i64 (psum xs ys (allP xs ys 1000 1 n) (allP xs ys 1000 1 n).length)) ∧ Ext w w' := by
  go_enter Try.func79, Try.ntmps79
  go_wp2_with fail
  refine (mtSum_any _ _ _ _ _ _ xs ys 1000 1 hsx hsy (by omega) (by omega) _ h h').mono ?_
  rintro e w1 ⟨rfl, hb1⟩
  go_wp2
  go_ret
  exact ⟨rfl, hb1⟩

theorem meetCount_any (a b : Option Addr) (n m c d : Nat) (xs ys : List (Int × Int × Int)) (hsx : Small xs) (hsy : Small ys) (w : World) (h : Reads w a 3 n (tv xs)) (h' : Reads w b 3 m (tv ys)) :
    Calls Try.prog 80 #[.slice a n c, .slice b m d] w fun r w' => r = .returned (.int .i64 (psum xs ys (allP xs ys 1000 1 n) (allP xs ys 1000 1 n).length)) ∧ Ext w w' := by
  have hl : xs.length = n := by have := h.1; rw [tv_len] at this; omega
  have hP := allP_places hsx hsy 1000 1
  go_enter Try.func80, Try.ntmps80
  go_wp2_with fail
  refine (meetingPairs_any _ _ _ _ _ _ xs ys 1000 1 hsx hsy (by omega) (by omega) _ h h').mono ?_
  rintro e w1 ⟨a1, c1, rfl, hown, hb1⟩
  go_wp2_with fail
  refine (meetSum_any _ _ _ _ _ _ xs ys _ _ _ _ (by rw [← hl]; exact hP) hsx hsy _ (h.ext hb1) (h'.ext hb1) hown).mono ?_
  rintro e w2 ⟨rfl, hb2⟩
  go_wp2
  go_ret
  exact ⟨rfl, hb1.trans hb2⟩

theorem spec_MeetCount_any (a b : Option Addr) (n m c d : Nat) (xs ys : List (Int × Int × Int)) (hn : n ≤ 1073741824) (hm : m ≤ 1073741824) (w : World) (h : Reads w a 3 n (tv xs)) (h' : Reads w b 3 m (tv ys)) :
    Calls Try.prog 35 #[.slice a n c, .slice b m d] w fun r w' => r = .returned (.tuple #[.int .i64 (gI ((starB xs && balB xs) && (starB ys && balB ys)) (psum xs ys (allP xs ys 1000 1 n) (allP xs ys 1000 1 n).length)), .bool ((starB xs && balB xs) && (starB ys && balB ys))]) ∧ Ext w w' := by
  cases hA : (starB xs && balB xs)
  · go_enter Try.func35, Try.ntmps35
    go_wp2_with fail
    refine (mtStar_any _ _ _ xs hn _ h).mono ?_
    rw [hA]
    rintro e w1 ⟨rfl, hb1⟩
    go_wp2
    go_ret2
    exact ⟨rfl, hb1⟩
  · cases hB : (starB ys && balB ys)
    · go_enter Try.func35, Try.ntmps35
      go_wp2_with fail
      refine (mtStar_any _ _ _ xs hn _ h).mono ?_
      rw [hA]
      rintro e w1 ⟨rfl, hb1⟩
      go_wp2_with fail
      refine (mtStar_any _ _ _ ys hm _ (h'.ext hb1)).mono ?_
      rw [hB]
      rintro e w2 ⟨rfl, hb2⟩
      go_wp2
      go_ret2
      exact ⟨rfl, hb1.trans hb2⟩
    · have hsx : Small xs := by
        rcases small_of (zs := xs) with hz | ⟨_, hz⟩
        · rw [hz] at hA; cases hA
        · exact hz
      have hsy : Small ys := by
        rcases small_of (zs := ys) with hz | ⟨_, hz⟩
        · rw [hz] at hB; cases hB
        · exact hz
      go_enter Try.func35, Try.ntmps35
      go_wp2_with fail
      refine (mtStar_any _ _ _ xs hn _ h).mono ?_
      rw [hA]
      rintro e w1 ⟨rfl, hb1⟩
      go_wp2_with fail
      refine (mtStar_any _ _ _ ys hm _ (h'.ext hb1)).mono ?_
      rw [hB]
      rintro e w2 ⟨rfl, hb2⟩
      go_wp2_with fail
      refine (mtCount_any _ _ _ _ _ _ xs ys hsx hsy _ ((h.ext hb1).ext hb2) ((h'.ext hb1).ext hb2)).mono ?_
      rintro e w3 ⟨rfl, hb3⟩
      go_wp2
      go_ret2
      exact ⟨rfl, (hb1.trans hb2).trans hb3⟩

theorem impl_MeetCount_any (a b : Option Addr) (n m c d : Nat) (xs ys : List (Int × Int × Int)) (hn : n ≤ 1073741824) (hm : m ≤ 1073741824) (w : World) (h : Reads w a 3 n (tv xs)) (h' : Reads w b 3 m (tv ys)) :
    Calls Try.prog 36 #[.slice a n c, .slice b m d] w fun r w' => r = .returned (.tuple #[.int .i64 (gI ((starB xs && balB xs) && (starB ys && balB ys)) (psum xs ys (allP xs ys 1000 1 n) (allP xs ys 1000 1 n).length)), .bool ((starB xs && balB xs) && (starB ys && balB ys))]) ∧ Ext w w' := by
  cases hA : (starB xs && balB xs)
  · go_enter Try.func36, Try.ntmps36
    go_wp2_with fail
    refine (isBalancedW_any _ _ _ xs hn _ h).mono ?_
    rw [hA]
    rintro e w1 ⟨rfl, hb1⟩
    go_wp2
    go_ret2
    exact ⟨rfl, hb1⟩
  · cases hB : (starB ys && balB ys)
    · go_enter Try.func36, Try.ntmps36
      go_wp2_with fail
      refine (isBalancedW_any _ _ _ xs hn _ h).mono ?_
      rw [hA]
      rintro e w1 ⟨rfl, hb1⟩
      go_wp2_with fail
      refine (isBalancedW_any _ _ _ ys hm _ (h'.ext hb1)).mono ?_
      rw [hB]
      rintro e w2 ⟨rfl, hb2⟩
      go_wp2
      go_ret2
      exact ⟨rfl, hb1.trans hb2⟩
    · have hsx : Small xs := by
        rcases small_of (zs := xs) with hz | ⟨_, hz⟩
        · rw [hz] at hA; cases hA
        · exact hz
      have hsy : Small ys := by
        rcases small_of (zs := ys) with hz | ⟨_, hz⟩
        · rw [hz] at hB; cases hB
        · exact hz
      go_enter Try.func36, Try.ntmps36
      go_wp2_with fail
      refine (isBalancedW_any _ _ _ xs hn _ h).mono ?_
      rw [hA]
      rintro e w1 ⟨rfl, hb1⟩
      go_wp2_with fail
      refine (isBalancedW_any _ _ _ ys hm _ (h'.ext hb1)).mono ?_
      rw [hB]
      rintro e w2 ⟨rfl, hb2⟩
      go_wp2_with fail
      refine (meetCount_any _ _ _ _ _ _ xs ys hsx hsy _ ((h.ext hb1).ext hb2) ((h'.ext hb1).ext hb2)).mono ?_
      rintro e w3 ⟨rfl, hb3⟩
      go_wp2
      go_ret2
      exact ⟨rfl, (hb1.trans hb2).trans hb3⟩

set_option maxHeartbeats 1000000 in
theorem law_MeetCount (a : Option Addr) (n c : Nat) (xs : List (Int × Int × Int)) (b : Option Addr) (m d : Nat) (ys : List (Int × Int × Int)) (w : World) (hr : IsTri w a n c xs) (hr' : IsTri w b m d ys) :
    Calls Try.prog 10 #[.slice a n c, .slice b m d] w fun r w' => r = .returned (.bool true) ∧ Ext w w' := by
  have h := hr.1
  have h' := hr'.1
  have hc1 := hr.2.1
  have hc2 := hr.2.2.1
  have hd1 := hr'.2.1
  have hd2 := hr'.2.2.1
  unfold maxLen at hc2 hd2
  clear hr hr'
  by_cases hn : n ≤ 1048576
  rotate_left
  · go_enter Try.func10, Try.ntmps10
    go_wp2_with fail
    refine (szRayS_no _ _ _ _ (by omega) (by omega) (by omega) (by omega) _).mono ?_
    rintro e _ ⟨rfl, rfl⟩
    go_wp2
    go_ret
    exact ⟨rfl, Ext.refl _⟩
  · by_cases hm : (m : Int) ≤ 1048576 - n
    rotate_left
    · go_enter Try.func10, Try.ntmps10
      go_wp2_with fail
      refine (szRayS_yes _ _ _ _ (by omega) (by omega) _).mono ?_
      rintro e _ ⟨rfl, rfl⟩
      go_wp2_with fail
      refine (szRayS_no _ _ _ (1048576 - (n : Int)) (by omega) (by omega) (by omega) (by omega) _).mono ?_
      rintro e _ ⟨rfl, rfl⟩
      go_wp2
      go_ret
      exact ⟨rfl, Ext.refl _⟩
    · go_enter Try.func10, Try.ntmps10
      go_wp2_with fail
      refine (szRayS_yes _ _ _ _ (by omega) (by omega) _).mono ?_
      rintro e _ ⟨rfl, rfl⟩
      go_wp2_with fail
      refine (szRayS_yes _ _ _ (1048576 - (n : Int)) (by omega) (by omega) _).mono ?_
      rintro e _ ⟨rfl, rfl⟩
      go_wp2_with fail
      refine (toRayS_any _ _ _ xs hn _ h).mono ?_
      rintro e w1 ⟨g1, rfl, ho1, hE⟩
      go_wp2_with fail
      refine (toRayS_any _ _ _ ys (by omega) _ (h'.ext hE)).mono ?_
      rintro e w2 ⟨g2, rfl, ho2, hb⟩
      replace hE := hE.trans hb
      replace ho1 := own_ext hb ho1
      go_wp2_with fail
      refine (spec_MeetCount_any _ _ _ _ _ _ xs ys (by omega) (by omega) _ (own_reads ho1) (own_reads ho2)).mono ?_
      rintro e w3 ⟨rfl, hb⟩
      replace hE := hE.trans hb
      clear ho1 ho2
      go_wp2_with fail
      refine (toRayS_any _ _ _ xs hn _ (h.ext hE)).mono ?_
      rintro e w4 ⟨g3, rfl, ho1, hb⟩
      replace hE := hE.trans hb
      go_wp2_with fail
      refine (toRayS_any _ _ _ ys (by omega) _ (h'.ext hE)).mono ?_
      rintro e w5 ⟨g4, rfl, ho2, hb⟩
      replace hE := hE.trans hb
      replace ho1 := own_ext hb ho1
      go_wp2_with fail
      refine (impl_MeetCount_any _ _ _ _ _ _ xs ys (by omega) (by omega) _ (own_reads ho1) (own_reads ho2)).mono ?_
      rintro e w6 ⟨rfl, hb⟩
      replace hE := hE.trans hb
      replace ho1 := own_ext hb ho1
      replace ho2 := own_ext hb ho2
      go_wp2_with fail
      refine (toRayS_any _ _ _ xs hn _ (h.ext hE)).mono ?_
      rintro e w7 ⟨g5, rfl, ho3, hb⟩
      replace hE := hE.trans hb
      replace ho1 := own_ext hb ho1
      replace ho2 := own_ext hb ho2
      go_wp2_with fail
      refine (eqRayS_same _ _ _ _ _ xs (by omega) _ (own_reads ho1) (own_reads ho3)).mono ?_
      rintro e w8 ⟨rfl, hb⟩
      replace hE := hE.trans hb
      replace ho2 := own_ext hb ho2
      clear ho1 ho3
      go_wp2_with fail
      refine (toRayS_any _ _ _ ys (by omega) _ (h'.ext hE)).mono ?_
      rintro e w9 ⟨g6, rfl, ho3, hb⟩
      replace hE := hE.trans hb
      replace ho2 := own_ext hb ho2
      go_wp2_with fail
      refine (eqRayS_same _ _ _ _ _ ys (by omega) _ (own_reads ho2) (own_reads ho3)).mono ?_
      rintro e w10 ⟨rfl, hb⟩
      replace hE := hE.trans hb
      go_wp2
      go_ret
      exact ⟨rfl, hE⟩

end Go.Proofs.Ytlkhjedlokklaaa
