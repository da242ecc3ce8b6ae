/-
  StarSum, IsBalanced, SupportOf.
-/
import Derived.Test.YtlkhjedlokklaaaSum
namespace Go.Proofs.Ytlkhjedlokklaaa
open Go.RowKit

theorem small_of {zs : List (Int × Int × Int)} : starB zs = false ∨ (starB zs = true ∧ Small zs) := by
  rcases starB_cases zs with h | ⟨h, h1, h2⟩
  · exact .inl h
  · exact .inr ⟨h, h1, h2⟩
/-- A star whose sum is zero. -/
def balB (zs : List (Int × Int × Int)) : Bool := (sX zs zs.length == 0) && (sY zs zs.length == 0)

theorem spec_StarSum_any (a : Option Addr) (n c : Nat) (zs : List (Int × Int × Int)) (hn : n ≤ 1073741824) (w : World) (h : Reads w a 3 n (tv zs)) :
    Calls Try.prog 20 #[.slice a n c] w fun r w' => r = .returned (.tuple #[.int .i64 (gI (starB zs) (sX zs zs.length)), .int .i64 (gI (starB zs) (sY zs zs.length)), .bool (starB zs)]) ∧ Ext w w' := by
  have hl : zs.length = n := by have := h.1; rw [tv_len] at this; omega
  rcases small_of (zs := zs) with hb | ⟨hb, hs⟩
  · go_enter Try.func20, Try.ntmps20
    go_wp2_with fail
    refine (stGood_any _ _ _ zs hn _ h).mono ?_
    rw [hb]
    rintro e w1 ⟨rfl, hb1⟩
    go_wp2
    go_ret3
    exact ⟨by simp [gI, hb], hb1⟩
  · go_enter Try.func20, Try.ntmps20
    go_wp2_with fail
    refine (stGood_any _ _ _ zs hn _ h).mono ?_
    rw [hb]
    rintro e w1 ⟨rfl, hb1⟩
    go_wp2_with fail
    refine (stSum_any _ _ _ zs hs _ (h.ext hb1)).mono ?_
    rintro e w2 ⟨rfl, hb2⟩
    go_wp2
    go_ret3
    exact ⟨by simp [gI, hl, hb], hb1.trans hb2⟩

theorem impl_StarSum_any (a : Option Addr) (n c : Nat) (zs : List (Int × Int × Int)) (hn : n ≤ 1073741824) (w : World) (h : Reads w a 3 n (tv zs)) :
    Calls Try.prog 21 #[.slice a n c] w fun r w' => r = .returned (.tuple #[.int .i64 (gI (starB zs) (sX zs zs.length)), .int .i64 (gI (starB zs) (sY zs zs.length)), .bool (starB zs)]) ∧ Ext w w' := by
  have hl : zs.length = n := by have := h.1; rw [tv_len] at this; omega
  rcases small_of (zs := zs) with hb | ⟨hb, hs⟩
  · go_enter Try.func21, Try.ntmps21
    go_wp2_with fail
    refine (isStar_any _ _ _ zs hn _ h).mono ?_
    rw [hb]
    rintro e w1 ⟨rfl, hb1⟩
    go_wp2
    go_ret3
    exact ⟨by simp [gI, hb], hb1⟩
  · go_enter Try.func21, Try.ntmps21
    go_wp2_with fail
    refine (isStar_any _ _ _ zs hn _ h).mono ?_
    rw [hb]
    rintro e w1 ⟨rfl, hb1⟩
    go_wp2_with fail
    refine (starSum_any _ _ _ zs hs _ (h.ext hb1)).mono ?_
    rintro e w2 ⟨rfl, hb2⟩
    have HV := Lib.hid (show Ending.returned (.tuple #[.int .i64 (sX zs n), .int .i64 (sY zs n), .bool true]) = .returned (.tuple #[.int .i64 (gI (starB zs) (sX zs zs.length)), .int .i64 (gI (starB zs) (sY zs zs.length)), .bool (starB zs)]) by simp [gI, hl, hb])
    generalize sX zs n = x at *
    generalize sY zs n = y at *
    clear h hl hs
    have hE : Ext w2 w2 := Ext.refl _
    have hE : Ext w2 w2 := Ext.refl _
    have hT : Ext w2 (w2.alloc (.cells #[.int .i64 x, .int .i64 y] 73)) := Ext.alloc hE _
    have HP := Has.new w2 #[.int .i64 x, .int .i64 y] 73
    have Pc0 := Ext.keeps (HP 0 _ rfl)
    have Pc1 := Ext.keeps (HP 1 _ rfl)
    clear HP
    replace hE : Ext (w2.alloc (.cells #[.int .i64 x, .int .i64 y] 73)) (w2.alloc (.cells #[.int .i64 x, .int .i64 y] 73)) := Ext.refl _
    go_wp2
    have qP0 := fun s : Past (w2.alloc (.cells #[.int .i64 x, .int .i64 y] 73)) => Pc0 s.w s.ext
    have qP1 := fun s : Past (w2.alloc (.cells #[.int .i64 x, .int .i64 y] 73)) => Pc1 s.w s.ext
    refine wp_region_past (w2.alloc (.cells #[.int .i64 x, .int .i64 y] 73)) (by first | exact hE | exact Ext.alloc hE _ | exact Ext.drew hE | exact Ext.drewN hE _) (by kernel_rfl) (by kernel_rfl) ?_
    repeat (go_big_quiet_step ((fail)))
    refine wpQuiet_nil ?_
    intro _ hw'
    obtain ⟨⟨w3, hE⟩, hw''⟩ := hw'
    subst hw''
    clear qP0 qP1
    go_wp2
    go_ret3
    exact ⟨HV.out, (hb1.trans hb2).trans ((Ext.alloc (Ext.refl _) _).trans hE)⟩

theorem stBalanced_any (a : Option Addr) (n c : Nat) (zs : List (Int × Int × Int)) (hs : Small zs) (w : World) (h : Reads w a 3 n (tv zs)) :
    Calls Try.prog 58 #[.slice a n c] w fun r w' => r = .returned (.bool (balB zs)) ∧ Ext w w' := by
  have hl : zs.length = n := by have := h.1; rw [tv_len] at this; omega
  have HB := Lib.hid (show balB zs = ((sX zs n == 0) && (sY zs n == 0)) by rw [← hl]; rfl)
  go_enter Try.func58, Try.ntmps58
  go_wp2_with fail
  refine (stSum_any _ _ _ zs hs _ h).mono ?_
  rintro e w1 ⟨rfl, hb1⟩
  go_wp2
  all_goals go_ret
  all_goals exact ⟨ret_bool (by rw [HB.out]; simp [*]), hb1⟩

theorem isBalanced_any (a : Option Addr) (n c : Nat) (zs : List (Int × Int × Int)) (hb : starB zs = true) (hs : Small zs) (w : World) (h : Reads w a 3 n (tv zs)) :
    Calls Try.prog 59 #[.slice a n c] w fun r w' => r = .returned (.bool (balB zs)) ∧ Ext w w' := by
  have hl : zs.length = n := by have := h.1; rw [tv_len] at this; omega
  have HB := Lib.hid (show balB zs = ((sX zs n == 0) && (sY zs n == 0)) by rw [← hl]; rfl)
  have hn := hs.1
  go_enter Try.func59, Try.ntmps59
  go_wp2_with fail
  refine (isStar_any _ _ _ zs (by omega) _ h).mono ?_
  rw [hb]
  rintro e w1 ⟨rfl, hb1⟩
  go_wp2_with fail
  refine (starSum_any _ _ _ zs hs _ (h.ext hb1)).mono ?_
  rintro e w2 ⟨rfl, hb2⟩
  go_wp2
  all_goals go_ret
  all_goals exact ⟨ret_bool (by rw [HB.out]; simp [*]), hb1.trans hb2⟩

theorem spec_IsBalanced_any (a : Option Addr) (n c : Nat) (zs : List (Int × Int × Int)) (hn : n ≤ 1073741824) (w : World) (h : Reads w a 3 n (tv zs)) :
    Calls Try.prog 22 #[.slice a n c] w fun r w' => r = .returned (.tuple #[.bool (starB zs && balB zs), .bool (starB zs)]) ∧ Ext w w' := by
  have hl : zs.length = n := by have := h.1; rw [tv_len] at this; omega
  rcases small_of (zs := zs) with hb | ⟨hb, hs⟩
  · go_enter Try.func22, Try.ntmps22
    go_wp2_with fail
    refine (stGood_any _ _ _ zs hn _ h).mono ?_
    rw [hb]
    rintro e w1 ⟨rfl, hb1⟩
    go_wp2
    go_ret2
    exact ⟨by simp [hb], hb1⟩
  · go_enter Try.func22, Try.ntmps22
    go_wp2_with fail
    refine (stGood_any _ _ _ zs hn _ h).mono ?_
    rw [hb]
    rintro e w1 ⟨rfl, hb1⟩
    go_wp2_with fail
    refine (stBalanced_any _ _ _ zs hs _ (h.ext hb1)).mono ?_
    rintro e w2 ⟨rfl, hb2⟩
    go_wp2
    go_ret2
    exact ⟨by simp [hb], hb1.trans hb2⟩

theorem impl_IsBalanced_any (a : Option Addr) (n c : Nat) (zs : List (Int × Int × Int)) (hn : n ≤ 1073741824) (w : World) (h : Reads w a 3 n (tv zs)) :
    Calls Try.prog 23 #[.slice a n c] w fun r w' => r = .returned (.tuple #[.bool (starB zs && balB zs), .bool (starB zs)]) ∧ Ext w w' := by
  have hl : zs.length = n := by have := h.1; rw [tv_len] at this; omega
  rcases small_of (zs := zs) with hb | ⟨hb, hs⟩
  · go_enter Try.func23, Try.ntmps23
    go_wp2_with fail
    refine (isStar_any _ _ _ zs hn _ h).mono ?_
    rw [hb]
    rintro e w1 ⟨rfl, hb1⟩
    go_wp2
    go_ret2
    exact ⟨by simp [hb], hb1⟩
  · go_enter Try.func23, Try.ntmps23
    go_wp2_with fail
    refine (isStar_any _ _ _ zs hn _ h).mono ?_
    rw [hb]
    rintro e w1 ⟨rfl, hb1⟩
    go_wp2_with fail
    refine (isBalanced_any _ _ _ zs hb hs _ (h.ext hb1)).mono ?_
    rintro e w2 ⟨rfl, hb2⟩
    go_wp2
    go_ret2
    exact ⟨by simp [hb], hb1.trans hb2⟩

theorem law_StarSum (a : Option Addr) (n c : Nat) (zs : List (Int × Int × Int)) (w : World) (hr : IsTri w a n c zs) :
    Calls Try.prog 4 #[.slice a n c] w fun r w' => r = .returned (.bool true) ∧ Ext w w' := by
  have h := hr.1
  have hc1 := hr.2.1
  have hc2 := hr.2.2.1
  unfold maxLen at hc2
  clear hr
  by_cases hn : n ≤ 1048576
  · go_enter Try.func4, Try.ntmps4
    go_wp2_with fail
    refine (szRayS_yes _ _ _ _ (by omega) (by omega) _).mono ?_
    rintro e _ ⟨rfl, rfl⟩
    go_wp2_with fail
    refine (toRayS_any _ _ _ zs hn _ h).mono ?_
    rintro e w1 ⟨g1, rfl, ho1, hb1⟩
    go_wp2_with fail
    refine (spec_StarSum_any _ _ _ zs (by omega) _ (own_reads ho1)).mono ?_
    rintro e w2 ⟨rfl, hb2⟩
    have h2 := Reads.ext hb2 (Reads.ext hb1 h)
    go_wp2_with fail
    refine (toRayS_any _ _ _ zs hn _ h2).mono ?_
    rintro e w3 ⟨g2, rfl, ho2, hb3⟩
    go_wp2_with fail
    refine (impl_StarSum_any _ _ _ zs (by omega) _ (own_reads ho2)).mono ?_
    rintro e w4 ⟨rfl, hb4⟩
    have h4 := Reads.ext hb4 (Reads.ext hb3 h2)
    go_wp2_with fail
    refine (toRayS_any _ _ _ zs hn _ h4).mono ?_
    rintro e w5 ⟨g3, rfl, ho3, hb5⟩
    go_wp2_with fail
    refine (eqRayS_same _ _ _ _ _ zs (by omega) _ (Reads.ext hb5 (Reads.ext hb4 (own_reads ho2))) (own_reads ho3)).mono ?_
    rintro e w6 ⟨rfl, hb6⟩
    go_wp2
    go_ret
    exact ⟨rfl, ((((hb1.trans hb2).trans hb3).trans hb4).trans hb5).trans hb6⟩
  · go_enter Try.func4, Try.ntmps4
    go_wp2_with fail
    refine (szRayS_no _ _ _ _ (by omega) (by omega) (by omega) (by omega) _).mono ?_
    rintro e _ ⟨rfl, rfl⟩
    go_wp2
    go_ret
    exact ⟨rfl, Ext.refl _⟩

theorem law_IsBalanced (a : Option Addr) (n c : Nat) (zs : List (Int × Int × Int)) (w : World) (hr : IsTri w a n c zs) :
    Calls Try.prog 5 #[.slice a n c] w fun r w' => r = .returned (.bool true) ∧ Ext w w' := by
  have h := hr.1
  have hc1 := hr.2.1
  have hc2 := hr.2.2.1
  unfold maxLen at hc2
  clear hr
  by_cases hn : n ≤ 1048576
  · go_enter Try.func5, Try.ntmps5
    go_wp2_with fail
    refine (szRayS_yes _ _ _ _ (by omega) (by omega) _).mono ?_
    rintro e _ ⟨rfl, rfl⟩
    go_wp2_with fail
    refine (toRayS_any _ _ _ zs hn _ h).mono ?_
    rintro e w1 ⟨g1, rfl, ho1, hb1⟩
    go_wp2_with fail
    refine (spec_IsBalanced_any _ _ _ zs (by omega) _ (own_reads ho1)).mono ?_
    rintro e w2 ⟨rfl, hb2⟩
    have h2 := Reads.ext hb2 (Reads.ext hb1 h)
    go_wp2_with fail
    refine (toRayS_any _ _ _ zs hn _ h2).mono ?_
    rintro e w3 ⟨g2, rfl, ho2, hb3⟩
    go_wp2_with fail
    refine (impl_IsBalanced_any _ _ _ zs (by omega) _ (own_reads ho2)).mono ?_
    rintro e w4 ⟨rfl, hb4⟩
    have h4 := Reads.ext hb4 (Reads.ext hb3 h2)
    go_wp2_with fail
    refine (toRayS_any _ _ _ zs hn _ h4).mono ?_
    rintro e w5 ⟨g3, rfl, ho3, hb5⟩
    go_wp2_with fail
    refine (eqRayS_same _ _ _ _ _ zs (by omega) _ (Reads.ext hb5 (Reads.ext hb4 (own_reads ho2))) (own_reads ho3)).mono ?_
    rintro e w6 ⟨rfl, hb6⟩
    go_wp2
    go_ret
    exact ⟨rfl, ((((hb1.trans hb2).trans hb3).trans hb4).trans hb5).trans hb6⟩
  · go_enter Try.func5, Try.ntmps5
    go_wp2_with fail
    refine (szRayS_no _ _ _ _ (by omega) (by omega) (by omega) (by omega) _).mono ?_
    rintro e _ ⟨rfl, rfl⟩
    go_wp2
    go_ret
    exact ⟨rfl, Ext.refl _⟩

end Go.Proofs.Ytlkhjedlokklaaa
