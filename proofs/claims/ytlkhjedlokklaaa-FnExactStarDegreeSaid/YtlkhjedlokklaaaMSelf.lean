/-
  SelfCount and StarDegree.
-/
import Derived.Test.YtlkhjedlokklaaaMCount
namespace Go.Proofs.Ytlkhjedlokklaaa
open Go.RowKit

theorem spec_SelfCount_any (a : Option Addr) (n c : Nat) (zs : List (Int × Int × Int)) (hn : n ≤ 1073741824) (w : World) (h : Reads w a 3 n (tv zs)) :
    Calls Try.prog 37 #[.slice a n c] w fun r w' => r = .returned (.tuple #[.int .i64 (gI (starB zs && balB zs) (psum zs zs (allP zs zs 1000 1 n) (allP zs zs 1000 1 n).length)), .bool (starB zs && balB zs)]) ∧ Ext w w' := by
  cases hA : (starB zs && balB zs)
  · go_enter Try.func37, Try.ntmps37
    go_wp2_with fail
    refine (mtStar_any _ _ _ zs hn _ h).mono ?_
    rw [hA]
    rintro e w1 ⟨rfl, hb1⟩
    go_wp2
    go_ret2
    exact ⟨rfl, hb1⟩
  · have hs : Small zs := by
      rcases small_of (zs := zs) with hz | ⟨_, hz⟩
      · rw [hz] at hA; cases hA
      · exact hz
    go_enter Try.func37, Try.ntmps37
    go_wp2_with fail
    refine (mtStar_any _ _ _ zs hn _ h).mono ?_
    rw [hA]
    rintro e w1 ⟨rfl, hb1⟩
    go_wp2_with fail
    refine (mtCount_any _ _ _ _ _ _ zs zs hs hs _ (h.ext hb1) (h.ext hb1)).mono ?_
    rintro e w2 ⟨rfl, hb2⟩
    go_wp2
    go_ret2
    exact ⟨rfl, hb1.trans hb2⟩

theorem impl_SelfCount_any (a : Option Addr) (n c : Nat) (zs : List (Int × Int × Int)) (hn : n ≤ 1073741824) (w : World) (h : Reads w a 3 n (tv zs)) :
    Calls Try.prog 38 #[.slice a n c] w fun r w' => r = .returned (.tuple #[.int .i64 (gI (starB zs && balB zs) (psum zs zs (allP zs zs 1000 1 n) (allP zs zs 1000 1 n).length)), .bool (starB zs && balB zs)]) ∧ Ext w w' := by
  have HM := Lib.hid (impl_MeetCount_any a a n n c c zs zs hn hn w h h)
  rw [Bool.and_self] at HM
  go_enter Try.func38, Try.ntmps38
  go_wp2_with fail
  refine HM.out.mono ?_
  rintro e w1 ⟨rfl, hb1⟩
  go_wp2
  go_ret2
  exact ⟨rfl, hb1⟩

theorem law_SelfCount (a : Option Addr) (n c : Nat) (zs : List (Int × Int × Int)) (w : World) (hr : IsTri w a n c zs) :
    Calls Try.prog 11 #[.slice a n c] w fun r w' => r = .returned (.bool true) ∧ Ext w w' := by
  have h := hr.1
  have hc1 := hr.2.1
  have hc2 := hr.2.2.1
  unfold maxLen at hc2
  clear hr
  by_cases hn : n ≤ 1048576
  · go_enter Try.func11, Try.ntmps11
    go_wp2_with fail
    refine (szRayS_yes _ _ _ _ (by omega) (by omega) _).mono ?_
    rintro e _ ⟨rfl, rfl⟩
    go_wp2_with fail
    refine (toRayS_any _ _ _ zs hn _ h).mono ?_
    rintro e w1 ⟨g1, rfl, ho1, hb1⟩
    go_wp2_with fail
    refine (spec_SelfCount_any _ _ _ zs (by omega) _ (own_reads ho1)).mono ?_
    rintro e w2 ⟨rfl, hb2⟩
    have h2 := Reads.ext hb2 (Reads.ext hb1 h)
    go_wp2_with fail
    refine (toRayS_any _ _ _ zs hn _ h2).mono ?_
    rintro e w3 ⟨g2, rfl, ho2, hb3⟩
    go_wp2_with fail
    refine (impl_SelfCount_any _ _ _ zs (by omega) _ (own_reads ho2)).mono ?_
    rintro e w4 ⟨rfl, hb4⟩
    have h4 := Reads.ext hb4 (Reads.ext hb3 h2)
    go_wp2_with fail
    refine (toRayS_any _ _ _ zs hn _ h4).mono ?_
    rintro e w5 ⟨g3, rfl, ho3, hb5⟩
    go_wp2_with fail
    refine (eqRayS_same _ _ _ _ _ zs (by omega) _ (Reads.ext hb5 (Reads.ext hb4 (own_reads ho2))) (own_reads ho3)).mono ?_
    rintro e w6 ⟨rfl, hb6⟩
    go_wp2
    go_ret
    exact ⟨rfl, ((((hb1.trans hb2).trans hb3).trans hb4).trans hb5).trans hb6⟩
  · go_enter Try.func11, Try.ntmps11
    go_wp2_with fail
    refine (szRayS_no _ _ _ _ (by omega) (by omega) (by omega) (by omega) _).mono ?_
    rintro e _ ⟨rfl, rfl⟩
    go_wp2
    go_ret
    exact ⟨rfl, Ext.refl _⟩

def T3 : List (Int × Int × Int) := [(-1, -1, 1), (0, 1, 1), (1, 0, 1)]
theorem t3_ok : (starB T3 && balB T3) = true := by decide +kernel
theorem t3_small : Small T3 := by
  rcases small_of (zs := T3) with hz | ⟨_, hz⟩
  · have := t3_ok
    rw [hz] at this
    cases this
  · exact hz
theorem t3_reads (w : World) (t : TypeId) : Reads (w.alloc (.cells #[.int .i64 (-1), .int .i64 (-1), .int .i64 1, .int .i64 0, .int .i64 1, .int .i64 1, .int .i64 1, .int .i64 0, .int .i64 1] t)) (some ⟨w.heap.size, 0, none⟩) 3 3 (tv T3) :=
  ⟨rfl, fun _ => ⟨w.heap.size, 0, rfl, fun j u hu => by rw [Nat.zero_add, World.cell?_alloc_new]; simpa [tv, T3] using hu⟩⟩

theorem lineStar_any (w : World) : Calls Try.prog 82 #[] w fun r w' => ∃ g, r = .returned (.slice (some ⟨g, 0, none⟩) 3 3) ∧ Reads w' (some ⟨g, 0, none⟩) 3 3 (tv T3) ∧ Ext w w' := by
  go_enter Try.func82, Try.ntmps82
  go_wp2
  go_ret
  exact ⟨_, rfl, t3_reads w _, (Ext.refl _).alloc _⟩

theorem mtDegree_any (a : Option Addr) (n c : Nat) (zs : List (Int × Int × Int)) (hs : Small zs) (w : World) (h : Reads w a 3 n (tv zs)) :
    Calls Try.prog 81 #[.slice a n c] w fun r w' => r = .returned (.int .i64 (psum zs T3 (allP zs T3 1000 1 n) (allP zs T3 1000 1 n).length)) ∧ Ext w w' := by
  go_enter Try.func81, Try.ntmps81
  go_wp2_with fail
  refine (mtCount_any _ _ _ _ _ _ zs T3 hs t3_small _ (h.alloc _) (t3_reads w _)).mono ?_
  rintro e w2 ⟨rfl, hb2⟩
  go_wp2
  go_ret
  exact ⟨rfl, ((Ext.refl _).alloc _).trans hb2⟩

theorem spec_StarDegree_any (a : Option Addr) (n c : Nat) (zs : List (Int × Int × Int)) (hn : n ≤ 1073741824) (w : World) (h : Reads w a 3 n (tv zs)) :
    Calls Try.prog 39 #[.slice a n c] w fun r w' => r = .returned (.tuple #[.int .i64 (gI (starB zs && balB zs) (psum zs T3 (allP zs T3 1000 1 n) (allP zs T3 1000 1 n).length)), .bool (starB zs && balB zs)]) ∧ Ext w w' := by
  cases hA : (starB zs && balB zs)
  · go_enter Try.func39, Try.ntmps39
    go_wp2_with fail
    refine (mtStar_any _ _ _ zs hn _ h).mono ?_
    rw [hA]
    rintro e w1 ⟨rfl, hb1⟩
    go_wp2
    go_ret2
    exact ⟨rfl, hb1⟩
  · have hs : Small zs := by
      rcases small_of (zs := zs) with hz | ⟨_, hz⟩
      · rw [hz] at hA; cases hA
      · exact hz
    go_enter Try.func39, Try.ntmps39
    go_wp2_with fail
    refine (mtStar_any _ _ _ zs hn _ h).mono ?_
    rw [hA]
    rintro e w1 ⟨rfl, hb1⟩
    go_wp2_with fail
    refine (mtDegree_any _ _ _ zs hs _ (h.ext hb1)).mono ?_
    rintro e w2 ⟨rfl, hb2⟩
    go_wp2
    go_ret2
    exact ⟨rfl, hb1.trans hb2⟩

theorem impl_StarDegree_any (a : Option Addr) (n c : Nat) (zs : List (Int × Int × Int)) (hn : n ≤ 1073741824) (w : World) (h : Reads w a 3 n (tv zs)) :
    Calls Try.prog 40 #[.slice a n c] w fun r w' => r = .returned (.tuple #[.int .i64 (gI (starB zs && balB zs) (psum zs T3 (allP zs T3 1000 1 n) (allP zs T3 1000 1 n).length)), .bool (starB zs && balB zs)]) ∧ Ext w w' := by
  go_enter Try.func40, Try.ntmps40
  go_wp2_with fail
  refine (lineStar_any _).mono ?_
  rintro e w1 ⟨g, rfl, hg, hb1⟩
  have HM := impl_MeetCount_any a (some ⟨g, 0, none⟩) n 3 c 3 zs T3 hn (by omega) w1 (h.ext hb1) hg
  rw [t3_ok, Bool.and_true] at HM
  go_wp2_with fail
  refine HM.mono ?_
  rintro e w2 ⟨rfl, hb2⟩
  go_wp2
  go_ret2
  exact ⟨rfl, hb1.trans hb2⟩

theorem law_StarDegree (a : Option Addr) (n c : Nat) (zs : List (Int × Int × Int)) (w : World) (hr : IsTri w a n c zs) :
    Calls Try.prog 12 #[.slice a n c] w fun r w' => r = .returned (.bool true) ∧ Ext w w' := by
  have h := hr.1
  have hc1 := hr.2.1
  have hc2 := hr.2.2.1
  unfold maxLen at hc2
  clear hr
  by_cases hn : n ≤ 1048576
  · go_enter Try.func12, Try.ntmps12
    go_wp2_with fail
    refine (szRayS_yes _ _ _ _ (by omega) (by omega) _).mono ?_
    rintro e _ ⟨rfl, rfl⟩
    go_wp2_with fail
    refine (toRayS_any _ _ _ zs hn _ h).mono ?_
    rintro e w1 ⟨g1, rfl, ho1, hb1⟩
    go_wp2_with fail
    refine (spec_StarDegree_any _ _ _ zs (by omega) _ (own_reads ho1)).mono ?_
    rintro e w2 ⟨rfl, hb2⟩
    have h2 := Reads.ext hb2 (Reads.ext hb1 h)
    go_wp2_with fail
    refine (toRayS_any _ _ _ zs hn _ h2).mono ?_
    rintro e w3 ⟨g2, rfl, ho2, hb3⟩
    go_wp2_with fail
    refine (impl_StarDegree_any _ _ _ zs (by omega) _ (own_reads ho2)).mono ?_
    rintro e w4 ⟨rfl, hb4⟩
    have h4 := Reads.ext hb4 (Reads.ext hb3 h2)
    go_wp2_with fail
    refine (toRayS_any _ _ _ zs hn _ h4).mono ?_
    rintro e w5 ⟨g3, rfl, ho3, hb5⟩
    go_wp2_with fail
    refine (eqRayS_same _ _ _ _ _ zs (by omega) _ (Reads.ext hb5 (Reads.ext hb4 (own_reads ho2))) (own_reads ho3)).mono ?_
    rintro e w6 ⟨rfl, hb6⟩
    go_wp2
    go_ret
    exact ⟨rfl, ((((hb1.trans hb2).trans hb3).trans hb4).trans hb5).trans hb6⟩
  · go_enter Try.func12, Try.ntmps12
    go_wp2_with fail
    refine (szRayS_no _ _ _ _ (by omega) (by omega) (by omega) (by omega) _).mono ?_
    rintro e _ ⟨rfl, rfl⟩
    go_wp2
    go_ret
    exact ⟨rfl, Ext.refl _⟩

end Go.Proofs.Ytlkhjedlokklaaa
