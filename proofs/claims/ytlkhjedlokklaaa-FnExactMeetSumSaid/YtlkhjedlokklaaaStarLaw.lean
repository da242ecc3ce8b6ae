/-
  The laws on stars: the walk of each law.
-/
import Derived.Test.YtlkhjedlokklaaaStar
import Derived.Test.YtlkhjedlokklaaaOpen3
namespace Go.Proofs.Ytlkhjedlokklaaa
open Go.RowKit

theorem law_IsStar (a : Option Addr) (n c : Nat) (zs : List (Int × Int × Int)) (w : World) (hr : IsTri w a n c zs) :
    Calls Try.prog 3 #[.slice a n c] w fun r w' => r = .returned (.bool true) ∧ Ext w w' := by
  have h := hr.1
  have hc1 := hr.2.1
  have hc2 := hr.2.2.1
  unfold maxLen at hc2
  clear hr
  by_cases hn : n ≤ 1048576
  · go_enter Try.func3, Try.ntmps3
    go_wp2_with fail
    refine (szRayS_yes _ _ _ _ (by omega) (by omega) _).mono ?_
    rintro e _ ⟨rfl, rfl⟩
    go_wp2_with fail
    refine (toRayS_any _ _ _ zs hn _ h).mono ?_
    rintro e w1 ⟨g1, rfl, ho1, hb1⟩
    go_wp2_with fail
    refine (spec_IsStar_any _ _ _ zs (by omega) _ (own_reads ho1)).mono ?_
    rintro e w2 ⟨rfl, hb2⟩
    have h2 := Reads.ext hb2 (Reads.ext hb1 h)
    go_wp2_with fail
    refine (toRayS_any _ _ _ zs hn _ h2).mono ?_
    rintro e w3 ⟨g2, rfl, ho2, hb3⟩
    go_wp2_with fail
    refine (impl_IsStar_any _ _ _ zs (by omega) _ (own_reads ho2)).mono ?_
    rintro e w4 ⟨rfl, hb4⟩
    have h4 := Reads.ext hb4 (Reads.ext hb3 h2)
    go_wp2_with fail
    refine (toRayS_any _ _ _ zs hn _ h4).mono ?_
    rintro e w5 ⟨g3, rfl, ho3, hb5⟩
    go_wp2_with fail
    refine (eqRayS_same _ _ _ _ _ zs (by omega) _ (Reads.ext hb5 (Reads.ext hb4 (own_reads ho2))) (own_reads ho3)).mono ?_
    rintro e w6 ⟨rfl, hb6⟩
    go_wp2
    go_ret
    exact ⟨rfl, ((((hb1.trans hb2).trans hb3).trans hb4).trans hb5).trans hb6⟩
  · go_enter Try.func3, Try.ntmps3
    go_wp2_with fail
    refine (szRayS_no _ _ _ _ (by omega) (by omega) (by omega) (by omega) _).mono ?_
    rintro e _ ⟨rfl, rfl⟩
    go_wp2
    go_ret
    exact ⟨rfl, Ext.refl _⟩

end Go.Proofs.Ytlkhjedlokklaaa
