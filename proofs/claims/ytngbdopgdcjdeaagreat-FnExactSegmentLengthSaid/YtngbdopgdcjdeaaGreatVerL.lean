/-
  VertexOf: the reference's side, the law's walk.
-/
import Derived.Test.YtngbdopgdcjdeaaGreatCuV
import Derived.Test.YtngbdopgdcjdeaaGreatCuN
import Derived.Test.YtngbdopgdcjdeaaGreatQuad
import Derived.Test.YtngbdopgdcjdeaaGreatEndL
import Derived.BigQuiet
namespace Go.Proofs.YtngbdopgdcjdeaaGreat
open Go.RowKit

set_option maxHeartbeats 2000000 in
theorem spec_VertexOf_any (a : Option Addr) (n c : Nat) (zs : List (Int × Int × Int)) (i : Int) (hn : n ≤ 1048576) (w : World) (h : Reads w a 3 n (tv zs)) :
    Calls Tryz.prog 19 #[.slice a n c, .int .i64 i] w fun r w' => r = .returned (.tuple #[.agg #[.int .i64 (gI (planeB zs && askB zs i) (lowN (verX zs ((cellsL zs).getD i.toNat [])) (verD zs ((cellsL zs).getD i.toNat [])))), .int .i64 (gI (planeB zs && askB zs i) (lowD (verX zs ((cellsL zs).getD i.toNat [])) (verD zs ((cellsL zs).getD i.toNat [])))), .int .i64 (gI (planeB zs && askB zs i) (lowN (verY zs ((cellsL zs).getD i.toNat [])) (verD zs ((cellsL zs).getD i.toNat [])))), .int .i64 (gI (planeB zs && askB zs i) (lowD (verY zs ((cellsL zs).getD i.toNat [])) (verD zs ((cellsL zs).getD i.toNat []))))], .bool (planeB zs && askB zs i)]) ∧ Ext w w' := by
  have HS := (Has.new w #[.int .i64 0, .int .i64 0, .int .i64 0, .int .i64 0] 37)
  have Sc0 := Ext.keeps (HS 0 _ rfl)
  have Sc1 := Ext.keeps (HS 1 _ rfl)
  have Sc2 := Ext.keeps (HS 2 _ rfl)
  have Sc3 := Ext.keeps (HS 3 _ rfl)
  have Sf0 := Ext.thaws (w := (w.alloc (.cells #[.int .i64 0, .int .i64 0, .int .i64 0, .int .i64 0] 37))) (HS 0 _ rfl) (by simp)
  have Sf1 := Ext.thaws (w := (w.alloc (.cells #[.int .i64 0, .int .i64 0, .int .i64 0, .int .i64 0] 37))) (HS 1 _ rfl) (by simp)
  have Sf2 := Ext.thaws (w := (w.alloc (.cells #[.int .i64 0, .int .i64 0, .int .i64 0, .int .i64 0] 37))) (HS 2 _ rfl) (by simp)
  have Sf3 := Ext.thaws (w := (w.alloc (.cells #[.int .i64 0, .int .i64 0, .int .i64 0, .int .i64 0] 37))) (HS 3 _ rfl) (by simp)
  clear HS
  have hE : Ext (w.alloc (.cells #[.int .i64 0, .int .i64 0, .int .i64 0, .int .i64 0] 37)) (w.alloc (.cells #[.int .i64 0, .int .i64 0, .int .i64 0, .int .i64 0] 37)) := Ext.refl _
  have hb0 : Ext w (w.alloc (.cells #[.int .i64 0, .int .i64 0, .int .i64 0, .int .i64 0] 37)) := (by repeat (first | exact Ext.refl _ | assumption | apply Ext.alloc | apply Ext.drew | apply Ext.drewN | (refine Ext.trans ?_ (by assumption)) | (refine Ext.setCell ?_ (by (try simp) <;> omega) _)))
  clear hE
  cases hok : (planeB zs && askB zs i)
  · go_enter Tryz.func19, Tryz.ntmps19
    go_wp2_with fail
    refine (cuCell_any _ _ _ zs i hn _ (Reads.ext hb0 h)).mono ?_
    rintro e w1 ⟨a1, n1, c1, rfl, _, hS⟩
    rw [hok]
    have e0 := Sc0 _ hS
    have g0 := Sf0 _ hS
    have e1 := Sc1 _ hS
    have g1 := Sf1 _ hS
    have e2 := Sc2 _ hS
    have g2 := Sf2 _ hS
    have e3 := Sc3 _ hS
    have g3 := Sf3 _ hS
    have HE := Lib.hid (hb0.trans hS)
    have hsz := HE.out.size
    have hsz1 := hS.size
    simp at hsz1
    clear Sc0 Sc1 Sc2 Sc3 Sf0 Sf1 Sf2 Sf3 hS hb0
    go_wp2
    refine bodyPost_ret (v := .tuple #[.agg #[.int .i64 0, .int .i64 0, .int .i64 0, .int .i64 0], .bool false]) (by simp [results, Tryz.results19, go_sem, *]) rfl ⟨rfl, ?_⟩
    have hE := HE.out
    exact (by repeat (first | exact Ext.refl _ | assumption | apply Ext.alloc | apply Ext.drew | apply Ext.drewN | (refine Ext.trans ?_ (by assumption)) | (refine Ext.setCell ?_ (by (try simp) <;> omega) _)))
  · have HZ := Lib.hid (ask_cell hok).1
    have HX := Lib.hid (ask_cell hok).2
    have HR := Lib.hid (Reads.ext hb0 h)
    clear h
    go_enter Tryz.func19, Tryz.ntmps19
    go_wp2_with fail
    refine (cuCell_any _ _ _ zs i hn _ HR.out).mono ?_
    rintro e w1 ⟨a1, n1, c1, rfl, hrd, hS1⟩
    rw [hok]
    have HRD := Lib.hid (hrd hok)
    have HR1 := Lib.hid (Reads.ext hS1 HR.out)
    clear hrd HR
    go_wp2_with fail
    refine (cuVertex_any _ _ _ _ _ _ zs HZ.out _ HX.out w1 HR1.out HRD.out).mono ?_
    rintro e w2 ⟨rfl, hS2⟩
    have hS := hS1.trans hS2
    have e0 := Sc0 _ hS
    have g0 := Sf0 _ hS
    have e1 := Sc1 _ hS
    have g1 := Sf1 _ hS
    have e2 := Sc2 _ hS
    have g2 := Sf2 _ hS
    have e3 := Sc3 _ hS
    have g3 := Sf3 _ hS
    have HE := Lib.hid (hb0.trans hS)
    have hsz1 := hS.size
    simp at hsz1
    clear Sc0 Sc1 Sc2 Sc3 Sf0 Sf1 Sf2 Sf3 hS hS1 hS2 hb0
    go_wp2
    refine bodyPost_ret (v := .tuple #[.agg #[_, _, _, _], .bool true]) (by simp [results, Tryz.results19, go_sem, gI, *]) rfl ⟨rfl, ?_⟩
    have hE := HE.out
    exact (by repeat (first | exact Ext.refl _ | assumption | apply Ext.alloc | apply Ext.drew | apply Ext.drewN | (refine Ext.trans ?_ (by assumption)) | (refine Ext.setCell ?_ (by (try simp) <;> omega) _)))
set_option maxHeartbeats 2000000 in
theorem law_VertexOf (a : Option Addr) (n c : Nat) (zs : List (Int × Int × Int)) (i : Int) (w : World) (hr : IsTri w a n c zs) :
    Calls Tryz.prog 4 #[.slice a n c, .int .i64 i] w fun r w' => r = .returned (.bool true) ∧ Ext w w' := by
  have h := hr.1
  have hc1 := hr.2.1
  have hc2 := hr.2.2.1
  unfold maxLen at hc2
  clear hr
  by_cases hn : n ≤ 1048576
  · obtain ⟨V0, eV0⟩ : ∃ z : Int, z = (gI (planeB zs && askB zs i) (lowN (verX zs ((cellsL zs).getD i.toNat [])) (verD zs ((cellsL zs).getD i.toNat [])))) := ⟨_, rfl⟩
    obtain ⟨V1, eV1⟩ : ∃ z : Int, z = (gI (planeB zs && askB zs i) (lowD (verX zs ((cellsL zs).getD i.toNat [])) (verD zs ((cellsL zs).getD i.toNat [])))) := ⟨_, rfl⟩
    obtain ⟨V2, eV2⟩ : ∃ z : Int, z = (gI (planeB zs && askB zs i) (lowN (verY zs ((cellsL zs).getD i.toNat [])) (verD zs ((cellsL zs).getD i.toNat [])))) := ⟨_, rfl⟩
    obtain ⟨V3, eV3⟩ : ∃ z : Int, z = (gI (planeB zs && askB zs i) (lowD (verY zs ((cellsL zs).getD i.toNat [])) (verD zs ((cellsL zs).getD i.toNat [])))) := ⟨_, rfl⟩
    obtain ⟨K, eK⟩ : ∃ z : Bool, z = (planeB zs && askB zs i) := ⟨_, rfl⟩
    have HS := Lib.hid (show ∀ (b : Nat) w, Reads w (some ⟨b, 0, none⟩) 3 n (tv zs) → Calls Tryz.prog 19 #[.slice (some ⟨b, 0, none⟩) n n, .int .i64 i] w fun r w' => r = .returned (.tuple #[.agg #[.int .i64 V0, .int .i64 V1, .int .i64 V2, .int .i64 V3], .bool K]) ∧ Ext w w' by rw [eV0, eV1, eV2, eV3, eK]; intro b w h0; exact spec_VertexOf_any _ _ _ zs i (by omega) _ h0)
    have HI := Lib.hid (show ∀ (b : Nat) w, Reads w (some ⟨b, 0, none⟩) 3 n (tv zs) → Calls Tryz.prog 20 #[.slice (some ⟨b, 0, none⟩) n n, .int .i64 i] w fun r w' => r = .returned (.tuple #[.agg #[.int .i64 V0, .int .i64 V1, .int .i64 V2, .int .i64 V3], .bool K]) ∧ Ext w w' by rw [eV0, eV1, eV2, eV3, eK]; intro b w h0; exact impl_VertexOf_any _ _ _ zs i (by omega) _ h0)
    clear eV0 eV1 eV2 eV3 eK
    go_enter Tryz.func4, Tryz.ntmps4
    go_wp2_with fail
    refine (szTermS_yes _ _ _ _ (by omega) (by omega) _).mono ?_
    rintro e _ ⟨rfl, rfl⟩
    go_wp2_with fail
    refine (toTermS_any _ _ _ zs hn _ h).mono ?_
    rintro e w1 ⟨g1, rfl, ho1, hb1⟩
    have hE : Ext w w := Ext.refl _
    replace hE := Ext.trans hE hb1
    go_wp2_with fail
    refine (HS.out _ _ (own_reads ho1)).mono ?_
    rintro e w2 ⟨rfl, hb2⟩
    replace hE := Ext.trans hE hb2
    have h2 := Reads.alloc (Reads.ext hE h) (.cells #[.int .i64 V0, .int .i64 V1, .int .i64 V2, .int .i64 V3] 37)
    have hW : Ext w w2 := hE
    have hT : Ext w (w2.alloc (.cells #[.int .i64 V0, .int .i64 V1, .int .i64 V2, .int .i64 V3] 37)) := Ext.alloc hE _
    have HB := Has.new w2 #[.int .i64 V0, .int .i64 V1, .int .i64 V2, .int .i64 V3] 37
    have Bc0 := Ext.keeps (HB 0 _ rfl)
    have Bc1 := Ext.keeps (HB 1 _ rfl)
    have Bc2 := Ext.keeps (HB 2 _ rfl)
    have Bc3 := Ext.keeps (HB 3 _ rfl)
    clear HB
    replace hE : Ext (w2.alloc (.cells #[.int .i64 V0, .int .i64 V1, .int .i64 V2, .int .i64 V3] 37)) (w2.alloc (.cells #[.int .i64 V0, .int .i64 V1, .int .i64 V2, .int .i64 V3] 37)) := Ext.refl _
    have hW2 := Ext.alloc hW (.cells #[.int .i64 V0, .int .i64 V1, .int .i64 V2, .int .i64 V3] 37)
    go_wp2_with fail
    refine (toTermS_any _ _ _ zs hn _ h2).mono ?_
    rintro e w3 ⟨g2, rfl, ho2, hb3⟩
    replace hE := Ext.trans hE hb3
    go_wp2_with fail
    refine (HI.out _ _ (own_reads ho2)).mono ?_
    rintro e w4 ⟨rfl, hb4⟩
    replace hE := Ext.trans hE hb4
    have ho4 := own_ext hb4 ho2
    have h4 := Reads.ext hE h2
    have hW4 := Ext.trans hW2 hE
    have hT : Ext (w2.alloc (.cells #[.int .i64 V0, .int .i64 V1, .int .i64 V2, .int .i64 V3] 37)) (w4.alloc (.cells #[.int .i64 V0, .int .i64 V1, .int .i64 V2, .int .i64 V3] 37)) := Ext.alloc hE _
    replace Bc0 := Ext.rebase hT Bc0
    replace Bc1 := Ext.rebase hT Bc1
    replace Bc2 := Ext.rebase hT Bc2
    replace Bc3 := Ext.rebase hT Bc3
    have HC := Has.new w4 #[.int .i64 V0, .int .i64 V1, .int .i64 V2, .int .i64 V3] 37
    have Cc0 := Ext.keeps (HC 0 _ rfl)
    have Cc1 := Ext.keeps (HC 1 _ rfl)
    have Cc2 := Ext.keeps (HC 2 _ rfl)
    have Cc3 := Ext.keeps (HC 3 _ rfl)
    clear HC
    replace hE : Ext (w4.alloc (.cells #[.int .i64 V0, .int .i64 V1, .int .i64 V2, .int .i64 V3] 37)) (w4.alloc (.cells #[.int .i64 V0, .int .i64 V1, .int .i64 V2, .int .i64 V3] 37)) := Ext.refl _
    go_wp2_with fail
    refine (eqSpot_same _ _ _ _ _).mono ?_
    rintro e w5 ⟨rfl, hb5⟩
    replace hE := Ext.trans hE hb5
    have ho5 := own_ext hb5 (own_ext (Ext.alloc (Ext.refl w4) _) ho4)
    have h5 := Reads.ext hb5 (Reads.alloc h4 _)
    have hW5 := Ext.trans (Ext.alloc hW4 _) hb5
    go_wp2_with fail
    refine (toTermS_any _ _ _ zs hn _ h5).mono ?_
    rintro e w6 ⟨g3, rfl, ho3, hb6⟩
    go_wp2_with fail
    refine (eqTermS_same _ _ _ _ _ zs (by omega) _ (Reads.ext hb6 (own_reads ho5)) (own_reads ho3)).mono ?_
    rintro e w7 ⟨rfl, hb7⟩
    go_wp2
    go_ret
    exact ⟨rfl, (hW5.trans hb6).trans hb7⟩
  · go_enter Tryz.func4, Tryz.ntmps4
    go_wp2_with fail
    refine (szTermS_no _ _ _ _ (by omega) (by omega) (by omega) (by omega) _).mono ?_
    rintro e _ ⟨rfl, rfl⟩
    go_wp2
    go_ret
    exact ⟨rfl, Ext.refl _⟩
end Go.Proofs.YtngbdopgdcjdeaaGreat
