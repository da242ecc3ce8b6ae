/-
  SegmentLength: the program's walk, the law's walk.
-/
import Derived.Test.YtngbdopgdcjdeaaGreatSegR
import Derived.Test.YtngbdopgdcjdeaaGreatDir
import Derived.BigQuiet
namespace Go.Proofs.YtngbdopgdcjdeaaGreat
open Go.RowKit

set_option maxHeartbeats 8000000 in
set_option maxRecDepth 100000 in
theorem impl_SegmentLength_any (a : Option Addr) (n c : Nat) (zs : List (Int × Int × Int)) (i k : Int) (hn : n ≤ 1048576) (hi : B64 i) (hk : B64 k) (w : World) (h : Reads w a 3 n (tv zs)) :
    Calls Tryz.prog 34 #[.slice a n c, .int .i64 i, .int .i64 k] w fun r w' => r = .returned (.tuple #[.agg #[.int .i64 (gI (planeB zs && slOk zs i k) (lowN (slN zs i k) (slD zs i k * slE zs i k))), .int .i64 (gI (planeB zs && slOk zs i k) (lowD (slN zs i k) (slD zs i k * slE zs i k)))], .bool (planeB zs && slOk zs i k)]) ∧ Ext w w' := by
  have hl : zs.length = n := by have := h.1; rw [tv_len] at this; omega
  have HR := (Has.new w #[.int .i64 0, .int .i64 0] 35)
  have Rc0 := Ext.keeps (HR 0 _ rfl)
  have Rc1 := Ext.keeps (HR 1 _ rfl)
  have Rf0 := Ext.thaws (w := (w.alloc (.cells #[.int .i64 0, .int .i64 0] 35))) (HR 0 _ rfl) (by simp)
  have Rf1 := Ext.thaws (w := (w.alloc (.cells #[.int .i64 0, .int .i64 0] 35))) (HR 1 _ rfl) (by simp)
  clear HR
  have hE : Ext (w.alloc (.cells #[.int .i64 0, .int .i64 0] 35)) (w.alloc (.cells #[.int .i64 0, .int .i64 0] 35)) := Ext.refl _
  have hb0 : Ext w (w.alloc (.cells #[.int .i64 0, .int .i64 0] 35)) := (by repeat (first | exact Ext.refl _ | assumption | apply Ext.alloc | apply Ext.drew | apply Ext.drewN | (refine Ext.trans ?_ (by assumption)) | (refine Ext.setCell ?_ (by (try simp) <;> omega) _)))
  clear hE
  cases hp : planeB zs
  · simp only [Bool.false_and, gI, Bool.false_eq_true, if_false]
    go_enter Tryz.func34, Tryz.ntmps34
    go_wp2_with fail
    refine (subdivided_no _ _ _ zs hn hp _ (Reads.ext hb0 h)).mono ?_
    rintro e w1 ⟨rfl, hR⟩
    have e0 := Rc0 _ hR
    have e1 := Rc1 _ hR
    have g0 := Rf0 _ hR
    have g1 := Rf1 _ hR
    have HEF := Lib.hid (hb0.trans hR)
    have hszR := HEF.out.size
    have hszL := lt_of_cell e0
    clear Rc0 Rc1 Rf0 Rf1 hR
    go_wp2
    refine bodyPost_ret (v := .tuple #[.agg #[.int .i64 0, .int .i64 0], .bool false]) (by simp [results, Tryz.results34, go_sem, *]) rfl ⟨rfl, ?_⟩
    have hE := HEF.out
    exact (by repeat (first | exact Ext.refl _ | assumption | apply Ext.alloc | apply Ext.drew | apply Ext.drewN | (refine Ext.trans ?_ (by assumption)) | (refine Ext.setCell ?_ (by (try simp) <;> omega) _)))
  · have HZ := Lib.hid (pz_of hp)
    have HH := Lib.hid (Reads.ext hb0 h)
    clear h
    have HRD2 := Lib.hid (fun (w1 : World) => show Reads (w1.alloc (.cells #[.int .i64 i, .int .i64 k] 3)) (some ⟨w1.heap.size, 0, none⟩) 1 2 (iv [i, k]) from two_ints (by simp) (by simp))
    by_cases h2 : (sidesAt zs [i, k]).length = 2
    · obtain ⟨x, y, p, q, rfl, rfl, hxy, hyn, hne, hs2, hpN, hqN, hpair⟩ := two_form HZ.out h2
      have hA : celA zs (x : Int) (y : Int) = (cellsL zs).getD p [] := by unfold celA; rw [hs2]; rfl
      have hC : celZ zs (x : Int) (y : Int) = (cellsL zs).getD q [] := by unfold celZ; rw [hs2]; rfl
      have hv : slOk zs (x : Int) (y : Int) = okM (slN zs x y) (slD zs x y * slE zs x y) := by unfold slOk twoB; rw [decide_eq_true h2, Bool.true_and]
      rw [hv]
      simp only [Bool.true_and]
      clear hv h2 hpair
      obtain ⟨A, hAA⟩ : ∃ A, A = (cellsL zs).getD p [] := ⟨_, rfl⟩
      obtain ⟨C, hCC⟩ : ∃ C, C = (cellsL zs).getD q [] := ⟨_, rfl⟩
      rw [← hAA] at hA
      rw [← hCC] at hC
      have HXA := Lib.hid (show IsCell zs A by rw [hAA]; exact cell_at hpN)
      have HXC := Lib.hid (show IsCell zs C by rw [hCC]; exact cell_at hqN)
      have bvA := ver_bd HZ.out HXA.out
      have bvC := ver_bd HZ.out HXC.out
      have lA1 := low_bd bvA.1 bvA.2.2
      have lA2 := low_bd bvA.2.1 bvA.2.2
      have lC1 := low_bd bvC.1 bvC.2.2
      have lC2 := low_bd bvC.2.1 bvC.2.2
      have hexb : -6 ≤ eX zs A x y ∧ eX zs A x y ≤ 6 := sgE_le (dX_le HZ.out (by omega) hyn)
      have heyb : -6 ≤ eY zs A x y ∧ eY zs A x y ≤ 6 := sgE_le (dY_le HZ.out (by omega) hyn)
      have HE1 := Lib.hid (show slE zs (x : Int) (y : Int) = if eX zs A x y ≠ 0 then eX zs A x y else eY zs A x y by unfold slE; rw [hA]; rfl)
      have HN1 := Lib.hid (show slN zs (x : Int) (y : Int) = if eX zs A x y ≠ 0 then difN (lowN (verX zs C) (verD zs C)) (lowD (verX zs C) (verD zs C)) (lowN (verX zs A) (verD zs A)) (lowD (verX zs A) (verD zs A)) else difN (lowN (verY zs C) (verD zs C)) (lowD (verY zs C) (verD zs C)) (lowN (verY zs A) (verD zs A)) (lowD (verY zs A) (verD zs A)) by unfold slN; rw [hA, hC]; rfl)
      have HDD := Lib.hid (show slD zs (x : Int) (y : Int) = if eX zs A x y ≠ 0 then difD (lowN (verX zs C) (verD zs C)) (lowD (verX zs C) (verD zs C)) (lowN (verX zs A) (verD zs A)) (lowD (verX zs A) (verD zs A)) else difD (lowN (verY zs C) (verD zs C)) (lowD (verY zs C) (verD zs C)) (lowN (verY zs A) (verD zs A)) (lowD (verY zs A) (verD zs A)) by unfold slD; rw [hA, hC]; rfl)
      have HS2 := Lib.hid hs2
      have HAA := Lib.hid hAA
      have HCC := Lib.hid hCC
      have HPN := Lib.hid hpN
      have HQN := Lib.hid hqN
      have HNE := Lib.hid hne
      have hxn : x < n := by omega
      have hyn2 : y < n := by omega
      clear hA hC hs2 hAA hCC hpN hqN bvA bvC hne
      generalize slN zs (x : Int) (y : Int) = rn at *
      generalize slD zs (x : Int) (y : Int) = rd at *
      generalize slE zs (x : Int) (y : Int) = re at *
      go_enter Tryz.func34, Tryz.ntmps34
      go_wp2_with fail
      refine (subdivided_yes _ _ _ zs hn hp _ HH.out).mono ?_
      rintro e w1 ⟨g, rfl, hs, hb1⟩
      have HD1 := Lib.hid hs
      have HB1 := Lib.hid hb1
      clear hs hb1 HH
      go_wp2_with fail
      refine (cellsAt2 _ g a _ n c 2 zs _ _ hi hk HS2.out _ (HD1.out.ext ((Ext.refl w1).alloc _)) (HRD2.out w1)).mono ?_
      rintro e w2 ⟨aw2, cw2, rfl, hrw2, hbw2⟩
      have HX2 := Lib.hid (Ext.trans ((Ext.refl w1).alloc (.cells #[.int .i64 (x : Int), .int .i64 (y : Int)] 3)) hbw2)
      have HD2 := Lib.hid (HD1.out.ext HX2.out)
      clear hrw2 hbw2
      go_wp2_with fail
      refine (cellsAt2 _ g a _ n c 2 zs _ _ hi hk HS2.out _ (HD2.out.ext ((Ext.refl w2).alloc _)) (HRD2.out w2)).mono ?_
      rintro e w3 ⟨aw3, cw3, rfl, hrw3, hbw3⟩
      have HX3 := Lib.hid (Ext.trans ((Ext.refl w2).alloc (.cells #[.int .i64 (x : Int), .int .i64 (y : Int)] 3)) hbw3)
      have HD3 := Lib.hid (HD2.out.ext HX3.out)
      clear hbw3
      obtain ⟨ba, oa, rfl, hca⟩ := hrw3.2 (by omega)
      have at0 : w3.cell? ⟨ba, oa, none⟩ = some (.int .i64 (p : Int)) := hca 0 _ rfl
      have at1 : w3.cell? ⟨ba, oa + 1, none⟩ = some (.int .i64 (q : Int)) := hca 1 _ rfl
      clear hrw3 hca
      have at0b := Ext.keep ((Ext.refl w3).alloc (.cells #[.int .i64 (x : Int), .int .i64 (y : Int)] 3)) at0
      go_wp2_with fail
      refine (direction_any _ g a _ n c 2 p zs HZ.out HPN.out x y hxn hyn2 HNE.out _ (HD3.out.ext ((Ext.refl w3).alloc (.cells #[.int .i64 (x : Int), .int .i64 (y : Int)] 3))) (HRD2.out w3)).mono ?_
      rintro e w4 ⟨rfl, hb4⟩
      rw [← HAA.out]
      clear at0b
      have hE4 : Ext w3 (w4.alloc (.cells #[.int .i64 (eX zs A x y), .int .i64 (eY zs A x y)] 70)) := Ext.alloc (Ext.trans ((Ext.refl w3).alloc (.cells #[.int .i64 (x : Int), .int .i64 (y : Int)] 3)) hb4) _
      obtain ⟨V, hV⟩ : ∃ V, V = w4.alloc (.cells #[.int .i64 (eX zs A x y), .int .i64 (eY zs A x y)] 70) := ⟨_, rfl⟩
      obtain ⟨db, hdb0⟩ : ∃ b, b = w4.heap.size := ⟨_, rfl⟩
      have d0 : V.cell? ⟨db, 0, none⟩ = some (.int .i64 (eX zs A x y)) := by rw [hV, hdb0]; simp
      have d1 : V.cell? ⟨db, 1, none⟩ = some (.int .i64 (eY zs A x y)) := by rw [hV, hdb0]; simp
      rw [← hV] at hE4
      have HD4 := Lib.hid (HD3.out.ext hE4)
      have Ac0 := Ext.keeps (hE4.keep at0)
      have Ac1 := Ext.keeps (hE4.keep at1)
      have Dc0 := Ext.keeps d0
      have Dc1 := Ext.keeps d1
      have hR := ((HB1.out.trans HX2.out).trans HX3.out).trans hE4
      have HER := Lib.hid hR
      replace Rc0 := Ext.rebase hR Rc0
      replace Rc1 := Ext.rebase hR Rc1
      replace Rf0 := Ext.rebase hR Rf0
      replace Rf1 := Ext.rebase hR Rf1
      go_wp2
      rw [← hV, ← hdb0]
      clear hV hdb0 d0 d1 at0 at1 hb4 hE4 hR HD1 HD2 HD3 HX2 HX3 HB1 HRD2
      have hS0 : Ext V V.drew := Ext.drew (Ext.refl _)
      refine wp_region_T (Ext V) 13 (by kernel_rfl) ?_
      simp only [List.length_cons, List.length_nil, Nat.reduceAdd]
      refine wpAnyT_take (i := 0) (v := .pointer (some ⟨g, 0, none⟩)) rfl (by kernel_rfl) (by kernel_rfl) (by kernel_rfl) (by kernel_rfl) (fun _ _ _ h => h) (.inl ⟨by rfl, fun _ _ => by
        simp [go_sem]⟩) hS0 ?_
      simp only [Act.put, List.setIfInBounds_toArray, List.set_cons_succ, List.set_cons_zero]
      refine wpAnyT_take (i := 1) (v := .slice (some ⟨ba, oa, none⟩) 2 cw3) rfl (by kernel_rfl) (by kernel_rfl) (by kernel_rfl) (by kernel_rfl) (fun _ _ _ h => h) (.inl ⟨by rfl, fun _ _ => by
        simp [go_sem]⟩) hS0 ?_
      simp only [Act.put]
      refine wpAnyT_take (i := 2) (v := .pointer (some ⟨ba, oa, none⟩)) rfl (by kernel_rfl) (by kernel_rfl) (by kernel_rfl) (by kernel_rfl) (fun _ _ _ h => h) (.inl ⟨by rfl, fun _ _ => by
        simp [go_sem]⟩) hS0 ?_
      simp only [Act.put]
      refine wpAnyT_take (i := 3) (v := .int .i64 (p : Int)) rfl (by kernel_rfl) (by kernel_rfl) (by kernel_rfl) (by kernel_rfl) (fun _ _ _ h => h) (.inl ⟨by rfl, fun w' hw' => by
        have t0 := Ac0 w' hw'
        simp [go_sem, t0]⟩) hS0 ?_
      simp only [Act.put]
      refine wpAnyT_take (i := 5) (v := .pointer (some ⟨g, 0, none⟩)) rfl (by kernel_rfl) (by kernel_rfl) (by kernel_rfl) (by kernel_rfl) (fun _ _ _ h => h) (.inl ⟨by rfl, fun _ _ => by
        simp [go_sem]⟩) hS0 ?_
      simp only [Act.put]
      refine wpAnyT_take (i := 6) (v := .slice (some ⟨ba, oa, none⟩) 2 cw3) rfl (by kernel_rfl) (by kernel_rfl) (by kernel_rfl) (by kernel_rfl) (fun _ _ _ h => h) (.inl ⟨by rfl, fun _ _ => by
        simp [go_sem]⟩) hS0 ?_
      simp only [Act.put]
      refine wpAnyT_take (i := 7) (v := .pointer (some ⟨ba, oa + 1, none⟩)) rfl (by kernel_rfl) (by kernel_rfl) (by kernel_rfl) (by kernel_rfl) (fun _ _ _ h => h) (.inl ⟨by rfl, fun _ _ => by
        simp [go_sem]⟩) hS0 ?_
      simp only [Act.put]
      refine wpAnyT_take (i := 8) (v := .int .i64 (q : Int)) rfl (by kernel_rfl) (by kernel_rfl) (by kernel_rfl) (by kernel_rfl) (fun _ _ _ h => h) (.inl ⟨by rfl, fun w' hw' => by
        have t0 := Ac1 w' hw'
        simp [go_sem, t0]⟩) hS0 ?_
      simp only [Act.put]
      refine floatG (k := 4) (g := 2) (L := #[true, true, true, true, true, true, true, true, true, true, true, true, false, false]) (T := wpAnyT Tryz.prog .any _ _ (Ext V) 13 2 _) [4, 9] [(⟨10, 12, fun b => .pointer (some ⟨b, 0, none⟩), .cells #[.int .i64 0, .int .i64 0, .int .i64 0, .int .i64 0] 37⟩, none), (⟨11, 13, fun b => .pointer (some ⟨b, 0, none⟩), .cells #[.int .i64 0, .int .i64 0, .int .i64 0, .int .i64 0] 37⟩, none)] (w := V.drew) (by kernel_rfl) (by kernel_rfl) (fun a w _ h => h) (by kernel_rfl) (by simp) ?_ hS0 ⟨by simp, by simp⟩ ?_
      · intro p hp
        simp only [List.mem_cons, List.not_mem_nil, or_false] at hp
        rcases hp with rfl | rfl
        · exact ⟨_, rfl, rfl, rfl, fun w => by simp [go_sem]⟩
        · exact ⟨_, rfl, rfl, rfl, fun w => by simp [go_sem]⟩
      · intro ops' R' hO hR'
        have O4 := get_of (i := 4) hO.out rfl
        conv at O4 => rhs; arg 1; whnf
        have O9 := get_of (i := 9) hO.out rfl
        conv at O9 => rhs; arg 1; whnf
        clear hO
        refine chainG_call O4 rfl (fun w' e => by simp [go_sem] <;> exact ⟨rfl, rfl⟩) (fun v5 e5 => ?_)
        refine (vertex_any _ g a n c p zs HZ.out HPN.out v5 (HD4.out.ext (Ext.trans (Ext.drew (Ext.refl V)) e5))).mono ?_
        rintro e v6 ⟨rfl, hb⟩
        rw [← HAA.out]
        refine ⟨_, rfl, hb, ?_⟩
        simp only [Act.put, List.setIfInBounds_toArray, List.set_cons_succ, List.set_cons_zero]
        have HE6a := Lib.hid (Ext.trans (Ext.trans (Ext.drew (Ext.refl V)) e5) hb)
        clear hb
        refine chainG_call O9 rfl (fun w' e => by simp [go_sem] <;> exact ⟨rfl, rfl⟩) (fun v5 e5 => ?_)
        refine (vertex_any _ g a n c q zs HZ.out HQN.out v5 (HD4.out.ext (HE6a.out.trans e5))).mono ?_
        rintro e v7 ⟨rfl, hb⟩
        rw [← HCC.out]
        refine ⟨_, rfl, hb, ?_⟩
        simp only [Act.put, List.setIfInBounds_toArray, List.set_cons_succ, List.set_cons_zero]
        have HE6b := Lib.hid ((HE6a.out.trans e5).trans hb)
        clear hb
        intro w6 e6
        rw [hR'.out]
        clear hR'
        clear O4 O9
        simp only [finF, List.map_cons, List.map_nil]
        intro b1 n1 _ b2 n2 m2 hB
        simp only [List.mem_cons, List.not_mem_nil, or_false] at m2
        simp only [Act.put, List.setIfInBounds_toArray, List.set_cons_succ, List.set_cons_zero]
        have hE6 : Ext V w6 := HE6b.out.trans e6
        have h1 := boxed_has hB (b := b1) (cs := #[.int .i64 0, .int .i64 0, .int .i64 0, .int .i64 0]) (t := 37) (by simp)
        have h2 := boxed_has hB (b := b2) (cs := #[.int .i64 0, .int .i64 0, .int .i64 0, .int .i64 0]) (t := 37) (by simp)
        have x0 := h1 0 _ rfl
        have y0 := h2 0 _ rfl
        have fx0 := boxed_thaw hB (b := b1) (o := 0) (cs := #[.int .i64 0, .int .i64 0, .int .i64 0, .int .i64 0]) (t := 37) (by simp)
        have fy0 := boxed_thaw hB (b := b2) (o := 0) (cs := #[.int .i64 0, .int .i64 0, .int .i64 0, .int .i64 0]) (t := 37) (by simp)
        have x1 := h1 1 _ rfl
        have y1 := h2 1 _ rfl
        have fx1 := boxed_thaw hB (b := b1) (o := 1) (cs := #[.int .i64 0, .int .i64 0, .int .i64 0, .int .i64 0]) (t := 37) (by simp)
        have fy1 := boxed_thaw hB (b := b2) (o := 1) (cs := #[.int .i64 0, .int .i64 0, .int .i64 0, .int .i64 0]) (t := 37) (by simp)
        have x2 := h1 2 _ rfl
        have y2 := h2 2 _ rfl
        have fx2 := boxed_thaw hB (b := b1) (o := 2) (cs := #[.int .i64 0, .int .i64 0, .int .i64 0, .int .i64 0]) (t := 37) (by simp)
        have fy2 := boxed_thaw hB (b := b2) (o := 2) (cs := #[.int .i64 0, .int .i64 0, .int .i64 0, .int .i64 0]) (t := 37) (by simp)
        have x3 := h1 3 _ rfl
        have y3 := h2 3 _ rfl
        have fx3 := boxed_thaw hB (b := b1) (o := 3) (cs := #[.int .i64 0, .int .i64 0, .int .i64 0, .int .i64 0]) (t := 37) (by simp)
        have fy3 := boxed_thaw hB (b := b2) (o := 3) (cs := #[.int .i64 0, .int .i64 0, .int .i64 0, .int .i64 0]) (t := 37) (by simp)
        clear h1 h2 hB
        have m3 := Ne.symm m2
        refine wpAnyT_step (i := 12) rfl (by kernel_rfl) (fun K' hK => ?_)
        go_simp
        refine hK.out _ _ (.inr (Ext.setCell (Ext.setCell (Ext.setCell (Ext.setCell (hE6) n1 _) n1 _) n1 _) n1 _)) ?_
        clear hK K'
        refine wpAnyT_step (i := 13) rfl (by kernel_rfl) (fun K' hK => ?_)
        go_simp
        refine hK.out _ _ (.inl rfl) ?_
        clear hK K'
        refine wpAnyT_done (by kernel_rfl) ?_ _
        obtain ⟨w7, hw7⟩ : ∃ w7, w7 = ((((((((w6.setCell ⟨b1, 0, none⟩ (.int .i64 (lowN (verX zs A) (verD zs A)))).setCell ⟨b1, 1, none⟩ (.int .i64 (lowD (verX zs A) (verD zs A)))).setCell ⟨b1, 2, none⟩ (.int .i64 (lowN (verY zs A) (verD zs A)))).setCell ⟨b1, 3, none⟩ (.int .i64 (lowD (verY zs A) (verD zs A)))).setCell ⟨b2, 0, none⟩ (.int .i64 (lowN (verX zs C) (verD zs C)))).setCell ⟨b2, 1, none⟩ (.int .i64 (lowD (verX zs C) (verD zs C)))).setCell ⟨b2, 2, none⟩ (.int .i64 (lowN (verY zs C) (verD zs C)))).setCell ⟨b2, 3, none⟩ (.int .i64 (lowD (verY zs C) (verD zs C)))) := ⟨_, rfl⟩
        have hE7 : Ext V w7 := by rw [hw7]; exact (Ext.setCell (Ext.setCell (Ext.setCell (Ext.setCell (Ext.setCell (Ext.setCell (Ext.setCell (Ext.setCell hE6 n1 _) n1 _) n1 _) n1 _) n2 _) n2 _) n2 _) n2 _)
        have X0 : w7.cell? ⟨b1, 0, none⟩ = some (.int .i64 (lowN (verX zs A) (verD zs A))) := by rw [hw7]; simp [go_sem, *]
        have Y0 : w7.cell? ⟨b2, 0, none⟩ = some (.int .i64 (lowN (verX zs C) (verD zs C))) := by rw [hw7]; simp [go_sem, *]
        have X1 : w7.cell? ⟨b1, 1, none⟩ = some (.int .i64 (lowD (verX zs A) (verD zs A))) := by rw [hw7]; simp [go_sem, *]
        have Y1 : w7.cell? ⟨b2, 1, none⟩ = some (.int .i64 (lowD (verX zs C) (verD zs C))) := by rw [hw7]; simp [go_sem, *]
        have X2 : w7.cell? ⟨b1, 2, none⟩ = some (.int .i64 (lowN (verY zs A) (verD zs A))) := by rw [hw7]; simp [go_sem, *]
        have Y2 : w7.cell? ⟨b2, 2, none⟩ = some (.int .i64 (lowN (verY zs C) (verD zs C))) := by rw [hw7]; simp [go_sem, *]
        have X3 : w7.cell? ⟨b1, 3, none⟩ = some (.int .i64 (lowD (verY zs A) (verD zs A))) := by rw [hw7]; simp [go_sem, *]
        have Y3 : w7.cell? ⟨b2, 3, none⟩ = some (.int .i64 (lowD (verY zs C) (verD zs C))) := by rw [hw7]; simp [go_sem, *]
        rw [← hw7]
        clear hw7 x0 y0 fx0 fy0 x1 y1 fx1 fy1 x2 y2 fx2 fy2 x3 y3 fx3 fy3 n1 n2 m2 m3 hE6 e6 HE6a HE6b hS0
        have HER7 := Lib.hid (HER.out.trans hE7)
        replace Dc0 := Ext.rebase hE7 Dc0
        replace Dc1 := Ext.rebase hE7 Dc1
        replace Rc0 := Ext.rebase hE7 Rc0
        replace Rc1 := Ext.rebase hE7 Rc1
        replace Rf0 := Ext.rebase hE7 Rf0
        replace Rf1 := Ext.rebase hE7 Rf1
        have X0c0 := Ext.keeps X0
        have X1c0 := Ext.keeps X1
        have X2c0 := Ext.keeps X2
        have X3c0 := Ext.keeps X3
        have Y0c0 := Ext.keeps Y0
        have Y1c0 := Ext.keeps Y1
        have Y2c0 := Ext.keeps Y2
        have Y3c0 := Ext.keeps Y3
        clear hE7 HER Ac0 Ac1 X0 Y0 X1 Y1 X2 Y2 X3 Y3
        have hstep := Lib.hid (fun e => step_ne (x := A) HNE.out e)
        clear HNE
        generalize lowN (verX zs A) (verD zs A) = va0 at *
        generalize lowD (verX zs A) (verD zs A) = va1 at *
        generalize lowN (verY zs A) (verD zs A) = va2 at *
        generalize lowD (verY zs A) (verD zs A) = va3 at *
        generalize lowN (verX zs C) (verD zs C) = vc0 at *
        generalize lowD (verX zs C) (verD zs C) = vc1 at *
        generalize lowN (verY zs C) (verD zs C) = vc2 at *
        generalize lowD (verY zs C) (verD zs C) = vc3 at *
        generalize eX zs A x y = ex at *
        generalize eY zs A x y = ey at *
        have l0 := Dc0 _ (Ext.refl w7)
        by_cases hex : ex = 0
        · have hx2 : (ex != 0) = false := by simp [hex]
          have hxn3 : ¬ (ex ≠ 0) := fun e => e hex
          have HRN := Lib.hid (HN1.out.trans (if_neg hxn3))
          have HRD := Lib.hid (HDD.out.trans (if_neg hxn3))
          have hre := HE1.out.trans (if_neg hxn3)
          have hdb := dif_bd lC2.1 lC2.2 lA2.1 lA2.2
          rw [← HRN.out, ← HRD.out] at hdb
          have hz := hstep.out hex
          subst hre
          have hz2 : rd * re ≠ 0 := Int.mul_ne_zero (by omega) hz
          have HSU := Lib.hid (fun s : Past w7 => sub_ok vc2 vc3 va2 va3 lC2.1 lC2.2 lA2.1 lA2.2 s.w)
          rw [← HRN.out, ← HRD.out] at HSU
          have HDI := Lib.hid (fun s : Past w7 => div_whole rn rd re hdb.1 hdb.2 heyb hz s.w)
          have HTO := Lib.hid (fun s : Past w7 => toldFrac_any (lowN rn (rd * re)) (lowD rn (rd * re)) s.w)
          rw [← okM_frac hz2] at HTO
          obtain ⟨res1, hr1⟩ : ∃ z, z = gI (okM rn (rd * re)) (lowN rn (rd * re)) := ⟨_, rfl⟩
          obtain ⟨res2, hr2⟩ : ∃ z, z = gI (okM rn (rd * re)) (lowD rn (rd * re)) := ⟨_, rfl⟩
          obtain ⟨res3, hr3⟩ : ∃ z, z = okM rn (rd * re) := ⟨_, rfl⟩
          rw [← hr1, ← hr2, ← hr3] at HTO
          have HQ1 := Lib.hid (show gI (okM rn (rd * re)) (lowN rn (rd * re)) = res1 from hr1.symm)
          have HQ2 := Lib.hid (show gI (okM rn (rd * re)) (lowD rn (rd * re)) = res2 from hr2.symm)
          have HQ3 := Lib.hid hr3.symm
          clear hr1 hr2 hr3
          have HQ := Lib.hid (show Ending.returned (.tuple #[.agg #[.int .i64 res1, .int .i64 res2], .bool res3]) = Ending.returned (.tuple #[.agg #[.int .i64 (gI (okM rn (rd * re)) (lowN rn (rd * re))), .int .i64 (gI (okM rn (rd * re)) (lowD rn (rd * re)))], .bool (okM rn (rd * re))]) by rw [HQ1.out, HQ2.out, HQ3.out])
          clear HQ1 HQ2 HQ3
          obtain ⟨t1, ht1⟩ : ∃ z, z = lowN rn (rd * re) := ⟨_, rfl⟩
          obtain ⟨t2, ht2⟩ : ∃ z, z = lowD rn (rd * re) := ⟨_, rfl⟩
          rw [← ht1, ← ht2] at HDI HTO
          clear ht1 ht2
          clear HN1 HDD HE1 hstep HRN HRD hz2 hz hdb
          go_wp2
          clear l0
          have Pc0 := Y2c0
          have Pc1 := Y3c0
          have Qc0 := X2c0
          have Qc1 := X3c0
          have Ec0 := Dc1
          clear X0c0 Y0c0 X1c0 Y1c0 X2c0 Y2c0 X3c0 Y3c0 Dc0 Dc1
          have hE : Ext w7 w7 := Ext.refl _
          have qP0 := fun s : Past w7 => Pc0 s.w s.ext
          have qP1 := fun s : Past w7 => Pc1 s.w s.ext
          have qQ0 := fun s : Past w7 => Qc0 s.w s.ext
          have qQ1 := fun s : Past w7 => Qc1 s.w s.ext
          have qE0 := fun s : Past w7 => Ec0 s.w s.ext
          refine wp_region_past_tail 12 w7 (by first | exact hE | exact Ext.alloc hE _ | exact Ext.drew hE | exact Ext.drewN hE _) (by kernel_rfl) (by kernel_rfl) ?_
          simp only [List.take_succ_cons, List.take_zero, List.drop_succ_cons, List.drop_zero]
          repeat (go_big_quiet_step ((first | (go_at_call 63; with_reducible exact past_ext (HSU.out _)) | (go_at_call 65; exact past_ext (whole_any _ _)) | (go_at_call 64; with_reducible exact past_ext (HDI.out _)) | (go_at_call 62; with_reducible exact past_ext (HTO.out _)))))
          refine wpQuiet_nil ?_
          intro w8 hw'
          obtain ⟨⟨_, hE⟩, hw''⟩ := hw'
          subst hw''
          clear qP0 qP1 qQ0 qQ1 qE0
          have e0 := Rc0 _ hE
          have e1 := Rc1 _ hE
          have g0 := Rf0 _ hE
          have g1 := Rf1 _ hE
          have HEF := Lib.hid ((hb0.trans HER7.out).trans hE)
          have hs8 := lt_of_cell e0
          have hs9 := HEF.out.size
          clear Rc0 Rc1 Rf0 Rf1 Pc0 Pc1 Qc0 Qc1 Ec0 HSU HDI HTO HER7 hE
          go_wp2
          refine bodyPost_ret (v := .tuple #[.agg #[.int .i64 res1, .int .i64 res2], .bool res3]) (by simp [results, Tryz.results34, go_sem, *]) rfl ⟨HQ.out, ?_⟩
          have hE := HEF.out
          exact (by repeat (first | exact Ext.refl _ | assumption | apply Ext.alloc | apply Ext.drew | apply Ext.drewN | (refine Ext.trans ?_ (by assumption)) | (refine Ext.setCell ?_ (by (try simp) <;> omega) _)))
        · have hx2 : (ex != 0) = true := by simpa using hex
          have HRN := Lib.hid (HN1.out.trans (if_pos hex))
          have HRD := Lib.hid (HDD.out.trans (if_pos hex))
          have hre := HE1.out.trans (if_pos hex)
          have hdb := dif_bd lC1.1 lC1.2 lA1.1 lA1.2
          rw [← HRN.out, ← HRD.out] at hdb
          have hz := hex
          subst hre
          have hz2 : rd * re ≠ 0 := Int.mul_ne_zero (by omega) hz
          have HSU := Lib.hid (fun s : Past w7 => sub_ok vc0 vc1 va0 va1 lC1.1 lC1.2 lA1.1 lA1.2 s.w)
          rw [← HRN.out, ← HRD.out] at HSU
          have HDI := Lib.hid (fun s : Past w7 => div_whole rn rd re hdb.1 hdb.2 hexb hz s.w)
          have HTO := Lib.hid (fun s : Past w7 => toldFrac_any (lowN rn (rd * re)) (lowD rn (rd * re)) s.w)
          rw [← okM_frac hz2] at HTO
          obtain ⟨res1, hr1⟩ : ∃ z, z = gI (okM rn (rd * re)) (lowN rn (rd * re)) := ⟨_, rfl⟩
          obtain ⟨res2, hr2⟩ : ∃ z, z = gI (okM rn (rd * re)) (lowD rn (rd * re)) := ⟨_, rfl⟩
          obtain ⟨res3, hr3⟩ : ∃ z, z = okM rn (rd * re) := ⟨_, rfl⟩
          rw [← hr1, ← hr2, ← hr3] at HTO
          have HQ1 := Lib.hid (show gI (okM rn (rd * re)) (lowN rn (rd * re)) = res1 from hr1.symm)
          have HQ2 := Lib.hid (show gI (okM rn (rd * re)) (lowD rn (rd * re)) = res2 from hr2.symm)
          have HQ3 := Lib.hid hr3.symm
          clear hr1 hr2 hr3
          have HQ := Lib.hid (show Ending.returned (.tuple #[.agg #[.int .i64 res1, .int .i64 res2], .bool res3]) = Ending.returned (.tuple #[.agg #[.int .i64 (gI (okM rn (rd * re)) (lowN rn (rd * re))), .int .i64 (gI (okM rn (rd * re)) (lowD rn (rd * re)))], .bool (okM rn (rd * re))]) by rw [HQ1.out, HQ2.out, HQ3.out])
          clear HQ1 HQ2 HQ3
          obtain ⟨t1, ht1⟩ : ∃ z, z = lowN rn (rd * re) := ⟨_, rfl⟩
          obtain ⟨t2, ht2⟩ : ∃ z, z = lowD rn (rd * re) := ⟨_, rfl⟩
          rw [← ht1, ← ht2] at HDI HTO
          clear ht1 ht2
          clear HN1 HDD HE1 hstep HRN HRD hz2 hz hdb
          go_wp2
          clear l0
          have Pc0 := Y0c0
          have Pc1 := Y1c0
          have Qc0 := X0c0
          have Qc1 := X1c0
          have Ec0 := Dc0
          clear X0c0 Y0c0 X1c0 Y1c0 X2c0 Y2c0 X3c0 Y3c0 Dc0 Dc1
          have hE : Ext w7 w7 := Ext.refl _
          have qP0 := fun s : Past w7 => Pc0 s.w s.ext
          have qP1 := fun s : Past w7 => Pc1 s.w s.ext
          have qQ0 := fun s : Past w7 => Qc0 s.w s.ext
          have qQ1 := fun s : Past w7 => Qc1 s.w s.ext
          have qE0 := fun s : Past w7 => Ec0 s.w s.ext
          refine wp_region_past_tail 12 w7 (by first | exact hE | exact Ext.alloc hE _ | exact Ext.drew hE | exact Ext.drewN hE _) (by kernel_rfl) (by kernel_rfl) ?_
          simp only [List.take_succ_cons, List.take_zero, List.drop_succ_cons, List.drop_zero]
          repeat (go_big_quiet_step ((first | (go_at_call 63; with_reducible exact past_ext (HSU.out _)) | (go_at_call 65; exact past_ext (whole_any _ _)) | (go_at_call 64; with_reducible exact past_ext (HDI.out _)) | (go_at_call 62; with_reducible exact past_ext (HTO.out _)))))
          refine wpQuiet_nil ?_
          intro w8 hw'
          obtain ⟨⟨_, hE⟩, hw''⟩ := hw'
          subst hw''
          clear qP0 qP1 qQ0 qQ1 qE0
          have e0 := Rc0 _ hE
          have e1 := Rc1 _ hE
          have g0 := Rf0 _ hE
          have g1 := Rf1 _ hE
          have HEF := Lib.hid ((hb0.trans HER7.out).trans hE)
          have hs8 := lt_of_cell e0
          have hs9 := HEF.out.size
          clear Rc0 Rc1 Rf0 Rf1 Pc0 Pc1 Qc0 Qc1 Ec0 HSU HDI HTO HER7 hE
          go_wp2
          refine bodyPost_ret (v := .tuple #[.agg #[.int .i64 res1, .int .i64 res2], .bool res3]) (by simp [results, Tryz.results34, go_sem, *]) rfl ⟨HQ.out, ?_⟩
          have hE := HEF.out
          exact (by repeat (first | exact Ext.refl _ | assumption | apply Ext.alloc | apply Ext.drew | apply Ext.drewN | (refine Ext.trans ?_ (by assumption)) | (refine Ext.setCell ?_ (by (try simp) <;> omega) _)))
    · have h2b : ((sidesAt zs [i, k]).length : Int) ≠ 2 := by omega
      have hv : slOk zs i k = false := by unfold slOk twoB; rw [decide_eq_false h2, Bool.false_and]
      rw [hv]
      simp only [Bool.and_false, gI, Bool.false_eq_true, if_false]
      clear hv h2
      go_enter Tryz.func34, Tryz.ntmps34
      go_wp2_with fail
      refine (subdivided_yes _ _ _ zs hn hp _ HH.out).mono ?_
      rintro e w1 ⟨g, rfl, hs, hb1⟩
      have HD1 := Lib.hid hs
      have HB1 := Lib.hid hb1
      clear hs hb1 HH
      go_wp2_with fail
      refine (cellsAt_any _ g a _ n c 2 zs i k hi hk _ (HD1.out.ext ((Ext.refl w1).alloc _)) (HRD2.out w1)).mono ?_
      rintro e w2 ⟨a2, c2, rfl, _, hb2⟩
      have hR := (HB1.out.alloc (.cells #[.int .i64 i, .int .i64 k] 3)).trans hb2
      have e0 := Rc0 _ hR
      have e1 := Rc1 _ hR
      have g0 := Rf0 _ hR
      have g1 := Rf1 _ hR
      have HEF := Lib.hid (hb0.trans hR)
      have hszR := HEF.out.size
      have hszL := lt_of_cell e0
      clear Rc0 Rc1 Rf0 Rf1 hR
      clear hb2
      generalize (sidesAt zs [i, k]).length = m at *
      have h2c : ((m : Int) != 2) = true := by simp; omega
      go_wp2
      refine bodyPost_ret (v := .tuple #[.agg #[.int .i64 0, .int .i64 0], .bool false]) (by simp [results, Tryz.results34, go_sem, *]) rfl ⟨rfl, ?_⟩
      have hE := HEF.out
      exact (by repeat (first | exact Ext.refl _ | assumption | apply Ext.alloc | apply Ext.drew | apply Ext.drewN | (refine Ext.trans ?_ (by assumption)) | (refine Ext.setCell ?_ (by (try simp) <;> omega) _)))
set_option maxHeartbeats 2000000 in
theorem law_SegmentLength (a : Option Addr) (n c : Nat) (zs : List (Int × Int × Int)) (i : Int) (k : Int) (w : World) (hr : IsTri w a n c zs) (bi : B64 i) (bk : B64 k) :
    Calls Tryz.prog 9 #[.slice a n c, .int .i64 i, .int .i64 k] w fun r w' => r = .returned (.bool true) ∧ Ext w w' := by
  have h := hr.1
  have hc1 := hr.2.1
  have hc2 := hr.2.2.1
  unfold maxLen at hc2
  clear hr
  by_cases hn : n ≤ 1048576
  · obtain ⟨V0, eV0⟩ : ∃ z : Int, z = (gI (planeB zs && slOk zs i k) (lowN (slN zs i k) (slD zs i k * slE zs i k))) := ⟨_, rfl⟩
    obtain ⟨V1, eV1⟩ : ∃ z : Int, z = (gI (planeB zs && slOk zs i k) (lowD (slN zs i k) (slD zs i k * slE zs i k))) := ⟨_, rfl⟩
    obtain ⟨K, eK⟩ : ∃ z : Bool, z = ((planeB zs && slOk zs i k)) := ⟨_, rfl⟩
    have HS := Lib.hid (show ∀ (b : Nat) w, Reads w (some ⟨b, 0, none⟩) 3 n (tv zs) → Calls Tryz.prog 33 #[.slice (some ⟨b, 0, none⟩) n n, .int .i64 i, .int .i64 k] w fun r w' => r = .returned (.tuple #[.agg #[.int .i64 V0, .int .i64 V1], .bool K]) ∧ Ext w w' by rw [eV0, eV1, eK]; intro b w h0; exact spec_SegmentLength_any _ _ _ zs i k (by omega) _ h0)
    have HI := Lib.hid (show ∀ (b : Nat) w, Reads w (some ⟨b, 0, none⟩) 3 n (tv zs) → Calls Tryz.prog 34 #[.slice (some ⟨b, 0, none⟩) n n, .int .i64 i, .int .i64 k] w fun r w' => r = .returned (.tuple #[.agg #[.int .i64 V0, .int .i64 V1], .bool K]) ∧ Ext w w' by rw [eV0, eV1, eK]; intro b w h0; exact impl_SegmentLength_any _ _ _ zs i k (by omega) bi bk _ h0)
    clear eV0 eV1 eK
    go_enter Tryz.func9, Tryz.ntmps9
    go_wp2_with fail
    refine (szTermS_yes _ _ _ _ (by omega) (by omega) _).mono ?_
    rintro e _ ⟨rfl, rfl⟩
    go_wp2_with fail
    refine (toTermS_any _ _ _ zs hn _ h).mono ?_
    rintro e w1 ⟨g1, rfl, ho1, hb1⟩
    have hE : Ext w w := Ext.refl _
    replace hE := Ext.trans hE hb1
    go_wp2_with fail
    refine (HS.out _ _ (own_reads ho1)).mono ?_
    rintro e w2 ⟨rfl, hb2⟩
    replace hE := Ext.trans hE hb2
    have h2 := Reads.alloc (Reads.ext hE h) (.cells #[.int .i64 V0, .int .i64 V1] 35)
    have hW : Ext w w2 := hE
    have hT : Ext w (w2.alloc (.cells #[.int .i64 V0, .int .i64 V1] 35)) := Ext.alloc hE _
    have HB := Has.new w2 #[.int .i64 V0, .int .i64 V1] 35
    have Bc0 := Ext.keeps (HB 0 _ rfl)
    have Bc1 := Ext.keeps (HB 1 _ rfl)
    clear HB
    replace hE : Ext (w2.alloc (.cells #[.int .i64 V0, .int .i64 V1] 35)) (w2.alloc (.cells #[.int .i64 V0, .int .i64 V1] 35)) := Ext.refl _
    have hW2 := Ext.alloc hW (.cells #[.int .i64 V0, .int .i64 V1] 35)
    go_wp2_with fail
    refine (toTermS_any _ _ _ zs hn _ h2).mono ?_
    rintro e w3 ⟨g2, rfl, ho2, hb3⟩
    replace hE := Ext.trans hE hb3
    go_wp2_with fail
    refine (HI.out _ _ (own_reads ho2)).mono ?_
    rintro e w4 ⟨rfl, hb4⟩
    replace hE := Ext.trans hE hb4
    have ho4 := own_ext hb4 ho2
    have h4 := Reads.ext hE h2
    have hW4 := Ext.trans hW2 hE
    have hT : Ext (w2.alloc (.cells #[.int .i64 V0, .int .i64 V1] 35)) (w4.alloc (.cells #[.int .i64 V0, .int .i64 V1] 35)) := Ext.alloc hE _
    replace Bc0 := Ext.rebase hT Bc0
    replace Bc1 := Ext.rebase hT Bc1
    have HC := Has.new w4 #[.int .i64 V0, .int .i64 V1] 35
    have Cc0 := Ext.keeps (HC 0 _ rfl)
    have Cc1 := Ext.keeps (HC 1 _ rfl)
    clear HC
    replace hE : Ext (w4.alloc (.cells #[.int .i64 V0, .int .i64 V1] 35)) (w4.alloc (.cells #[.int .i64 V0, .int .i64 V1] 35)) := Ext.refl _
    go_wp2_with fail
    refine (eqFrac_same _ _ _).mono ?_
    rintro e w5 ⟨rfl, hb5⟩
    replace hE := Ext.trans hE hb5
    have ho5 := own_ext hb5 (own_ext (Ext.alloc (Ext.refl w4) _) ho4)
    have h5 := Reads.ext hb5 (Reads.alloc h4 _)
    have hW5 := Ext.trans (Ext.alloc hW4 _) hb5
    go_wp2_with fail
    refine (toTermS_any _ _ _ zs hn _ h5).mono ?_
    rintro e w6 ⟨g3, rfl, ho3, hb6⟩
    go_wp2_with fail
    refine (eqTermS_same _ _ _ _ _ zs (by omega) _ (Reads.ext hb6 (own_reads ho5)) (own_reads ho3)).mono ?_
    rintro e w7 ⟨rfl, hb7⟩
    go_wp2
    go_ret
    exact ⟨rfl, (hW5.trans hb6).trans hb7⟩
  · go_enter Tryz.func9, Tryz.ntmps9
    go_wp2_with fail
    refine (szTermS_no _ _ _ _ (by omega) (by omega) (by omega) (by omega) _).mono ?_
    rintro e _ ⟨rfl, rfl⟩
    go_wp2
    go_ret
    exact ⟨rfl, Ext.refl _⟩
end Go.Proofs.YtngbdopgdcjdeaaGreat
