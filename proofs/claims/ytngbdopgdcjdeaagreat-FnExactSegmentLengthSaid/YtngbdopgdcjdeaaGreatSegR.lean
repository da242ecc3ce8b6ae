/-
  SegmentLength, as the reference makes it.
-/
import Derived.Test.YtngbdopgdcjdeaaGreatSegV
import Derived.BigQuiet
namespace Go.Proofs.YtngbdopgdcjdeaaGreat
open Go.RowKit

set_option maxHeartbeats 8000000 in
set_option maxRecDepth 100000 in
theorem spec_SegmentLength_any (a : Option Addr) (n c : Nat) (zs : List (Int × Int × Int)) (i k : Int) (hn : n ≤ 1048576) (w : World) (h : Reads w a 3 n (tv zs)) :
    Calls Tryz.prog 33 #[.slice a n c, .int .i64 i, .int .i64 k] w fun r w' => r = .returned (.tuple #[.agg #[.int .i64 (gI (planeB zs && slOk zs i k) (lowN (slN zs i k) (slD zs i k * slE zs i k))), .int .i64 (gI (planeB zs && slOk zs i k) (lowD (slN zs i k) (slD zs i k * slE zs i k)))], .bool (planeB zs && slOk zs i k)]) ∧ Ext w w' := by
  have hl : zs.length = n := by have := h.1; rw [tv_len] at this; omega
  have HR := (Has.new w #[.int .i64 0, .int .i64 0] 35)
  have Rc0 := Ext.keeps (HR 0 _ rfl)
  have Rc1 := Ext.keeps (HR 1 _ rfl)
  have Rf0 := Ext.thaws (w := (w.alloc (.cells #[.int .i64 0, .int .i64 0] 35))) (HR 0 _ rfl) (by simp)
  have Rf1 := Ext.thaws (w := (w.alloc (.cells #[.int .i64 0, .int .i64 0] 35))) (HR 1 _ rfl) (by simp)
  clear HR
  have hE : Ext (w.alloc (.cells #[.int .i64 0, .int .i64 0] 35)) (w.alloc (.cells #[.int .i64 0, .int .i64 0] 35)) := Ext.refl _
  have hb0 : Ext w (w.alloc (.cells #[.int .i64 0, .int .i64 0] 35)) := (by repeat (first | exact Ext.refl _ | assumption | apply Ext.alloc | apply Ext.drew | apply Ext.drewN | (refine Ext.trans ?_ (by assumption)) | (refine Ext.setCell ?_ (by (try simp) <;> omega) _)))
  clear hE
  cases hp : planeB zs
  · simp only [Bool.false_and, gI, Bool.false_eq_true, if_false]
    go_enter Tryz.func33, Tryz.ntmps33
    go_wp2_with fail
    refine (plGood_any _ _ _ zs (by omega) _ (Reads.ext hb0 h)).mono ?_
    rw [hp]
    rintro e w1 ⟨rfl, hR⟩
    have e0 := Rc0 _ hR
    have e1 := Rc1 _ hR
    have g0 := Rf0 _ hR
    have g1 := Rf1 _ hR
    have HEF := Lib.hid (hb0.trans hR)
    have hszR := HEF.out.size
    have hszL := lt_of_cell e0
    clear Rc0 Rc1 Rf0 Rf1 hR
    go_wp2
    refine bodyPost_ret (v := .tuple #[.agg #[.int .i64 0, .int .i64 0], .bool false]) (by simp [results, Tryz.results33, go_sem, *]) rfl ⟨rfl, ?_⟩
    have hE := HEF.out
    exact (by repeat (first | exact Ext.refl _ | assumption | apply Ext.alloc | apply Ext.drew | apply Ext.drewN | (refine Ext.trans ?_ (by assumption)) | (refine Ext.setCell ?_ (by (try simp) <;> omega) _)))
  · have HZ := Lib.hid (pz_of hp)
    have hn12 : n ≤ 12 := by rw [← hl]; exact HZ.out.1
    have HH := Lib.hid (Reads.ext hb0 h)
    clear h
    have HRD2 := Lib.hid (fun (w1 : World) => show Reads (w1.alloc (.cells #[.int .i64 i, .int .i64 k] 3)) (some ⟨w1.heap.size, 0, none⟩) 1 2 (iv [i, k]) from two_ints (by simp) (by simp))
    by_cases h2 : (sidesAt zs [i, k]).length = 2
    · obtain ⟨x, y, p, q, rfl, rfl, hxy, hyn, hne, hs2, hpN, hqN, hpair⟩ := two_form HZ.out h2
      have hA : celA zs (x : Int) (y : Int) = (cellsL zs).getD p [] := by unfold celA; rw [hs2]; rfl
      have hC : celZ zs (x : Int) (y : Int) = (cellsL zs).getD q [] := by unfold celZ; rw [hs2]; rfl
      have hv : slOk zs (x : Int) (y : Int) = okM (slN zs x y) (slD zs x y * slE zs x y) := by unfold slOk twoB; rw [decide_eq_true h2, Bool.true_and]
      rw [hv]
      simp only [Bool.true_and]
      clear hv h2
      obtain ⟨A, hAA⟩ : ∃ A, A = (cellsL zs).getD p [] := ⟨_, rfl⟩
      obtain ⟨C, hCC⟩ : ∃ C, C = (cellsL zs).getD q [] := ⟨_, rfl⟩
      rw [← hAA] at hA hpair
      rw [← hCC] at hC
      have HXA := Lib.hid (show IsCell zs A by rw [hAA]; exact cell_at hpN)
      have HXC := Lib.hid (show IsCell zs C by rw [hCC]; exact cell_at hqN)
      have bvA := ver_bd HZ.out HXA.out
      have bvC := ver_bd HZ.out HXC.out
      have lA1 := low_bd bvA.1 bvA.2.2
      have lA2 := low_bd bvA.2.1 bvA.2.2
      have lC1 := low_bd bvC.1 bvC.2.2
      have lC2 := low_bd bvC.2.1 bvC.2.2
      have hexb : -6 ≤ eX zs A x y ∧ eX zs A x y ≤ 6 := sgE_le (dX_le HZ.out (by omega) hyn)
      have heyb : -6 ≤ eY zs A x y ∧ eY zs A x y ≤ 6 := sgE_le (dY_le HZ.out (by omega) hyn)
      have HE1 := Lib.hid (show slE zs (x : Int) (y : Int) = if eX zs A x y ≠ 0 then eX zs A x y else eY zs A x y by unfold slE; rw [hA]; rfl)
      have HN1 := Lib.hid (show slN zs (x : Int) (y : Int) = if eX zs A x y ≠ 0 then difN (lowN (verX zs C) (verD zs C)) (lowD (verX zs C) (verD zs C)) (lowN (verX zs A) (verD zs A)) (lowD (verX zs A) (verD zs A)) else difN (lowN (verY zs C) (verD zs C)) (lowD (verY zs C) (verD zs C)) (lowN (verY zs A) (verD zs A)) (lowD (verY zs A) (verD zs A)) by unfold slN; rw [hA, hC]; rfl)
      have HD1 := Lib.hid (show slD zs (x : Int) (y : Int) = if eX zs A x y ≠ 0 then difD (lowN (verX zs C) (verD zs C)) (lowD (verX zs C) (verD zs C)) (lowN (verX zs A) (verD zs A)) (lowD (verX zs A) (verD zs A)) else difD (lowN (verY zs C) (verD zs C)) (lowD (verY zs C) (verD zs C)) (lowN (verY zs A) (verD zs A)) (lowD (verY zs A) (verD zs A)) by unfold slD; rw [hA, hC]; rfl)
      have HS2 := Lib.hid hs2
      have HPR := Lib.hid hpair
      have HAA := Lib.hid hAA
      have HCC := Lib.hid hCC
      obtain ⟨N, hN⟩ : ∃ N, N = (cellsL zs).length := ⟨_, rfl⟩
      have HN := Lib.hid hN
      have HPN := Lib.hid hpN
      have HQN := Lib.hid hqN
      have hp3 : (p : Int) < (N : Int) := by omega
      have hq3 : (q : Int) < (N : Int) := by omega
      have hN2 := cells_most HZ.out
      rw [← hN] at hN2
      have hN0 : 0 < N := by omega
      clear hA hC hs2 hpair hAA hCC hpN hqN hN bvA bvC
      generalize slN zs (x : Int) (y : Int) = rn at *
      generalize slD zs (x : Int) (y : Int) = rd at *
      generalize slE zs (x : Int) (y : Int) = re at *
      go_enter Tryz.func33, Tryz.ntmps33
      go_wp2_with fail
      refine (plGood_any _ _ _ zs (by omega) _ HH.out).mono ?_
      rw [hp]
      rintro e w1 ⟨rfl, hb1⟩
      have HH1 := Lib.hid (Reads.ext hb1 HH.out)
      have hR1 := hb1.alloc (.cells #[.int .i64 (x : Int), .int .i64 (y : Int)] 3)
      clear hb1
      go_wp2_with fail
      refine (cuAt2 _ _ _ _ _ zs HZ.out _ HS2.out _ (Reads.ext ((Ext.refl w1).alloc _) HH1.out) (HRD2.out w1)).mono ?_
      rintro e w2 ⟨a2, c2, rfl, ho2, hb2⟩
      have hR := hR1.trans hb2
      obtain ⟨ba, rfl, _, hba⟩ := own_head ho2 (by omega)
      have at0 : w2.cell? ⟨ba, 0, none⟩ = some (.int .i64 (p : Int)) := ho2.cellAt 0 (by omega)
      have at1 : w2.cell? ⟨ba, 1, none⟩ = some (.int .i64 (q : Int)) := ho2.cellAt 1 (by omega)
      have Ac0 := Ext.keeps at0
      have Ac1 := Ext.keeps at1
      have HV := Lib.hid (Reads.ext (((Ext.refl w1).alloc (.cells #[.int .i64 (x : Int), .int .i64 (y : Int)] 3)).trans hb2) HH1.out)
      have HER := Lib.hid hR
      have hszR := hR.size
      replace Rc0 := Ext.rebase hR Rc0
      replace Rc1 := Ext.rebase hR Rc1
      replace Rf0 := Ext.rebase hR Rf0
      replace Rf1 := Ext.rebase hR Rf1
      clear hR hR1 hb2 ho2 at0 at1 HH1 HH
      go_wp2
      have hS0 : Ext w2 w2.drew := Ext.drew (Ext.refl _)
      refine wp_region_T (Ext w2) 21 (by kernel_rfl) ?_
      simp only [List.length_cons, List.length_nil, Nat.reduceAdd]
      refine wpAnyT_take (i := 0) (v := .slice a n c) rfl (by kernel_rfl) (by kernel_rfl) (by kernel_rfl) (by kernel_rfl) (fun _ _ _ h => h) (.inl ⟨by rfl, fun _ _ => by
        simp [go_sem]⟩) hS0 ?_
      simp only [Act.put, List.setIfInBounds_toArray, List.set_cons_succ, List.set_cons_zero]
      refine wpAnyT_take (i := 1) (v := .slice a n c) rfl (by kernel_rfl) (by kernel_rfl) (by kernel_rfl) (by kernel_rfl) (fun _ _ _ h => h) (.inl ⟨by rfl, fun _ _ => by
        simp [go_sem]⟩) hS0 ?_
      simp only [Act.put]
      refine wpAnyT_take (i := 3) (v := .slice (some ⟨ba, 0, none⟩) 2 c2) rfl (by kernel_rfl) (by kernel_rfl) (by kernel_rfl) (by kernel_rfl) (fun _ _ _ h => h) (.inl ⟨by rfl, fun _ _ => by
        simp [go_sem]⟩) hS0 ?_
      simp only [Act.put]
      refine wpAnyT_take (i := 4) (v := .pointer (some ⟨ba, 0, none⟩)) rfl (by kernel_rfl) (by kernel_rfl) (by kernel_rfl) (by kernel_rfl) (fun _ _ _ h => h) (.inl ⟨by rfl, fun _ _ => by
        simp [go_sem]⟩) hS0 ?_
      simp only [Act.put]
      refine wpAnyT_take (i := 5) (v := .int .i64 (p : Int)) rfl (by kernel_rfl) (by kernel_rfl) (by kernel_rfl) (by kernel_rfl) (fun _ _ _ h => h) (.inl ⟨by rfl, fun w' hw' => by
        have t0 := Ac0 w' hw'
        simp [go_sem, t0]⟩) hS0 ?_
      simp only [Act.put]
      refine wpAnyT_take (i := 9) (v := .slice a n c) rfl (by kernel_rfl) (by kernel_rfl) (by kernel_rfl) (by kernel_rfl) (fun _ _ _ h => h) (.inl ⟨by rfl, fun _ _ => by
        simp [go_sem]⟩) hS0 ?_
      simp only [Act.put]
      refine wpAnyT_take (i := 10) (v := .slice a n c) rfl (by kernel_rfl) (by kernel_rfl) (by kernel_rfl) (by kernel_rfl) (fun _ _ _ h => h) (.inl ⟨by rfl, fun _ _ => by
        simp [go_sem]⟩) hS0 ?_
      simp only [Act.put]
      refine wpAnyT_take (i := 12) (v := .slice (some ⟨ba, 0, none⟩) 2 c2) rfl (by kernel_rfl) (by kernel_rfl) (by kernel_rfl) (by kernel_rfl) (fun _ _ _ h => h) (.inl ⟨by rfl, fun _ _ => by
        simp [go_sem]⟩) hS0 ?_
      simp only [Act.put]
      refine wpAnyT_take (i := 13) (v := .pointer (some ⟨ba, 1, none⟩)) rfl (by kernel_rfl) (by kernel_rfl) (by kernel_rfl) (by kernel_rfl) (fun _ _ _ h => h) (.inl ⟨by rfl, fun _ _ => by
        simp [go_sem]⟩) hS0 ?_
      simp only [Act.put]
      refine wpAnyT_take (i := 14) (v := .int .i64 (q : Int)) rfl (by kernel_rfl) (by kernel_rfl) (by kernel_rfl) (by kernel_rfl) (fun _ _ _ h => h) (.inl ⟨by rfl, fun w' hw' => by
        have t0 := Ac1 w' hw'
        simp [go_sem, t0]⟩) hS0 ?_
      simp only [Act.put]
      refine floatG (k := 10) (g := 2) (L := #[true, true, true, true, true, true, true, true, true, true, true, true, true, true, true, true, true, true, true, true, false, false]) (T := wpAnyT Tryz.prog .any _ _ (Ext w2) 21 2 _) [2, 6, 7, 8, 11, 15, 16, 17] [(⟨18, 9, fun b => .pointer (some ⟨b, 0, none⟩), .cells #[.int .i64 0, .int .i64 0, .int .i64 0, .int .i64 0] 37⟩, none), (⟨19, 10, fun b => .pointer (some ⟨b, 0, none⟩), .cells #[.int .i64 0, .int .i64 0, .int .i64 0, .int .i64 0] 37⟩, none)] (w := w2.drew) (by kernel_rfl) (by kernel_rfl) (fun a w _ h => h) (by kernel_rfl) (by simp) ?_ hS0 ⟨by simp, by simp⟩ ?_
      · intro p hp
        simp only [List.mem_cons, List.not_mem_nil, or_false] at hp
        rcases hp with rfl | rfl
        · exact ⟨_, rfl, rfl, rfl, fun w => by simp [go_sem]⟩
        · exact ⟨_, rfl, rfl, rfl, fun w => by simp [go_sem]⟩
      · intro ops' R' hO hR'
        have O2 := get_of (i := 2) hO.out rfl
        conv at O2 => rhs; arg 1; whnf
        have O6 := get_of (i := 6) hO.out rfl
        conv at O6 => rhs; arg 1; whnf
        have O7 := get_of (i := 7) hO.out rfl
        conv at O7 => rhs; arg 1; whnf
        have O8 := get_of (i := 8) hO.out rfl
        conv at O8 => rhs; arg 1; whnf
        have O11 := get_of (i := 11) hO.out rfl
        conv at O11 => rhs; arg 1; whnf
        have O15 := get_of (i := 15) hO.out rfl
        conv at O15 => rhs; arg 1; whnf
        have O16 := get_of (i := 16) hO.out rfl
        conv at O16 => rhs; arg 1; whnf
        have O17 := get_of (i := 17) hO.out rfl
        conv at O17 => rhs; arg 1; whnf
        clear hO
        refine chainG_call O2 rfl (fun w' e => by simp [go_sem] <;> exact ⟨rfl, rfl⟩) (fun v5 e5 => ?_)
        refine (ceOf_any _ _ _ zs hn12 (fun m hm => HZ.out.2.1 m (by rw [hl]; exact hm)) v5 (Reads.ext (Ext.trans (Ext.drew (Ext.refl w2)) e5) HV.out)).mono ?_
        rintro e v1a ⟨a1, cc1, us1, rfl, ho, hv, hb⟩
        refine ⟨_, rfl, hb, ?_⟩
        simp only [Act.put, List.setIfInBounds_toArray, List.set_cons_succ, List.set_cons_zero]
        have HE1a := Lib.hid (((Ext.trans (Ext.drew (Ext.refl w2)) e5)).trans hb)
        obtain ⟨ak1, ck1, hvk, hrk⟩ := hv.at p HPN.out
        rw [← HN.out] at ho
        obtain ⟨g1, rfl, _, _⟩ := own_head ho hN0
        have hck1 := (ho.cellAt p (by omega)).trans hvk
        rw [← HAA.out] at hck1 hrk
        have HRK1 := Lib.hid hrk
        clear ho hv hvk hrk hb
        rw [← HN.out]
        refine chainG_read (v := .pointer (some ⟨g1, p, none⟩)) O6 rfl (fun w' e => by
          simp [go_sem, hp3]) ?_
        simp only [Act.put, List.setIfInBounds_toArray, List.set_cons_succ, List.set_cons_zero]
        refine chainG_read (v := .slice ak1 A.length ck1) O7 rfl (fun w' e => by
          have t0 := e.keep hck1
          simp [go_sem, t0]) ?_
        simp only [Act.put, List.setIfInBounds_toArray, List.set_cons_succ, List.set_cons_zero]
        refine chainG_call O8 rfl (fun w' e => by simp [go_sem] <;> exact ⟨rfl, rfl⟩) (fun v5 e5 => ?_)
        refine (cuVertex_any _ _ _ _ _ _ zs HZ.out A HXA.out v5 (Reads.ext (HE1a.out.trans e5) HV.out) (Reads.ext e5 HRK1.out)).mono ?_
        rintro e v1b ⟨rfl, hb⟩
        refine ⟨_, rfl, hb, ?_⟩
        simp only [Act.put, List.setIfInBounds_toArray, List.set_cons_succ, List.set_cons_zero]
        have HE1b := Lib.hid ((HE1a.out.trans e5).trans hb)
        clear hb
        refine chainG_call O11 rfl (fun w' e => by simp [go_sem] <;> exact ⟨rfl, rfl⟩) (fun v5 e5 => ?_)
        refine (ceOf_any _ _ _ zs hn12 (fun m hm => HZ.out.2.1 m (by rw [hl]; exact hm)) v5 (Reads.ext (HE1b.out.trans e5) HV.out)).mono ?_
        rintro e v2a ⟨a2, cc2, us2, rfl, ho, hv, hb⟩
        refine ⟨_, rfl, hb, ?_⟩
        simp only [Act.put, List.setIfInBounds_toArray, List.set_cons_succ, List.set_cons_zero]
        have HE2a := Lib.hid (((HE1b.out.trans e5)).trans hb)
        obtain ⟨ak2, ck2, hvk, hrk⟩ := hv.at q HQN.out
        rw [← HN.out] at ho
        obtain ⟨g2, rfl, _, _⟩ := own_head ho hN0
        have hck2 := (ho.cellAt q (by omega)).trans hvk
        rw [← HCC.out] at hck2 hrk
        have HRK2 := Lib.hid hrk
        clear ho hv hvk hrk hb
        rw [← HN.out]
        refine chainG_read (v := .pointer (some ⟨g2, q, none⟩)) O15 rfl (fun w' e => by
          simp [go_sem, hq3]) ?_
        simp only [Act.put, List.setIfInBounds_toArray, List.set_cons_succ, List.set_cons_zero]
        refine chainG_read (v := .slice ak2 C.length ck2) O16 rfl (fun w' e => by
          have t0 := e.keep hck2
          simp [go_sem, t0]) ?_
        simp only [Act.put, List.setIfInBounds_toArray, List.set_cons_succ, List.set_cons_zero]
        refine chainG_call O17 rfl (fun w' e => by simp [go_sem] <;> exact ⟨rfl, rfl⟩) (fun v5 e5 => ?_)
        refine (cuVertex_any _ _ _ _ _ _ zs HZ.out C HXC.out v5 (Reads.ext (HE2a.out.trans e5) HV.out) (Reads.ext e5 HRK2.out)).mono ?_
        rintro e v2b ⟨rfl, hb⟩
        refine ⟨_, rfl, hb, ?_⟩
        simp only [Act.put, List.setIfInBounds_toArray, List.set_cons_succ, List.set_cons_zero]
        have HE2b := Lib.hid ((HE2a.out.trans e5).trans hb)
        clear hb
        intro w6 e6
        rw [hR'.out]
        clear hR'
        clear O2 O6 O7 O8 O11 O15 O16 O17
        simp only [finF, List.map_cons, List.map_nil]
        intro b1 n1 _ b2 n2 m2 hB
        simp only [List.mem_cons, List.not_mem_nil, or_false] at m2
        simp only [Act.put, List.setIfInBounds_toArray, List.set_cons_succ, List.set_cons_zero]
        have hE6 : Ext w2 w6 := HE2b.out.trans e6
        have h1 := boxed_has hB (b := b1) (cs := #[.int .i64 0, .int .i64 0, .int .i64 0, .int .i64 0]) (t := 37) (by simp)
        have h2 := boxed_has hB (b := b2) (cs := #[.int .i64 0, .int .i64 0, .int .i64 0, .int .i64 0]) (t := 37) (by simp)
        have x0 := h1 0 _ rfl
        have y0 := h2 0 _ rfl
        have fx0 := boxed_thaw hB (b := b1) (o := 0) (cs := #[.int .i64 0, .int .i64 0, .int .i64 0, .int .i64 0]) (t := 37) (by simp)
        have fy0 := boxed_thaw hB (b := b2) (o := 0) (cs := #[.int .i64 0, .int .i64 0, .int .i64 0, .int .i64 0]) (t := 37) (by simp)
        have x1 := h1 1 _ rfl
        have y1 := h2 1 _ rfl
        have fx1 := boxed_thaw hB (b := b1) (o := 1) (cs := #[.int .i64 0, .int .i64 0, .int .i64 0, .int .i64 0]) (t := 37) (by simp)
        have fy1 := boxed_thaw hB (b := b2) (o := 1) (cs := #[.int .i64 0, .int .i64 0, .int .i64 0, .int .i64 0]) (t := 37) (by simp)
        have x2 := h1 2 _ rfl
        have y2 := h2 2 _ rfl
        have fx2 := boxed_thaw hB (b := b1) (o := 2) (cs := #[.int .i64 0, .int .i64 0, .int .i64 0, .int .i64 0]) (t := 37) (by simp)
        have fy2 := boxed_thaw hB (b := b2) (o := 2) (cs := #[.int .i64 0, .int .i64 0, .int .i64 0, .int .i64 0]) (t := 37) (by simp)
        have x3 := h1 3 _ rfl
        have y3 := h2 3 _ rfl
        have fx3 := boxed_thaw hB (b := b1) (o := 3) (cs := #[.int .i64 0, .int .i64 0, .int .i64 0, .int .i64 0]) (t := 37) (by simp)
        have fy3 := boxed_thaw hB (b := b2) (o := 3) (cs := #[.int .i64 0, .int .i64 0, .int .i64 0, .int .i64 0]) (t := 37) (by simp)
        clear h1 h2 hB
        have m3 := Ne.symm m2
        refine wpAnyT_step (i := 20) rfl (by kernel_rfl) (fun K' hK => ?_)
        go_simp
        refine hK.out _ _ (.inr (Ext.setCell (Ext.setCell (Ext.setCell (Ext.setCell (hE6) n1 _) n1 _) n1 _) n1 _)) ?_
        clear hK K'
        refine wpAnyT_step (i := 21) rfl (by kernel_rfl) (fun K' hK => ?_)
        go_simp
        refine hK.out _ _ (.inl rfl) ?_
        clear hK K'
        refine wpAnyT_done (by kernel_rfl) ?_ _
        obtain ⟨w7, hw7⟩ : ∃ w7, w7 = ((((((((w6.setCell ⟨b1, 0, none⟩ (.int .i64 (lowN (verX zs A) (verD zs A)))).setCell ⟨b1, 1, none⟩ (.int .i64 (lowD (verX zs A) (verD zs A)))).setCell ⟨b1, 2, none⟩ (.int .i64 (lowN (verY zs A) (verD zs A)))).setCell ⟨b1, 3, none⟩ (.int .i64 (lowD (verY zs A) (verD zs A)))).setCell ⟨b2, 0, none⟩ (.int .i64 (lowN (verX zs C) (verD zs C)))).setCell ⟨b2, 1, none⟩ (.int .i64 (lowD (verX zs C) (verD zs C)))).setCell ⟨b2, 2, none⟩ (.int .i64 (lowN (verY zs C) (verD zs C)))).setCell ⟨b2, 3, none⟩ (.int .i64 (lowD (verY zs C) (verD zs C)))) := ⟨_, rfl⟩
        have hE7 : Ext w2 w7 := by rw [hw7]; exact (Ext.setCell (Ext.setCell (Ext.setCell (Ext.setCell (Ext.setCell (Ext.setCell (Ext.setCell (Ext.setCell hE6 n1 _) n1 _) n1 _) n1 _) n2 _) n2 _) n2 _) n2 _)
        have X0 : w7.cell? ⟨b1, 0, none⟩ = some (.int .i64 (lowN (verX zs A) (verD zs A))) := by rw [hw7]; simp [go_sem, *]
        have Y0 : w7.cell? ⟨b2, 0, none⟩ = some (.int .i64 (lowN (verX zs C) (verD zs C))) := by rw [hw7]; simp [go_sem, *]
        have X1 : w7.cell? ⟨b1, 1, none⟩ = some (.int .i64 (lowD (verX zs A) (verD zs A))) := by rw [hw7]; simp [go_sem, *]
        have Y1 : w7.cell? ⟨b2, 1, none⟩ = some (.int .i64 (lowD (verX zs C) (verD zs C))) := by rw [hw7]; simp [go_sem, *]
        have X2 : w7.cell? ⟨b1, 2, none⟩ = some (.int .i64 (lowN (verY zs A) (verD zs A))) := by rw [hw7]; simp [go_sem, *]
        have Y2 : w7.cell? ⟨b2, 2, none⟩ = some (.int .i64 (lowN (verY zs C) (verD zs C))) := by rw [hw7]; simp [go_sem, *]
        have X3 : w7.cell? ⟨b1, 3, none⟩ = some (.int .i64 (lowD (verY zs A) (verD zs A))) := by rw [hw7]; simp [go_sem, *]
        have Y3 : w7.cell? ⟨b2, 3, none⟩ = some (.int .i64 (lowD (verY zs C) (verD zs C))) := by rw [hw7]; simp [go_sem, *]
        rw [← hw7]
        clear hw7 x0 y0 fx0 fy0 x1 y1 fx1 fy1 x2 y2 fx2 fy2 x3 y3 fx3 fy3 n1 n2 m2 m3 hE6 e6 HE1a HE1b HE2a HE2b hck1 hck2 HRK1 HRK2 hS0
        have HER7 := Lib.hid (HER.out.trans hE7)
        have HV7 := Lib.hid (Reads.ext hE7 HV.out)
        replace Ac0 := Ext.rebase hE7 Ac0
        replace Ac1 := Ext.rebase hE7 Ac1
        replace Rc0 := Ext.rebase hE7 Rc0
        replace Rc1 := Ext.rebase hE7 Rc1
        replace Rf0 := Ext.rebase hE7 Rf0
        replace Rf1 := Ext.rebase hE7 Rf1
        have X0c0 := Ext.keeps X0
        have X1c0 := Ext.keeps X1
        have X2c0 := Ext.keeps X2
        have X3c0 := Ext.keeps X3
        have Y0c0 := Ext.keeps Y0
        have Y1c0 := Ext.keeps Y1
        have Y2c0 := Ext.keeps Y2
        have Y3c0 := Ext.keeps Y3
        clear hE7 HV HER X0 Y0 X1 Y1 X2 Y2 X3 Y3
        generalize lowN (verX zs A) (verD zs A) = va0 at *
        generalize lowD (verX zs A) (verD zs A) = va1 at *
        generalize lowN (verY zs A) (verD zs A) = va2 at *
        generalize lowD (verY zs A) (verD zs A) = va3 at *
        generalize lowN (verX zs C) (verD zs C) = vc0 at *
        generalize lowD (verX zs C) (verD zs C) = vc1 at *
        generalize lowN (verY zs C) (verD zs C) = vc2 at *
        generalize lowD (verY zs C) (verD zs C) = vc3 at *
        go_wp2
        have hS0 : Ext w7 w7.drew := Ext.drew (Ext.refl _)
        refine wp_region_T (Ext w7) 12 (by kernel_rfl) ?_
        simp only [List.length_cons, List.length_nil, Nat.reduceAdd]
        refine wpAnyT_take (i := 0) (v := .slice a n c) rfl (by kernel_rfl) (by kernel_rfl) (by kernel_rfl) (by kernel_rfl) (fun _ _ _ h => h) (.inl ⟨by rfl, fun _ _ => by
          simp [go_sem]⟩) hS0 ?_
        simp only [Act.put, List.setIfInBounds_toArray, List.set_cons_succ, List.set_cons_zero]
        refine wpAnyT_take (i := 1) (v := .slice a n c) rfl (by kernel_rfl) (by kernel_rfl) (by kernel_rfl) (by kernel_rfl) (fun _ _ _ h => h) (.inl ⟨by rfl, fun _ _ => by
          simp [go_sem]⟩) hS0 ?_
        simp only [Act.put]
        refine wpAnyT_take (i := 3) (v := .slice (some ⟨ba, 0, none⟩) 2 c2) rfl (by kernel_rfl) (by kernel_rfl) (by kernel_rfl) (by kernel_rfl) (fun _ _ _ h => h) (.inl ⟨by rfl, fun _ _ => by
          simp [go_sem]⟩) hS0 ?_
        simp only [Act.put]
        refine wpAnyT_take (i := 4) (v := .pointer (some ⟨ba, 0, none⟩)) rfl (by kernel_rfl) (by kernel_rfl) (by kernel_rfl) (by kernel_rfl) (fun _ _ _ h => h) (.inl ⟨by rfl, fun _ _ => by
          simp [go_sem]⟩) hS0 ?_
        simp only [Act.put]
        refine wpAnyT_take (i := 5) (v := .int .i64 (p : Int)) rfl (by kernel_rfl) (by kernel_rfl) (by kernel_rfl) (by kernel_rfl) (fun _ _ _ h => h) (.inl ⟨by rfl, fun w' hw' => by
          have t0 := Ac0 w' hw'
          simp [go_sem, t0]⟩) hS0 ?_
        simp only [Act.put]
        refine wpAnyT_take (i := 8) (v := .int .i64 (x : Int)) rfl (by kernel_rfl) (by kernel_rfl) (by kernel_rfl) (by kernel_rfl) (fun _ _ _ h => h) (.inl ⟨by rfl, fun _ _ => by
          simp [go_sem]⟩) hS0 ?_
        simp only [Act.put]
        refine wpAnyT_take (i := 9) (v := .int .i64 (y : Int)) rfl (by kernel_rfl) (by kernel_rfl) (by kernel_rfl) (by kernel_rfl) (fun _ _ _ h => h) (.inl ⟨by rfl, fun _ _ => by
          simp [go_sem]⟩) hS0 ?_
        simp only [Act.put]
        refine floatG (k := 4) (g := 2) (L := #[true, true, true, true, true, true, true, true, true, true, true, false, false]) (T := wpAnyT Tryz.prog .any _ _ (Ext w7) 12 2 _) [2, 6, 7] [(⟨10, 56, fun b => .slice (some ⟨b, 0, none⟩) 2 2, .cells #[.int .i64 (x : Int), .int .i64 (y : Int)] 3⟩, none)] (w := w7.drew) (by kernel_rfl) (by kernel_rfl) (fun a w _ h => h) (by kernel_rfl) (by simp) ?_ hS0 ⟨by simp, by simp⟩ ?_
        · intro p hp
          simp only [List.mem_cons, List.not_mem_nil, or_false] at hp
          subst hp
          exact ⟨_, rfl, rfl, rfl, fun w => by simp [go_sem]⟩
        · intro ops' R' hO hR'
          have O2 := get_of (i := 2) hO.out rfl
          conv at O2 => rhs; arg 1; whnf
          have O6 := get_of (i := 6) hO.out rfl
          conv at O6 => rhs; arg 1; whnf
          have O7 := get_of (i := 7) hO.out rfl
          conv at O7 => rhs; arg 1; whnf
          clear hO
          refine chainG_call O2 rfl (fun w' e => by simp [go_sem] <;> exact ⟨rfl, rfl⟩) (fun v5 e5 => ?_)
          refine (ceOf_any _ _ _ zs hn12 (fun m hm => HZ.out.2.1 m (by rw [hl]; exact hm)) v5 (Reads.ext (Ext.trans (Ext.drew (Ext.refl w7)) e5) HV7.out)).mono ?_
          rintro e v3a ⟨a3, cc3, us3, rfl, ho, hv, hb⟩
          refine ⟨_, rfl, hb, ?_⟩
          simp only [Act.put, List.setIfInBounds_toArray, List.set_cons_succ, List.set_cons_zero]
          have HE3a := Lib.hid (Ext.trans (Ext.trans (Ext.drew (Ext.refl w7)) e5) hb)
          obtain ⟨ak3, ck3, hvk, hrk⟩ := hv.at p HPN.out
          rw [← HN.out] at ho
          obtain ⟨g3, rfl, _, _⟩ := own_head ho hN0
          have hck3 := (ho.cellAt p (by omega)).trans hvk
          rw [← HAA.out] at hck3 hrk
          have HRK3 := Lib.hid hrk
          clear ho hv hvk hrk hb
          rw [← HN.out]
          refine chainG_read (v := .pointer (some ⟨g3, p, none⟩)) O6 rfl (fun w' e => by
            simp [go_sem, hp3]) ?_
          simp only [Act.put, List.setIfInBounds_toArray, List.set_cons_succ, List.set_cons_zero]
          refine chainG_read (v := .slice ak3 A.length ck3) O7 rfl (fun w' e => by
            have t0 := e.keep hck3
            simp [go_sem, t0]) ?_
          simp only [Act.put, List.setIfInBounds_toArray, List.set_cons_succ, List.set_cons_zero]
          intro w8 e8
          rw [hR'.out]
          clear hR' O2 O6 O7
          simp only [finF, List.map_cons, List.map_nil]
          intro b3 n3 _ hB
          simp only [Act.put, List.setIfInBounds_toArray, List.set_cons_succ, List.set_cons_zero]
          have HR3 := Lib.hid (show Reads w8 (some ⟨b3, 0, none⟩) 1 2 (iv [(x : Int), (y : Int)]) from by
            have h1 := boxed_has hB (b := b3) (cs := #[.int .i64 (x : Int), .int .i64 (y : Int)]) (t := 3) (by simp)
            exact two_ints (h1 0 _ rfl) (h1 1 _ rfl))
          have HE8 := Lib.hid (HE3a.out.trans e8)
          refine wpAnyT_step (i := 11) rfl (by kernel_rfl) (fun K' hK => ?_)
          go_simp
          refine (cuEnd3 _ _ _ _ _ _ _ _ zs HZ.out A HXA.out x y HPR.out w8 (Reads.ext HE8.out HV7.out) (Reads.ext e8 HRK3.out) HR3.out).mono ?_
          rintro e w9 ⟨a9, c9, rfl, ho9, hb9⟩
          refine hK.out _ _ (.inr (HE8.out.trans hb9)) ?_
          clear hK K'
          refine wpAnyT_step (i := 12) rfl (by kernel_rfl) (fun K' hK => ?_)
          go_simp
          refine hK.out _ _ (.inl rfl) ?_
          clear hK K'
          refine wpAnyT_done (by kernel_rfl) ?_ _
          obtain ⟨be, rfl, _, hbe⟩ := own_head ho9 (by omega)
          have E0 : w9.cell? ⟨be, 0, none⟩ = some (.int .i64 (eX zs A x y)) := ho9.cellAt 0 (by omega)
          have E1 : w9.cell? ⟨be, 1, none⟩ = some (.int .i64 (eY zs A x y)) := ho9.cellAt 1 (by omega)
          have hE9 := HE8.out.trans hb9
          have HER9 := Lib.hid (HER7.out.trans hE9)
          replace Rc0 := Ext.rebase hE9 Rc0
          replace Rc1 := Ext.rebase hE9 Rc1
          replace Rf0 := Ext.rebase hE9 Rf0
          replace Rf1 := Ext.rebase hE9 Rf1
          replace X0c0 := Ext.rebase hE9 X0c0
          replace X1c0 := Ext.rebase hE9 X1c0
          replace X2c0 := Ext.rebase hE9 X2c0
          replace X3c0 := Ext.rebase hE9 X3c0
          replace Y0c0 := Ext.rebase hE9 Y0c0
          replace Y1c0 := Ext.rebase hE9 Y1c0
          replace Y2c0 := Ext.rebase hE9 Y2c0
          replace Y3c0 := Ext.rebase hE9 Y3c0
          clear ho9 hb9 hE9 HE8 HE3a e8 n3 hB HR3 HRK3 hck3 Ac0 Ac1 HV7 HER7 hS0
          have hstep := Lib.hid (fun e => step_ne (x := A) hne e)
          clear hne
          generalize eX zs A x y = ex at *
          generalize eY zs A x y = ey at *
          have hER9 := lt_of_cell (Rc0 _ (Ext.refl w9))
          go_wp2
          go_region
          obtain ⟨fb, hfb⟩ : ∃ b, b = w9.heap.size := ⟨_, rfl⟩
          obtain ⟨w10, hw10⟩ : ∃ u, u = (w9.alloc (.cells #[.int .i64 0, .int .i64 0] 35)).drew := ⟨_, rfl⟩
          have hE10 : Ext w9 w10 := by rw [hw10]; exact Ext.drew ((Ext.refl w9).alloc _)
          have F0 : w10.cell? ⟨fb, 0, none⟩ = some (.int .i64 0) := by rw [hw10, hfb]; simp
          have F1 : w10.cell? ⟨fb, 1, none⟩ = some (.int .i64 0) := by rw [hw10, hfb]; simp
          have FF0 : w10.frozen? ⟨fb, 0, none⟩ = false := by rw [hw10, hfb]; simp
          have FF1 : w10.frozen? ⟨fb, 1, none⟩ = false := by rw [hw10, hfb]; simp
          rw [← hw10, ← hfb]
          have hfl := lt_of_cell F0
          have hfw : w.heap.size < fb := by omega
          have HER10 := Lib.hid (HER9.out.trans hE10)
          replace Rc0 := Ext.rebase hE10 Rc0
          replace Rc1 := Ext.rebase hE10 Rc1
          replace Rf0 := Ext.rebase hE10 Rf0
          replace Rf1 := Ext.rebase hE10 Rf1
          replace X0c0 := Ext.rebase hE10 X0c0
          replace X1c0 := Ext.rebase hE10 X1c0
          replace X2c0 := Ext.rebase hE10 X2c0
          replace X3c0 := Ext.rebase hE10 X3c0
          replace Y0c0 := Ext.rebase hE10 Y0c0
          replace Y1c0 := Ext.rebase hE10 Y1c0
          replace Y2c0 := Ext.rebase hE10 Y2c0
          replace Y3c0 := Ext.rebase hE10 Y3c0
          replace E1 := hE10.keep E1
          clear hw10 hfb E0 hE10 HER9 hER9
          by_cases hex : ex = 0
          · have hx2 : (ex != 0) = false := by simp [hex]
            have hxn : ¬ (ex ≠ 0) := fun e => e hex
            have HRN := Lib.hid (HN1.out.trans (if_neg hxn))
            have HRD := Lib.hid (HD1.out.trans (if_neg hxn))
            have hre := HE1.out.trans (if_neg hxn)
            have hdb := dif_bd lC2.1 lC2.2 lA2.1 lA2.2
            rw [← HRN.out, ← HRD.out] at hdb
            subst hre
            have y0 := Y2c0 _ (Ext.refl w10)
            have y1 := Y3c0 _ (Ext.refl w10)
            have x0 := X2c0 _ (Ext.refl w10)
            have x1 := X3c0 _ (Ext.refl w10)
            clear X0c0 Y0c0 X1c0 Y1c0 X2c0 Y2c0 X3c0 Y3c0 HN1 HD1 HE1 hstep
            go_wp2_with fail
            refine (frSub_ok vc2 vc3 va2 va3 lC2.1 lC2.2 lA2.1 lA2.2 _).mono ?_
            rintro e w11 ⟨rfl, hE11⟩
            rw [← HRN.out, ← HRD.out]
            have G0 := hE11.keep F0
            have G1 := hE11.keep F1
            have GF0 := Ext.thaws F0 FF0 _ hE11
            have GF1 := Ext.thaws F1 FF1 _ hE11
            have r0 := Rc0 _ hE11
            have r1 := Rc1 _ hE11
            have t0 := Rf0 _ hE11
            have t1 := Rf1 _ hE11
            have hfn : fb ≠ w.heap.size := by omega
            have hfn2 := Ne.symm hfn
            clear y0 y1 x0 x1 F0 F1 FF0 FF1 Rc0 Rc1 Rf0 Rf1 E1
            go_wp2
            obtain ⟨w12, hw12⟩ : ∃ u, u = (w11.setCell ⟨fb, 0, none⟩ (.int .i64 rn)).setCell ⟨fb, 1, none⟩ (.int .i64 rd) := ⟨_, rfl⟩
            rw [← hw12]
            have D0 : w12.cell? ⟨fb, 0, none⟩ = some (.int .i64 rn) := by rw [hw12]; simp [go_sem, G0, G1]
            have D1 : w12.cell? ⟨fb, 1, none⟩ = some (.int .i64 rd) := by rw [hw12]; simp [go_sem, G0, G1]
            have e0 : w12.cell? ⟨w.heap.size, 0, none⟩ = some (.int .i64 0) := by rw [hw12]; simp [go_sem, r0, hfn, hfn2]
            have e1 : w12.cell? ⟨w.heap.size, 1, none⟩ = some (.int .i64 0) := by rw [hw12]; simp [go_sem, r1, hfn, hfn2]
            have g0 : w12.frozen? ⟨w.heap.size, 0, none⟩ = false := by rw [hw12]; simp [t0]
            have g1 : w12.frozen? ⟨w.heap.size, 1, none⟩ = false := by rw [hw12]; simp [t1]
            have HE12 := Lib.hid (show Ext w w12 from by rw [hw12]; exact Ext.setCell (Ext.setCell ((hb0.trans HER10.out).trans hE11) (by simp; omega) _) (by simp; omega) _)
            have Dc0 := Ext.keeps D0
            have Dc1 := Ext.keeps D1
            have Sc0 := Ext.keeps e0
            have Sc1 := Ext.keeps e1
            have Sf0 := Ext.thaws e0 g0
            have Sf1 := Ext.thaws e1 g1
            have HFD := Lib.hid (fun s : Past w12 => frDiv_whole rn rd re hdb.1 hdb.2 heyb s.w)
            clear hw12 D0 D1 e0 e1 g0 g1 G0 G1 GF0 GF1 r0 r1 t0 t1 hE11 hfn hfn2 HER10
            have hE : Ext w12 w12 := Ext.refl _
            have qD0 := fun s : Past w12 => Dc0 s.w s.ext
            have qD1 := fun s : Past w12 => Dc1 s.w s.ext
            refine wp_region_past_tail 6 w12 (by first | exact hE | exact Ext.alloc hE _ | exact Ext.drew hE | exact Ext.drewN hE _) (by kernel_rfl) (by kernel_rfl) ?_
            simp only [List.take_succ_cons, List.take_zero, List.drop_succ_cons, List.drop_zero]
            repeat (go_big_quiet_step ((first | (go_at_call 61; exact past_ext (frInt_any _ _)) | (go_at_call 60; with_reducible exact past_ext (HFD.out _)))))
            refine wpQuiet_nil ?_
            intro w13 hw'
            obtain ⟨⟨_, hE⟩, hw''⟩ := hw'
            subst hw''
            clear qD0 qD1
            have e0 := Sc0 _ hE
            have e1 := Sc1 _ hE
            have g0 := Sf0 _ hE
            have g1 := Sf1 _ hE
            have HEF := Lib.hid (HE12.out.trans hE)
            have hs13 := lt_of_cell e0
            clear Sc0 Sc1 Sf0 Sf1 Dc0 Dc1 HFD HE12 hE
            go_wp2
            refine bodyPost_ret (v := .tuple #[.agg #[_, _], .bool _]) (by simp [results, Tryz.results33, go_sem, *]) rfl ⟨rfl, ?_⟩
            have hE := HEF.out
            exact (by repeat (first | exact Ext.refl _ | assumption | apply Ext.alloc | apply Ext.drew | apply Ext.drewN | (refine Ext.trans ?_ (by assumption)) | (refine Ext.setCell ?_ (by (try simp) <;> omega) _)))
          · have hx2 : (ex != 0) = true := by simpa using hex
            have HRN := Lib.hid (HN1.out.trans (if_pos hex))
            have HRD := Lib.hid (HD1.out.trans (if_pos hex))
            have hre := HE1.out.trans (if_pos hex)
            have hdb := dif_bd lC1.1 lC1.2 lA1.1 lA1.2
            rw [← HRN.out, ← HRD.out] at hdb
            subst hre
            have y0 := Y0c0 _ (Ext.refl w10)
            have y1 := Y1c0 _ (Ext.refl w10)
            have x0 := X0c0 _ (Ext.refl w10)
            have x1 := X1c0 _ (Ext.refl w10)
            clear X0c0 Y0c0 X1c0 Y1c0 X2c0 Y2c0 X3c0 Y3c0 HN1 HD1 HE1 hstep
            go_wp2_with fail
            refine (frSub_ok vc0 vc1 va0 va1 lC1.1 lC1.2 lA1.1 lA1.2 _).mono ?_
            rintro e w11 ⟨rfl, hE11⟩
            rw [← HRN.out, ← HRD.out]
            have G0 := hE11.keep F0
            have G1 := hE11.keep F1
            have GF0 := Ext.thaws F0 FF0 _ hE11
            have GF1 := Ext.thaws F1 FF1 _ hE11
            have r0 := Rc0 _ hE11
            have r1 := Rc1 _ hE11
            have t0 := Rf0 _ hE11
            have t1 := Rf1 _ hE11
            have hfn : fb ≠ w.heap.size := by omega
            have hfn2 := Ne.symm hfn
            clear y0 y1 x0 x1 F0 F1 FF0 FF1 Rc0 Rc1 Rf0 Rf1 E1
            go_wp2
            obtain ⟨w12, hw12⟩ : ∃ u, u = (w11.setCell ⟨fb, 0, none⟩ (.int .i64 rn)).setCell ⟨fb, 1, none⟩ (.int .i64 rd) := ⟨_, rfl⟩
            rw [← hw12]
            have D0 : w12.cell? ⟨fb, 0, none⟩ = some (.int .i64 rn) := by rw [hw12]; simp [go_sem, G0, G1]
            have D1 : w12.cell? ⟨fb, 1, none⟩ = some (.int .i64 rd) := by rw [hw12]; simp [go_sem, G0, G1]
            have e0 : w12.cell? ⟨w.heap.size, 0, none⟩ = some (.int .i64 0) := by rw [hw12]; simp [go_sem, r0, hfn, hfn2]
            have e1 : w12.cell? ⟨w.heap.size, 1, none⟩ = some (.int .i64 0) := by rw [hw12]; simp [go_sem, r1, hfn, hfn2]
            have g0 : w12.frozen? ⟨w.heap.size, 0, none⟩ = false := by rw [hw12]; simp [t0]
            have g1 : w12.frozen? ⟨w.heap.size, 1, none⟩ = false := by rw [hw12]; simp [t1]
            have HE12 := Lib.hid (show Ext w w12 from by rw [hw12]; exact Ext.setCell (Ext.setCell ((hb0.trans HER10.out).trans hE11) (by simp; omega) _) (by simp; omega) _)
            have Dc0 := Ext.keeps D0
            have Dc1 := Ext.keeps D1
            have Sc0 := Ext.keeps e0
            have Sc1 := Ext.keeps e1
            have Sf0 := Ext.thaws e0 g0
            have Sf1 := Ext.thaws e1 g1
            have HFD := Lib.hid (fun s : Past w12 => frDiv_whole rn rd re hdb.1 hdb.2 hexb s.w)
            clear hw12 D0 D1 e0 e1 g0 g1 G0 G1 GF0 GF1 r0 r1 t0 t1 hE11 hfn hfn2 HER10
            have hE : Ext w12 w12 := Ext.refl _
            have qD0 := fun s : Past w12 => Dc0 s.w s.ext
            have qD1 := fun s : Past w12 => Dc1 s.w s.ext
            refine wp_region_past_tail 6 w12 (by first | exact hE | exact Ext.alloc hE _ | exact Ext.drew hE | exact Ext.drewN hE _) (by kernel_rfl) (by kernel_rfl) ?_
            simp only [List.take_succ_cons, List.take_zero, List.drop_succ_cons, List.drop_zero]
            repeat (go_big_quiet_step ((first | (go_at_call 61; exact past_ext (frInt_any _ _)) | (go_at_call 60; with_reducible exact past_ext (HFD.out _)))))
            refine wpQuiet_nil ?_
            intro w13 hw'
            obtain ⟨⟨_, hE⟩, hw''⟩ := hw'
            subst hw''
            clear qD0 qD1
            have e0 := Sc0 _ hE
            have e1 := Sc1 _ hE
            have g0 := Sf0 _ hE
            have g1 := Sf1 _ hE
            have HEF := Lib.hid (HE12.out.trans hE)
            have hs13 := lt_of_cell e0
            clear Sc0 Sc1 Sf0 Sf1 Dc0 Dc1 HFD HE12 hE
            go_wp2
            refine bodyPost_ret (v := .tuple #[.agg #[_, _], .bool _]) (by simp [results, Tryz.results33, go_sem, *]) rfl ⟨rfl, ?_⟩
            have hE := HEF.out
            exact (by repeat (first | exact Ext.refl _ | assumption | apply Ext.alloc | apply Ext.drew | apply Ext.drewN | (refine Ext.trans ?_ (by assumption)) | (refine Ext.setCell ?_ (by (try simp) <;> omega) _)))
    · have h2b : ((sidesAt zs [i, k]).length : Int) ≠ 2 := by omega
      have hv : slOk zs i k = false := by unfold slOk twoB; rw [decide_eq_false h2, Bool.false_and]
      rw [hv]
      simp only [Bool.and_false, gI, Bool.false_eq_true, if_false]
      clear hv h2
      go_enter Tryz.func33, Tryz.ntmps33
      go_wp2_with fail
      refine (plGood_any _ _ _ zs (by omega) _ HH.out).mono ?_
      rw [hp]
      rintro e w1 ⟨rfl, hb1⟩
      have HH1 := Lib.hid (Reads.ext hb1 HH.out)
      have hR1 := hb1.alloc (.cells #[.int .i64 i, .int .i64 k] 3)
      clear hb1
      go_wp2_with fail
      refine (cuAt_any _ _ _ _ 2 2 zs HZ.out [i, k] (by omega) _ (Reads.ext ((Ext.refl w1).alloc _) HH1.out) (HRD2.out w1)).mono ?_
      rintro e w2 ⟨a2, c2, rfl, _, hb2⟩
      have hR := hR1.trans hb2
      have e0 := Rc0 _ hR
      have e1 := Rc1 _ hR
      have g0 := Rf0 _ hR
      have g1 := Rf1 _ hR
      have HEF := Lib.hid (hb0.trans hR)
      have hszR := HEF.out.size
      have hszL := lt_of_cell e0
      clear Rc0 Rc1 Rf0 Rf1 hR
      clear hb2 hR1
      generalize (sidesAt zs [i, k]).length = m at *
      have h2c : ((m : Int) != 2) = true := by simp; omega
      go_wp2
      refine bodyPost_ret (v := .tuple #[.agg #[.int .i64 0, .int .i64 0], .bool false]) (by simp [results, Tryz.results33, go_sem, *]) rfl ⟨rfl, ?_⟩
      have hE := HEF.out
      exact (by repeat (first | exact Ext.refl _ | assumption | apply Ext.alloc | apply Ext.drew | apply Ext.drewN | (refine Ext.trans ?_ (by assumption)) | (refine Ext.setCell ?_ (by (try simp) <;> omega) _)))
end Go.Proofs.YtngbdopgdcjdeaaGreat
