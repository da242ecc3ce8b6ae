/-
  CurveText: both sides, the law's walk.
-/
import Derived.Test.YtngbdopgdcjdeaaGreatDoorCurP
import Derived.Test.YtngbdopgdcjdeaaGreatDoorBa4
import Derived.BigQuiet
namespace Go.Proofs.YtngbdopgdcjdeaaGreatDoor
open Go.RowKit

theorem vers_ok {zs : List (Int × Int × Int)} (hZ : PZ zs) : ∀ k, k < (versL zs).length → IsSp (qat (versL zs) k) := by
  intro k hk
  have hk2 : k < (cellsL zs).length := by unfold versL at hk; rwa [List.length_map] at hk
  have e : qat (versL zs) k = verQ zs ((cellsL zs).getD k []) := by
    unfold versL
    simp [qat, List.getD, hk2]
  rw [e]
  have b := ver_bd hZ (cell_at hk2)
  have h1 := low_bd b.1 b.2.2
  have h2 := low_bd b.2.1 b.2.2
  exact ⟨by show -1000000000 ≤ lowN _ _ ∧ lowN _ _ ≤ 1000000000; omega, by show 1 ≤ lowD _ _ ∧ lowD _ _ ≤ 1000000000; omega, by show -1000000000 ≤ lowN _ _ ∧ lowN _ _ ≤ 1000000000; omega, by show 1 ≤ lowD _ _ ∧ lowD _ _ ≤ 1000000000; omega⟩
set_option maxHeartbeats 4000000 in
set_option maxRecDepth 100000 in
theorem impl_CurveText_any (a : Option Addr) (n c : Nat) (zs : List (Int × Int × Int)) (hn : n ≤ 1048576) (w : World) (h : Reads w a 3 n (tv zs)) (ht : Tab w) :
    Calls Tryz.prog 7 #[.slice a n c] w fun r w' => r = .returned (.tuple #[.string (gS (planeB zs) (spotsT (versL zs))), .bool (planeB zs)]) ∧ Ext w w' := by
  cases hp : planeB zs
  · simp only [gS, Bool.false_eq_true, if_false]
    go_enter Tryz.func7, Tryz.ntmps7
    go_wp2_with fail
    refine (subdivided_no _ _ _ zs hn hp _ h).mono ?_
    rintro e w1 ⟨rfl, hb1⟩
    go_wp2
    go_ret2
    exact ⟨rfl, hb1⟩
  · simp only [gS, if_true]
    have HZ := Lib.hid (pz_of hp)
    have hN2 := cells_most HZ.out
    have HT := Lib.hid ht
    have HOKS := Lib.hid (vers_ok HZ.out)
    have hvl : (versL zs).length ≤ 2000 := by unfold versL; rw [List.length_map]; exact hN2
    obtain ⟨L, hL⟩ : ∃ L, L = versL zs := ⟨_, rfl⟩
    rw [← hL] at HOKS hvl ⊢
    have HL := Lib.hid hL
    have HSZ := Lib.hid (spotsT_size HOKS.out)
    clear hL hN2 ht
    go_enter Tryz.func7, Tryz.ntmps7
    go_wp2_with fail
    refine (subdivided_yes _ _ _ zs hn hp _ h).mono ?_
    rintro e w1 ⟨g, rfl, hs, hb1⟩
    have HD := Lib.hid hs
    have HE := Lib.hid hb1
    clear hs hb1 h
    go_wp2_with fail
    refine (vertices_any _ g a n c zs HZ.out w1 HD.out).mono ?_
    rintro e w2 ⟨a2, c2, rfl, ho2, hE2⟩
    rw [← HL.out] at ho2 ⊢
    have HO2 := Lib.hid ho2
    have HE2 := Lib.hid (HE.out.trans hE2)
    clear ho2 hE2
    go_wp2
    go_loopw [6, 19] (fun s t wr => ∃ k : Nat, k ≤ L.length ∧ t = .int .i64 k ∧ s = .string (spotsT (L.take k)) ∧ Ext w2 wr) (fun _ t _ => L.length - (intOf t).toNat)
    case atStart => exact ⟨0, Nat.zero_le _, rfl, rfl, Ext.refl _⟩
    case round =>
      obtain ⟨k, hk, rfl, rfl, hE⟩ := hrel
      by_cases hlt : k < L.length
      · obtain ⟨b, off, rfl, p0, p1, p2, p3⟩ := (Reads.ext hE (own_reads HO2.out)).quad hlt
        have HS := Lib.hid (spotsT_succ hlt)
        have hsz := HSZ.out k hk
        obtain ⟨hs1, hs2, hs3, hs4⟩ := HOKS.out k hlt
        generalize qat L k = r at *
        obtain ⟨x, y, z, u⟩ := r
        simp only at hs1 hs2 hs3 hs4 p0 p1 p2 p3
        generalize spotsT (L.take k) = T at *
        have HEr := Lib.hid hE
        clear hE
        go_wp2
        obtain ⟨V, hV0⟩ : ∃ V, V = wr.alloc (.cells #[.int .i64 x, .int .i64 y, .int .i64 z, .int .i64 u] 37) := ⟨_, rfl⟩
        have HEV := Lib.hid (show Ext w2 V by rw [hV0]; exact Ext.alloc HEr.out _)
        have Rc0 := Ext.keeps (w := V) (b := wr.heap.size) (o := 0) (v := .int .i64 x) (by rw [hV0]; simp)
        have Rc1 := Ext.keeps (w := V) (b := wr.heap.size) (o := 1) (v := .int .i64 y) (by rw [hV0]; simp)
        have Rc2 := Ext.keeps (w := V) (b := wr.heap.size) (o := 2) (v := .int .i64 z) (by rw [hV0]; simp)
        have Rc3 := Ext.keeps (w := V) (b := wr.heap.size) (o := 3) (v := .int .i64 u) (by rw [hV0]; simp)
        rw [← hV0]
        have HF1 := Lib.hid (fun w' (e : Ext V w') => fracText_any x y hs1 hs2 w' (HT.out.ext ((HE2.out.trans HEV.out).trans e)))
        have HF2 := Lib.hid (fun w' (e : Ext V w') => fracText_any z u hs3 hs4 w' (HT.out.ext ((HE2.out.trans HEV.out).trans e)))
        have l1 := fracT_size hs1 hs2
        have l2 := fracT_size hs3 hs4
        have qR0 := fun s : Past V => Rc0 s.w s.ext
        have qR1 := fun s : Past V => Rc1 s.w s.ext
        have qR2 := fun s : Past V => Rc2 s.w s.ext
        have qR3 := fun s : Past V => Rc3 s.w s.ext
        clear hV0 p0 p1 p2 p3 hs1 hs2 hs3 hs4
        refine wp_region_past V (Ext.refl _) (by kernel_rfl) (by kernel_rfl) ?_
        repeat (go_big_quiet_step ((first | (go_at_call 16; (with_reducible exact past_ext (HF1.out _ (Past.ext _)))) | (go_at_call 16; (with_reducible exact past_ext (HF2.out _ (Past.ext _)))))))
        refine wpQuiet_nil ?_
        intro w5 hw'
        obtain ⟨⟨_, hE⟩, hw''⟩ := hw'
        subst hw''
        clear qR0 qR1 qR2 qR3
        go_wp2
        go_roundw
        case rel => exact ⟨k + 1, by omega, by go_num, by rw [HS.out]; rfl, HEV.out.trans hE⟩
        case measure => simp [intOf]; omega
      · obtain rfl : k = L.length := by omega
        rw [List.take_length]
        have HEF := Lib.hid (HE2.out.trans hE)
        clear hE
        go_wp2
        go_ret2
        exact ⟨rfl, HEF.out⟩
set_option maxHeartbeats 4000000 in
set_option maxRecDepth 100000 in
theorem spec_CurveText_any (a : Option Addr) (n c : Nat) (zs : List (Int × Int × Int)) (hn : n ≤ 1048576) (w : World) (h : Reads w a 3 n (tv zs)) :
    Calls Tryz.prog 5 #[.slice a n c] w fun r w' => r = .returned (.tuple #[.string (gS (planeB zs) (spotsT (versL zs))), .bool (planeB zs)]) ∧ Ext w w' := by
  have hl : zs.length = n := by have := h.1; rw [tv_len] at this; omega
  cases hp : planeB zs
  · simp only [gS, Bool.false_eq_true, if_false]
    go_enter Tryz.func5, Tryz.ntmps5
    go_wp2_with fail
    refine (plGood_any _ _ _ zs (by omega) _ h).mono ?_
    rw [hp]
    rintro e w1 ⟨rfl, hb1⟩
    go_wp2
    go_ret2
    exact ⟨rfl, hb1⟩
  · simp only [gS, if_true]
    have HZ := Lib.hid (pz_of hp)
    have hN2 := cells_most HZ.out
    have hn12 : n ≤ 12 := by rw [← hl]; exact HZ.out.1
    have HB := Lib.hid (fun m (hm : m < n) => HZ.out.2.1 m (by rw [hl]; exact hm))
    have HOKS := Lib.hid (vers_ok HZ.out)
    obtain ⟨N, hN⟩ : ∃ N, N = (cellsL zs).length := ⟨_, rfl⟩
    have hvl : (versL zs).length = N := by unfold versL; rw [List.length_map, hN]
    have HVA := Lib.hid (fun k (hk : k < N) => show qat (versL zs) k = verQ zs ((cellsL zs).getD k []) by
      unfold versL
      simp [qat, List.getD, show k < (cellsL zs).length by rw [← hN]; exact hk])
    rw [← hN] at hN2
    obtain ⟨L, hL⟩ : ∃ L, L = versL zs := ⟨_, rfl⟩
    rw [← hL] at HOKS hvl HVA ⊢
    have HSZ := Lib.hid (spotsT_size HOKS.out)
    have HN := Lib.hid hN
    have HVL := Lib.hid hvl
    clear hL hN
    go_enter Tryz.func5, Tryz.ntmps5
    go_wp2_with fail
    refine (plGood_any _ _ _ zs (by omega) _ h).mono ?_
    rw [hp]
    rintro e w1 ⟨rfl, hb1⟩
    have HH := Lib.hid (h.ext hb1)
    have HE := Lib.hid hb1
    clear h hb1
    go_wp2_with fail
    refine (ceOf_any _ _ _ zs hn12 HB.out w1 HH.out).mono ?_
    rintro e w2 ⟨a2, c2, us, rfl, ho2, hv2, hE2⟩
    rw [← HN.out] at ho2 ⊢
    have HO2 := Lib.hid ho2
    have HV2 := Lib.hid hv2
    have HH2 := Lib.hid (Reads.ext hE2 HH.out)
    have HE2 := Lib.hid (HE.out.trans hE2)
    clear ho2 hv2 hE2 hvl
    go_wp2
    go_loopw [4, 14] (fun s t wr => ∃ k : Nat, k ≤ N ∧ t = .int .i64 k ∧ s = .string (spotsT (L.take k)) ∧ Ext w2 wr) (fun _ t _ => N - (intOf t).toNat)
    case atStart => exact ⟨0, Nat.zero_le _, rfl, rfl, Ext.refl _⟩
    case round =>
      obtain ⟨k, hk, rfl, rfl, hE⟩ := hrel
      by_cases hlt : k < N
      · have hko : k < (cellsL zs).length := by rw [← HN.out]; exact hlt
        have hkL : k < L.length := by rw [HVL.out]; exact hlt
        have HX := Lib.hid (cell_at hko)
        obtain ⟨ak, ck, hvk, hrk⟩ := VA.at k (HV2.out.ext hE) hko
        obtain ⟨gc, rfl, _, hgc2⟩ := own_head HO2.out (by omega)
        have hck : wr.cell? ⟨gc, k, none⟩ = some (.slice ak ((cellsL zs).getD k []).length ck) := ((own_ext hE HO2.out).cellAt k (by omega)).trans hvk
        have HRK := Lib.hid hrk
        have HRr := Lib.hid (Reads.ext hE HH2.out)
        have HS := Lib.hid (spotsT_succ hkL)
        have hsz := HSZ.out k (by omega)
        obtain ⟨hs1, hs2, hs3, hs4⟩ := HOKS.out k hkL
        have hq := HVA.out k hlt
        rw [hq] at hs1 hs2 hs3 hs4
        have HS2 := Lib.hid (HS.out.trans (by rw [hq]))
        have HEr := Lib.hid hE
        clear hE hko hkL hvk hrk HS hq
        generalize spotsT (L.take k) = T at *
        generalize (cellsL zs).getD k [] = c0 at *
        go_wp2_with fail
        refine (cuVertex_any _ _ _ _ _ _ zs HZ.out c0 HX.out wr HRr.out HRK.out).mono ?_
        rintro e w3 ⟨rfl, hb⟩
        have HE3 := Lib.hid (HEr.out.trans hb)
        clear hb hck HRr
        have HS3 := Lib.hid (show spotsT (L.take (k + 1)) = T ++ spotT (lowN (verX zs c0) (verD zs c0), lowD (verX zs c0) (verD zs c0), lowN (verY zs c0) (verD zs c0), lowD (verY zs c0) (verD zs c0)) from HS2.out)
        clear HS2
        unfold verQ at hs1 hs2 hs3 hs4
        simp only at hs1 hs2 hs3 hs4
        generalize lowN (verX zs c0) (verD zs c0) = x at *
        generalize lowD (verX zs c0) (verD zs c0) = y at *
        generalize lowN (verY zs c0) (verD zs c0) = z at *
        generalize lowD (verY zs c0) (verD zs c0) = u at *
        obtain ⟨V, hV0⟩ : ∃ V, V = w3.alloc (.cells #[.int .i64 x, .int .i64 y, .int .i64 z, .int .i64 u] 37) := ⟨_, rfl⟩
        have HEV := Lib.hid (show Ext w2 V by rw [hV0]; exact Ext.alloc HE3.out _)
        have Rc0 := Ext.keeps (w := V) (b := w3.heap.size) (o := 0) (v := .int .i64 x) (by rw [hV0]; simp)
        have Rc1 := Ext.keeps (w := V) (b := w3.heap.size) (o := 1) (v := .int .i64 y) (by rw [hV0]; simp)
        have Rc2 := Ext.keeps (w := V) (b := w3.heap.size) (o := 2) (v := .int .i64 z) (by rw [hV0]; simp)
        have Rc3 := Ext.keeps (w := V) (b := w3.heap.size) (o := 3) (v := .int .i64 u) (by rw [hV0]; simp)
        go_wp2
        rw [← hV0]
        have HF1 := Lib.hid (fun w' (e : Ext V w') => frText_any x y hs1 hs2 w')
        have HF2 := Lib.hid (fun w' (e : Ext V w') => frText_any z u hs3 hs4 w')
        have l1 := fracT_size hs1 hs2
        have l2 := fracT_size hs3 hs4
        have qR0 := fun s : Past V => Rc0 s.w s.ext
        have qR1 := fun s : Past V => Rc1 s.w s.ext
        have qR2 := fun s : Past V => Rc2 s.w s.ext
        have qR3 := fun s : Past V => Rc3 s.w s.ext
        clear hV0 hs1 hs2 hs3 hs4
        refine wp_region_past V (Ext.refl _) (by kernel_rfl) (by kernel_rfl) ?_
        repeat (go_big_quiet_step ((first | (go_at_call 12; (with_reducible exact past_ext (HF1.out _ (Past.ext _)))) | (go_at_call 12; (with_reducible exact past_ext (HF2.out _ (Past.ext _)))))))
        refine wpQuiet_nil ?_
        intro w5 hw'
        obtain ⟨⟨_, hE⟩, hw''⟩ := hw'
        subst hw''
        clear qR0 qR1 qR2 qR3
        go_wp2
        go_roundw
        case rel => exact ⟨k + 1, by omega, by go_num, by rw [HS3.out]; rfl, HEV.out.trans hE⟩
        case measure => simp [intOf]; omega
      · obtain rfl : k = N := by omega
        have HLT := Lib.hid (show L.take k = L by rw [← HVL.out, List.take_length])
        rw [HLT.out]
        have HEF := Lib.hid (HE2.out.trans hE)
        clear hE
        go_wp2
        go_ret2
        exact ⟨rfl, HEF.out⟩
set_option maxHeartbeats 2000000 in
set_option maxRecDepth 100000 in
theorem law_CurveText (a0 : Option Addr) (n0 c0 : Nat) (zs : List (Int × Int × Int)) (w : World) (hr0 : IsTri w a0 n0 c0 zs) (ht : Tab w) :
    Calls Tryz.prog 3 #[.slice a0 n0 c0] w fun r w' => r = .returned (.bool true) ∧ Ext w w' := by
  have h0 : Reads w a0 3 n0 (tv zs) := hr0.1
  have hc01 := hr0.2.1
  have hc02 := hr0.2.2.1
  unfold maxLen at hc02
  clear hr0
  have hl0 : zs.length = n0 := by have := h0.1; rw [tv_len] at this; omega
  by_cases hg0 : n0 ≤ 1048576
  rotate_left
  · go_enter Tryz.func3, Tryz.ntmps3
    go_wp2_with fail
    refine (szTermS_no _ _ _ _ (by omega) (by omega) (by omega) (by omega) _).mono ?_
    rintro e _ ⟨rfl, rfl⟩
    go_wp2
    go_ret
    exact ⟨rfl, (by repeat (first | exact Ext.refl _ | assumption | apply Ext.alloc | apply Ext.drew | apply Ext.drewN | (refine Ext.trans ?_ (by assumption)) | (refine Ext.setCell ?_ (by (try simp) <;> omega) _)))⟩
  have hm0 : n0 ≤ 1048576 := by omega
  obtain ⟨T, eT⟩ : ∃ z0 : ByteArray, z0 = (gS (planeB zs) (spotsT (versL zs))) := ⟨_, rfl⟩
  obtain ⟨K, eK⟩ : ∃ z0 : Bool, z0 = (planeB zs) := ⟨_, rfl⟩
  have HS := Lib.hid (show ∀ (b0 : Nat) w,Reads w (some ⟨b0, 0, none⟩) 3 n0 (tv zs) → Calls Tryz.prog 5 #[.slice (some ⟨b0, 0, none⟩) n0 n0] w (fun r w' => r = .returned (.tuple #[.string T, .bool K]) ∧ Ext w w') by rw [eT, eK]; intro b0 w h0; exact spec_CurveText_any _ _ _ zs (by omega) _ h0)
  have HI := Lib.hid (show ∀ (b0 : Nat) v, Ext w v → Reads v (some ⟨b0, 0, none⟩) 3 n0 (tv zs) → Calls Tryz.prog 7 #[.slice (some ⟨b0, 0, none⟩) n0 n0] v (fun r w' => r = .returned (.tuple #[.string T, .bool K]) ∧ Ext v w') by rw [eT, eK]; intro b0 v e h0; exact impl_CurveText_any _ _ _ zs (by omega) _ h0 (ht.ext e))
  clear eT eK
  go_enter Tryz.func3, Tryz.ntmps3
  go_wp2_with fail
  refine (szTermS_yes _ _ _ _ (by omega) (by omega) _).mono ?_
  rintro e _ ⟨rfl, rfl⟩
  have hE : Ext w w := (by repeat (first | exact Ext.refl _ | assumption | apply Ext.alloc | apply Ext.drew | apply Ext.drewN | (refine Ext.trans ?_ (by assumption)) | (refine Ext.setCell ?_ (by (try simp) <;> omega) _)))
  go_wp2_with fail
  refine (toTermS_any _ _ _ zs hm0 _ (h0.ext hE)).mono ?_
  rintro e w1 ⟨gs0, rfl, xs0, hb⟩
  have hz1 := hb.size
  replace hE := Ext.trans hE hb
  clear hb
  have xs00 := xs0
  go_wp2_with fail
  refine (HS.out _ _ (own_reads xs0)).mono ?_
  rintro e w2 ⟨rfl, hb⟩
  have hz2 := hb.size
  replace hE := Ext.trans hE hb
  replace xs0 := own_ext hb xs0
  clear hb
  clear xs0
  go_wp2_with fail
  refine (toTermS_any _ _ _ zs hm0 _ (h0.ext hE)).mono ?_
  rintro e w3 ⟨gp0, rfl, xp0, hb⟩
  have hz3 := hb.size
  replace hE := Ext.trans hE hb
  clear hb
  have xp00 := xp0
  go_wp2_with fail
  refine (HI.out _ _ hE (own_reads xp0)).mono ?_
  rintro e w4 ⟨rfl, hb⟩
  have hz4 := hb.size
  replace hE := Ext.trans hE hb
  replace xp0 := own_ext hb xp0
  clear hb
  go_wp2_with fail
  refine (toTermS_any _ _ _ zs hm0 _ (h0.ext hE)).mono ?_
  rintro e w5 ⟨gq0, rfl, xq0, hb⟩
  have hz5 := hb.size
  replace hE := Ext.trans hE hb
  replace xp0 := own_ext hb xp0
  clear hb
  have xq00 := xq0
  go_wp2_with fail
  refine (eqTermS_same _ _ _ _ _ zs (by omega) _ (own_reads xp0) (own_reads xq0)).mono ?_
  rintro e w6 ⟨rfl, hb⟩
  have hz6 := hb.size
  replace hE := Ext.trans hE hb
  replace xp0 := own_ext hb xp0
  replace xq0 := own_ext hb xq0
  clear hb
  clear xq0
  go_wp2
  go_ret
  exact ⟨rfl, hE⟩

end Go.Proofs.YtngbdopgdcjdeaaGreatDoor
