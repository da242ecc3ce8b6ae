/-
  CellPolygon: both sides and the law's walk.
-/
import Derived.Test.YtehcjlbkfgfmjaaSubW
import Derived.BigQuiet
import Derived.Deep.RegionHeld3
namespace Go.Proofs.Ytehcjlbkfgfmjaa
open Go.RowKit

def idxB (zs : List (Int × Int × Int)) (i : Int) : Bool := inB i 0 (((cellsL zs).length : Int) - 1)
theorem cellP_len (zs : List (Int × Int × Int)) (i : Int) : (gP (planeB zs && idxB zs i) (hullC zs ((cellsL zs).getD i.toNat []))).length ≤ 1048576 := by
  cases hp : planeB zs
  · simp [gP]
  · cases hi : idxB zs i
    · simp [gP]
    · have hk : i.toNat < (cellsL zs).length := by
        have := inB_true.1 hi
        omega
      have := corn_most (pz_of hp) (cell_at hk)
      exact gP_le (by omega)
set_option maxHeartbeats 1000000 in
theorem impl_CellPolygon_any (a : Option Addr) (n c : Nat) (zs : List (Int × Int × Int)) (i : Int) (hn : n ≤ 1048576) (w : World) (h : Reads w a 3 n (tv zs)) :
    Calls Try.prog 30 #[.slice a n c, .int .i64 i] w (OwnsPtsB w.heap.size (gP (planeB zs && idxB zs i) (hullC zs ((cellsL zs).getD i.toNat []))) (planeB zs && idxB zs i) w) := by
  cases hp : planeB zs
  · simp only [Bool.false_and, gP, Bool.false_eq_true, if_false]
    go_enter Try.func30, Try.ntmps30
    go_wp2_with fail
    refine (subdivided_no _ _ _ zs hn hp _ h).mono ?_
    rintro e w1 ⟨rfl, hb1⟩
    go_wp2
    go_ret2
    exact ⟨none, 0, rfl, own_nonePt _ _, hb1⟩
  · have HZ := Lib.hid (pz_of hp)
    have hN2 := cells_most HZ.out
    obtain ⟨N, hN⟩ : ∃ N, N = (cellsL zs).length := ⟨_, rfl⟩
    rw [← hN] at hN2
    cases hin : idxB zs i
    · simp only [Bool.and_false, gP, Bool.false_eq_true, if_false]
      unfold idxB at hin
      rw [← hN] at hin
      go_enter Try.func30, Try.ntmps30
      go_wp2_with fail
      refine (subdivided_yes _ _ _ zs hn hp _ h).mono ?_
      rintro e w1 ⟨g, rfl, hs, hb1⟩
      obtain ⟨pa, pc, s, e, b, m, B1, ps, qs, h1, h2, h3, h4, h5, h6, h7, h8, h9⟩ := hs
      have hc2 := h1.c2
      have hgl := h1.lt
      obtain ⟨sa, sc, rfl⟩ := h5.form
      have hps : ps.length = N := by rw [hN, ← h6, List.length_map]
      rw [hps] at hc2
      have HE := Lib.hid hb1
      have HIN := Lib.hid hin
      clear h1 h2 h3 h4 h5 h6 h7 h8 h9 hb1 h hps hin hN
      go_wp2_with fail
      refine (within_any _ _ _ _).mono ?_
      rw [HIN.out]
      rintro e _ ⟨rfl, rfl⟩
      go_wp2
      go_ret2
      exact ⟨none, 0, rfl, own_nonePt _ _, HE.out⟩
    · unfold idxB at hin
      rw [← hN] at hin
      have hik := inB_true.1 hin
      obtain ⟨k, rfl⟩ : ∃ k : Nat, i = (k : Int) := ⟨i.toNat, by omega⟩
      simp only [Bool.and_self, gP, if_true, Int.toNat_natCast]
      have hko : k < (cellsL zs).length := by omega
      have hxc := Lib.hid (cell_at hko)
      go_enter Try.func30, Try.ntmps30
      go_wp2_with fail
      refine (subdivided_yes _ _ _ zs hn hp _ h).mono ?_
      rintro e w1 ⟨g, rfl, hs, hb1⟩
      have HSO := Lib.hid hs.of
      obtain ⟨pa, pc, s, e, b, m, B1, ps, qs, h1, h2, h3, h4, h5, h6, h7, h8, h9⟩ := hs
      have hc2 := h1.c2
      have hgl := h1.lt
      obtain ⟨sa, sc, rfl⟩ := h5.form
      have hps : ps.length = N := by rw [hN, ← h6, List.length_map]
      have hva := h5.va
      rw [h6] at hva
      obtain ⟨ak, ck, hvk, hrk⟩ := hva.at k hko
      obtain ⟨gc, rfl, _, hgc2⟩ := own_head h5.1 (by omega)
      have hck := (h5.1.cellAt k (by omega)).trans hvk
      rw [hps] at hc2
      have HRK := Lib.hid hrk
      have HE := Lib.hid hb1
      have HIN := Lib.hid hin
      have hkN : (k : Int) < (N : Int) := by omega
      clear h1 h2 h3 h4 h5 h6 h7 h8 h9 hb1 h hps hin hva hvk hrk hik hN
      generalize (cellsL zs).getD k [] = x at *
      go_wp2_with fail
      refine (within_any _ _ _ _).mono ?_
      rw [HIN.out]
      rintro e _ ⟨rfl, rfl⟩
      go_wp2_with fail
      refine (polygon_any g a ak n c x.length ck zs HZ.out x hxc.out w1 HSO.out HRK.out).mono ?_
      rintro e w2 ⟨a2, c2, rfl, ho2, hE2⟩
      have HO := Lib.hid (own_mono HE.out.size ho2)
      have HE2 := Lib.hid (HE.out.trans hE2)
      clear ho2 hE2
      go_wp2
      go_ret2
      exact ⟨a2, c2, rfl, HO.out, HE2.out⟩
set_option maxHeartbeats 1000000 in
theorem spec_CellPolygon_any (a : Option Addr) (n c : Nat) (zs : List (Int × Int × Int)) (i : Int) (hn : n ≤ 1048576) (w : World) (h : Reads w a 3 n (tv zs)) :
    Calls Try.prog 29 #[.slice a n c, .int .i64 i] w (OwnsPtsB w.heap.size (gP (planeB zs && idxB zs i) (hullC zs ((cellsL zs).getD i.toNat []))) (planeB zs && idxB zs i) w) := by
  have hl : zs.length = n := by have := h.1; rw [tv_len] at this; omega
  cases hp : planeB zs
  · simp only [Bool.false_and, gP, Bool.false_eq_true, if_false]
    go_enter Try.func29, Try.ntmps29
    go_wp2_with fail
    refine (plGood_any _ _ _ zs (by omega) _ h).mono ?_
    rw [hp]
    rintro e w1 ⟨rfl, hb1⟩
    go_wp2
    go_ret2
    exact ⟨none, 0, rfl, own_nonePt _ _, hb1⟩
  · have HZ := Lib.hid (pz_of hp)
    have hN2 := cells_most HZ.out
    have hn12 : n ≤ 12 := by rw [← hl]; exact HZ.out.1
    have HB := Lib.hid (fun m (hm : m < n) => HZ.out.2.1 m (by rw [hl]; exact hm))
    obtain ⟨N, hN⟩ : ∃ N, N = (cellsL zs).length := ⟨_, rfl⟩
    rw [← hN] at hN2
    cases hin : idxB zs i
    · simp only [Bool.and_false, gP, Bool.false_eq_true, if_false]
      unfold idxB at hin
      rw [← hN] at hin
      have HN := Lib.hid hN
      have HIN := Lib.hid hin
      clear hN hin
      go_enter Try.func29, Try.ntmps29
      go_wp2_with fail
      refine (plGood_any _ _ _ zs (by omega) _ h).mono ?_
      rw [hp]
      rintro e w1 ⟨rfl, hb1⟩
      have HH := Lib.hid (h.ext hb1)
      have HE := Lib.hid hb1
      clear h hb1
      go_wp2_with fail
      refine (ceOf_any _ _ _ zs hn12 HB.out w1 HH.out).mono ?_
      rintro e w2 ⟨a2, c2, vs, rfl, ho2, hv2, hE2⟩
      have HE2 := Lib.hid (HE.out.trans hE2)
      clear ho2 hv2 hE2
      rw [← HN.out]
      go_wp2_with fail
      refine (l1In_any _ _ _ _).mono ?_
      rw [HIN.out]
      rintro e _ ⟨rfl, rfl⟩
      go_wp2
      go_ret2
      exact ⟨none, 0, rfl, own_nonePt _ _, HE2.out⟩
    · unfold idxB at hin
      rw [← hN] at hin
      have hik := inB_true.1 hin
      obtain ⟨k, rfl⟩ : ∃ k : Nat, i = (k : Int) := ⟨i.toNat, by omega⟩
      simp only [Bool.and_self, gP, if_true, Int.toNat_natCast]
      have hko : k < (cellsL zs).length := by omega
      have hxc := Lib.hid (cell_at hko)
      have HN := Lib.hid hN
      have HIN := Lib.hid hin
      have HKO := Lib.hid hko
      have hkN : (k : Int) < (N : Int) := by omega
      clear hN hin hik hko
      go_enter Try.func29, Try.ntmps29
      go_wp2_with fail
      refine (plGood_any _ _ _ zs (by omega) _ h).mono ?_
      rw [hp]
      rintro e w1 ⟨rfl, hb1⟩
      have HH := Lib.hid (h.ext hb1)
      have HE := Lib.hid hb1
      clear h hb1
      go_wp2_with fail
      refine (ceOf_any _ _ _ zs hn12 HB.out w1 HH.out).mono ?_
      rintro e w2 ⟨a2, c2, vs, rfl, ho2, hv2, hE2⟩
      have HE2 := Lib.hid (HE.out.trans hE2)
      have HH2 := Lib.hid (Reads.ext hE2 HH.out)
      clear ho2 hv2 hE2
      rw [← HN.out]
      go_wp2_with fail
      refine (l1In_any _ _ _ _).mono ?_
      rw [HIN.out]
      rintro e _ ⟨rfl, rfl⟩
      go_wp2_with fail
      refine (ceOf_any _ _ _ zs hn12 HB.out w2 HH2.out).mono ?_
      rintro e w3 ⟨a3, c3, vs3, rfl, ho3, hv3, hE3⟩
      have HE3 := Lib.hid (HE2.out.trans hE3)
      have HH3 := Lib.hid (Reads.ext hE3 HH2.out)
      obtain ⟨ak, ck, hvk, hrk⟩ := hv3.at k HKO.out
      rw [← HN.out] at ho3 ⊢
      obtain ⟨gc, rfl, _, hgc2⟩ := own_head ho3 (by omega)
      have hck := (ho3.cellAt k (by omega)).trans hvk
      have HRK := Lib.hid hrk
      clear ho3 hv3 hE3 hvk hrk HKO
      generalize (cellsL zs).getD k [] = x at *
      go_wp2_with fail
      refine (cePolygon_any a ak n c x.length ck zs HZ.out x hxc.out w3 HH3.out HRK.out).mono ?_
      rintro e w4 ⟨a4, c4, rfl, ho4, hE4⟩
      have HO := Lib.hid (own_mono HE3.out.size ho4)
      have HE4 := Lib.hid (HE3.out.trans hE4)
      clear ho4 hE4
      go_wp2
      go_ret2
      exact ⟨a4, c4, rfl, HO.out, HE4.out⟩
set_option maxHeartbeats 2000000 in
set_option maxRecDepth 100000 in
theorem law_CellPolygon (a0 : Option Addr) (n0 c0 : Nat) (zs : List (Int × Int × Int)) (i : Int) (w : World) (hr0 : IsTri w a0 n0 c0 zs) :
    Calls Try.prog 7 #[.slice a0 n0 c0, .int .i64 i] w fun r w' => r = .returned (.bool true) ∧ Ext w w' := by
  have h0 : Reads w a0 3 n0 (tv zs) := hr0.1
  have hc01 := hr0.2.1
  have hc02 := hr0.2.2.1
  unfold maxLen at hc02
  clear hr0
  have hl0 : zs.length = n0 := by have := h0.1; rw [tv_len] at this; omega
  by_cases hg0 : n0 ≤ 1048576
  rotate_left
  · go_enter Try.func7, Try.ntmps7
    go_wp2_with fail
    refine (szTermS_no _ _ _ _ (by omega) (by omega) (by omega) (by omega) _).mono ?_
    rintro e _ ⟨rfl, rfl⟩
    go_wp2
    go_ret
    exact ⟨rfl, (by repeat (first | exact Ext.refl _ | assumption | apply Ext.alloc | apply Ext.drew | apply Ext.drewN | (refine Ext.trans ?_ (by assumption)) | (refine Ext.setCell ?_ (by (try simp) <;> omega) _)))⟩
  have hm0 : n0 ≤ 1048576 := by omega
  obtain ⟨L, eL⟩ : ∃ L : List (Int × Int), L = (gP (planeB zs && idxB zs i) (hullC zs ((cellsL zs).getD i.toNat []))) := ⟨_, rfl⟩
  obtain ⟨ok, eok⟩ : ∃ ok : Bool, ok = (planeB zs && idxB zs i) := ⟨_, rfl⟩
  have hlen : L.length ≤ 1048576 := by rw [eL]; exact cellP_len zs i
  have HS := Lib.hid (show ∀ (b0 : Nat) w,Reads w (some ⟨b0, 0, none⟩) 3 n0 (tv zs) → Calls Try.prog 29 #[.slice (some ⟨b0, 0, none⟩) n0 n0, .int .i64 i] w (OwnsPtsB w.heap.size L ok w) by rw [eL, eok]; intro b0 w h0; exact spec_CellPolygon_any _ _ _ zs i (by omega) _ h0)
  have HI := Lib.hid (show ∀ (b0 : Nat) w,Reads w (some ⟨b0, 0, none⟩) 3 n0 (tv zs) → Calls Try.prog 30 #[.slice (some ⟨b0, 0, none⟩) n0 n0, .int .i64 i] w (OwnsPtsB w.heap.size L ok w) by rw [eL, eok]; intro b0 w h0; exact impl_CellPolygon_any _ _ _ zs i (by omega) _ h0)
  clear eL eok
  go_enter Try.func7, Try.ntmps7
  go_wp2_with fail
  refine (szTermS_yes _ _ _ _ (by omega) (by omega) _).mono ?_
  rintro e _ ⟨rfl, rfl⟩
  have hE : Ext w w := (by repeat (first | exact Ext.refl _ | assumption | apply Ext.alloc | apply Ext.drew | apply Ext.drewN | (refine Ext.trans ?_ (by assumption)) | (refine Ext.setCell ?_ (by (try simp) <;> omega) _)))
  go_wp2_with fail
  refine (toTermS_any _ _ _ zs hm0 _ (h0.ext hE)).mono ?_
  rintro e w1 ⟨gs0, rfl, xs0, hb⟩
  have hz1 := hb.size
  replace hE := Ext.trans hE hb
  clear hb
  have xs00 := xs0
  go_wp2_with fail
  refine (HS.out _ _ (own_reads xs0)).mono ?_
  rintro e w2 ⟨sa, sc, rfl, hs, hb⟩
  have hz2 := hb.size
  replace hE := Ext.trans hE hb
  replace xs0 := own_ext hb xs0
  clear hb
  have hs0 := hs
  clear xs0
  go_wp2_with fail
  refine (toTermS_any _ _ _ zs hm0 _ (h0.ext hE)).mono ?_
  rintro e w3 ⟨gp0, rfl, xp0, hb⟩
  have hz3 := hb.size
  replace hE := Ext.trans hE hb
  replace hs := own_ext hb hs
  clear hb
  have xp00 := xp0
  go_wp2_with fail
  refine (HI.out _ _ (own_reads xp0)).mono ?_
  rintro e w4 ⟨ga, gc, rfl, hg, hb⟩
  have hz4 := hb.size
  replace hE := Ext.trans hE hb
  replace hs := own_ext hb hs
  replace xp0 := own_ext hb xp0
  clear hb
  have hg0 := hg
  go_wp2_with fail
  refine (eqPointS_same _ _ _ _ _ L (by omega) _ (own_reads hg) (own_reads hs)).mono ?_
  rintro e w5 ⟨rfl, hb⟩
  have hz5 := hb.size
  replace hE := Ext.trans hE hb
  replace hs := own_ext hb hs
  replace xp0 := own_ext hb xp0
  replace hg := own_ext hb hg
  clear hb
  go_wp2_with fail
  refine (toTermS_any _ _ _ zs hm0 _ (h0.ext hE)).mono ?_
  rintro e w6 ⟨gq0, rfl, xq0, hb⟩
  have hz6 := hb.size
  replace hE := Ext.trans hE hb
  replace hs := own_ext hb hs
  replace xp0 := own_ext hb xp0
  replace hg := own_ext hb hg
  clear hb
  have xq00 := xq0
  go_wp2_with fail
  refine (eqTermS_same _ _ _ _ _ zs (by omega) _ (own_reads xp0) (own_reads xq0)).mono ?_
  rintro e w7 ⟨rfl, hb⟩
  have hz7 := hb.size
  replace hE := Ext.trans hE hb
  replace hs := own_ext hb hs
  replace xp0 := own_ext hb xp0
  replace hg := own_ext hb hg
  replace xq0 := own_ext hb xq0
  clear hb
  clear xq0
  go_wp2_with fail
  refine (markTermS_any _ _ _ _ zs _ (by omega) (by omega) (by omega) _ xp0).mono ?_
  rintro e w8 ⟨rfl, hm, hgr⟩
  have hz8 := hgr.size
  replace hE := Ext.grown hE hgr (fun k hk => by have := (xp00.lt k hk).1; omega)
  replace hs := own_apartQ hs hgr (fun q hq e => by have h1 := (hs0.lt q hq); have h2 := (xp00.lt q e); omega)
  replace hg := own_apartQ hg hgr (fun q hq e => by have h1 := (hg0.lt q hq); have h2 := (xp00.lt q e); omega)
  clear hm hgr
  clear xp0
  go_wp2_with fail
  refine (eqPointS_same _ _ _ _ _ L (by omega) _ (own_reads hg) (own_reads hs)).mono ?_
  rintro e w9 ⟨rfl, hb⟩
  have hz9 := hb.size
  replace hE := Ext.trans hE hb
  replace hs := own_ext hb hs
  replace hg := own_ext hb hg
  clear hb
  go_wp2_with fail
  refine (markPointS_any _ _ _ _ L _ (by omega) (by omega) (by omega) _ hg).mono ?_
  rintro e w10 ⟨rfl, hm, hgr⟩
  have hz10 := hgr.size
  replace hE := Ext.grown hE hgr (fun k hk => by have := (hg0.lt k hk).1; omega)
  replace hs := own_apartQ hs hgr (fun q hq e => by have h1 := (hs0.lt q hq); have h2 := (hg0.lt q e); omega)
  clear hgr hg
  go_wp2_with fail
  refine (heldPointS_any _ _ _ _ (by omega) (by omega) (by omega) _ (own_reads hm)).mono ?_
  rintro e _ ⟨rfl, rfl⟩
  go_wp2_with fail
  refine (toTermS_any _ _ _ zs hm0 _ (h0.ext hE)).mono ?_
  rintro e w11 ⟨gr0, rfl, xr0, hb⟩
  have hz11 := hb.size
  replace hE := Ext.trans hE hb
  replace hs := own_ext hb hs
  replace hm := own_ext hb hm
  clear hb
  have xr00 := xr0
  go_wp2_with fail
  refine (HI.out _ _ (own_reads xr0)).mono ?_
  rintro e w12 ⟨ha, hc, rfl, hh, hb⟩
  have hz12 := hb.size
  replace hE := Ext.trans hE hb
  replace hs := own_ext hb hs
  replace hm := own_ext hb hm
  replace xr0 := own_ext hb xr0
  clear hb
  clear xr0
  go_wp2_with fail
  refine (eqPointS_same _ _ _ _ _ L (by omega) _ (own_reads hh) (own_reads hs)).mono ?_
  rintro e w13 ⟨rfl, hb⟩
  have hz13 := hb.size
  replace hE := Ext.trans hE hb
  replace hs := own_ext hb hs
  replace hm := own_ext hb hm
  replace hh := own_ext hb hh
  clear hb
  go_wp2_with fail
  refine (heldPointS_any _ _ _ _ (by omega) (by omega) (by omega) _ (own_reads hm)).mono ?_
  rintro e _ ⟨rfl, rfl⟩
  go_wp2
  go_ret
  exact ⟨rfl, hE⟩

end Go.Proofs.Ytehcjlbkfgfmjaa
