/-
  DualPolygon: the law's walk.
-/
import Derived.Test.YtaloegjcdllgoaaDualX
namespace Go.Proofs.Ytaloegjcdllgoaa
open Go.RowKit

set_option maxHeartbeats 2000000 in
set_option maxRecDepth 100000 in
theorem law_DualPolygon (a0 : Option Addr) (n0 c0 : Nat) (zs : List (Int × Int × Int)) (w : World) (hr0 : IsTri w a0 n0 c0 zs) :
    Calls Try.prog 4 #[.slice a0 n0 c0] w fun r w' => r = .returned (.bool true) ∧ Ext w w' := by
  have h0 : Reads w a0 3 n0 (tv zs) := hr0.1
  have hc01 := hr0.2.1
  have hc02 := hr0.2.2.1
  unfold maxLen at hc02
  clear hr0
  have hl0 : zs.length = n0 := by have := h0.1; rw [tv_len] at this; omega
  by_cases hg0 : n0 ≤ 1048576
  rotate_left
  · go_enter Try.func4, Try.ntmps4
    go_wp2_with fail
    refine (szRayS_no _ _ _ _ (by omega) (by omega) (by omega) (by omega) _).mono ?_
    rintro e _ ⟨rfl, rfl⟩
    go_wp2
    go_ret
    exact ⟨rfl, (by repeat (first | exact Ext.refl _ | assumption | apply Ext.alloc | apply Ext.drew | apply Ext.drewN | (refine Ext.trans ?_ (by assumption)) | (refine Ext.setCell ?_ (by (try simp) <;> omega) _)))⟩
  have hm0 : n0 ≤ 1048576 := by omega
  obtain ⟨L, eL⟩ : ∃ L : List (Int × Int), L = (gP (dualB zs) (ansD (sidesD zs))) := ⟨_, rfl⟩
  obtain ⟨ok, eok⟩ : ∃ ok : Bool, ok = (dualB zs) := ⟨_, rfl⟩
  have hlen : L.length ≤ 1048576 := by rw [eL]; exact dual_len zs
  have HS := Lib.hid (show ∀ (b0 : Nat) w,Reads w (some ⟨b0, 0, none⟩) 3 n0 (tv zs) → Calls Try.prog 12 #[.slice (some ⟨b0, 0, none⟩) n0 n0] w (OwnsPtsB w.heap.size L ok w) by rw [eL, eok]; intro b0 w h0; exact spec_DualPolygon_any _ _ _ zs (by omega) _ h0)
  have HI := Lib.hid (show ∀ (b0 : Nat) w,Reads w (some ⟨b0, 0, none⟩) 3 n0 (tv zs) → Calls Try.prog 14 #[.slice (some ⟨b0, 0, none⟩) n0 n0] w (OwnsPtsB w.heap.size L ok w) by rw [eL, eok]; intro b0 w h0; exact impl_DualPolygon_any _ _ _ zs (by omega) _ h0)
  clear eL eok
  go_enter Try.func4, Try.ntmps4
  go_wp2_with fail
  refine (szRayS_yes _ _ _ _ (by omega) (by omega) _).mono ?_
  rintro e _ ⟨rfl, rfl⟩
  have hE : Ext w w := (by repeat (first | exact Ext.refl _ | assumption | apply Ext.alloc | apply Ext.drew | apply Ext.drewN | (refine Ext.trans ?_ (by assumption)) | (refine Ext.setCell ?_ (by (try simp) <;> omega) _)))
  go_wp2_with fail
  refine (toRayS_any _ _ _ zs hm0 _ (h0.ext hE)).mono ?_
  rintro e w1 ⟨gs0, rfl, xs0, hb⟩
  have hz1 := hb.size
  replace hE := Ext.trans hE hb
  clear hb
  have xs00 := xs0
  go_wp2_with fail
  refine (HS.out _ _ (own_reads xs0)).mono ?_
  rintro e w2 ⟨sa, sc, rfl, hs, hb⟩
  have hz2 := hb.size
  replace hE := Ext.trans hE hb
  replace xs0 := own_ext hb xs0
  clear hb
  have hs0 := hs
  clear xs0
  go_wp2_with fail
  refine (toRayS_any _ _ _ zs hm0 _ (h0.ext hE)).mono ?_
  rintro e w3 ⟨gp0, rfl, xp0, hb⟩
  have hz3 := hb.size
  replace hE := Ext.trans hE hb
  replace hs := own_ext hb hs
  clear hb
  have xp00 := xp0
  go_wp2_with fail
  refine (HI.out _ _ (own_reads xp0)).mono ?_
  rintro e w4 ⟨ga, gc, rfl, hg, hb⟩
  have hz4 := hb.size
  replace hE := Ext.trans hE hb
  replace hs := own_ext hb hs
  replace xp0 := own_ext hb xp0
  clear hb
  have hg0 := hg
  go_wp2_with fail
  refine (eqPointS_same _ _ _ _ _ L (by omega) _ (own_reads hg) (own_reads hs)).mono ?_
  rintro e w5 ⟨rfl, hb⟩
  have hz5 := hb.size
  replace hE := Ext.trans hE hb
  replace hs := own_ext hb hs
  replace xp0 := own_ext hb xp0
  replace hg := own_ext hb hg
  clear hb
  go_wp2_with fail
  refine (toRayS_any _ _ _ zs hm0 _ (h0.ext hE)).mono ?_
  rintro e w6 ⟨gq0, rfl, xq0, hb⟩
  have hz6 := hb.size
  replace hE := Ext.trans hE hb
  replace hs := own_ext hb hs
  replace xp0 := own_ext hb xp0
  replace hg := own_ext hb hg
  clear hb
  have xq00 := xq0
  go_wp2_with fail
  refine (eqRayS_same _ _ _ _ _ zs (by omega) _ (own_reads xp0) (own_reads xq0)).mono ?_
  rintro e w7 ⟨rfl, hb⟩
  have hz7 := hb.size
  replace hE := Ext.trans hE hb
  replace hs := own_ext hb hs
  replace xp0 := own_ext hb xp0
  replace hg := own_ext hb hg
  replace xq0 := own_ext hb xq0
  clear hb
  clear xq0
  go_wp2_with fail
  refine (markRayS_any _ _ _ _ zs _ (by omega) (by omega) (by omega) _ xp0).mono ?_
  rintro e w8 ⟨rfl, hm, hgr⟩
  have hz8 := hgr.size
  replace hE := Ext.grown hE hgr (fun k hk => by have := (xp00.lt k hk).1; omega)
  replace hs := own_apartQ hs hgr (fun q hq e => by have h1 := (hs0.lt q hq); have h2 := (xp00.lt q e); omega)
  replace hg := own_apartQ hg hgr (fun q hq e => by have h1 := (hg0.lt q hq); have h2 := (xp00.lt q e); omega)
  clear hm hgr
  clear xp0
  go_wp2_with fail
  refine (eqPointS_same _ _ _ _ _ L (by omega) _ (own_reads hg) (own_reads hs)).mono ?_
  rintro e w9 ⟨rfl, hb⟩
  have hz9 := hb.size
  replace hE := Ext.trans hE hb
  replace hs := own_ext hb hs
  replace hg := own_ext hb hg
  clear hb
  go_wp2_with fail
  refine (markPointS_any _ _ _ _ L _ (by omega) (by omega) (by omega) _ hg).mono ?_
  rintro e w10 ⟨rfl, hm, hgr⟩
  have hz10 := hgr.size
  replace hE := Ext.grown hE hgr (fun k hk => by have := (hg0.lt k hk).1; omega)
  replace hs := own_apartQ hs hgr (fun q hq e => by have h1 := (hs0.lt q hq); have h2 := (hg0.lt q e); omega)
  clear hgr hg
  go_wp2_with fail
  refine (heldPointS_any _ _ _ _ (by omega) (by omega) (by omega) _ (own_reads hm)).mono ?_
  rintro e _ ⟨rfl, rfl⟩
  go_wp2_with fail
  refine (toRayS_any _ _ _ zs hm0 _ (h0.ext hE)).mono ?_
  rintro e w11 ⟨gr0, rfl, xr0, hb⟩
  have hz11 := hb.size
  replace hE := Ext.trans hE hb
  replace hs := own_ext hb hs
  replace hm := own_ext hb hm
  clear hb
  have xr00 := xr0
  go_wp2_with fail
  refine (HI.out _ _ (own_reads xr0)).mono ?_
  rintro e w12 ⟨ha, hc, rfl, hh, hb⟩
  have hz12 := hb.size
  replace hE := Ext.trans hE hb
  replace hs := own_ext hb hs
  replace hm := own_ext hb hm
  replace xr0 := own_ext hb xr0
  clear hb
  clear xr0
  go_wp2_with fail
  refine (eqPointS_same _ _ _ _ _ L (by omega) _ (own_reads hh) (own_reads hs)).mono ?_
  rintro e w13 ⟨rfl, hb⟩
  have hz13 := hb.size
  replace hE := Ext.trans hE hb
  replace hs := own_ext hb hs
  replace hm := own_ext hb hm
  replace hh := own_ext hb hh
  clear hb
  go_wp2_with fail
  refine (heldPointS_any _ _ _ _ (by omega) (by omega) (by omega) _ (own_reads hm)).mono ?_
  rintro e _ ⟨rfl, rfl⟩
  go_wp2
  go_ret
  exact ⟨rfl, hE⟩

end Go.Proofs.Ytaloegjcdllgoaa
