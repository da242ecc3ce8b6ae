/-
  AddStars: the law's walk.
-/
import Derived.Test.YtogbfhhioicbmaaAddI
namespace Go.Proofs.Ytogbfhhioicbmaa
open Go.RowKit

theorem adds_len (zs ys : List (Int × Int × Int)) : (gT (starB zs && starB ys && starB (putAll zs ys)) (putAll zs ys)).length ≤ 1048576 := by
  cases h1 : starB zs
  · simp [gT]
  · cases h2 : starB ys
    · simp [gT]
    · obtain ⟨l1, s1, _⟩ := star_rows h1
      obtain ⟨l2, _, _⟩ := star_rows h2
      have := (putAll_spec s1 ys).2.2.2
      exact gT_le (by omega)

set_option maxHeartbeats 2000000 in
set_option maxRecDepth 100000 in
theorem law_AddStars (a0 : Option Addr) (n0 c0 : Nat) (zs : List (Int × Int × Int)) (a1 : Option Addr) (n1 c1 : Nat) (ys : List (Int × Int × Int)) (w : World) (hr0 : IsTri w a0 n0 c0 zs) (hr1 : IsTri w a1 n1 c1 ys) :
    Calls Try.prog 6 #[.slice a0 n0 c0, .slice a1 n1 c1] w fun r w' => r = .returned (.bool true) ∧ Ext w w' := by
  have h0 : Reads w a0 3 n0 (tv zs) := hr0.1
  have hc01 := hr0.2.1
  have hc02 := hr0.2.2.1
  unfold maxLen at hc02
  clear hr0
  have hl0 : zs.length = n0 := by have := h0.1; rw [tv_len] at this; omega
  have h1 : Reads w a1 3 n1 (tv ys) := hr1.1
  have hc11 := hr1.2.1
  have hc12 := hr1.2.2.1
  unfold maxLen at hc12
  clear hr1
  have hl1 : ys.length = n1 := by have := h1.1; rw [tv_len] at this; omega
  by_cases hg0 : n0 ≤ 1048576
  rotate_left
  · go_enter Try.func6, Try.ntmps6
    go_wp2_with fail
    refine (szRayS_no _ _ _ _ (by omega) (by omega) (by omega) (by omega) _).mono ?_
    rintro e _ ⟨rfl, rfl⟩
    go_wp2
    go_ret
    exact ⟨rfl, (by repeat (first | exact Ext.refl _ | assumption | apply Ext.alloc | apply Ext.drew | apply Ext.drewN | (refine Ext.trans ?_ (by assumption)) | (refine Ext.setCell ?_ (by (try simp) <;> omega) _)))⟩
  by_cases hg1 : n1 + n0 ≤ 1048576
  rotate_left
  · go_enter Try.func6, Try.ntmps6
    go_wp2_with fail
    refine (szRayS_yes _ _ _ _ (by omega) (by omega) _).mono ?_
    rintro e _ ⟨rfl, rfl⟩
    go_wp2_with fail
    refine (szRayS_no _ _ _ _ (by omega) (by omega) (by omega) (by omega) _).mono ?_
    rintro e _ ⟨rfl, rfl⟩
    go_wp2
    go_ret
    exact ⟨rfl, (by repeat (first | exact Ext.refl _ | assumption | apply Ext.alloc | apply Ext.drew | apply Ext.drewN | (refine Ext.trans ?_ (by assumption)) | (refine Ext.setCell ?_ (by (try simp) <;> omega) _)))⟩
  have hm0 : n0 ≤ 1048576 := by omega
  have hm1 : n1 ≤ 1048576 := by omega
  obtain ⟨L, eL⟩ : ∃ L : List (Int × Int × Int), L = (gT (starB zs && starB ys && starB (putAll zs ys)) (putAll zs ys)) := ⟨_, rfl⟩
  obtain ⟨ok, eok⟩ : ∃ ok : Bool, ok = (starB zs && starB ys && starB (putAll zs ys)) := ⟨_, rfl⟩
  have hlen : L.length ≤ 1048576 := by rw [eL]; exact adds_len zs ys
  have HS := Lib.hid (show ∀ (b0 b1 : Nat) w,Reads w (some ⟨b0, 0, none⟩) 3 n0 (tv zs) → Reads w (some ⟨b1, 0, none⟩) 3 n1 (tv ys) → Calls Try.prog 28 #[.slice (some ⟨b0, 0, none⟩) n0 n0, .slice (some ⟨b1, 0, none⟩) n1 n1] w (OwnsRaysB w.heap.size L ok w) by rw [eL, eok]; intro b0 b1 w h0 h1; exact spec_AddStars_any _ _ _ _ _ _ zs ys (by omega) (by omega) _ h0 h1)
  have HI := Lib.hid (show ∀ (b0 b1 : Nat) w,Reads w (some ⟨b0, 0, none⟩) 3 n0 (tv zs) → Reads w (some ⟨b1, 0, none⟩) 3 n1 (tv ys) → Calls Try.prog 29 #[.slice (some ⟨b0, 0, none⟩) n0 n0, .slice (some ⟨b1, 0, none⟩) n1 n1] w (OwnsRaysB w.heap.size L ok w) by rw [eL, eok]; intro b0 b1 w h0 h1; exact impl_AddStars_any _ _ _ _ _ _ zs ys (by omega) (by omega) _ h0 h1)
  clear eL eok
  go_enter Try.func6, Try.ntmps6
  go_wp2_with fail
  refine (szRayS_yes _ _ _ _ (by omega) (by omega) _).mono ?_
  rintro e _ ⟨rfl, rfl⟩
  go_wp2_with fail
  refine (szRayS_yes _ _ _ _ (by omega) (by omega) _).mono ?_
  rintro e _ ⟨rfl, rfl⟩
  have hE : Ext w w := (by repeat (first | exact Ext.refl _ | assumption | apply Ext.alloc | apply Ext.drew | apply Ext.drewN | (refine Ext.trans ?_ (by assumption)) | (refine Ext.setCell ?_ (by (try simp) <;> omega) _)))
  go_wp2_with fail
  refine (toRayS_any _ _ _ zs hm0 _ (h0.ext hE)).mono ?_
  rintro e w1 ⟨gs0, rfl, xs0, hb⟩
  have hz1 := hb.size
  replace hE := Ext.trans hE hb
  clear hb
  have xs00 := xs0
  go_wp2_with fail
  refine (toRayS_any _ _ _ ys hm1 _ (h1.ext hE)).mono ?_
  rintro e w2 ⟨gs1, rfl, xs1, hb⟩
  have hz2 := hb.size
  replace hE := Ext.trans hE hb
  replace xs0 := own_ext hb xs0
  clear hb
  have xs10 := xs1
  go_wp2_with fail
  refine (HS.out _ _ _ (own_reads xs0) (own_reads xs1)).mono ?_
  rintro e w3 ⟨sa, sc, rfl, hs, hb⟩
  have hz3 := hb.size
  replace hE := Ext.trans hE hb
  replace xs0 := own_ext hb xs0
  replace xs1 := own_ext hb xs1
  clear hb
  have hs0 := hs
  clear xs0
  clear xs1
  go_wp2_with fail
  refine (toRayS_any _ _ _ zs hm0 _ (h0.ext hE)).mono ?_
  rintro e w4 ⟨gp0, rfl, xp0, hb⟩
  have hz4 := hb.size
  replace hE := Ext.trans hE hb
  replace hs := own_ext hb hs
  clear hb
  have xp00 := xp0
  go_wp2_with fail
  refine (toRayS_any _ _ _ ys hm1 _ (h1.ext hE)).mono ?_
  rintro e w5 ⟨gp1, rfl, xp1, hb⟩
  have hz5 := hb.size
  replace hE := Ext.trans hE hb
  replace hs := own_ext hb hs
  replace xp0 := own_ext hb xp0
  clear hb
  have xp10 := xp1
  go_wp2_with fail
  refine (HI.out _ _ _ (own_reads xp0) (own_reads xp1)).mono ?_
  rintro e w6 ⟨ga, gc, rfl, hg, hb⟩
  have hz6 := hb.size
  replace hE := Ext.trans hE hb
  replace hs := own_ext hb hs
  replace xp0 := own_ext hb xp0
  replace xp1 := own_ext hb xp1
  clear hb
  have hg0 := hg
  go_wp2_with fail
  refine (eqRayS_same _ _ _ _ _ L (by omega) _ (own_reads hg) (own_reads hs)).mono ?_
  rintro e w7 ⟨rfl, hb⟩
  have hz7 := hb.size
  replace hE := Ext.trans hE hb
  replace hs := own_ext hb hs
  replace xp0 := own_ext hb xp0
  replace xp1 := own_ext hb xp1
  replace hg := own_ext hb hg
  clear hb
  go_wp2_with fail
  refine (toRayS_any _ _ _ zs hm0 _ (h0.ext hE)).mono ?_
  rintro e w8 ⟨gq0, rfl, xq0, hb⟩
  have hz8 := hb.size
  replace hE := Ext.trans hE hb
  replace hs := own_ext hb hs
  replace xp0 := own_ext hb xp0
  replace xp1 := own_ext hb xp1
  replace hg := own_ext hb hg
  clear hb
  have xq00 := xq0
  go_wp2_with fail
  refine (eqRayS_same _ _ _ _ _ zs (by omega) _ (own_reads xp0) (own_reads xq0)).mono ?_
  rintro e w9 ⟨rfl, hb⟩
  have hz9 := hb.size
  replace hE := Ext.trans hE hb
  replace hs := own_ext hb hs
  replace xp0 := own_ext hb xp0
  replace xp1 := own_ext hb xp1
  replace hg := own_ext hb hg
  replace xq0 := own_ext hb xq0
  clear hb
  clear xq0
  go_wp2_with fail
  refine (toRayS_any _ _ _ ys hm1 _ (h1.ext hE)).mono ?_
  rintro e w10 ⟨gq1, rfl, xq1, hb⟩
  have hz10 := hb.size
  replace hE := Ext.trans hE hb
  replace hs := own_ext hb hs
  replace xp0 := own_ext hb xp0
  replace xp1 := own_ext hb xp1
  replace hg := own_ext hb hg
  clear hb
  have xq10 := xq1
  go_wp2_with fail
  refine (eqRayS_same _ _ _ _ _ ys (by omega) _ (own_reads xp1) (own_reads xq1)).mono ?_
  rintro e w11 ⟨rfl, hb⟩
  have hz11 := hb.size
  replace hE := Ext.trans hE hb
  replace hs := own_ext hb hs
  replace xp0 := own_ext hb xp0
  replace xp1 := own_ext hb xp1
  replace hg := own_ext hb hg
  replace xq1 := own_ext hb xq1
  clear hb
  clear xq1
  go_wp2_with fail
  refine (markRayS_any _ _ _ _ zs _ (by omega) (by omega) (by omega) _ xp0).mono ?_
  rintro e w12 ⟨rfl, hm, hgr⟩
  have hz12 := hgr.size
  replace hE := Ext.grown hE hgr (fun k hk => by have := (xp00.lt k hk).1; omega)
  replace hs := own_apart hs hgr (fun q hq e => by have h1 := (hs0.lt q hq); have h2 := (xp00.lt q e); omega)
  replace xp1 := own_apart xp1 hgr (fun q hq e => by have h1 := (xp10.lt q hq); have h2 := (xp00.lt q e); omega)
  replace hg := own_apart hg hgr (fun q hq e => by have h1 := (hg0.lt q hq); have h2 := (xp00.lt q e); omega)
  clear hm hgr
  clear xp0
  go_wp2_with fail
  refine (markRayS_any _ _ _ _ ys _ (by omega) (by omega) (by omega) _ xp1).mono ?_
  rintro e w13 ⟨rfl, hm, hgr⟩
  have hz13 := hgr.size
  replace hE := Ext.grown hE hgr (fun k hk => by have := (xp10.lt k hk).1; omega)
  replace hs := own_apart hs hgr (fun q hq e => by have h1 := (hs0.lt q hq); have h2 := (xp10.lt q e); omega)
  replace hg := own_apart hg hgr (fun q hq e => by have h1 := (hg0.lt q hq); have h2 := (xp10.lt q e); omega)
  clear hm hgr
  clear xp1
  go_wp2_with fail
  refine (eqRayS_same _ _ _ _ _ L (by omega) _ (own_reads hg) (own_reads hs)).mono ?_
  rintro e w14 ⟨rfl, hb⟩
  have hz14 := hb.size
  replace hE := Ext.trans hE hb
  replace hs := own_ext hb hs
  replace hg := own_ext hb hg
  clear hb
  go_wp2_with fail
  refine (markRayS_any _ _ _ _ L _ (by omega) (by omega) (by omega) _ hg).mono ?_
  rintro e w15 ⟨rfl, hm, hgr⟩
  have hz15 := hgr.size
  replace hE := Ext.grown hE hgr (fun k hk => by have := (hg0.lt k hk).1; omega)
  replace hs := own_apart hs hgr (fun q hq e => by have h1 := (hs0.lt q hq); have h2 := (hg0.lt q e); omega)
  clear hgr hg
  go_wp2_with fail
  refine (heldRayS_any _ _ _ _ (by omega) (by omega) (by omega) _ (own_reads hm)).mono ?_
  rintro e _ ⟨rfl, rfl⟩
  go_wp2_with fail
  refine (toRayS_any _ _ _ zs hm0 _ (h0.ext hE)).mono ?_
  rintro e w16 ⟨gr0, rfl, xr0, hb⟩
  have hz16 := hb.size
  replace hE := Ext.trans hE hb
  replace hs := own_ext hb hs
  replace hm := own_ext hb hm
  clear hb
  have xr00 := xr0
  go_wp2_with fail
  refine (toRayS_any _ _ _ ys hm1 _ (h1.ext hE)).mono ?_
  rintro e w17 ⟨gr1, rfl, xr1, hb⟩
  have hz17 := hb.size
  replace hE := Ext.trans hE hb
  replace hs := own_ext hb hs
  replace hm := own_ext hb hm
  replace xr0 := own_ext hb xr0
  clear hb
  have xr10 := xr1
  go_wp2_with fail
  refine (HI.out _ _ _ (own_reads xr0) (own_reads xr1)).mono ?_
  rintro e w18 ⟨ha, hc, rfl, hh, hb⟩
  have hz18 := hb.size
  replace hE := Ext.trans hE hb
  replace hs := own_ext hb hs
  replace hm := own_ext hb hm
  replace xr0 := own_ext hb xr0
  replace xr1 := own_ext hb xr1
  clear hb
  clear xr0
  clear xr1
  go_wp2_with fail
  refine (eqRayS_same _ _ _ _ _ L (by omega) _ (own_reads hh) (own_reads hs)).mono ?_
  rintro e w19 ⟨rfl, hb⟩
  have hz19 := hb.size
  replace hE := Ext.trans hE hb
  replace hs := own_ext hb hs
  replace hm := own_ext hb hm
  replace hh := own_ext hb hh
  clear hb
  go_wp2_with fail
  refine (heldRayS_any _ _ _ _ (by omega) (by omega) (by omega) _ (own_reads hm)).mono ?_
  rintro e _ ⟨rfl, rfl⟩
  go_wp2
  go_ret
  exact ⟨rfl, hE⟩

end Go.Proofs.Ytogbfhhioicbmaa
