/-
  LoopsOf: both sides and the law's walk.
-/
import Derived.Test.YtehcjlbkfgfmjaaSubW
import Derived.BigQuiet
import Derived.Deep.RegionHeld3
namespace Go.Proofs.Ytehcjlbkfgfmjaa
open Go.RowKit

/-- The number of bounded regions of the curve. -/
def loopsN (zs : List (Int × Int × Int)) : Int := if (cellsL zs).length = 0 then 0 else ((twiceL zs).length : Int) - ((cellsL zs).length : Int) + 1
theorem loopsN_zero {zs : List (Int × Int × Int)} (h : (cellsL zs).length = 0) : loopsN zs = 0 := by unfold loopsN; rw [if_pos h]
theorem loopsN_more {zs : List (Int × Int × Int)} (h : (cellsL zs).length ≠ 0) : loopsN zs = ((twiceL zs).length : Int) - ((cellsL zs).length : Int) + 1 := by unfold loopsN; rw [if_neg h]
set_option maxHeartbeats 1000000 in
theorem impl_LoopsOf_any (a : Option Addr) (n c : Nat) (zs : List (Int × Int × Int)) (hn : n ≤ 1048576) (w : World) (h : Reads w a 3 n (tv zs)) :
    Calls Try.prog 35 #[.slice a n c] w fun r w' => r = .returned (.tuple #[.int .i64 (gI (planeB zs) (loopsN zs)), .bool (planeB zs)]) ∧ Ext w w' := by
  cases hp : planeB zs
  · go_enter Try.func35, Try.ntmps35
    go_wp2_with fail
    refine (subdivided_no _ _ _ zs hn hp _ h).mono ?_
    rintro e w1 ⟨rfl, hb1⟩
    go_wp2
    go_ret2
    exact ⟨rfl, hb1⟩
  · have HZ := Lib.hid (pz_of hp)
    go_enter Try.func35, Try.ntmps35
    go_wp2_with fail
    refine (subdivided_yes _ _ _ zs hn hp _ h).mono ?_
    rintro e w1 ⟨g, rfl, hs, hb1⟩
    have HD := Lib.hid hs
    obtain ⟨pa, pc, s, e, b, m, B1, ps, qs, h1, h2, h3, h4, h5, h6, h7, h8, h9⟩ := hs
    have hc2 := h1.c2
    have hgl := h1.lt
    obtain ⟨sa, sc, rfl⟩ := h5.form
    have hps : ps.length = (cellsL zs).length := by rw [← h6, List.length_map]
    rw [hps] at hc2
    have hN2 := cells_most HZ.out
    have HL0 := Lib.hid (fun e => loopsN_zero (zs := zs) e)
    have HL1 := Lib.hid (fun e => loopsN_more (zs := zs) e)
    have HE := Lib.hid hb1
    clear h1 h2 h3 h4 h5 h6 h7 h8 h9 hb1 h hps
    generalize (cellsL zs).length = N at *
    by_cases h0 : N = 0
    · have HV := Lib.hid (HL0.out h0)
      clear HL0 HL1
      subst h0
      go_wp2
      go_ret2
      exact ⟨by rw [HV.out] <;> rfl, HE.out⟩
    · have HV := Lib.hid (HL1.out h0)
      have HM := Lib.hid (twice_len2 HZ.out)
      have HTW := Lib.hid (twice_filter HZ.out.2.2)
      clear HL0 HL1
      have h0i : ((N : Int) == 0) = false := by simp; omega
      go_wp2
      go_region_held3 (fun w' => Ext w1 w' ∧ w'.cell? ⟨g, 2, none⟩ = some (.slice sa N sc)) (first | exact HK2.out | exact ⟨(by repeat (first | exact Ext.refl _ | assumption | apply Ext.alloc | apply Ext.drew | apply Ext.drewN | (refine Ext.trans ?_ (by assumption)) | (refine Ext.setCell ?_ (by (try simp) <;> omega) _))), Ext.keep (w := w1) (by repeat (first | exact Ext.refl _ | assumption | apply Ext.alloc | apply Ext.drew | apply Ext.drewN | (refine Ext.trans ?_ (by assumption)) | (refine Ext.setCell ?_ (by (try simp) <;> omega) _))) hc2⟩) (first | (go_at_call 61; refine (chosenEdges_any _ g a n c 2 zs HZ.out _ (HD.out.ext (by repeat (first | exact Ext.refl _ | assumption | apply Ext.alloc | apply Ext.drew | apply Ext.drewN | (refine Ext.trans ?_ (by assumption)) | (refine Ext.setCell ?_ (by (try simp) <;> omega) _))))).mono ?_; rintro e w2 ⟨s2, ts, rfl, ho2, hts, hE2⟩; obtain ⟨ta, tc, rfl⟩ := ho2.form; have HK2 := Lib.hid (show Ext w1 w2 ∧ w2.cell? ⟨g, 2, none⟩ = some (.slice sa N sc) from ⟨Ext.trans (by repeat (first | exact Ext.refl _ | assumption | apply Ext.alloc | apply Ext.drew | apply Ext.drewN | (refine Ext.trans ?_ (by assumption)) | (refine Ext.setCell ?_ (by (try simp) <;> omega) _))) hE2, Ext.keep (w := w1) (Ext.trans (by repeat (first | exact Ext.refl _ | assumption | apply Ext.alloc | apply Ext.drew | apply Ext.drewN | (refine Ext.trans ?_ (by assumption)) | (refine Ext.setCell ?_ (by (try simp) <;> omega) _))) hE2) hc2⟩); have htl : ts.length = (twiceL zs).length := (by rw [HTW.out, ← hts, List.length_map]); clear ho2 hts hE2; have hM := HM.out; rw [← htl] at hM; have HV2 := Lib.hid HV.out; rw [← htl] at HV2; clear htl))
      all_goals
        have hw1 : IntKind.i64.wrap ((ts.length : Int) - (N : Int)) = (ts.length : Int) - N := wrap_i64 (by omega) (by omega)
        have hw2 : IntKind.i64.wrap ((ts.length : Int) - (N : Int) + 1) = (ts.length : Int) - N + 1 := wrap_i64 (by omega) (by omega)
        try rw [hw1, hw2]
        go_wp2
        go_ret2
        exact ⟨by rw [HV2.out] <;> rfl, HE.out.trans HK2.out.1⟩
theorem spec_LoopsOf_any (a : Option Addr) (n c : Nat) (zs : List (Int × Int × Int)) (hn : n ≤ 1048576) (w : World) (h : Reads w a 3 n (tv zs)) :
    Calls Try.prog 34 #[.slice a n c] w fun r w' => r = .returned (.tuple #[.int .i64 (gI (planeB zs) (loopsN zs)), .bool (planeB zs)]) ∧ Ext w w' := by
  have hl : zs.length = n := by have := h.1; rw [tv_len] at this; omega
  cases hp : planeB zs
  · go_enter Try.func34, Try.ntmps34
    go_wp2_with fail
    refine (plGood_any _ _ _ zs (by omega) _ h).mono ?_
    rw [hp]
    rintro e w1 ⟨rfl, hb1⟩
    go_wp2
    go_ret2
    exact ⟨rfl, hb1⟩
  · have HZ := Lib.hid (pz_of hp)
    have hn12 : n ≤ 12 := by rw [← hl]; exact HZ.out.1
    have HB := Lib.hid (fun m (hm : m < n) => HZ.out.2.1 m (by rw [hl]; exact hm))
    go_enter Try.func34, Try.ntmps34
    go_wp2_with fail
    refine (plGood_any _ _ _ zs (by omega) _ h).mono ?_
    rw [hp]
    rintro e w1 ⟨rfl, hb1⟩
    have HH := Lib.hid (h.ext hb1)
    have HE := Lib.hid hb1
    clear h hb1
    go_wp2_with fail
    refine (ceOf_any _ _ _ zs hn12 HB.out w1 HH.out).mono ?_
    rintro e w2 ⟨a2, c2, vs, rfl, ho2, hv2, hE2⟩
    have HH2 := Lib.hid (Reads.ext hE2 HH.out)
    have HE2 := Lib.hid (HE.out.trans hE2)
    clear ho2 hv2 hE2
    have hN2 := cells_most HZ.out
    have HL0 := Lib.hid (fun e => loopsN_zero (zs := zs) e)
    have HL1 := Lib.hid (fun e => loopsN_more (zs := zs) e)
    generalize (cellsL zs).length = N at *
    by_cases h0 : N = 0
    · have HV := Lib.hid (HL0.out h0)
      clear HL0 HL1
      subst h0
      go_wp2
      go_ret2
      exact ⟨by rw [HV.out] <;> rfl, HE2.out⟩
    · have HV := Lib.hid (HL1.out h0)
      clear HL0 HL1
      have h0i : ((N : Int) == 0) = false := by simp; omega
      have HM := Lib.hid (twice_len2 HZ.out)
      go_wp2_with fail
      refine (ceEdges_any _ _ _ zs HZ.out true w2 HH2.out).mono ?_
      rintro e w3 ⟨a3, c3, vs3, rfl, ho3, hv3, hE3⟩
      have HE3 := Lib.hid (HE2.out.trans hE3)
      clear ho3 hv3 hE3
      rw [show edgesL zs true = twiceL zs from rfl]
      have hM := HM.out
      clear HM
      generalize (twiceL zs).length = M at *
      go_wp2
      go_ret2
      exact ⟨by rw [HV.out] <;> rfl, HE3.out⟩
set_option maxHeartbeats 2000000 in
set_option maxRecDepth 100000 in
theorem law_LoopsOf (a0 : Option Addr) (n0 c0 : Nat) (zs : List (Int × Int × Int)) (w : World) (hr0 : IsTri w a0 n0 c0 zs) :
    Calls Try.prog 8 #[.slice a0 n0 c0] w fun r w' => r = .returned (.bool true) ∧ Ext w w' := by
  have h0 : Reads w a0 3 n0 (tv zs) := hr0.1
  have hc01 := hr0.2.1
  have hc02 := hr0.2.2.1
  unfold maxLen at hc02
  clear hr0
  have hl0 : zs.length = n0 := by have := h0.1; rw [tv_len] at this; omega
  by_cases hg0 : n0 ≤ 1048576
  rotate_left
  · go_enter Try.func8, Try.ntmps8
    go_wp2_with fail
    refine (szTermS_no _ _ _ _ (by omega) (by omega) (by omega) (by omega) _).mono ?_
    rintro e _ ⟨rfl, rfl⟩
    go_wp2
    go_ret
    exact ⟨rfl, (by repeat (first | exact Ext.refl _ | assumption | apply Ext.alloc | apply Ext.drew | apply Ext.drewN | (refine Ext.trans ?_ (by assumption)) | (refine Ext.setCell ?_ (by (try simp) <;> omega) _)))⟩
  have hm0 : n0 ≤ 1048576 := by omega
  obtain ⟨V, eV⟩ : ∃ z0 : Int, z0 = (gI (planeB zs) (loopsN zs)) := ⟨_, rfl⟩
  obtain ⟨K, eK⟩ : ∃ z0 : Bool, z0 = (planeB zs) := ⟨_, rfl⟩
  have HS := Lib.hid (show ∀ (b0 : Nat) w,Reads w (some ⟨b0, 0, none⟩) 3 n0 (tv zs) → Calls Try.prog 34 #[.slice (some ⟨b0, 0, none⟩) n0 n0] w (fun r w' => r = .returned (.tuple #[.int .i64 V, .bool K]) ∧ Ext w w') by rw [eV, eK]; intro b0 w h0; exact spec_LoopsOf_any _ _ _ zs (by omega) _ h0)
  have HI := Lib.hid (show ∀ (b0 : Nat) w,Reads w (some ⟨b0, 0, none⟩) 3 n0 (tv zs) → Calls Try.prog 35 #[.slice (some ⟨b0, 0, none⟩) n0 n0] w (fun r w' => r = .returned (.tuple #[.int .i64 V, .bool K]) ∧ Ext w w') by rw [eV, eK]; intro b0 w h0; exact impl_LoopsOf_any _ _ _ zs (by omega) _ h0)
  clear eV eK
  go_enter Try.func8, Try.ntmps8
  go_wp2_with fail
  refine (szTermS_yes _ _ _ _ (by omega) (by omega) _).mono ?_
  rintro e _ ⟨rfl, rfl⟩
  have hE : Ext w w := (by repeat (first | exact Ext.refl _ | assumption | apply Ext.alloc | apply Ext.drew | apply Ext.drewN | (refine Ext.trans ?_ (by assumption)) | (refine Ext.setCell ?_ (by (try simp) <;> omega) _)))
  go_wp2_with fail
  refine (toTermS_any _ _ _ zs hm0 _ (h0.ext hE)).mono ?_
  rintro e w1 ⟨gs0, rfl, xs0, hb⟩
  have hz1 := hb.size
  replace hE := Ext.trans hE hb
  clear hb
  have xs00 := xs0
  go_wp2_with fail
  refine (HS.out _ _ (own_reads xs0)).mono ?_
  rintro e w2 ⟨rfl, hb⟩
  have hz2 := hb.size
  replace hE := Ext.trans hE hb
  replace xs0 := own_ext hb xs0
  clear hb
  clear xs0
  go_wp2_with fail
  refine (toTermS_any _ _ _ zs hm0 _ (h0.ext hE)).mono ?_
  rintro e w3 ⟨gp0, rfl, xp0, hb⟩
  have hz3 := hb.size
  replace hE := Ext.trans hE hb
  clear hb
  have xp00 := xp0
  go_wp2_with fail
  refine (HI.out _ _ (own_reads xp0)).mono ?_
  rintro e w4 ⟨rfl, hb⟩
  have hz4 := hb.size
  replace hE := Ext.trans hE hb
  replace xp0 := own_ext hb xp0
  clear hb
  go_wp2_with fail
  refine (toTermS_any _ _ _ zs hm0 _ (h0.ext hE)).mono ?_
  rintro e w5 ⟨gq0, rfl, xq0, hb⟩
  have hz5 := hb.size
  replace hE := Ext.trans hE hb
  replace xp0 := own_ext hb xp0
  clear hb
  have xq00 := xq0
  go_wp2_with fail
  refine (eqTermS_same _ _ _ _ _ zs (by omega) _ (own_reads xp0) (own_reads xq0)).mono ?_
  rintro e w6 ⟨rfl, hb⟩
  have hz6 := hb.size
  replace hE := Ext.trans hE hb
  replace xp0 := own_ext hb xp0
  replace xq0 := own_ext hb xq0
  clear hb
  clear xq0
  go_wp2
  go_ret
  exact ⟨rfl, hE⟩

end Go.Proofs.Ytehcjlbkfgfmjaa
