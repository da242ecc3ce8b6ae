/-
  IsOnCurveAt: the program's walk.
-/
import Derived.Test.YtogbfhhioicbmaaOnW
namespace Go.Proofs.Ytogbfhhioicbmaa
open Go.RowKit

set_option maxHeartbeats 4000000 in
set_option maxRecDepth 100000 in
theorem impl_IsOnCurveAt_any (l : Option Addr) (n cc : Nat) (zs : List (Int × Int × Int)) (a b p q : Int) (hn : n ≤ 1073741824) (w : World) (h : Reads w l 3 n (tv zs)) :
    Calls Try.prog 19 #[.slice l n cc, .agg #[.int .i64 a, .int .i64 b, .int .i64 p, .int .i64 q]] w fun r w' => r = .returned (.tuple #[.bool (onV a b p q zs), .bool (onB a b p q zs)]) ∧ Ext w w' := by
  have hl : zs.length = n := by have := h.1; rw [tv_len] at this; omega
  have HA := (Has.new w #[.int .i64 a, .int .i64 b, .int .i64 p, .int .i64 q] 41)
  have Ac0 := Ext.keeps (HA 0 _ rfl)
  have Ac1 := Ext.keeps (HA 1 _ rfl)
  have Ac2 := Ext.keeps (HA 2 _ rfl)
  have Ac3 := Ext.keeps (HA 3 _ rfl)
  clear HA
  have hE : Ext (w.alloc (.cells #[.int .i64 a, .int .i64 b, .int .i64 p, .int .i64 q] 41)) (w.alloc (.cells #[.int .i64 a, .int .i64 b, .int .i64 p, .int .i64 q] 41)) := Ext.refl _
  have hEw : Ext w (w.alloc (.cells #[.int .i64 a, .int .i64 b, .int .i64 p, .int .i64 q] 41)) := (by repeat (first | exact Ext.refl _ | assumption | apply Ext.alloc | apply Ext.drew | apply Ext.drewN | (refine Ext.trans ?_ (by assumption)) | (refine Ext.setCell ?_ (by (try simp) <;> omega) _)))
  have HV := Lib.hid (show onV a b p q zs = (onB a b p q zs && decide (1 < (onTo a b p q zs zs.length).2.2)) from rfl)
  have HB := Lib.hid (show onB a b p q zs = (planeB zs && fracB a b && fracB p q && onOk a b p q zs zs.length) from rfl)
  cases h1 : planeB zs
  · go_enter Try.func19, Try.ntmps19
    go_wp2_with fail
    refine (isPlane_any _ _ _ zs hn _ (h.ext hEw)).mono ?_
    rw [h1]
    rintro e w1 ⟨rfl, hb⟩
    go_wp2
    go_ret2
    exact ⟨by rw [HV.out, HB.out, h1]; simp, hEw.trans hb⟩
  · cases h23 : (fracB a b && fracB p q)
    · go_enter Try.func19, Try.ntmps19
      go_wp2_with fail
      refine (isPlane_any _ _ _ zs hn _ (h.ext hEw)).mono ?_
      rw [h1]
      rintro e w1 ⟨rfl, hb⟩
      go_wp2_with fail
      refine (areFracs2_any _ _ _ a b p q rfl _ ?_).mono ?_
      · refine ⟨rfl, fun _ => ⟨_, _, rfl, fun j u hj => ?_⟩⟩
        match j, hj with
        | 0, hj => simp [pv] at hj; subst hj; exact cell_at_new (by simp) rfl
        | 1, hj => simp [pv] at hj; subst hj; exact cell_at_new (by simp) rfl
        | 2, hj => simp [pv] at hj; subst hj; exact cell_at_new (by simp) rfl
        | 3, hj => simp [pv] at hj; subst hj; exact cell_at_new (by simp) rfl
      rw [h23]
      rintro e w2 ⟨rfl, hb2⟩
      go_wp2
      go_ret2
      exact ⟨by rw [HV.out, HB.out, Bool.and_assoc (planeB zs), h23]; simp, hEw.trans (Ext.trans (Ext.alloc hb _) hb2)⟩
    · have h2 : fracB a b = true := by revert h23; cases fracB a b <;> simp
      have h3 : fracB p q = true := by revert h23; cases fracB p q <;> simp
      · go_enter Try.func19, Try.ntmps19
        go_wp2_with fail
        refine (isPlane_any _ _ _ zs hn _ (h.ext hEw)).mono ?_
        rw [h1]
        rintro e w1 ⟨rfl, hb⟩
        have hE1 := hb
        go_wp2_with fail
        refine (areFracs2_any _ _ _ a b p q rfl _ ?_).mono ?_
        · refine ⟨rfl, fun _ => ⟨_, _, rfl, fun j u hj => ?_⟩⟩
          match j, hj with
          | 0, hj => simp [pv] at hj; subst hj; exact cell_at_new (by simp) rfl
          | 1, hj => simp [pv] at hj; subst hj; exact cell_at_new (by simp) rfl
          | 2, hj => simp [pv] at hj; subst hj; exact cell_at_new (by simp) rfl
          | 3, hj => simp [pv] at hj; subst hj; exact cell_at_new (by simp) rfl
        rw [h23]
        rintro e w3 ⟨rfl, hb3⟩
        have hE3 := Ext.trans (Ext.alloc hb _) hb3
        go_wp2
        obtain ⟨V, hV0⟩ : ∃ V, V = w3.alloc (.cells #[.int .i64 0, .int .i64 0] 39) := ⟨_, rfl⟩
        rw [← hV0]
        obtain ⟨bb, hbb⟩ : ∃ bb, bb = w3.heap.size := ⟨_, rfl⟩
        have g0 : V.cell? ⟨bb, 0, none⟩ = some (.int .i64 0) := by rw [hV0, hbb]; exact cell_at_new rfl rfl
        have g1 : V.cell? ⟨bb, 1, none⟩ = some (.int .i64 0) := by rw [hV0, hbb]; exact cell_at_new rfl rfl
        have g2 : V.frozen? ⟨bb, 0, none⟩ = false := by rw [hV0, hbb]; exact frozen_fresh rfl
        have g3 : V.frozen? ⟨bb, 1, none⟩ = false := by rw [hV0, hbb]; exact frozen_fresh rfl
        have EV : Ext (w.alloc (.cells #[.int .i64 a, .int .i64 b, .int .i64 p, .int .i64 q] 41)) V := by rw [hV0]; exact Ext.alloc hE3 _
        have hbs : (w.alloc (.cells #[.int .i64 a, .int .i64 b, .int .i64 p, .int .i64 q] 41)).heap.size ≤ bb := by rw [hbb]; exact hE3.size
        rw [← hbb]
        clear hV0 hbb hb hb3 hE1 hE3 h23
        go_loopw [7, 27] (fun ct t wr => ∃ k : Nat, k ≤ n ∧ t = .int .i64 k ∧ ct = .int .i64 (onTo a b p q zs k).2.2 ∧ wr.cell? ⟨bb, 0, none⟩ = some (.int .i64 (onTo a b p q zs k).1) ∧ wr.cell? ⟨bb, 1, none⟩ = some (.int .i64 (onTo a b p q zs k).2.1) ∧ wr.frozen? ⟨bb, 0, none⟩ = false ∧ wr.frozen? ⟨bb, 1, none⟩ = false ∧ Hid (onOk a b p q zs k = true) ∧ Hid (1 ≤ k → fracB (onTo a b p q zs k).1 (onTo a b p q zs k).2.1 = true) ∧ V.grownBy wr (some bb)) (fun _ t _ => n - (intOf t).toNat)
        case atStart => exact ⟨0, Nat.zero_le _, rfl, rfl, g0, g1, g2, g3, Lib.hid rfl, Lib.hid (fun h => by omega), World.grownBy.refl _ _⟩
        case round =>
          clear g0 g1 g2 g3
          obtain ⟨k, hk, rfl, rfl, g0, g1, g2, g3, HO, HF, hgr⟩ := hrel
          have HEr := Lib.hid (Ext.grown EV hgr (fun j hj => by cases hj; exact hbs))
          by_cases hlt : k < n
          · obtain ⟨lb, off, rfl, hp0, hp1, hp2⟩ := (Reads.ext (hEw.trans HEr.out) h).tri hlt
            have ht := plane_term h1 (k := k) (by omega)
            have hcn := onTo_count (a := a) (b := b) (p := p) (q := q) (zs := zs) k
            obtain ⟨v1, v2, vm, hv⟩ : ∃ g1 g2 mg, curV (tat zs k).1 (tat zs k).2.1 (tat zs k).2.2 a b p q = (g1, g2, mg) := ⟨_, _, _, rfl⟩
            have HN := Lib.hid (fun e : vm = false => show onB a b p q zs = false by rw [HB.out, onOk_bad (k := k) (by omega) (by rw [hv]; exact e)]; simp)
            have HY := Lib.hid (fun e : vm = true => show onOk a b p q zs (k + 1) = true by simp only [onOk]; rw [HO.out, hv]; simpa using e)
            have HS := Lib.hid (show onTo a b p q zs (k + 1) = (if k = 0 ∨ v1 * (onTo a b p q zs k).2.1 - (onTo a b p q zs k).1 * v2 < 0 then (v1, v2, 1) else if v1 = (onTo a b p q zs k).1 ∧ v2 = (onTo a b p q zs k).2.1 then ((onTo a b p q zs k).1, (onTo a b p q zs k).2.1, (onTo a b p q zs k).2.2 + 1) else onTo a b p q zs k) by simp only [onTo, onStep]; rw [hv])
            have tb := termB_true.1 ht
            have hfin := finB_true.1 tb.2.2
            have HVal := Lib.hid (fun w => termAt_any _ _ _ a b p q v1 v2 vm tb.1 (by omega) hfin h2 h3 hv w)
            have HFr := Lib.hid (fun e : vm = true => show fracB v1 v2 = true from curV_frac (by rw [hv, e]))
            have HZ := Lib.hid (fun e : k = 0 => show (onTo a b p q zs k).2.2 = 0 by subst e; rfl)
            clear hv ht tb hfin
            generalize (tat zs k).1 = x at *
            generalize (tat zs k).2.1 = y at *
            generalize (tat zs k).2.2 = z at *
            generalize onTo a b p q zs k = st at *
            obtain ⟨B1, B2, ct⟩ := st
            simp only at g0 g1 hcn HF HS HZ ⊢
            have A0 := Ext.rebase HEr.out Ac0
            have A1 := Ext.rebase HEr.out Ac1
            have A2 := Ext.rebase HEr.out Ac2
            have A3 := Ext.rebase HEr.out Ac3
            have hEr := hEw.trans HEr.out
            clear h hl
            have a0 : (wr.alloc (.cells #[.int .i64 x, .int .i64 y, .int .i64 z] 71)).cell? ⟨w.heap.size, 0, none⟩ = some (.int .i64 a) := A0 _ (Ext.alloc (Ext.refl _) _)
            have a1 : (wr.alloc (.cells #[.int .i64 x, .int .i64 y, .int .i64 z] 71)).cell? ⟨w.heap.size, 1, none⟩ = some (.int .i64 b) := A1 _ (Ext.alloc (Ext.refl _) _)
            have a2 : (wr.alloc (.cells #[.int .i64 x, .int .i64 y, .int .i64 z] 71)).cell? ⟨w.heap.size, 2, none⟩ = some (.int .i64 p) := A2 _ (Ext.alloc (Ext.refl _) _)
            have a3 : (wr.alloc (.cells #[.int .i64 x, .int .i64 y, .int .i64 z] 71)).cell? ⟨w.heap.size, 3, none⟩ = some (.int .i64 q) := A3 _ (Ext.alloc (Ext.refl _) _)
            cases vm
            · have HN2 := Lib.hid (HN.out rfl)
              clear HN HY HS HFr
              go_wp2_with fail
              refine (HVal.out _).mono ?_
              rintro e v5 ⟨rfl, hb5⟩
              go_wp2
              go_ret2
              exact ⟨by rw [HV.out, HN2.out]; rfl, hEr.trans (by first | exact Ext.trans (Ext.alloc (Ext.refl _) _) hb5 | exact Ext.alloc (Ext.trans (Ext.alloc (Ext.refl _) _) hb5) _ | exact Ext.trans (Ext.alloc (Ext.alloc (Ext.refl _) _) _) hb5)⟩
            · have HY2 := Lib.hid (HY.out rfl)
              have HFr2 := Lib.hid (HFr.out rfl)
              clear HN HY HFr
              go_wp2_with fail
              refine (HVal.out _).mono ?_
              rintro e v5 ⟨rfl, hb5⟩
              have E5 : Ext wr (v5.alloc (.cells #[.int .i64 v1, .int .i64 v2] 39)) := Ext.alloc (Ext.trans (Ext.alloc (Ext.refl _) _) hb5) _
              have hbw : bb < wr.heap.size := World.block_lt_of_cell? wr ⟨bb, 0, none⟩ g0
              have m0 := E5.keep g0
              have m1 := E5.keep g1
              have m2 : ((v5.alloc (.cells #[.int .i64 v1, .int .i64 v2] 39))).frozen? ⟨bb, 0, none⟩ = false := by rw [E5.frozen _ _ hbw]; exact g2
              have m3 : ((v5.alloc (.cells #[.int .i64 v1, .int .i64 v2] 39))).frozen? ⟨bb, 1, none⟩ = false := by rw [E5.frozen _ _ hbw]; exact g3
              have HG := Lib.hid (World.grownBy.trans hgr (Ext.grownBy E5 (some bb)))
              clear hgr E5
              rcases Nat.eq_zero_or_pos k with hk0 | hkp
              · subst hk0
                have hct0 : ct = 0 := HZ.out rfl
                subst hct0
                clear HZ
                rw [if_pos (.inl rfl)] at HS
                go_wp2
                go_roundw
                case rel => exact ⟨1, by omega, by go_num, by rw [HS.out], by rw [HS.out]; simp [go_sem, m0], by rw [HS.out]; simp [go_sem, m1], by simp [m2], by simp [m3], HY2, Lib.hid (fun _ => by rw [HS.out]; exact HFr2.out), grown_set (grown_set HG.out _) _⟩
                case measure => simp [intOf]; omega
              · have kb := fracB_true.1 (HF.out hkp)
                have kv := fracB_true.1 HFr2.out
                have x0 : ((v5.alloc (.cells #[.int .i64 v1, .int .i64 v2] 39))).cell? ⟨v5.heap.size, 0, none⟩ = some (.int .i64 v1) := cell_at_new rfl rfl
                have x1 : ((v5.alloc (.cells #[.int .i64 v1, .int .i64 v2] 39))).cell? ⟨v5.heap.size, 1, none⟩ = some (.int .i64 v2) := cell_at_new rfl rfl
                have HC := Lib.hid (fun w => compare_any v1 v2 B1 B2 kv.1 (by omega) kb.1 (by omega) w)
                have HF2 := Lib.hid (HF.out hkp)
                have hkz : decide (ct = 0) = false := by have := hcn.2 hkp; simp; omega
                have hkn0 : ¬ ct = 0 := by have := hcn.2 hkp; omega
                clear HZ
                obtain ⟨s0, hs0⟩ : ∃ s0, s0 = sgnI (v1 * B2 - B1 * v2) := ⟨_, rfl⟩
                rw [← hs0] at HC
                by_cases hl2 : v1 * B2 - B1 * v2 < 0
                · have hneg : s0 = -1 := by rw [hs0]; unfold sgnI; repeat' split <;> omega
                  rw [if_pos (.inr hl2)] at HS
                  clear hs0 HF kb kv hl2
                  subst hneg
                  go_wp2_with fail
                  refine (HC.out _).mono ?_
                  rintro e v6 ⟨rfl, hb6⟩
                  replace HG := Lib.hid (World.grownBy.trans HG.out (Ext.grownBy hb6 (some bb)))
                  replace m2 : v6.frozen? ⟨bb, 0, none⟩ = false := Ext.thaws m0 m2 _ hb6
                  replace m3 : v6.frozen? ⟨bb, 1, none⟩ = false := Ext.thaws m1 m3 _ hb6
                  replace m0 := hb6.keep m0
                  replace m1 := hb6.keep m1
                  have y0 := hb6.keep x0
                  have y1 := hb6.keep x1
                  go_wp2
                  go_roundw
                  case rel => exact ⟨k + 1, by omega, by go_num, by rw [HS.out], by rw [HS.out]; simp [go_sem, m0], by rw [HS.out]; simp [go_sem, m1], by simp [m2], by simp [m3], HY2, Lib.hid (fun _ => by rw [HS.out]; exact HFr2.out), grown_set (grown_set HG.out _) _⟩
                  case measure => simp [intOf]; omega
                · have h0s : decide (s0 < 0) = false := by
                    have : 0 ≤ s0 := by rw [hs0]; unfold sgnI; repeat' split <;> omega
                    simp; omega
                  rw [if_neg (by omega)] at HS
                  have hct := hcn.1
                  have e8 : IntKind.i64.wrap (ct + 1) = ct + 1 := wrap_i64 (by have := hcn.2 hkp; omega) (by omega)
                  clear hs0 HF kb kv hl2
                  by_cases hu : v1 = B1
                  · subst hu
                    by_cases hv2 : v2 = B2
                    · subst hv2
                      rw [if_pos ⟨rfl, rfl⟩] at HS
                      go_wp2_with fail
                      refine (HC.out _).mono ?_
                      rintro e v6 ⟨rfl, hb6⟩
                      replace HG := Lib.hid (World.grownBy.trans HG.out (Ext.grownBy hb6 (some bb)))
                      replace m2 : v6.frozen? ⟨bb, 0, none⟩ = false := Ext.thaws m0 m2 _ hb6
                      replace m3 : v6.frozen? ⟨bb, 1, none⟩ = false := Ext.thaws m1 m3 _ hb6
                      replace m0 := hb6.keep m0
                      replace m1 := hb6.keep m1
                      have y0 := hb6.keep x0
                      have y1 := hb6.keep x1
                      go_wp2
                      go_roundw
                      case rel => exact ⟨k + 1, by omega, by go_num, by rw [HS.out], by rw [HS.out]; exact m0, by rw [HS.out]; exact m1, m2, m3, HY2, Lib.hid (fun _ => by rw [HS.out]; exact HF2.out), HG.out⟩
                      case measure => simp [intOf]; omega
                    · rw [if_neg (fun hh => hv2 hh.2)] at HS
                      have hq1 : (v2 == B2) = false := by simpa using hv2
                      have hq2 : decide (v2 = B2) = false := by simpa using hv2
                      go_wp2_with fail
                      refine (HC.out _).mono ?_
                      rintro e v6 ⟨rfl, hb6⟩
                      replace HG := Lib.hid (World.grownBy.trans HG.out (Ext.grownBy hb6 (some bb)))
                      replace m2 : v6.frozen? ⟨bb, 0, none⟩ = false := Ext.thaws m0 m2 _ hb6
                      replace m3 : v6.frozen? ⟨bb, 1, none⟩ = false := Ext.thaws m1 m3 _ hb6
                      replace m0 := hb6.keep m0
                      replace m1 := hb6.keep m1
                      have y0 := hb6.keep x0
                      have y1 := hb6.keep x1
                      go_wp2
                      go_roundw
                      case rel => exact ⟨k + 1, by omega, by go_num, by rw [HS.out], by rw [HS.out]; exact m0, by rw [HS.out]; exact m1, m2, m3, HY2, Lib.hid (fun _ => by rw [HS.out]; exact HF2.out), HG.out⟩
                      case measure => simp [intOf]; omega
                  · rw [if_neg (fun hh => hu hh.1)] at HS
                    have hq1 : (v1 == B1) = false := by simpa using hu
                    have hq2 : decide (v1 = B1) = false := by simpa using hu
                    go_wp2_with fail
                    refine (HC.out _).mono ?_
                    rintro e v6 ⟨rfl, hb6⟩
                    replace HG := Lib.hid (World.grownBy.trans HG.out (Ext.grownBy hb6 (some bb)))
                    replace m2 : v6.frozen? ⟨bb, 0, none⟩ = false := Ext.thaws m0 m2 _ hb6
                    replace m3 : v6.frozen? ⟨bb, 1, none⟩ = false := Ext.thaws m1 m3 _ hb6
                    replace m0 := hb6.keep m0
                    replace m1 := hb6.keep m1
                    have y0 := hb6.keep x0
                    have y1 := hb6.keep x1
                    go_wp2
                    go_roundw
                    case rel => exact ⟨k + 1, by omega, by go_num, by rw [HS.out], by rw [HS.out]; exact m0, by rw [HS.out]; exact m1, m2, m3, HY2, Lib.hid (fun _ => by rw [HS.out]; exact HF2.out), HG.out⟩
                    case measure => simp [intOf]; omega
          · obtain rfl : k = n := by omega
            have HOn := Lib.hid (show onB a b p q zs = true by rw [HB.out, h1, h2, h3, hl, HO.out]; rfl)
            have hEr := hEw.trans HEr.out
            generalize hq : (onTo a b p q zs k).2.2 = ct at *
            have HQ := Lib.hid hq
            clear hq
            go_wp2
            go_ret2
            exact ⟨by rw [HV.out, HOn.out, hl, HQ.out]; simp, hEr⟩

end Go.Proofs.Ytogbfhhioicbmaa
