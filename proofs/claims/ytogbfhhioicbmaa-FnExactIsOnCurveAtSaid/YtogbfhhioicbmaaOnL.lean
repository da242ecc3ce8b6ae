/-
  IsOnCurveAt: the law's walk.
-/
import Derived.Test.YtogbfhhioicbmaaOnI
namespace Go.Proofs.Ytogbfhhioicbmaa
open Go.RowKit

set_option maxHeartbeats 2000000 in
set_option maxRecDepth 100000 in
theorem law_IsOnCurveAt (a0 : Option Addr) (n0 c0 : Nat) (zs : List (Int × Int × Int)) (a b p q : Int) (w : World) (hr0 : IsTri w a0 n0 c0 zs) :
    Calls Try.prog 4 #[.slice a0 n0 c0, .agg #[.int .i64 a, .int .i64 b, .int .i64 p, .int .i64 q]] w fun r w' => r = .returned (.bool true) ∧ Ext w w' := by
  have h0 : Reads w a0 3 n0 (tv zs) := hr0.1
  have hc01 := hr0.2.1
  have hc02 := hr0.2.2.1
  unfold maxLen at hc02
  clear hr0
  have hl0 : zs.length = n0 := by have := h0.1; rw [tv_len] at this; omega
  by_cases hg0 : n0 ≤ 1048576
  rotate_left
  · go_enter Try.func4, Try.ntmps4
    go_wp2_with fail
    refine (szTermS_no _ _ _ _ (by omega) (by omega) (by omega) (by omega) _).mono ?_
    rintro e _ ⟨rfl, rfl⟩
    go_wp2
    go_ret
    exact ⟨rfl, (by repeat (first | exact Ext.refl _ | assumption | apply Ext.alloc | apply Ext.drew | apply Ext.drewN | (refine Ext.trans ?_ (by assumption)) | (refine Ext.setCell ?_ (by (try simp) <;> omega) _)))⟩
  have hm0 : n0 ≤ 1048576 := by omega
  obtain ⟨V, eV⟩ : ∃ z0 : Bool, z0 = (onV a b p q zs) := ⟨_, rfl⟩
  obtain ⟨K, eK⟩ : ∃ z0 : Bool, z0 = (onB a b p q zs) := ⟨_, rfl⟩
  have HS := Lib.hid (show ∀ (b0 : Nat) w,Reads w (some ⟨b0, 0, none⟩) 3 n0 (tv zs) → Calls Try.prog 16 #[.slice (some ⟨b0, 0, none⟩) n0 n0, .agg #[.int .i64 a, .int .i64 b, .int .i64 p, .int .i64 q]] w (fun r w' => r = .returned (.tuple #[.bool V, .bool K]) ∧ Ext w w') by rw [eV, eK]; intro b0 w h0; exact spec_IsOnCurveAt_any _ _ _ zs a b p q (by omega) _ h0)
  have HI := Lib.hid (show ∀ (b0 : Nat) w,Reads w (some ⟨b0, 0, none⟩) 3 n0 (tv zs) → Calls Try.prog 19 #[.slice (some ⟨b0, 0, none⟩) n0 n0, .agg #[.int .i64 a, .int .i64 b, .int .i64 p, .int .i64 q]] w (fun r w' => r = .returned (.tuple #[.bool V, .bool K]) ∧ Ext w w') by rw [eV, eK]; intro b0 w h0; exact impl_IsOnCurveAt_any _ _ _ zs a b p q (by omega) _ h0)
  clear eV eK
  go_enter Try.func4, Try.ntmps4
  go_wp2_with fail
  refine (szTermS_yes _ _ _ _ (by omega) (by omega) _).mono ?_
  rintro e _ ⟨rfl, rfl⟩
  have hE : Ext w (w.alloc (.cells #[.int .i64 a, .int .i64 b, .int .i64 p, .int .i64 q] 33)) := (by repeat (first | exact Ext.refl _ | assumption | apply Ext.alloc | apply Ext.drew | apply Ext.drewN | (refine Ext.trans ?_ (by assumption)) | (refine Ext.setCell ?_ (by (try simp) <;> omega) _)))
  have B1 := Has.new w #[.int .i64 a, .int .i64 b, .int .i64 p, .int .i64 q] 33
  have B1c0 := Ext.keeps (B1 0 _ rfl)
  have B1c1 := Ext.keeps (B1 1 _ rfl)
  have B1c2 := Ext.keeps (B1 2 _ rfl)
  have B1c3 := Ext.keeps (B1 3 _ rfl)
  clear B1
  have R0 := Lib.hid (fun w' (z : Ext (w.alloc (.cells #[.int .i64 a, .int .i64 b, .int .i64 p, .int .i64 q] 33)) w') => h0.ext (hE.trans z))
  go_wp2
  go_region_held3 (fun w' => Ext (w.alloc (.cells #[.int .i64 a, .int .i64 b, .int .i64 p, .int .i64 q] 33)) w') ((repeat (first | exact Ext.refl _ | assumption | apply Ext.alloc | apply Ext.drew | apply Ext.drewN | (refine Ext.trans ?_ (by assumption)) | (refine Ext.setCell ?_ (by (try simp) <;> omega) _)))) (first | (go_at_call 17; refine (toTermS_any _ _ _ zs hm0 _ (R0.out _ (by repeat (first | exact Ext.refl _ | assumption | apply Ext.alloc | apply Ext.drew | apply Ext.drewN | (refine Ext.trans ?_ (by assumption)) | (refine Ext.setCell ?_ (by (try simp) <;> omega) _))))).mono ?_; rintro e wa10 ⟨gs0, rfl, xs0, hb0⟩; have hbE0 := Ext.size hb0; have xs00 := xs0) | (go_at_call 18; refine (toSpot_any a b p q _).mono ?_; rintro e wb11 ⟨rfl, hb1⟩; have hbE1 := Ext.size hb1) | (go_at_call 16; refine (HS.out _ _ (Reads.ext (by repeat (first | exact Ext.refl _ | assumption | apply Ext.alloc | apply Ext.drew | apply Ext.drewN | (refine Ext.trans ?_ (by assumption)) | (refine Ext.setCell ?_ (by (try simp) <;> omega) _))) (own_reads xs0))).mono ?_; rintro e w1 ⟨rfl, hb⟩))
  have hz1 : (World.heap (w.alloc (.cells #[.int .i64 a, .int .i64 b, .int .i64 p, .int .i64 q] 33))).size ≤ w1.heap.size := Ext.size (by repeat (first | exact Ext.refl _ | assumption | apply Ext.alloc | apply Ext.drew | apply Ext.drewN | (refine Ext.trans ?_ (by assumption)) | (refine Ext.setCell ?_ (by (try simp) <;> omega) _)))
  have hF : Ext (w.alloc (.cells #[.int .i64 a, .int .i64 b, .int .i64 p, .int .i64 q] 33)) w1 := (by repeat (first | exact Ext.refl _ | assumption | apply Ext.alloc | apply Ext.drew | apply Ext.drewN | (refine Ext.trans ?_ (by assumption)) | (refine Ext.setCell ?_ (by (try simp) <;> omega) _)))
  replace hE : Ext w w1 := hE.trans hF
  replace B1c0 := Ext.rebase hF B1c0
  replace B1c1 := Ext.rebase hF B1c1
  replace B1c2 := Ext.rebase hF B1c2
  replace B1c3 := Ext.rebase hF B1c3
  clear hb hF hb0 hb1 xs0 xs00 R0
  go_wp2_with fail
  refine (toTermS_any _ _ _ zs hm0 _ (h0.ext hE)).mono ?_
  rintro e w2 ⟨gp0, rfl, xp0, hb⟩
  have hz2 := hb.size
  replace hE := Ext.trans hE hb
  have hk2 := hb
  clear hb
  have xp00 := xp0
  have hF : Ext w1 w2 := (by repeat (first | exact Ext.refl _ | assumption | apply Ext.alloc | apply Ext.drew | apply Ext.drewN | (refine Ext.trans ?_ (by assumption)) | (refine Ext.setCell ?_ (by (try simp) <;> omega) _)))
  replace B1c0 := Ext.rebase hF B1c0
  replace B1c1 := Ext.rebase hF B1c1
  replace B1c2 := Ext.rebase hF B1c2
  replace B1c3 := Ext.rebase hF B1c3
  clear hF
  have B1v0 := B1c0 _ (Ext.refl _)
  have B1v1 := B1c1 _ (Ext.refl _)
  have B1v2 := B1c2 _ (Ext.refl _)
  have B1v3 := B1c3 _ (Ext.refl _)
  go_wp2_with fail
  refine (toSpot_any a b p q _).mono ?_
  rintro e w3 ⟨rfl, hb⟩
  have hz3 := hb.size
  replace hE := Ext.trans hE hb
  replace xp0 := own_ext hb xp0
  clear hb
  go_wp2_with fail
  refine (HI.out _ _ (own_reads xp0)).mono ?_
  rintro e w4 ⟨rfl, hb⟩
  have hz4 := hb.size
  replace hE := Ext.trans hE hb
  replace xp0 := own_ext hb xp0
  clear hb
  go_wp2_with fail
  refine (toTermS_any _ _ _ zs hm0 _ (h0.ext hE)).mono ?_
  rintro e w5 ⟨gq0, rfl, xq0, hb⟩
  have hz5 := hb.size
  replace hE := Ext.trans hE hb
  replace xp0 := own_ext hb xp0
  clear hb
  have xq00 := xq0
  go_wp2_with fail
  refine (eqTermS_same _ _ _ _ _ zs (by omega) _ (own_reads xp0) (own_reads xq0)).mono ?_
  rintro e w6 ⟨rfl, hb⟩
  have hz6 := hb.size
  replace hE := Ext.trans hE hb
  replace xp0 := own_ext hb xp0
  replace xq0 := own_ext hb xq0
  clear hb
  clear xq0
  go_wp2
  go_ret
  exact ⟨rfl, hE⟩

end Go.Proofs.Ytogbfhhioicbmaa
