/-
  The contracts of the functions on two rays: multiplicities, parallel rays; their laws.
-/
import Derived.Test.YtgnhkfaiahddgaaRay
namespace Go.Proofs.Ytgnhkfaiahddgaa
open Go.RowKit

theorem mtTwo_any (a b n c d m : Int) (a1 : -20 ≤ a) (a2 : a ≤ 20) (b1 : -20 ≤ b) (b2 : b ≤ 20) (n1 : -20 ≤ n) (n2 : n ≤ 20) (c1 : -20 ≤ c) (c2 : c ≤ 20) (d1 : -20 ≤ d) (d2 : d ≤ 20) (m1 : -20 ≤ m) (m2 : m ≤ 20) (w : World) :
    Calls Try.prog 60 #[.agg #[.int .i64 a, .int .i64 b, .int .i64 n], .agg #[.int .i64 c, .int .i64 d, .int .i64 m]] w fun r w' => r = .returned (.int .i64 (n * m * absI (detI a b c d))) ∧ Ext w w' := by
  have HA := (Has.alloc (Has.new w #[.int .i64 a, .int .i64 b, .int .i64 n] 41) (.cells #[.int .i64 c, .int .i64 d, .int .i64 m] 41))
  have Ac0 := Ext.keeps (HA 0 _ rfl)
  have Ac1 := Ext.keeps (HA 1 _ rfl)
  have Ac2 := Ext.keeps (HA 2 _ rfl)
  clear HA
  have HB := (Has.new2 w (.cells #[.int .i64 a, .int .i64 b, .int .i64 n] 41) #[.int .i64 c, .int .i64 d, .int .i64 m] 41)
  have Bc0 := Ext.keeps (HB 0 _ rfl)
  have Bc1 := Ext.keeps (HB 1 _ rfl)
  have Bc2 := Ext.keeps (HB 2 _ rfl)
  clear HB
  have hE : Ext ((w.alloc (.cells #[.int .i64 a, .int .i64 b, .int .i64 n] 41)).alloc (.cells #[.int .i64 c, .int .i64 d, .int .i64 m] 41)) ((w.alloc (.cells #[.int .i64 a, .int .i64 b, .int .i64 n] 41)).alloc (.cells #[.int .i64 c, .int .i64 d, .int .i64 m] 41)) := Ext.refl _
  have k0 := detI_bd (A := 20) (C := 20) a1 a2 b1 b2 c1 c2 d1 d2
  have k1 := mul_bd (A := 20) (D := 20) n1 n2 m1 m2
  have k2 := absI_nonneg (detI a b c d)
  have k3 := absI_le (n := detI a b c d) (k := 800) (by omega) (by omega)
  have k4 := mul_bd (A := 400) (D := 800) (a := n * m) (d := absI (detI a b c d)) (by omega) (by omega) (by omega) (by omega)
  have e1 := Lib.hid (wrap_i64 (n := n * m) (by omega) (by omega))
  have e2 := Lib.hid (wrap_i64 (n := n * m * absI (detI a b c d)) (by omega) (by omega))
  go_enter Try.func60, Try.ntmps60
  go_wp2_with fail
  go_region_held3 (fun w' => Ext ((w.alloc (.cells #[.int .i64 a, .int .i64 b, .int .i64 n] 41)).alloc (.cells #[.int .i64 c, .int .i64 d, .int .i64 m] 41)) w') ((repeat (first | exact Ext.refl _ | assumption | apply Ext.alloc | apply Ext.drew | apply Ext.drewN | (refine Ext.trans ?_ (by assumption)) | (refine Ext.setCell ?_ (by simp; done) _) | (refine Ext.setCell ?_ (by simp; omega) _)))) (first | (go_at_call 55; refine (mtDet_any _ _ _ _ _ _ (by omega) (by omega) (by omega) (by omega) (by omega) (by omega) (by omega) (by omega) _).mono ?_; rintro e w' ⟨rfl, hb⟩) | (go_at_call 64; refine (l1Abs_any _ (by omega) (by omega) _).mono ?_; rintro e _ ⟨rfl, rfl⟩))
  all_goals (
    go_wp2
    go_ret
    exact ⟨ret_int (by rw [e1.out, e2.out]), (by repeat (first | exact Ext.refl _ | assumption | apply Ext.alloc | apply Ext.drew | apply Ext.drewN | (refine Ext.trans ?_ (by assumption)) | (refine Ext.setCell ?_ (by simp; done) _) | (refine Ext.setCell ?_ (by simp; omega) _)))⟩)

theorem multiplicity_any (a b n c d m : Int) (a1 : -20 ≤ a) (a2 : a ≤ 20) (b1 : -20 ≤ b) (b2 : b ≤ 20) (n1 : -20 ≤ n) (n2 : n ≤ 20) (c1 : -20 ≤ c) (c2 : c ≤ 20) (d1 : -20 ≤ d) (d2 : d ≤ 20) (m1 : -20 ≤ m) (m2 : m ≤ 20) (w : World) :
    Calls Try.prog 61 #[.agg #[.int .i64 a, .int .i64 b, .int .i64 n], .agg #[.int .i64 c, .int .i64 d, .int .i64 m]] w fun r w' => r = .returned (.int .i64 (n * m * absI (detI a b c d))) ∧ Ext w w' := by
  have HA := (Has.alloc (Has.new w #[.int .i64 a, .int .i64 b, .int .i64 n] 41) (.cells #[.int .i64 c, .int .i64 d, .int .i64 m] 41))
  have Ac0 := Ext.keeps (HA 0 _ rfl)
  have Ac1 := Ext.keeps (HA 1 _ rfl)
  have Ac2 := Ext.keeps (HA 2 _ rfl)
  clear HA
  have HB := (Has.new2 w (.cells #[.int .i64 a, .int .i64 b, .int .i64 n] 41) #[.int .i64 c, .int .i64 d, .int .i64 m] 41)
  have Bc0 := Ext.keeps (HB 0 _ rfl)
  have Bc1 := Ext.keeps (HB 1 _ rfl)
  have Bc2 := Ext.keeps (HB 2 _ rfl)
  clear HB
  have hE : Ext ((w.alloc (.cells #[.int .i64 a, .int .i64 b, .int .i64 n] 41)).alloc (.cells #[.int .i64 c, .int .i64 d, .int .i64 m] 41)) ((w.alloc (.cells #[.int .i64 a, .int .i64 b, .int .i64 n] 41)).alloc (.cells #[.int .i64 c, .int .i64 d, .int .i64 m] 41)) := Ext.refl _
  have k0 := detI_bd (A := 20) (C := 20) a1 a2 b1 b2 c1 c2 d1 d2
  have k1 := mul_bd (A := 20) (D := 20) n1 n2 m1 m2
  have k2 := absI_nonneg (detI a b c d)
  have k3 := absI_le (n := detI a b c d) (k := 800) (by omega) (by omega)
  have k4 := mul_bd (A := 400) (D := 800) (a := n * m) (d := absI (detI a b c d)) (by omega) (by omega) (by omega) (by omega)
  have e1 := Lib.hid (wrap_i64 (n := n * m) (by omega) (by omega))
  have e2 := Lib.hid (wrap_i64 (n := n * m * absI (detI a b c d)) (by omega) (by omega))
  go_enter Try.func61, Try.ntmps61
  go_wp2_with fail
  go_region_held3 (fun w' => Ext ((w.alloc (.cells #[.int .i64 a, .int .i64 b, .int .i64 n] 41)).alloc (.cells #[.int .i64 c, .int .i64 d, .int .i64 m] 41)) w') ((repeat (first | exact Ext.refl _ | assumption | apply Ext.alloc | apply Ext.drew | apply Ext.drewN | (refine Ext.trans ?_ (by assumption)) | (refine Ext.setCell ?_ (by simp; done) _) | (refine Ext.setCell ?_ (by simp; omega) _)))) (first | (go_at_call 58; refine (steps_any _ _ _ _).mono ?_; rintro e w' ⟨rfl, hb⟩) | (go_at_call 57; refine (cross_any _ _ _ _ (by omega) (by omega) (by omega) (by omega) (by omega) (by omega) (by omega) (by omega) _).mono ?_; rintro e w' ⟨rfl, hb⟩) | (go_at_call 81; refine (abs_any _ (by omega) (by omega) _).mono ?_; rintro e _ ⟨rfl, rfl⟩))
  all_goals (
    go_wp2
    go_ret
    exact ⟨ret_int (by rw [e1.out, e2.out]), (by repeat (first | exact Ext.refl _ | assumption | apply Ext.alloc | apply Ext.drew | apply Ext.drewN | (refine Ext.trans ?_ (by assumption)) | (refine Ext.setCell ?_ (by simp; done) _) | (refine Ext.setCell ?_ (by simp; omega) _)))⟩)

theorem spec_PairMultiplicity_any (a b n c d m : Int) (w : World) :
    Calls Try.prog 32 #[.agg #[.int .i64 a, .int .i64 b, .int .i64 n], .agg #[.int .i64 c, .int .i64 d, .int .i64 m]] w fun r w' => r = .returned (.tuple #[.int .i64 (gI (rayB a b n && rayB c d m) (n * m * absI (detI a b c d))), .bool (rayB a b n && rayB c d m)]) ∧ Ext w w' := by
  have HA := (Has.alloc (Has.new w #[.int .i64 a, .int .i64 b, .int .i64 n] 41) (.cells #[.int .i64 c, .int .i64 d, .int .i64 m] 41))
  have Ac0 := Ext.keeps (HA 0 _ rfl)
  have Ac1 := Ext.keeps (HA 1 _ rfl)
  have Ac2 := Ext.keeps (HA 2 _ rfl)
  clear HA
  have HB := (Has.new2 w (.cells #[.int .i64 a, .int .i64 b, .int .i64 n] 41) #[.int .i64 c, .int .i64 d, .int .i64 m] 41)
  have Bc0 := Ext.keeps (HB 0 _ rfl)
  have Bc1 := Ext.keeps (HB 1 _ rfl)
  have Bc2 := Ext.keeps (HB 2 _ rfl)
  clear HB
  have hE : Ext ((w.alloc (.cells #[.int .i64 a, .int .i64 b, .int .i64 n] 41)).alloc (.cells #[.int .i64 c, .int .i64 d, .int .i64 m] 41)) ((w.alloc (.cells #[.int .i64 a, .int .i64 b, .int .i64 n] 41)).alloc (.cells #[.int .i64 c, .int .i64 d, .int .i64 m] 41)) := Ext.refl _
  rcases rayB_cases a b n with h | ⟨h, h1, h2, h3⟩ <;> rcases rayB_cases c d m with k | ⟨k, k1, k2, k3⟩ <;> (
    go_enter Try.func32, Try.ntmps32
    go_wp2_with (first | (go_at_call 54; refine (stRay_any _ _ _ _).mono ?_; rintro e w' ⟨rfl, hb⟩; (first | replace hE := Ext.trans hE hb | replace hE := Ext.trans (Ext.alloc hE _) hb | replace hE := Ext.trans (Ext.alloc (Ext.alloc hE _) _) hb | replace hE := Ext.trans (Ext.drew hE) hb | replace hE := Ext.trans (Ext.alloc (Ext.alloc (Ext.alloc hE _) _) _) hb)) | (go_at_call 60; refine (mtTwo_any _ _ _ _ _ _ (by omega) (by omega) (by omega) (by omega) (by omega) (by omega) (by omega) (by omega) (by omega) (by omega) (by omega) (by omega) _).mono ?_; rintro e w' ⟨rfl, hb⟩; (first | replace hE := Ext.trans hE hb | replace hE := Ext.trans (Ext.alloc hE _) hb | replace hE := Ext.trans (Ext.alloc (Ext.alloc hE _) _) hb | replace hE := Ext.trans (Ext.drew hE) hb | replace hE := Ext.trans (Ext.alloc (Ext.alloc (Ext.alloc hE _) _) _) hb)))
    go_ret2
    exact ⟨by simp [h, k, gI], (by repeat (first | exact Ext.refl _ | assumption | apply Ext.alloc | apply Ext.drew | apply Ext.drewN | (refine Ext.trans ?_ (by assumption)) | (refine Ext.setCell ?_ (by simp; done) _) | (refine Ext.setCell ?_ (by simp; omega) _)))⟩)

theorem impl_PairMultiplicity_any (a b n c d m : Int) (w : World) :
    Calls Try.prog 33 #[.agg #[.int .i64 a, .int .i64 b, .int .i64 n], .agg #[.int .i64 c, .int .i64 d, .int .i64 m]] w fun r w' => r = .returned (.tuple #[.int .i64 (gI (rayB a b n && rayB c d m) (n * m * absI (detI a b c d))), .bool (rayB a b n && rayB c d m)]) ∧ Ext w w' := by
  have HA := (Has.alloc (Has.new w #[.int .i64 a, .int .i64 b, .int .i64 n] 41) (.cells #[.int .i64 c, .int .i64 d, .int .i64 m] 41))
  have Ac0 := Ext.keeps (HA 0 _ rfl)
  have Ac1 := Ext.keeps (HA 1 _ rfl)
  have Ac2 := Ext.keeps (HA 2 _ rfl)
  clear HA
  have HB := (Has.new2 w (.cells #[.int .i64 a, .int .i64 b, .int .i64 n] 41) #[.int .i64 c, .int .i64 d, .int .i64 m] 41)
  have Bc0 := Ext.keeps (HB 0 _ rfl)
  have Bc1 := Ext.keeps (HB 1 _ rfl)
  have Bc2 := Ext.keeps (HB 2 _ rfl)
  clear HB
  have hE : Ext ((w.alloc (.cells #[.int .i64 a, .int .i64 b, .int .i64 n] 41)).alloc (.cells #[.int .i64 c, .int .i64 d, .int .i64 m] 41)) ((w.alloc (.cells #[.int .i64 a, .int .i64 b, .int .i64 n] 41)).alloc (.cells #[.int .i64 c, .int .i64 d, .int .i64 m] 41)) := Ext.refl _
  rcases rayB_cases a b n with h | ⟨h, h1, h2, h3⟩ <;> rcases rayB_cases c d m with k | ⟨k, k1, k2, k3⟩ <;> (
    go_enter Try.func33, Try.ntmps33
    go_wp2_with (first | (go_at_call 56; refine (isRay_any _ _ _ _).mono ?_; rintro e w' ⟨rfl, hb⟩; (first | replace hE := Ext.trans hE hb | replace hE := Ext.trans (Ext.alloc hE _) hb | replace hE := Ext.trans (Ext.alloc (Ext.alloc hE _) _) hb | replace hE := Ext.trans (Ext.drew hE) hb | replace hE := Ext.trans (Ext.alloc (Ext.alloc (Ext.alloc hE _) _) _) hb)) | (go_at_call 61; refine (multiplicity_any _ _ _ _ _ _ (by omega) (by omega) (by omega) (by omega) (by omega) (by omega) (by omega) (by omega) (by omega) (by omega) (by omega) (by omega) _).mono ?_; rintro e w' ⟨rfl, hb⟩; (first | replace hE := Ext.trans hE hb | replace hE := Ext.trans (Ext.alloc hE _) hb | replace hE := Ext.trans (Ext.alloc (Ext.alloc hE _) _) hb | replace hE := Ext.trans (Ext.drew hE) hb | replace hE := Ext.trans (Ext.alloc (Ext.alloc (Ext.alloc hE _) _) _) hb)))
    go_ret2
    exact ⟨by simp [h, k, gI], (by repeat (first | exact Ext.refl _ | assumption | apply Ext.alloc | apply Ext.drew | apply Ext.drewN | (refine Ext.trans ?_ (by assumption)) | (refine Ext.setCell ?_ (by simp; done) _) | (refine Ext.setCell ?_ (by simp; omega) _)))⟩)

theorem law_PairMultiplicity (a b n c d m : Int) (w : World) :
    Calls Try.prog 10 #[.agg #[.int .i64 a, .int .i64 b, .int .i64 n], .agg #[.int .i64 c, .int .i64 d, .int .i64 m]] w fun r w' => r = .returned (.bool true) ∧ Ext w w' := by
  have HA := (Has.alloc (Has.new w #[.int .i64 a, .int .i64 b, .int .i64 n] 39) (.cells #[.int .i64 c, .int .i64 d, .int .i64 m] 39))
  have Ac0 := Ext.keeps (HA 0 _ rfl)
  have Ac1 := Ext.keeps (HA 1 _ rfl)
  have Ac2 := Ext.keeps (HA 2 _ rfl)
  clear HA
  have HB := (Has.new2 w (.cells #[.int .i64 a, .int .i64 b, .int .i64 n] 39) #[.int .i64 c, .int .i64 d, .int .i64 m] 39)
  have Bc0 := Ext.keeps (HB 0 _ rfl)
  have Bc1 := Ext.keeps (HB 1 _ rfl)
  have Bc2 := Ext.keeps (HB 2 _ rfl)
  clear HB
  have hE : Ext ((w.alloc (.cells #[.int .i64 a, .int .i64 b, .int .i64 n] 39)).alloc (.cells #[.int .i64 c, .int .i64 d, .int .i64 m] 39)) ((w.alloc (.cells #[.int .i64 a, .int .i64 b, .int .i64 n] 39)).alloc (.cells #[.int .i64 c, .int .i64 d, .int .i64 m] 39)) := Ext.refl _
  go_enter Try.func10, Try.ntmps10
  go_wp2_with fail
  go_region_held3 (fun w' => Ext ((w.alloc (.cells #[.int .i64 a, .int .i64 b, .int .i64 n] 39)).alloc (.cells #[.int .i64 c, .int .i64 d, .int .i64 m] 39)) w') ((repeat (first | exact Ext.refl _ | assumption | apply Ext.alloc | apply Ext.drew | apply Ext.drewN | (refine Ext.trans ?_ (by assumption)) | (refine Ext.setCell ?_ (by simp; done) _) | (refine Ext.setCell ?_ (by simp; omega) _)))) (first | (go_at_call 28; refine (toRay_any _ _ _ _).mono ?_; rintro e w' ⟨rfl, hb⟩) | (go_at_call 32; refine (spec_PairMultiplicity_any _ _ _ _ _ _ _).mono ?_; rintro e w' ⟨rfl, hb⟩))
  all_goals (
    go_wp2_with fail
    go_region_held3 (fun w' => Ext ((w.alloc (.cells #[.int .i64 a, .int .i64 b, .int .i64 n] 39)).alloc (.cells #[.int .i64 c, .int .i64 d, .int .i64 m] 39)) w') ((repeat (first | exact Ext.refl _ | assumption | apply Ext.alloc | apply Ext.drew | apply Ext.drewN | (refine Ext.trans ?_ (by assumption)) | (refine Ext.setCell ?_ (by simp; done) _) | (refine Ext.setCell ?_ (by simp; omega) _)))) (first | (go_at_call 28; refine (toRay_any _ _ _ _).mono ?_; rintro e w' ⟨rfl, hb⟩) | (go_at_call 33; refine (impl_PairMultiplicity_any _ _ _ _ _ _ _).mono ?_; rintro e w' ⟨rfl, hb⟩))
    )
  all_goals (
    go_wp2
    go_ret
    exact ⟨rfl, (by repeat (first | exact Ext.refl _ | assumption | apply Ext.alloc | apply Ext.drew | apply Ext.drewN | (refine Ext.trans ?_ (by assumption)) | (refine Ext.setCell ?_ (by simp; done) _) | (refine Ext.setCell ?_ (by simp; omega) _)))⟩)

theorem spec_AreParallel_any (a b n c d m : Int) (w : World) :
    Calls Try.prog 27 #[.agg #[.int .i64 a, .int .i64 b, .int .i64 n], .agg #[.int .i64 c, .int .i64 d, .int .i64 m]] w fun r w' => r = .returned (.tuple #[.bool (rayB a b n && rayB c d m && (detI a b c d == 0)), .bool (rayB a b n && rayB c d m)]) ∧ Ext w w' := by
  have HA := (Has.alloc (Has.new w #[.int .i64 a, .int .i64 b, .int .i64 n] 41) (.cells #[.int .i64 c, .int .i64 d, .int .i64 m] 41))
  have Ac0 := Ext.keeps (HA 0 _ rfl)
  have Ac1 := Ext.keeps (HA 1 _ rfl)
  have Ac2 := Ext.keeps (HA 2 _ rfl)
  clear HA
  have HB := (Has.new2 w (.cells #[.int .i64 a, .int .i64 b, .int .i64 n] 41) #[.int .i64 c, .int .i64 d, .int .i64 m] 41)
  have Bc0 := Ext.keeps (HB 0 _ rfl)
  have Bc1 := Ext.keeps (HB 1 _ rfl)
  have Bc2 := Ext.keeps (HB 2 _ rfl)
  clear HB
  have hE : Ext ((w.alloc (.cells #[.int .i64 a, .int .i64 b, .int .i64 n] 41)).alloc (.cells #[.int .i64 c, .int .i64 d, .int .i64 m] 41)) ((w.alloc (.cells #[.int .i64 a, .int .i64 b, .int .i64 n] 41)).alloc (.cells #[.int .i64 c, .int .i64 d, .int .i64 m] 41)) := Ext.refl _
  rcases rayB_cases a b n with h | ⟨h, h1, h2, h3⟩ <;> rcases rayB_cases c d m with k | ⟨k, k1, k2, k3⟩ <;> (
    go_enter Try.func27, Try.ntmps27
    go_wp2_with (first | (go_at_call 54; refine (stRay_any _ _ _ _).mono ?_; rintro e w' ⟨rfl, hb⟩; (first | replace hE := Ext.trans hE hb | replace hE := Ext.trans (Ext.alloc hE _) hb | replace hE := Ext.trans (Ext.alloc (Ext.alloc hE _) _) hb | replace hE := Ext.trans (Ext.drew hE) hb | replace hE := Ext.trans (Ext.alloc (Ext.alloc (Ext.alloc hE _) _) _) hb)) | (go_at_call 55; refine (mtDet_any _ _ _ _ _ _ (by omega) (by omega) (by omega) (by omega) (by omega) (by omega) (by omega) (by omega) _).mono ?_; rintro e w' ⟨rfl, hb⟩; (first | replace hE := Ext.trans hE hb | replace hE := Ext.trans (Ext.alloc hE _) hb | replace hE := Ext.trans (Ext.alloc (Ext.alloc hE _) _) hb | replace hE := Ext.trans (Ext.drew hE) hb | replace hE := Ext.trans (Ext.alloc (Ext.alloc (Ext.alloc hE _) _) _) hb)))
    go_ret2
    exact ⟨by simp [h, k], (by repeat (first | exact Ext.refl _ | assumption | apply Ext.alloc | apply Ext.drew | apply Ext.drewN | (refine Ext.trans ?_ (by assumption)) | (refine Ext.setCell ?_ (by simp; done) _) | (refine Ext.setCell ?_ (by simp; omega) _)))⟩)

theorem impl_AreParallel_any (a b n c d m : Int) (w : World) :
    Calls Try.prog 29 #[.agg #[.int .i64 a, .int .i64 b, .int .i64 n], .agg #[.int .i64 c, .int .i64 d, .int .i64 m]] w fun r w' => r = .returned (.tuple #[.bool (rayB a b n && rayB c d m && (detI a b c d == 0)), .bool (rayB a b n && rayB c d m)]) ∧ Ext w w' := by
  have HA := (Has.alloc (Has.new w #[.int .i64 a, .int .i64 b, .int .i64 n] 41) (.cells #[.int .i64 c, .int .i64 d, .int .i64 m] 41))
  have Ac0 := Ext.keeps (HA 0 _ rfl)
  have Ac1 := Ext.keeps (HA 1 _ rfl)
  have Ac2 := Ext.keeps (HA 2 _ rfl)
  clear HA
  have HB := (Has.new2 w (.cells #[.int .i64 a, .int .i64 b, .int .i64 n] 41) #[.int .i64 c, .int .i64 d, .int .i64 m] 41)
  have Bc0 := Ext.keeps (HB 0 _ rfl)
  have Bc1 := Ext.keeps (HB 1 _ rfl)
  have Bc2 := Ext.keeps (HB 2 _ rfl)
  clear HB
  have hE : Ext ((w.alloc (.cells #[.int .i64 a, .int .i64 b, .int .i64 n] 41)).alloc (.cells #[.int .i64 c, .int .i64 d, .int .i64 m] 41)) ((w.alloc (.cells #[.int .i64 a, .int .i64 b, .int .i64 n] 41)).alloc (.cells #[.int .i64 c, .int .i64 d, .int .i64 m] 41)) := Ext.refl _
  rcases rayB_cases a b n with h | ⟨h, h1, h2, h3⟩
  · go_enter Try.func29, Try.ntmps29
    go_wp2_with ((go_at_call 56; refine (isRay_any _ _ _ _).mono ?_; rintro e w' ⟨rfl, hb⟩; (first | replace hE := Ext.trans hE hb | replace hE := Ext.trans (Ext.alloc hE _) hb | replace hE := Ext.trans (Ext.alloc (Ext.alloc hE _) _) hb | replace hE := Ext.trans (Ext.drew hE) hb | replace hE := Ext.trans (Ext.alloc (Ext.alloc (Ext.alloc hE _) _) _) hb)))
    go_ret2
    exact ⟨by simp [h], (by repeat (first | exact Ext.refl _ | assumption | apply Ext.alloc | apply Ext.drew | apply Ext.drewN | (refine Ext.trans ?_ (by assumption)) | (refine Ext.setCell ?_ (by simp; done) _) | (refine Ext.setCell ?_ (by simp; omega) _)))⟩
  rcases rayB_cases c d m with k | ⟨k, k1, k2, k3⟩
  · go_enter Try.func29, Try.ntmps29
    go_wp2_with ((go_at_call 56; refine (isRay_any _ _ _ _).mono ?_; rintro e w' ⟨rfl, hb⟩; (first | replace hE := Ext.trans hE hb | replace hE := Ext.trans (Ext.alloc hE _) hb | replace hE := Ext.trans (Ext.alloc (Ext.alloc hE _) _) hb | replace hE := Ext.trans (Ext.drew hE) hb | replace hE := Ext.trans (Ext.alloc (Ext.alloc (Ext.alloc hE _) _) _) hb)))
    go_ret2
    exact ⟨by simp [h, k], (by repeat (first | exact Ext.refl _ | assumption | apply Ext.alloc | apply Ext.drew | apply Ext.drewN | (refine Ext.trans ?_ (by assumption)) | (refine Ext.setCell ?_ (by simp; done) _) | (refine Ext.setCell ?_ (by simp; omega) _)))⟩
  · go_enter Try.func29, Try.ntmps29
    go_wp2_with ((go_at_call 56; refine (isRay_any _ _ _ _).mono ?_; rintro e w' ⟨rfl, hb⟩; (first | replace hE := Ext.trans hE hb | replace hE := Ext.trans (Ext.alloc hE _) hb | replace hE := Ext.trans (Ext.alloc (Ext.alloc hE _) _) hb | replace hE := Ext.trans (Ext.drew hE) hb | replace hE := Ext.trans (Ext.alloc (Ext.alloc (Ext.alloc hE _) _) _) hb)))
    go_region_held3 (fun w' => Ext ((w.alloc (.cells #[.int .i64 a, .int .i64 b, .int .i64 n] 41)).alloc (.cells #[.int .i64 c, .int .i64 d, .int .i64 m] 41)) w') ((repeat (first | exact Ext.refl _ | assumption | apply Ext.alloc | apply Ext.drew | apply Ext.drewN | (refine Ext.trans ?_ (by assumption)) | (refine Ext.setCell ?_ (by simp; done) _) | (refine Ext.setCell ?_ (by simp; omega) _)))) (first | (go_at_call 58; refine (steps_any _ _ _ _).mono ?_; rintro e w' ⟨rfl, hb⟩) | (go_at_call 57; refine (cross_any _ _ _ _ (by omega) (by omega) (by omega) (by omega) (by omega) (by omega) (by omega) (by omega) _).mono ?_; rintro e w' ⟨rfl, hb⟩))
    all_goals (
      go_wp2
      go_ret2
      exact ⟨by simp [h, k], (by repeat (first | exact Ext.refl _ | assumption | apply Ext.alloc | apply Ext.drew | apply Ext.drewN | (refine Ext.trans ?_ (by assumption)) | (refine Ext.setCell ?_ (by simp; done) _) | (refine Ext.setCell ?_ (by simp; omega) _)))⟩)

theorem law_AreParallel (a b n c d m : Int) (w : World) :
    Calls Try.prog 8 #[.agg #[.int .i64 a, .int .i64 b, .int .i64 n], .agg #[.int .i64 c, .int .i64 d, .int .i64 m]] w fun r w' => r = .returned (.bool true) ∧ Ext w w' := by
  have HA := (Has.alloc (Has.new w #[.int .i64 a, .int .i64 b, .int .i64 n] 39) (.cells #[.int .i64 c, .int .i64 d, .int .i64 m] 39))
  have Ac0 := Ext.keeps (HA 0 _ rfl)
  have Ac1 := Ext.keeps (HA 1 _ rfl)
  have Ac2 := Ext.keeps (HA 2 _ rfl)
  clear HA
  have HB := (Has.new2 w (.cells #[.int .i64 a, .int .i64 b, .int .i64 n] 39) #[.int .i64 c, .int .i64 d, .int .i64 m] 39)
  have Bc0 := Ext.keeps (HB 0 _ rfl)
  have Bc1 := Ext.keeps (HB 1 _ rfl)
  have Bc2 := Ext.keeps (HB 2 _ rfl)
  clear HB
  have hE : Ext ((w.alloc (.cells #[.int .i64 a, .int .i64 b, .int .i64 n] 39)).alloc (.cells #[.int .i64 c, .int .i64 d, .int .i64 m] 39)) ((w.alloc (.cells #[.int .i64 a, .int .i64 b, .int .i64 n] 39)).alloc (.cells #[.int .i64 c, .int .i64 d, .int .i64 m] 39)) := Ext.refl _
  go_enter Try.func8, Try.ntmps8
  go_wp2_with fail
  go_region_held3 (fun w' => Ext ((w.alloc (.cells #[.int .i64 a, .int .i64 b, .int .i64 n] 39)).alloc (.cells #[.int .i64 c, .int .i64 d, .int .i64 m] 39)) w') ((repeat (first | exact Ext.refl _ | assumption | apply Ext.alloc | apply Ext.drew | apply Ext.drewN | (refine Ext.trans ?_ (by assumption)) | (refine Ext.setCell ?_ (by simp; done) _) | (refine Ext.setCell ?_ (by simp; omega) _)))) (first | (go_at_call 28; refine (toRay_any _ _ _ _).mono ?_; rintro e w' ⟨rfl, hb⟩) | (go_at_call 27; refine (spec_AreParallel_any _ _ _ _ _ _ _).mono ?_; rintro e w' ⟨rfl, hb⟩))
  all_goals (
    go_wp2_with fail
    go_region_held3 (fun w' => Ext ((w.alloc (.cells #[.int .i64 a, .int .i64 b, .int .i64 n] 39)).alloc (.cells #[.int .i64 c, .int .i64 d, .int .i64 m] 39)) w') ((repeat (first | exact Ext.refl _ | assumption | apply Ext.alloc | apply Ext.drew | apply Ext.drewN | (refine Ext.trans ?_ (by assumption)) | (refine Ext.setCell ?_ (by simp; done) _) | (refine Ext.setCell ?_ (by simp; omega) _)))) (first | (go_at_call 28; refine (toRay_any _ _ _ _).mono ?_; rintro e w' ⟨rfl, hb⟩) | (go_at_call 29; refine (impl_AreParallel_any _ _ _ _ _ _ _).mono ?_; rintro e w' ⟨rfl, hb⟩))
    )
  all_goals (
    go_wp2
    go_ret
    exact ⟨rfl, (by repeat (first | exact Ext.refl _ | assumption | apply Ext.alloc | apply Ext.drew | apply Ext.drewN | (refine Ext.trans ?_ (by assumption)) | (refine Ext.setCell ?_ (by simp; done) _) | (refine Ext.setCell ?_ (by simp; omega) _)))⟩)

end Go.Proofs.Ytgnhkfaiahddgaa
