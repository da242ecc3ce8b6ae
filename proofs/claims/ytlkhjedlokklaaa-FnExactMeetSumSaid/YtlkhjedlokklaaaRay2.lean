/-
  The contracts of the functions on two rays: multiplicities, parallel rays; their laws.
-/
import Derived.Test.YtlkhjedlokklaaaRay
namespace Go.Proofs.Ytlkhjedlokklaaa
open Go.RowKit

theorem mtTwo_any (a b n c d m : Int) (a1 : -20 ≤ a) (a2 : a ≤ 20) (b1 : -20 ≤ b) (b2 : b ≤ 20) (n1 : -20 ≤ n) (n2 : n ≤ 20) (c1 : -20 ≤ c) (c2 : c ≤ 20) (d1 : -20 ≤ d) (d2 : d ≤ 20) (m1 : -20 ≤ m) (m2 : m ≤ 20) (w : World) :
    Calls Try.prog 99 #[.agg #[.int .i64 a, .int .i64 b, .int .i64 n], .agg #[.int .i64 c, .int .i64 d, .int .i64 m]] w fun r w' => r = .returned (.int .i64 (n * m * absI (detI a b c d))) ∧ Ext w w' := by
  have HA := (Has.alloc (Has.new w #[.int .i64 a, .int .i64 b, .int .i64 n] 34) (.cells #[.int .i64 c, .int .i64 d, .int .i64 m] 34))
  have Ac0 := Ext.keeps (HA 0 _ rfl)
  have Ac1 := Ext.keeps (HA 1 _ rfl)
  have Ac2 := Ext.keeps (HA 2 _ rfl)
  clear HA
  have HB := (Has.new2 w (.cells #[.int .i64 a, .int .i64 b, .int .i64 n] 34) #[.int .i64 c, .int .i64 d, .int .i64 m] 34)
  have Bc0 := Ext.keeps (HB 0 _ rfl)
  have Bc1 := Ext.keeps (HB 1 _ rfl)
  have Bc2 := Ext.keeps (HB 2 _ rfl)
  clear HB
  have hE : Ext ((w.alloc (.cells #[.int .i64 a, .int .i64 b, .int .i64 n] 34)).alloc (.cells #[.int .i64 c, .int .i64 d, .int .i64 m] 34)) ((w.alloc (.cells #[.int .i64 a, .int .i64 b, .int .i64 n] 34)).alloc (.cells #[.int .i64 c, .int .i64 d, .int .i64 m] 34)) := Ext.refl _
  have k0 := detI_bd (A := 20) (C := 20) a1 a2 b1 b2 c1 c2 d1 d2
  have k1 := mul_bd (A := 20) (D := 20) n1 n2 m1 m2
  have k2 := absI_nonneg (detI a b c d)
  have k3 := absI_le (n := detI a b c d) (k := 800) (by omega) (by omega)
  have k4 := mul_bd (A := 400) (D := 800) (a := n * m) (d := absI (detI a b c d)) (by omega) (by omega) (by omega) (by omega)
  have e1 := Lib.hid (wrap_i64 (n := n * m) (by omega) (by omega))
  have e2 := Lib.hid (wrap_i64 (n := n * m * absI (detI a b c d)) (by omega) (by omega))
  go_enter Try.func99, Try.ntmps99
  go_wp2_with fail
  go_region_held3 (fun w' => Ext ((w.alloc (.cells #[.int .i64 a, .int .i64 b, .int .i64 n] 34)).alloc (.cells #[.int .i64 c, .int .i64 d, .int .i64 m] 34)) w') ((repeat (first | exact Ext.refl _ | assumption | apply Ext.alloc | apply Ext.drew | apply Ext.drewN | (refine Ext.trans ?_ (by assumption)) | (refine Ext.setCell ?_ (by simp; done) _) | (refine Ext.setCell ?_ (by simp; omega) _)))) (first | (go_at_call 113; refine (mtDet_any _ _ _ _ _ _ (by omega) (by omega) (by omega) (by omega) (by omega) (by omega) (by omega) (by omega) _).mono ?_; rintro e w' ⟨rfl, hb⟩) | (go_at_call 61; refine (l1Abs_any _ (by omega) (by omega) _).mono ?_; rintro e _ ⟨rfl, rfl⟩))
  all_goals (
    go_wp2
    go_ret
    exact ⟨ret_int (by rw [e1.out, e2.out]), (by repeat (first | exact Ext.refl _ | assumption | apply Ext.alloc | apply Ext.drew | apply Ext.drewN | (refine Ext.trans ?_ (by assumption)) | (refine Ext.setCell ?_ (by simp; done) _) | (refine Ext.setCell ?_ (by simp; omega) _)))⟩)

theorem multiplicity_any (a b n c d m : Int) (a1 : -20 ≤ a) (a2 : a ≤ 20) (b1 : -20 ≤ b) (b2 : b ≤ 20) (n1 : -20 ≤ n) (n2 : n ≤ 20) (c1 : -20 ≤ c) (c2 : c ≤ 20) (d1 : -20 ≤ d) (d2 : d ≤ 20) (m1 : -20 ≤ m) (m2 : m ≤ 20) (w : World) :
    Calls Try.prog 103 #[.agg #[.int .i64 a, .int .i64 b, .int .i64 n], .agg #[.int .i64 c, .int .i64 d, .int .i64 m]] w fun r w' => r = .returned (.int .i64 (n * m * absI (detI a b c d))) ∧ Ext w w' := by
  have HA := (Has.alloc (Has.new w #[.int .i64 a, .int .i64 b, .int .i64 n] 34) (.cells #[.int .i64 c, .int .i64 d, .int .i64 m] 34))
  have Ac0 := Ext.keeps (HA 0 _ rfl)
  have Ac1 := Ext.keeps (HA 1 _ rfl)
  have Ac2 := Ext.keeps (HA 2 _ rfl)
  clear HA
  have HB := (Has.new2 w (.cells #[.int .i64 a, .int .i64 b, .int .i64 n] 34) #[.int .i64 c, .int .i64 d, .int .i64 m] 34)
  have Bc0 := Ext.keeps (HB 0 _ rfl)
  have Bc1 := Ext.keeps (HB 1 _ rfl)
  have Bc2 := Ext.keeps (HB 2 _ rfl)
  clear HB
  have hE : Ext ((w.alloc (.cells #[.int .i64 a, .int .i64 b, .int .i64 n] 34)).alloc (.cells #[.int .i64 c, .int .i64 d, .int .i64 m] 34)) ((w.alloc (.cells #[.int .i64 a, .int .i64 b, .int .i64 n] 34)).alloc (.cells #[.int .i64 c, .int .i64 d, .int .i64 m] 34)) := Ext.refl _
  have k0 := detI_bd (A := 20) (C := 20) a1 a2 b1 b2 c1 c2 d1 d2
  have k1 := mul_bd (A := 20) (D := 20) n1 n2 m1 m2
  have k2 := absI_nonneg (detI a b c d)
  have k3 := absI_le (n := detI a b c d) (k := 800) (by omega) (by omega)
  have k4 := mul_bd (A := 400) (D := 800) (a := n * m) (d := absI (detI a b c d)) (by omega) (by omega) (by omega) (by omega)
  have e1 := Lib.hid (wrap_i64 (n := n * m) (by omega) (by omega))
  have e2 := Lib.hid (wrap_i64 (n := n * m * absI (detI a b c d)) (by omega) (by omega))
  go_enter Try.func103, Try.ntmps103
  go_wp2_with fail
  go_region_held3 (fun w' => Ext ((w.alloc (.cells #[.int .i64 a, .int .i64 b, .int .i64 n] 34)).alloc (.cells #[.int .i64 c, .int .i64 d, .int .i64 m] 34)) w') ((repeat (first | exact Ext.refl _ | assumption | apply Ext.alloc | apply Ext.drew | apply Ext.drewN | (refine Ext.trans ?_ (by assumption)) | (refine Ext.setCell ?_ (by simp; done) _) | (refine Ext.setCell ?_ (by simp; omega) _)))) (first | (go_at_call 110; refine (steps_any _ _ _ _).mono ?_; rintro e w' ⟨rfl, hb⟩) | (go_at_call 114; refine (cross_any _ _ _ _ (by omega) (by omega) (by omega) (by omega) (by omega) (by omega) (by omega) (by omega) _).mono ?_; rintro e w' ⟨rfl, hb⟩) | (go_at_call 111; refine (abs_any _ (by omega) (by omega) _).mono ?_; rintro e _ ⟨rfl, rfl⟩))
  all_goals (
    go_wp2
    go_ret
    exact ⟨ret_int (by rw [e1.out, e2.out]), (by repeat (first | exact Ext.refl _ | assumption | apply Ext.alloc | apply Ext.drew | apply Ext.drewN | (refine Ext.trans ?_ (by assumption)) | (refine Ext.setCell ?_ (by simp; done) _) | (refine Ext.setCell ?_ (by simp; omega) _)))⟩)

end Go.Proofs.Ytlkhjedlokklaaa
