/-
  The contracts of primitive rays and of moved rays; their laws.
-/
import Derived.Test.YtgnhkfaiahddgaaRay
namespace Go.Proofs.Ytgnhkfaiahddgaa
open Go.RowKit

theorem primitive_any (x y : Int) (x1 : -1000000 ≤ x) (x2 : x ≤ 1000000) (y1 : -1000000 ≤ y) (y2 : y ≤ 1000000) (h0 : x ≠ 0 ∨ y ≠ 0) (w : World) :
    Calls Try.prog 66 #[.agg #[.int .i64 x, .int .i64 y]] w fun r w' => r = .returned (.agg #[.int .i64 (x.tdiv (gcdI x y)), .int .i64 (y.tdiv (gcdI x y)), .int .i64 (gcdI x y)]) ∧ Ext w w' := by
  have HA := (Has.alloc (Has.new w #[.int .i64 x, .int .i64 y] 69) (.cells #[.int .i64 0, .int .i64 0, .int .i64 0] 41))
  have Ac0 := Ext.keeps (HA 0 _ rfl)
  have Ac1 := Ext.keeps (HA 1 _ rfl)
  clear HA
  have HR := (Has.new2 w (.cells #[.int .i64 x, .int .i64 y] 69) #[.int .i64 0, .int .i64 0, .int .i64 0] 41)
  have Rc0 := Ext.keeps (HR 0 _ rfl)
  have Rc1 := Ext.keeps (HR 1 _ rfl)
  have Rc2 := Ext.keeps (HR 2 _ rfl)
  have Rf0 := Ext.thaws (w := ((w.alloc (.cells #[.int .i64 x, .int .i64 y] 69)).alloc (.cells #[.int .i64 0, .int .i64 0, .int .i64 0] 41))) (HR 0 _ rfl) (by simp)
  have Rf1 := Ext.thaws (w := ((w.alloc (.cells #[.int .i64 x, .int .i64 y] 69)).alloc (.cells #[.int .i64 0, .int .i64 0, .int .i64 0] 41))) (HR 1 _ rfl) (by simp)
  have Rf2 := Ext.thaws (w := ((w.alloc (.cells #[.int .i64 x, .int .i64 y] 69)).alloc (.cells #[.int .i64 0, .int .i64 0, .int .i64 0] 41))) (HR 2 _ rfl) (by simp)
  clear HR
  have hE : Ext ((w.alloc (.cells #[.int .i64 x, .int .i64 y] 69)).alloc (.cells #[.int .i64 0, .int .i64 0, .int .i64 0] 41)) ((w.alloc (.cells #[.int .i64 x, .int .i64 y] 69)).alloc (.cells #[.int .i64 0, .int .i64 0, .int .i64 0] 41)) := Ext.refl _
  have g1 := gcdI_pos_of h0
  have g2 := gcdI_le (x := x) (y := y) (k := 1000000) (by omega) (by omega) (by omega) (by omega)
  go_enter Try.func66, Try.ntmps66
  go_wp2_with ((go_at_call 79; refine (gcd_ext _ _ (by omega) (by omega) (by omega) (by omega) _).mono ?_; rintro e w' ⟨rfl, hb⟩; (first | replace hE := Ext.trans hE hb | replace hE := Ext.trans (Ext.alloc hE _) hb | replace hE := Ext.trans (Ext.alloc (Ext.alloc hE _) _) hb | replace hE := Ext.trans (Ext.drew hE) hb | replace hE := Ext.trans (Ext.alloc (Ext.alloc (Ext.alloc hE _) _) _) hb)))
  go_region
  go_wp2
  refine bodyPost_ret (v := .agg #[.int .i64 (x.tdiv (gcdI x y)), .int .i64 (y.tdiv (gcdI x y)), .int .i64 (gcdI x y)]) (by simp [results, Try.results66, go_sem, hE, Rc0, Rc1, Rc2]) rfl ⟨rfl, (by repeat (first | exact Ext.refl _ | assumption | apply Ext.alloc | apply Ext.drew | apply Ext.drewN | (refine Ext.trans ?_ (by assumption)) | (refine Ext.setCell ?_ (by simp; done) _) | (refine Ext.setCell ?_ (by simp; omega) _)))⟩

theorem impl_PrimitiveRay_any (x y : Int) (w : World) :
    Calls Try.prog 35 #[.int .i64 x, .int .i64 y] w fun r w' => r = .returned (.tuple #[.agg #[.int .i64 (gI (stepB 20 x y) (x.tdiv (gcdI x y))), .int .i64 (gI (stepB 20 x y) (y.tdiv (gcdI x y))), .int .i64 (gI (stepB 20 x y) (gcdI x y))], .bool (stepB 20 x y)]) ∧ Ext w w' := by
  have HR := (Has.new w #[.int .i64 0, .int .i64 0, .int .i64 0] 41)
  have Rc0 := Ext.keeps (HR 0 _ rfl)
  have Rc1 := Ext.keeps (HR 1 _ rfl)
  have Rc2 := Ext.keeps (HR 2 _ rfl)
  have Rf0 := Ext.thaws (w := (w.alloc (.cells #[.int .i64 0, .int .i64 0, .int .i64 0] 41))) (HR 0 _ rfl) (by simp)
  have Rf1 := Ext.thaws (w := (w.alloc (.cells #[.int .i64 0, .int .i64 0, .int .i64 0] 41))) (HR 1 _ rfl) (by simp)
  have Rf2 := Ext.thaws (w := (w.alloc (.cells #[.int .i64 0, .int .i64 0, .int .i64 0] 41))) (HR 2 _ rfl) (by simp)
  clear HR
  have hE : Ext (w.alloc (.cells #[.int .i64 0, .int .i64 0, .int .i64 0] 41)) (w.alloc (.cells #[.int .i64 0, .int .i64 0, .int .i64 0] 41)) := Ext.refl _
  rcases stepB_cases 20 x y with h | ⟨h, hx, hy, h0⟩ <;> (
    go_enter Try.func35, Try.ntmps35
    go_wp2_with (first | (go_at_call 65; refine (areSteps_any _ _ _).mono ?_; rintro e _ ⟨rfl, rfl⟩) | (go_at_call 66; refine (primitive_any _ _ (by omega) (by omega) (by omega) (by omega) h0 _).mono ?_; rintro e w' ⟨rfl, hb⟩; (first | replace hE := Ext.trans hE hb | replace hE := Ext.trans (Ext.alloc hE _) hb | replace hE := Ext.trans (Ext.alloc (Ext.alloc hE _) _) hb | replace hE := Ext.trans (Ext.drew hE) hb | replace hE := Ext.trans (Ext.alloc (Ext.alloc (Ext.alloc hE _) _) _) hb)))
    refine bodyPost_ret (v := .tuple #[.agg #[.int .i64 (gI (stepB 20 x y) (x.tdiv (gcdI x y))), .int .i64 (gI (stepB 20 x y) (y.tdiv (gcdI x y))), .int .i64 (gI (stepB 20 x y) (gcdI x y))], .bool (stepB 20 x y)]) (by simp [results, Try.results35, go_sem, gI, h, hE, Rc0, Rc1, Rc2]) rfl ⟨by simp [h], (by repeat (first | exact Ext.refl _ | assumption | apply Ext.alloc | apply Ext.drew | apply Ext.drewN | (refine Ext.trans ?_ (by assumption)) | (refine Ext.setCell ?_ (by simp; done) _) | (refine Ext.setCell ?_ (by simp; omega) _)))⟩)

theorem spec_PrimitiveRay_any (x y : Int) (w : World) :
    Calls Try.prog 34 #[.int .i64 x, .int .i64 y] w fun r w' => r = .returned (.tuple #[.agg #[.int .i64 (gI (stepB 20 x y) (x.tdiv (gcdI x y))), .int .i64 (gI (stepB 20 x y) (y.tdiv (gcdI x y))), .int .i64 (gI (stepB 20 x y) (gcdI x y))], .bool (stepB 20 x y)]) ∧ Ext w w' := by
  have HR := (Has.new w #[.int .i64 0, .int .i64 0, .int .i64 0] 41)
  have Rc0 := Ext.keeps (HR 0 _ rfl)
  have Rc1 := Ext.keeps (HR 1 _ rfl)
  have Rc2 := Ext.keeps (HR 2 _ rfl)
  have Rf0 := Ext.thaws (w := (w.alloc (.cells #[.int .i64 0, .int .i64 0, .int .i64 0] 41))) (HR 0 _ rfl) (by simp)
  have Rf1 := Ext.thaws (w := (w.alloc (.cells #[.int .i64 0, .int .i64 0, .int .i64 0] 41))) (HR 1 _ rfl) (by simp)
  have Rf2 := Ext.thaws (w := (w.alloc (.cells #[.int .i64 0, .int .i64 0, .int .i64 0] 41))) (HR 2 _ rfl) (by simp)
  clear HR
  have hE : Ext (w.alloc (.cells #[.int .i64 0, .int .i64 0, .int .i64 0] 41)) (w.alloc (.cells #[.int .i64 0, .int .i64 0, .int .i64 0] 41)) := Ext.refl _
  rcases stepB_cases 20 x y with h | ⟨h, hx, hy, h0⟩
  · go_enter Try.func34, Try.ntmps34
    go_wp2_with ((go_at_call 62; refine (stSteps_any _ _ _).mono ?_; rintro e _ ⟨rfl, rfl⟩))
    refine bodyPost_ret (v := .tuple #[.agg #[.int .i64 (gI (stepB 20 x y) (x.tdiv (gcdI x y))), .int .i64 (gI (stepB 20 x y) (y.tdiv (gcdI x y))), .int .i64 (gI (stepB 20 x y) (gcdI x y))], .bool (stepB 20 x y)]) (by simp [results, Try.results34, go_sem, gI, h]) rfl ⟨by simp [h], (by repeat (first | exact Ext.refl _ | assumption | apply Ext.alloc | apply Ext.drew | apply Ext.drewN | (refine Ext.trans ?_ (by assumption)) | (refine Ext.setCell ?_ (by simp; done) _) | (refine Ext.setCell ?_ (by simp; omega) _)))⟩
  · have g1 := gcdI_pos_of h0
    have g2 := gcdI_le (x := x) (y := y) (k := 1000000) (by omega) (by omega) (by omega) (by omega)
    have k1 := absI_nonneg x
    have k2 := absI_nonneg y
    have k3 := absI_le hx.1 hx.2
    have k4 := absI_le hy.1 hy.2
    have e := gcdI_absI x y
    go_enter Try.func34, Try.ntmps34
    go_wp2_with (first | (go_at_call 62; refine (stSteps_any _ _ _).mono ?_; rintro e _ ⟨rfl, rfl⟩) | (go_at_call 64; refine (l1Abs_any _ (by omega) (by omega) _).mono ?_; rintro e _ ⟨rfl, rfl⟩) | (go_at_call 63; refine (stCommon_any _ _ (by omega) (by omega) (by omega) (by omega) _).mono ?_; rintro e _ ⟨rfl, rfl⟩))
    go_region
    go_wp2
    refine bodyPost_ret (v := .tuple #[.agg #[.int .i64 (gI (stepB 20 x y) (x.tdiv (gcdI x y))), .int .i64 (gI (stepB 20 x y) (y.tdiv (gcdI x y))), .int .i64 (gI (stepB 20 x y) (gcdI x y))], .bool (stepB 20 x y)]) (by simp [results, Try.results34, go_sem, gI, h]) rfl ⟨by simp [h], (by repeat (first | exact Ext.refl _ | assumption | apply Ext.alloc | apply Ext.drew | apply Ext.drewN | (refine Ext.trans ?_ (by assumption)) | (refine Ext.setCell ?_ (by simp; done) _) | (refine Ext.setCell ?_ (by simp; omega) _)))⟩

theorem law_PrimitiveRay (x y : Int) (w : World) :
    Calls Try.prog 11 #[.int .i64 x, .int .i64 y] w fun r w' => r = .returned (.bool true) ∧ Ext w w' := by
  have hE : Ext w w := Ext.refl _
  go_enter Try.func11, Try.ntmps11
  go_wp2_with fail
  refine (spec_PrimitiveRay_any _ _ _).mono ?_
  rintro e w1 ⟨rfl, hb⟩
  (first | replace hE := Ext.trans hE hb | replace hE := Ext.trans (Ext.alloc hE _) hb | replace hE := Ext.trans (Ext.alloc (Ext.alloc hE _) _) hb | replace hE := Ext.trans (Ext.drew hE) hb | replace hE := Ext.trans (Ext.alloc (Ext.alloc (Ext.alloc hE _) _) _) hb)
  have hT : Ext w (w1.alloc (.cells #[.int .i64 (gI (stepB 20 x y) (x.tdiv (gcdI x y))), .int .i64 (gI (stepB 20 x y) (y.tdiv (gcdI x y))), .int .i64 (gI (stepB 20 x y) (gcdI x y))] 41)) := Ext.alloc hE _
  have HB := Has.new w1 #[.int .i64 (gI (stepB 20 x y) (x.tdiv (gcdI x y))), .int .i64 (gI (stepB 20 x y) (y.tdiv (gcdI x y))), .int .i64 (gI (stepB 20 x y) (gcdI x y))] 41
  have Bc0 := Ext.keeps (HB 0 _ rfl)
  have Bc1 := Ext.keeps (HB 1 _ rfl)
  have Bc2 := Ext.keeps (HB 2 _ rfl)
  clear HB
  replace hE : Ext (w1.alloc (.cells #[.int .i64 (gI (stepB 20 x y) (x.tdiv (gcdI x y))), .int .i64 (gI (stepB 20 x y) (y.tdiv (gcdI x y))), .int .i64 (gI (stepB 20 x y) (gcdI x y))] 41)) (w1.alloc (.cells #[.int .i64 (gI (stepB 20 x y) (x.tdiv (gcdI x y))), .int .i64 (gI (stepB 20 x y) (y.tdiv (gcdI x y))), .int .i64 (gI (stepB 20 x y) (gcdI x y))] 41)) := Ext.refl _
  go_wp2_with fail
  refine (impl_PrimitiveRay_any _ _ _).mono ?_
  rintro e w2 ⟨rfl, hb⟩
  (first | replace hE := Ext.trans hE hb | replace hE := Ext.trans (Ext.alloc hE _) hb | replace hE := Ext.trans (Ext.alloc (Ext.alloc hE _) _) hb | replace hE := Ext.trans (Ext.drew hE) hb | replace hE := Ext.trans (Ext.alloc (Ext.alloc (Ext.alloc hE _) _) _) hb)
  have hT : Ext (w1.alloc (.cells #[.int .i64 (gI (stepB 20 x y) (x.tdiv (gcdI x y))), .int .i64 (gI (stepB 20 x y) (y.tdiv (gcdI x y))), .int .i64 (gI (stepB 20 x y) (gcdI x y))] 41)) (w2.alloc (.cells #[.int .i64 (gI (stepB 20 x y) (x.tdiv (gcdI x y))), .int .i64 (gI (stepB 20 x y) (y.tdiv (gcdI x y))), .int .i64 (gI (stepB 20 x y) (gcdI x y))] 41)) := Ext.alloc hE _
  replace Bc0 := Ext.rebase hT Bc0
  replace Bc1 := Ext.rebase hT Bc1
  replace Bc2 := Ext.rebase hT Bc2
  have HC := Has.new w2 #[.int .i64 (gI (stepB 20 x y) (x.tdiv (gcdI x y))), .int .i64 (gI (stepB 20 x y) (y.tdiv (gcdI x y))), .int .i64 (gI (stepB 20 x y) (gcdI x y))] 41
  have Cc0 := Ext.keeps (HC 0 _ rfl)
  have Cc1 := Ext.keeps (HC 1 _ rfl)
  have Cc2 := Ext.keeps (HC 2 _ rfl)
  clear HC
  replace hE : Ext (w2.alloc (.cells #[.int .i64 (gI (stepB 20 x y) (x.tdiv (gcdI x y))), .int .i64 (gI (stepB 20 x y) (y.tdiv (gcdI x y))), .int .i64 (gI (stepB 20 x y) (gcdI x y))] 41)) (w2.alloc (.cells #[.int .i64 (gI (stepB 20 x y) (x.tdiv (gcdI x y))), .int .i64 (gI (stepB 20 x y) (y.tdiv (gcdI x y))), .int .i64 (gI (stepB 20 x y) (gcdI x y))] 41)) := Ext.refl _
  go_wp2_with fail
  refine (eqRay_same _ _ _ _).mono ?_
  rintro e w' ⟨rfl, hb⟩
  (first | replace hE := Ext.trans hE hb | replace hE := Ext.trans (Ext.alloc hE _) hb | replace hE := Ext.trans (Ext.alloc (Ext.alloc hE _) _) hb | replace hE := Ext.trans (Ext.drew hE) hb | replace hE := Ext.trans (Ext.alloc (Ext.alloc (Ext.alloc hE _) _) _) hb)
  go_wp2
  go_ret
  exact ⟨rfl, (by repeat (first | exact Ext.refl _ | assumption | apply Ext.alloc | apply Ext.drew | apply Ext.drewN | (refine Ext.trans ?_ (by assumption)) | (refine Ext.setCell ?_ (by simp; done) _) | (refine Ext.setCell ?_ (by simp; omega) _)))⟩

theorem mtMeets_any (a b n c d m p q : Int) (a1 : -20 ≤ a) (a2 : a ≤ 20) (b1 : -20 ≤ b) (b2 : b ≤ 20) (c1 : -20 ≤ c) (c2 : c ≤ 20) (d1 : -20 ≤ d) (d2 : d ≤ 20) (p1 : -1000 ≤ p) (p2 : p ≤ 1000) (q1 : -1000 ≤ q) (q2 : q ≤ 1000) (w : World) :
    Calls Try.prog 72 #[.agg #[.int .i64 a, .int .i64 b, .int .i64 n], .agg #[.int .i64 c, .int .i64 d, .int .i64 m], .int .i64 p, .int .i64 q] w fun r w' => r = .returned (.bool (meetB a b c d p q)) ∧ Ext w w' := by
  have HA := (Has.alloc (Has.new w #[.int .i64 a, .int .i64 b, .int .i64 n] 41) (.cells #[.int .i64 c, .int .i64 d, .int .i64 m] 41))
  have Ac0 := Ext.keeps (HA 0 _ rfl)
  have Ac1 := Ext.keeps (HA 1 _ rfl)
  have Ac2 := Ext.keeps (HA 2 _ rfl)
  clear HA
  have HB := (Has.new2 w (.cells #[.int .i64 a, .int .i64 b, .int .i64 n] 41) #[.int .i64 c, .int .i64 d, .int .i64 m] 41)
  have Bc0 := Ext.keeps (HB 0 _ rfl)
  have Bc1 := Ext.keeps (HB 1 _ rfl)
  have Bc2 := Ext.keeps (HB 2 _ rfl)
  clear HB
  have hE : Ext ((w.alloc (.cells #[.int .i64 a, .int .i64 b, .int .i64 n] 41)).alloc (.cells #[.int .i64 c, .int .i64 d, .int .i64 m] 41)) ((w.alloc (.cells #[.int .i64 a, .int .i64 b, .int .i64 n] 41)).alloc (.cells #[.int .i64 c, .int .i64 d, .int .i64 m] 41)) := Ext.refl _
  have hm : meetB a b c d p q = ((sgnI (detI a b c d) != 0) && (sgnI (p * d - q * c) == sgnI (detI a b c d)) && (sgnI (p * b - q * a) == sgnI (detI a b c d))) := rfl
  have H := Lib.hid hm
  clear hm
  have k1 := mul_bd p1 p2 d1 d2
  have k2 := mul_bd q1 q2 c1 c2
  have k3 := mul_bd p1 p2 b1 b2
  have k4 := mul_bd q1 q2 a1 a2
  go_enter Try.func72, Try.ntmps72
  go_wp2_with (first | (go_at_call 55; refine (mtDet_any _ _ _ _ _ _ (by omega) (by omega) (by omega) (by omega) (by omega) (by omega) (by omega) (by omega) _).mono ?_; rintro e w' ⟨rfl, hb⟩; (first | replace hE := Ext.trans hE hb | replace hE := Ext.trans (Ext.alloc hE _) hb | replace hE := Ext.trans (Ext.alloc (Ext.alloc hE _) _) hb | replace hE := Ext.trans (Ext.drew hE) hb | replace hE := Ext.trans (Ext.alloc (Ext.alloc (Ext.alloc hE _) _) _) hb)) | (go_at_call 87; refine (l1Sign_any _ _).mono ?_; rintro e _ ⟨rfl, rfl⟩))
  all_goals (
    go_ret
    exact ⟨ret_bool (by rw [H.out]; simp [*]), (by repeat (first | exact Ext.refl _ | assumption | apply Ext.alloc | apply Ext.drew | apply Ext.drewN | (refine Ext.trans ?_ (by assumption)) | (refine Ext.setCell ?_ (by simp; done) _) | (refine Ext.setCell ?_ (by simp; omega) _)))⟩)

set_option maxHeartbeats 2000000 in
theorem meets_any (a b n c d m p q : Int) (a1 : -20 ≤ a) (a2 : a ≤ 20) (b1 : -20 ≤ b) (b2 : b ≤ 20) (c1 : -20 ≤ c) (c2 : c ≤ 20) (d1 : -20 ≤ d) (d2 : d ≤ 20) (p1 : -1000 ≤ p) (p2 : p ≤ 1000) (q1 : -1000 ≤ q) (q2 : q ≤ 1000) (w : World) :
    Calls Try.prog 74 #[.agg #[.int .i64 a, .int .i64 b, .int .i64 n], .agg #[.int .i64 c, .int .i64 d, .int .i64 m], .agg #[.int .i64 p, .int .i64 q]] w fun r w' => r = .returned (.bool (meetB a b c d p q)) ∧ Ext w w' := by
  have HA := (Has.alloc (Has.alloc (Has.new w #[.int .i64 a, .int .i64 b, .int .i64 n] 41) (.cells #[.int .i64 c, .int .i64 d, .int .i64 m] 41)) (.cells #[.int .i64 p, .int .i64 q] 69))
  have Ac0 := Ext.keeps (HA 0 _ rfl)
  have Ac1 := Ext.keeps (HA 1 _ rfl)
  have Ac2 := Ext.keeps (HA 2 _ rfl)
  clear HA
  have HB := (Has.alloc (Has.new2 w (.cells #[.int .i64 a, .int .i64 b, .int .i64 n] 41) #[.int .i64 c, .int .i64 d, .int .i64 m] 41) (.cells #[.int .i64 p, .int .i64 q] 69))
  have Bc0 := Ext.keeps (HB 0 _ rfl)
  have Bc1 := Ext.keeps (HB 1 _ rfl)
  have Bc2 := Ext.keeps (HB 2 _ rfl)
  clear HB
  have HC := (Has.new3 w (.cells #[.int .i64 a, .int .i64 b, .int .i64 n] 41) (.cells #[.int .i64 c, .int .i64 d, .int .i64 m] 41) #[.int .i64 p, .int .i64 q] 69)
  have Cc0 := Ext.keeps (HC 0 _ rfl)
  have Cc1 := Ext.keeps (HC 1 _ rfl)
  clear HC
  have hE : Ext (((w.alloc (.cells #[.int .i64 a, .int .i64 b, .int .i64 n] 41)).alloc (.cells #[.int .i64 c, .int .i64 d, .int .i64 m] 41)).alloc (.cells #[.int .i64 p, .int .i64 q] 69)) (((w.alloc (.cells #[.int .i64 a, .int .i64 b, .int .i64 n] 41)).alloc (.cells #[.int .i64 c, .int .i64 d, .int .i64 m] 41)).alloc (.cells #[.int .i64 p, .int .i64 q] 69)) := Ext.refl _
  have hm : meetB a b c d p q = ((sgnI (detI a b c d) != 0) && (sgnI (detI p q c d) == sgnI (detI a b c d)) && (sgnI (detI p q a b) == sgnI (detI a b c d))) := rfl
  have H := Lib.hid hm
  clear hm
  cases hD : (sgnI (detI a b c d) != 0)
  · go_enter Try.func74, Try.ntmps74
    go_wp2_with fail
    have qA0 := fun s : Past (((w.alloc (.cells #[.int .i64 a, .int .i64 b, .int .i64 n] 41)).alloc (.cells #[.int .i64 c, .int .i64 d, .int .i64 m] 41)).alloc (.cells #[.int .i64 p, .int .i64 q] 69)) => Ac0 s.w s.ext
    have qA1 := fun s : Past (((w.alloc (.cells #[.int .i64 a, .int .i64 b, .int .i64 n] 41)).alloc (.cells #[.int .i64 c, .int .i64 d, .int .i64 m] 41)).alloc (.cells #[.int .i64 p, .int .i64 q] 69)) => Ac1 s.w s.ext
    have qA2 := fun s : Past (((w.alloc (.cells #[.int .i64 a, .int .i64 b, .int .i64 n] 41)).alloc (.cells #[.int .i64 c, .int .i64 d, .int .i64 m] 41)).alloc (.cells #[.int .i64 p, .int .i64 q] 69)) => Ac2 s.w s.ext
    have qB0 := fun s : Past (((w.alloc (.cells #[.int .i64 a, .int .i64 b, .int .i64 n] 41)).alloc (.cells #[.int .i64 c, .int .i64 d, .int .i64 m] 41)).alloc (.cells #[.int .i64 p, .int .i64 q] 69)) => Bc0 s.w s.ext
    have qB1 := fun s : Past (((w.alloc (.cells #[.int .i64 a, .int .i64 b, .int .i64 n] 41)).alloc (.cells #[.int .i64 c, .int .i64 d, .int .i64 m] 41)).alloc (.cells #[.int .i64 p, .int .i64 q] 69)) => Bc1 s.w s.ext
    have qB2 := fun s : Past (((w.alloc (.cells #[.int .i64 a, .int .i64 b, .int .i64 n] 41)).alloc (.cells #[.int .i64 c, .int .i64 d, .int .i64 m] 41)).alloc (.cells #[.int .i64 p, .int .i64 q] 69)) => Bc2 s.w s.ext
    have qC0 := fun s : Past (((w.alloc (.cells #[.int .i64 a, .int .i64 b, .int .i64 n] 41)).alloc (.cells #[.int .i64 c, .int .i64 d, .int .i64 m] 41)).alloc (.cells #[.int .i64 p, .int .i64 q] 69)) => Cc0 s.w s.ext
    have qC1 := fun s : Past (((w.alloc (.cells #[.int .i64 a, .int .i64 b, .int .i64 n] 41)).alloc (.cells #[.int .i64 c, .int .i64 d, .int .i64 m] 41)).alloc (.cells #[.int .i64 p, .int .i64 q] 69)) => Cc1 s.w s.ext
    refine wp_region_past (((w.alloc (.cells #[.int .i64 a, .int .i64 b, .int .i64 n] 41)).alloc (.cells #[.int .i64 c, .int .i64 d, .int .i64 m] 41)).alloc (.cells #[.int .i64 p, .int .i64 q] 69)) (by first | exact hE | exact Ext.alloc hE _ | exact Ext.drew hE | exact Ext.drewN hE _) (by kernel_rfl) (by kernel_rfl) ?_
    repeat (go_big_quiet_step ((first | (go_at_call 58; exact past_ext (steps_any _ _ _ _)) | (go_at_call 57; exact past_ext (cross_any _ _ _ _ (by omega) (by omega) (by omega) (by omega) (by omega) (by omega) (by omega) (by omega) _)) | (go_at_call 88; exact past_same (sign_any _ _)))))
    refine wpQuiet_nil ?_
    intro _ hw'
    obtain ⟨⟨v1, hE⟩, hw''⟩ := hw'
    subst hw''
    clear qA0 qA1 qA2 qB0 qB1 qB2 qC0 qC1
    go_wp2_with fail
    have qA0 := fun s : Past (((w.alloc (.cells #[.int .i64 a, .int .i64 b, .int .i64 n] 41)).alloc (.cells #[.int .i64 c, .int .i64 d, .int .i64 m] 41)).alloc (.cells #[.int .i64 p, .int .i64 q] 69)) => Ac0 s.w s.ext
    have qA1 := fun s : Past (((w.alloc (.cells #[.int .i64 a, .int .i64 b, .int .i64 n] 41)).alloc (.cells #[.int .i64 c, .int .i64 d, .int .i64 m] 41)).alloc (.cells #[.int .i64 p, .int .i64 q] 69)) => Ac1 s.w s.ext
    have qA2 := fun s : Past (((w.alloc (.cells #[.int .i64 a, .int .i64 b, .int .i64 n] 41)).alloc (.cells #[.int .i64 c, .int .i64 d, .int .i64 m] 41)).alloc (.cells #[.int .i64 p, .int .i64 q] 69)) => Ac2 s.w s.ext
    have qB0 := fun s : Past (((w.alloc (.cells #[.int .i64 a, .int .i64 b, .int .i64 n] 41)).alloc (.cells #[.int .i64 c, .int .i64 d, .int .i64 m] 41)).alloc (.cells #[.int .i64 p, .int .i64 q] 69)) => Bc0 s.w s.ext
    have qB1 := fun s : Past (((w.alloc (.cells #[.int .i64 a, .int .i64 b, .int .i64 n] 41)).alloc (.cells #[.int .i64 c, .int .i64 d, .int .i64 m] 41)).alloc (.cells #[.int .i64 p, .int .i64 q] 69)) => Bc1 s.w s.ext
    have qB2 := fun s : Past (((w.alloc (.cells #[.int .i64 a, .int .i64 b, .int .i64 n] 41)).alloc (.cells #[.int .i64 c, .int .i64 d, .int .i64 m] 41)).alloc (.cells #[.int .i64 p, .int .i64 q] 69)) => Bc2 s.w s.ext
    have qC0 := fun s : Past (((w.alloc (.cells #[.int .i64 a, .int .i64 b, .int .i64 n] 41)).alloc (.cells #[.int .i64 c, .int .i64 d, .int .i64 m] 41)).alloc (.cells #[.int .i64 p, .int .i64 q] 69)) => Cc0 s.w s.ext
    have qC1 := fun s : Past (((w.alloc (.cells #[.int .i64 a, .int .i64 b, .int .i64 n] 41)).alloc (.cells #[.int .i64 c, .int .i64 d, .int .i64 m] 41)).alloc (.cells #[.int .i64 p, .int .i64 q] 69)) => Cc1 s.w s.ext
    refine wp_region_past (((w.alloc (.cells #[.int .i64 a, .int .i64 b, .int .i64 n] 41)).alloc (.cells #[.int .i64 c, .int .i64 d, .int .i64 m] 41)).alloc (.cells #[.int .i64 p, .int .i64 q] 69)) (by first | exact hE | exact Ext.alloc hE _ | exact Ext.drew hE | exact Ext.drewN hE _) (by kernel_rfl) (by kernel_rfl) ?_
    repeat (go_big_quiet_step ((first | (go_at_call 58; exact past_ext (steps_any _ _ _ _)) | (go_at_call 57; exact past_ext (cross_any _ _ _ _ (by omega) (by omega) (by omega) (by omega) (by omega) (by omega) (by omega) (by omega) _)) | (go_at_call 88; exact past_same (sign_any _ _)))))
    refine wpQuiet_nil ?_
    intro _ hw'
    obtain ⟨⟨v2, hE⟩, hw''⟩ := hw'
    subst hw''
    clear qA0 qA1 qA2 qB0 qB1 qB2 qC0 qC1
    go_wp2
    go_ret
    exact ⟨ret_bool (by rw [H.out, hD]; simp), (by repeat (first | exact Ext.refl _ | assumption | apply Ext.alloc | apply Ext.drew | apply Ext.drewN | (refine Ext.trans ?_ (by assumption)) | (refine Ext.setCell ?_ (by simp; done) _) | (refine Ext.setCell ?_ (by simp; omega) _)))⟩
  
  cases hF : (sgnI (detI p q c d) == sgnI (detI a b c d))
  · go_enter Try.func74, Try.ntmps74
    go_wp2_with fail
    have qA0 := fun s : Past (((w.alloc (.cells #[.int .i64 a, .int .i64 b, .int .i64 n] 41)).alloc (.cells #[.int .i64 c, .int .i64 d, .int .i64 m] 41)).alloc (.cells #[.int .i64 p, .int .i64 q] 69)) => Ac0 s.w s.ext
    have qA1 := fun s : Past (((w.alloc (.cells #[.int .i64 a, .int .i64 b, .int .i64 n] 41)).alloc (.cells #[.int .i64 c, .int .i64 d, .int .i64 m] 41)).alloc (.cells #[.int .i64 p, .int .i64 q] 69)) => Ac1 s.w s.ext
    have qA2 := fun s : Past (((w.alloc (.cells #[.int .i64 a, .int .i64 b, .int .i64 n] 41)).alloc (.cells #[.int .i64 c, .int .i64 d, .int .i64 m] 41)).alloc (.cells #[.int .i64 p, .int .i64 q] 69)) => Ac2 s.w s.ext
    have qB0 := fun s : Past (((w.alloc (.cells #[.int .i64 a, .int .i64 b, .int .i64 n] 41)).alloc (.cells #[.int .i64 c, .int .i64 d, .int .i64 m] 41)).alloc (.cells #[.int .i64 p, .int .i64 q] 69)) => Bc0 s.w s.ext
    have qB1 := fun s : Past (((w.alloc (.cells #[.int .i64 a, .int .i64 b, .int .i64 n] 41)).alloc (.cells #[.int .i64 c, .int .i64 d, .int .i64 m] 41)).alloc (.cells #[.int .i64 p, .int .i64 q] 69)) => Bc1 s.w s.ext
    have qB2 := fun s : Past (((w.alloc (.cells #[.int .i64 a, .int .i64 b, .int .i64 n] 41)).alloc (.cells #[.int .i64 c, .int .i64 d, .int .i64 m] 41)).alloc (.cells #[.int .i64 p, .int .i64 q] 69)) => Bc2 s.w s.ext
    have qC0 := fun s : Past (((w.alloc (.cells #[.int .i64 a, .int .i64 b, .int .i64 n] 41)).alloc (.cells #[.int .i64 c, .int .i64 d, .int .i64 m] 41)).alloc (.cells #[.int .i64 p, .int .i64 q] 69)) => Cc0 s.w s.ext
    have qC1 := fun s : Past (((w.alloc (.cells #[.int .i64 a, .int .i64 b, .int .i64 n] 41)).alloc (.cells #[.int .i64 c, .int .i64 d, .int .i64 m] 41)).alloc (.cells #[.int .i64 p, .int .i64 q] 69)) => Cc1 s.w s.ext
    refine wp_region_past (((w.alloc (.cells #[.int .i64 a, .int .i64 b, .int .i64 n] 41)).alloc (.cells #[.int .i64 c, .int .i64 d, .int .i64 m] 41)).alloc (.cells #[.int .i64 p, .int .i64 q] 69)) (by first | exact hE | exact Ext.alloc hE _ | exact Ext.drew hE | exact Ext.drewN hE _) (by kernel_rfl) (by kernel_rfl) ?_
    repeat (go_big_quiet_step ((first | (go_at_call 58; exact past_ext (steps_any _ _ _ _)) | (go_at_call 57; exact past_ext (cross_any _ _ _ _ (by omega) (by omega) (by omega) (by omega) (by omega) (by omega) (by omega) (by omega) _)) | (go_at_call 88; exact past_same (sign_any _ _)))))
    refine wpQuiet_nil ?_
    intro _ hw'
    obtain ⟨⟨v1, hE⟩, hw''⟩ := hw'
    subst hw''
    clear qA0 qA1 qA2 qB0 qB1 qB2 qC0 qC1
    go_wp2_with fail
    have qA0 := fun s : Past (((w.alloc (.cells #[.int .i64 a, .int .i64 b, .int .i64 n] 41)).alloc (.cells #[.int .i64 c, .int .i64 d, .int .i64 m] 41)).alloc (.cells #[.int .i64 p, .int .i64 q] 69)) => Ac0 s.w s.ext
    have qA1 := fun s : Past (((w.alloc (.cells #[.int .i64 a, .int .i64 b, .int .i64 n] 41)).alloc (.cells #[.int .i64 c, .int .i64 d, .int .i64 m] 41)).alloc (.cells #[.int .i64 p, .int .i64 q] 69)) => Ac1 s.w s.ext
    have qA2 := fun s : Past (((w.alloc (.cells #[.int .i64 a, .int .i64 b, .int .i64 n] 41)).alloc (.cells #[.int .i64 c, .int .i64 d, .int .i64 m] 41)).alloc (.cells #[.int .i64 p, .int .i64 q] 69)) => Ac2 s.w s.ext
    have qB0 := fun s : Past (((w.alloc (.cells #[.int .i64 a, .int .i64 b, .int .i64 n] 41)).alloc (.cells #[.int .i64 c, .int .i64 d, .int .i64 m] 41)).alloc (.cells #[.int .i64 p, .int .i64 q] 69)) => Bc0 s.w s.ext
    have qB1 := fun s : Past (((w.alloc (.cells #[.int .i64 a, .int .i64 b, .int .i64 n] 41)).alloc (.cells #[.int .i64 c, .int .i64 d, .int .i64 m] 41)).alloc (.cells #[.int .i64 p, .int .i64 q] 69)) => Bc1 s.w s.ext
    have qB2 := fun s : Past (((w.alloc (.cells #[.int .i64 a, .int .i64 b, .int .i64 n] 41)).alloc (.cells #[.int .i64 c, .int .i64 d, .int .i64 m] 41)).alloc (.cells #[.int .i64 p, .int .i64 q] 69)) => Bc2 s.w s.ext
    have qC0 := fun s : Past (((w.alloc (.cells #[.int .i64 a, .int .i64 b, .int .i64 n] 41)).alloc (.cells #[.int .i64 c, .int .i64 d, .int .i64 m] 41)).alloc (.cells #[.int .i64 p, .int .i64 q] 69)) => Cc0 s.w s.ext
    have qC1 := fun s : Past (((w.alloc (.cells #[.int .i64 a, .int .i64 b, .int .i64 n] 41)).alloc (.cells #[.int .i64 c, .int .i64 d, .int .i64 m] 41)).alloc (.cells #[.int .i64 p, .int .i64 q] 69)) => Cc1 s.w s.ext
    refine wp_region_past (((w.alloc (.cells #[.int .i64 a, .int .i64 b, .int .i64 n] 41)).alloc (.cells #[.int .i64 c, .int .i64 d, .int .i64 m] 41)).alloc (.cells #[.int .i64 p, .int .i64 q] 69)) (by first | exact hE | exact Ext.alloc hE _ | exact Ext.drew hE | exact Ext.drewN hE _) (by kernel_rfl) (by kernel_rfl) ?_
    repeat (go_big_quiet_step ((first | (go_at_call 58; exact past_ext (steps_any _ _ _ _)) | (go_at_call 57; exact past_ext (cross_any _ _ _ _ (by omega) (by omega) (by omega) (by omega) (by omega) (by omega) (by omega) (by omega) _)) | (go_at_call 88; exact past_same (sign_any _ _)))))
    refine wpQuiet_nil ?_
    intro _ hw'
    obtain ⟨⟨v2, hE⟩, hw''⟩ := hw'
    subst hw''
    clear qA0 qA1 qA2 qB0 qB1 qB2 qC0 qC1
    go_wp2
    go_ret
    exact ⟨ret_bool (by rw [H.out, hD, hF]; simp), (by repeat (first | exact Ext.refl _ | assumption | apply Ext.alloc | apply Ext.drew | apply Ext.drewN | (refine Ext.trans ?_ (by assumption)) | (refine Ext.setCell ?_ (by simp; done) _) | (refine Ext.setCell ?_ (by simp; omega) _)))⟩
  
  · go_enter Try.func74, Try.ntmps74
    go_wp2_with fail
    have qA0 := fun s : Past (((w.alloc (.cells #[.int .i64 a, .int .i64 b, .int .i64 n] 41)).alloc (.cells #[.int .i64 c, .int .i64 d, .int .i64 m] 41)).alloc (.cells #[.int .i64 p, .int .i64 q] 69)) => Ac0 s.w s.ext
    have qA1 := fun s : Past (((w.alloc (.cells #[.int .i64 a, .int .i64 b, .int .i64 n] 41)).alloc (.cells #[.int .i64 c, .int .i64 d, .int .i64 m] 41)).alloc (.cells #[.int .i64 p, .int .i64 q] 69)) => Ac1 s.w s.ext
    have qA2 := fun s : Past (((w.alloc (.cells #[.int .i64 a, .int .i64 b, .int .i64 n] 41)).alloc (.cells #[.int .i64 c, .int .i64 d, .int .i64 m] 41)).alloc (.cells #[.int .i64 p, .int .i64 q] 69)) => Ac2 s.w s.ext
    have qB0 := fun s : Past (((w.alloc (.cells #[.int .i64 a, .int .i64 b, .int .i64 n] 41)).alloc (.cells #[.int .i64 c, .int .i64 d, .int .i64 m] 41)).alloc (.cells #[.int .i64 p, .int .i64 q] 69)) => Bc0 s.w s.ext
    have qB1 := fun s : Past (((w.alloc (.cells #[.int .i64 a, .int .i64 b, .int .i64 n] 41)).alloc (.cells #[.int .i64 c, .int .i64 d, .int .i64 m] 41)).alloc (.cells #[.int .i64 p, .int .i64 q] 69)) => Bc1 s.w s.ext
    have qB2 := fun s : Past (((w.alloc (.cells #[.int .i64 a, .int .i64 b, .int .i64 n] 41)).alloc (.cells #[.int .i64 c, .int .i64 d, .int .i64 m] 41)).alloc (.cells #[.int .i64 p, .int .i64 q] 69)) => Bc2 s.w s.ext
    have qC0 := fun s : Past (((w.alloc (.cells #[.int .i64 a, .int .i64 b, .int .i64 n] 41)).alloc (.cells #[.int .i64 c, .int .i64 d, .int .i64 m] 41)).alloc (.cells #[.int .i64 p, .int .i64 q] 69)) => Cc0 s.w s.ext
    have qC1 := fun s : Past (((w.alloc (.cells #[.int .i64 a, .int .i64 b, .int .i64 n] 41)).alloc (.cells #[.int .i64 c, .int .i64 d, .int .i64 m] 41)).alloc (.cells #[.int .i64 p, .int .i64 q] 69)) => Cc1 s.w s.ext
    refine wp_region_past (((w.alloc (.cells #[.int .i64 a, .int .i64 b, .int .i64 n] 41)).alloc (.cells #[.int .i64 c, .int .i64 d, .int .i64 m] 41)).alloc (.cells #[.int .i64 p, .int .i64 q] 69)) (by first | exact hE | exact Ext.alloc hE _ | exact Ext.drew hE | exact Ext.drewN hE _) (by kernel_rfl) (by kernel_rfl) ?_
    repeat (go_big_quiet_step ((first | (go_at_call 58; exact past_ext (steps_any _ _ _ _)) | (go_at_call 57; exact past_ext (cross_any _ _ _ _ (by omega) (by omega) (by omega) (by omega) (by omega) (by omega) (by omega) (by omega) _)) | (go_at_call 88; exact past_same (sign_any _ _)))))
    refine wpQuiet_nil ?_
    intro _ hw'
    obtain ⟨⟨v1, hE⟩, hw''⟩ := hw'
    subst hw''
    clear qA0 qA1 qA2 qB0 qB1 qB2 qC0 qC1
    go_wp2_with fail
    have qA0 := fun s : Past (((w.alloc (.cells #[.int .i64 a, .int .i64 b, .int .i64 n] 41)).alloc (.cells #[.int .i64 c, .int .i64 d, .int .i64 m] 41)).alloc (.cells #[.int .i64 p, .int .i64 q] 69)) => Ac0 s.w s.ext
    have qA1 := fun s : Past (((w.alloc (.cells #[.int .i64 a, .int .i64 b, .int .i64 n] 41)).alloc (.cells #[.int .i64 c, .int .i64 d, .int .i64 m] 41)).alloc (.cells #[.int .i64 p, .int .i64 q] 69)) => Ac1 s.w s.ext
    have qA2 := fun s : Past (((w.alloc (.cells #[.int .i64 a, .int .i64 b, .int .i64 n] 41)).alloc (.cells #[.int .i64 c, .int .i64 d, .int .i64 m] 41)).alloc (.cells #[.int .i64 p, .int .i64 q] 69)) => Ac2 s.w s.ext
    have qB0 := fun s : Past (((w.alloc (.cells #[.int .i64 a, .int .i64 b, .int .i64 n] 41)).alloc (.cells #[.int .i64 c, .int .i64 d, .int .i64 m] 41)).alloc (.cells #[.int .i64 p, .int .i64 q] 69)) => Bc0 s.w s.ext
    have qB1 := fun s : Past (((w.alloc (.cells #[.int .i64 a, .int .i64 b, .int .i64 n] 41)).alloc (.cells #[.int .i64 c, .int .i64 d, .int .i64 m] 41)).alloc (.cells #[.int .i64 p, .int .i64 q] 69)) => Bc1 s.w s.ext
    have qB2 := fun s : Past (((w.alloc (.cells #[.int .i64 a, .int .i64 b, .int .i64 n] 41)).alloc (.cells #[.int .i64 c, .int .i64 d, .int .i64 m] 41)).alloc (.cells #[.int .i64 p, .int .i64 q] 69)) => Bc2 s.w s.ext
    have qC0 := fun s : Past (((w.alloc (.cells #[.int .i64 a, .int .i64 b, .int .i64 n] 41)).alloc (.cells #[.int .i64 c, .int .i64 d, .int .i64 m] 41)).alloc (.cells #[.int .i64 p, .int .i64 q] 69)) => Cc0 s.w s.ext
    have qC1 := fun s : Past (((w.alloc (.cells #[.int .i64 a, .int .i64 b, .int .i64 n] 41)).alloc (.cells #[.int .i64 c, .int .i64 d, .int .i64 m] 41)).alloc (.cells #[.int .i64 p, .int .i64 q] 69)) => Cc1 s.w s.ext
    refine wp_region_past (((w.alloc (.cells #[.int .i64 a, .int .i64 b, .int .i64 n] 41)).alloc (.cells #[.int .i64 c, .int .i64 d, .int .i64 m] 41)).alloc (.cells #[.int .i64 p, .int .i64 q] 69)) (by first | exact hE | exact Ext.alloc hE _ | exact Ext.drew hE | exact Ext.drewN hE _) (by kernel_rfl) (by kernel_rfl) ?_
    repeat (go_big_quiet_step ((first | (go_at_call 58; exact past_ext (steps_any _ _ _ _)) | (go_at_call 57; exact past_ext (cross_any _ _ _ _ (by omega) (by omega) (by omega) (by omega) (by omega) (by omega) (by omega) (by omega) _)) | (go_at_call 88; exact past_same (sign_any _ _)))))
    refine wpQuiet_nil ?_
    intro _ hw'
    obtain ⟨⟨v2, hE⟩, hw''⟩ := hw'
    subst hw''
    clear qA0 qA1 qA2 qB0 qB1 qB2 qC0 qC1
    go_wp2
    go_ret
    exact ⟨ret_bool (by rw [H.out, hD, hF]; simp), (by repeat (first | exact Ext.refl _ | assumption | apply Ext.alloc | apply Ext.drew | apply Ext.drewN | (refine Ext.trans ?_ (by assumption)) | (refine Ext.setCell ?_ (by simp; done) _) | (refine Ext.setCell ?_ (by simp; omega) _)))⟩
  

theorem spec_MeetsWhenMoved_any (a b n c d m p q : Int) (w : World) :
    Calls Try.prog 41 #[.agg #[.int .i64 a, .int .i64 b, .int .i64 n], .agg #[.int .i64 c, .int .i64 d, .int .i64 m], .int .i64 p, .int .i64 q] w fun r w' => r = .returned (.tuple #[.bool (rayB a b n && rayB c d m && stepB 1000 p q && meetB a b c d p q), .bool (rayB a b n && rayB c d m && stepB 1000 p q)]) ∧ Ext w w' := by
  have HA := (Has.alloc (Has.new w #[.int .i64 a, .int .i64 b, .int .i64 n] 41) (.cells #[.int .i64 c, .int .i64 d, .int .i64 m] 41))
  have Ac0 := Ext.keeps (HA 0 _ rfl)
  have Ac1 := Ext.keeps (HA 1 _ rfl)
  have Ac2 := Ext.keeps (HA 2 _ rfl)
  clear HA
  have HB := (Has.new2 w (.cells #[.int .i64 a, .int .i64 b, .int .i64 n] 41) #[.int .i64 c, .int .i64 d, .int .i64 m] 41)
  have Bc0 := Ext.keeps (HB 0 _ rfl)
  have Bc1 := Ext.keeps (HB 1 _ rfl)
  have Bc2 := Ext.keeps (HB 2 _ rfl)
  clear HB
  have hE : Ext ((w.alloc (.cells #[.int .i64 a, .int .i64 b, .int .i64 n] 41)).alloc (.cells #[.int .i64 c, .int .i64 d, .int .i64 m] 41)) ((w.alloc (.cells #[.int .i64 a, .int .i64 b, .int .i64 n] 41)).alloc (.cells #[.int .i64 c, .int .i64 d, .int .i64 m] 41)) := Ext.refl _
  rcases rayB_cases a b n with h | ⟨h, h1, h2, h3⟩ <;> rcases rayB_cases c d m with k | ⟨k, k1, k2, k3⟩ <;> rcases stepB_cases 1000 p q with s | ⟨s, s1, s2, _⟩ <;> (
    go_enter Try.func41, Try.ntmps41
    go_wp2_with (first | (go_at_call 54; refine (stRay_any _ _ _ _).mono ?_; rintro e w' ⟨rfl, hb⟩; (first | replace hE := Ext.trans hE hb | replace hE := Ext.trans (Ext.alloc hE _) hb | replace hE := Ext.trans (Ext.alloc (Ext.alloc hE _) _) hb | replace hE := Ext.trans (Ext.drew hE) hb | replace hE := Ext.trans (Ext.alloc (Ext.alloc (Ext.alloc hE _) _) _) hb)) | (go_at_call 71; refine (mtMove_any _ _ _).mono ?_; rintro e _ ⟨rfl, rfl⟩) | (go_at_call 72; refine (mtMeets_any _ _ _ _ _ _ _ _ (by omega) (by omega) (by omega) (by omega) (by omega) (by omega) (by omega) (by omega) (by omega) (by omega) (by omega) (by omega) _).mono ?_; rintro e w' ⟨rfl, hb⟩; (first | replace hE := Ext.trans hE hb | replace hE := Ext.trans (Ext.alloc hE _) hb | replace hE := Ext.trans (Ext.alloc (Ext.alloc hE _) _) hb | replace hE := Ext.trans (Ext.drew hE) hb | replace hE := Ext.trans (Ext.alloc (Ext.alloc (Ext.alloc hE _) _) _) hb)))
    go_ret2
    exact ⟨by simp [h, k, s], (by repeat (first | exact Ext.refl _ | assumption | apply Ext.alloc | apply Ext.drew | apply Ext.drewN | (refine Ext.trans ?_ (by assumption)) | (refine Ext.setCell ?_ (by simp; done) _) | (refine Ext.setCell ?_ (by simp; omega) _)))⟩)

theorem impl_MeetsWhenMoved_any (a b n c d m p q : Int) (w : World) :
    Calls Try.prog 42 #[.agg #[.int .i64 a, .int .i64 b, .int .i64 n], .agg #[.int .i64 c, .int .i64 d, .int .i64 m], .int .i64 p, .int .i64 q] w fun r w' => r = .returned (.tuple #[.bool (rayB a b n && rayB c d m && stepB 1000 p q && meetB a b c d p q), .bool (rayB a b n && rayB c d m && stepB 1000 p q)]) ∧ Ext w w' := by
  have HA := (Has.alloc (Has.new w #[.int .i64 a, .int .i64 b, .int .i64 n] 41) (.cells #[.int .i64 c, .int .i64 d, .int .i64 m] 41))
  have Ac0 := Ext.keeps (HA 0 _ rfl)
  have Ac1 := Ext.keeps (HA 1 _ rfl)
  have Ac2 := Ext.keeps (HA 2 _ rfl)
  clear HA
  have HB := (Has.new2 w (.cells #[.int .i64 a, .int .i64 b, .int .i64 n] 41) #[.int .i64 c, .int .i64 d, .int .i64 m] 41)
  have Bc0 := Ext.keeps (HB 0 _ rfl)
  have Bc1 := Ext.keeps (HB 1 _ rfl)
  have Bc2 := Ext.keeps (HB 2 _ rfl)
  clear HB
  have hE : Ext ((w.alloc (.cells #[.int .i64 a, .int .i64 b, .int .i64 n] 41)).alloc (.cells #[.int .i64 c, .int .i64 d, .int .i64 m] 41)) ((w.alloc (.cells #[.int .i64 a, .int .i64 b, .int .i64 n] 41)).alloc (.cells #[.int .i64 c, .int .i64 d, .int .i64 m] 41)) := Ext.refl _
  rcases rayB_cases a b n with h | ⟨h, h1, h2, h3⟩ <;> rcases rayB_cases c d m with k | ⟨k, k1, k2, k3⟩ <;> rcases stepB_cases 1000 p q with s | ⟨s, s1, s2, _⟩ <;> (
    go_enter Try.func42, Try.ntmps42
    go_wp2_with (first | (go_at_call 56; refine (isRay_any _ _ _ _).mono ?_; rintro e w' ⟨rfl, hb⟩; (first | replace hE := Ext.trans hE hb | replace hE := Ext.trans (Ext.alloc hE _) hb | replace hE := Ext.trans (Ext.alloc (Ext.alloc hE _) _) hb | replace hE := Ext.trans (Ext.drew hE) hb | replace hE := Ext.trans (Ext.alloc (Ext.alloc (Ext.alloc hE _) _) _) hb)) | (go_at_call 73; refine (isMove_any _ _ _).mono ?_; rintro e _ ⟨rfl, rfl⟩) | (go_at_call 74; refine (meets_any _ _ _ _ _ _ _ _ (by omega) (by omega) (by omega) (by omega) (by omega) (by omega) (by omega) (by omega) (by omega) (by omega) (by omega) (by omega) _).mono ?_; rintro e w' ⟨rfl, hb⟩; (first | replace hE := Ext.trans hE hb | replace hE := Ext.trans (Ext.alloc hE _) hb | replace hE := Ext.trans (Ext.alloc (Ext.alloc hE _) _) hb | replace hE := Ext.trans (Ext.drew hE) hb | replace hE := Ext.trans (Ext.alloc (Ext.alloc (Ext.alloc hE _) _) _) hb)))
    go_ret2
    exact ⟨by simp [h, k, s], (by repeat (first | exact Ext.refl _ | assumption | apply Ext.alloc | apply Ext.drew | apply Ext.drewN | (refine Ext.trans ?_ (by assumption)) | (refine Ext.setCell ?_ (by simp; done) _) | (refine Ext.setCell ?_ (by simp; omega) _)))⟩)

theorem law_MeetsWhenMoved (a b n c d m p q : Int) (w : World) :
    Calls Try.prog 13 #[.agg #[.int .i64 a, .int .i64 b, .int .i64 n], .agg #[.int .i64 c, .int .i64 d, .int .i64 m], .int .i64 p, .int .i64 q] w fun r w' => r = .returned (.bool true) ∧ Ext w w' := by
  have HA := (Has.alloc (Has.new w #[.int .i64 a, .int .i64 b, .int .i64 n] 39) (.cells #[.int .i64 c, .int .i64 d, .int .i64 m] 39))
  have Ac0 := Ext.keeps (HA 0 _ rfl)
  have Ac1 := Ext.keeps (HA 1 _ rfl)
  have Ac2 := Ext.keeps (HA 2 _ rfl)
  clear HA
  have HB := (Has.new2 w (.cells #[.int .i64 a, .int .i64 b, .int .i64 n] 39) #[.int .i64 c, .int .i64 d, .int .i64 m] 39)
  have Bc0 := Ext.keeps (HB 0 _ rfl)
  have Bc1 := Ext.keeps (HB 1 _ rfl)
  have Bc2 := Ext.keeps (HB 2 _ rfl)
  clear HB
  have hE : Ext ((w.alloc (.cells #[.int .i64 a, .int .i64 b, .int .i64 n] 39)).alloc (.cells #[.int .i64 c, .int .i64 d, .int .i64 m] 39)) ((w.alloc (.cells #[.int .i64 a, .int .i64 b, .int .i64 n] 39)).alloc (.cells #[.int .i64 c, .int .i64 d, .int .i64 m] 39)) := Ext.refl _
  go_enter Try.func13, Try.ntmps13
  go_wp2_with fail
  go_region_held3 (fun w' => Ext ((w.alloc (.cells #[.int .i64 a, .int .i64 b, .int .i64 n] 39)).alloc (.cells #[.int .i64 c, .int .i64 d, .int .i64 m] 39)) w') ((repeat (first | exact Ext.refl _ | assumption | apply Ext.alloc | apply Ext.drew | apply Ext.drewN | (refine Ext.trans ?_ (by assumption)) | (refine Ext.setCell ?_ (by simp; done) _) | (refine Ext.setCell ?_ (by simp; omega) _)))) (first | (go_at_call 28; refine (toRay_any _ _ _ _).mono ?_; rintro e w' ⟨rfl, hb⟩) | (go_at_call 41; refine (spec_MeetsWhenMoved_any _ _ _ _ _ _ _ _ _).mono ?_; rintro e w' ⟨rfl, hb⟩))
  all_goals (
    go_wp2_with fail
    go_region_held3 (fun w' => Ext ((w.alloc (.cells #[.int .i64 a, .int .i64 b, .int .i64 n] 39)).alloc (.cells #[.int .i64 c, .int .i64 d, .int .i64 m] 39)) w') ((repeat (first | exact Ext.refl _ | assumption | apply Ext.alloc | apply Ext.drew | apply Ext.drewN | (refine Ext.trans ?_ (by assumption)) | (refine Ext.setCell ?_ (by simp; done) _) | (refine Ext.setCell ?_ (by simp; omega) _)))) (first | (go_at_call 28; refine (toRay_any _ _ _ _).mono ?_; rintro e w' ⟨rfl, hb⟩) | (go_at_call 42; refine (impl_MeetsWhenMoved_any _ _ _ _ _ _ _ _ _).mono ?_; rintro e w' ⟨rfl, hb⟩))
    )
  all_goals (
    go_wp2
    go_ret
    exact ⟨rfl, (by repeat (first | exact Ext.refl _ | assumption | apply Ext.alloc | apply Ext.drew | apply Ext.drewN | (refine Ext.trans ?_ (by assumption)) | (refine Ext.setCell ?_ (by simp; done) _) | (refine Ext.setCell ?_ (by simp; omega) _)))⟩)

end Go.Proofs.Ytgnhkfaiahddgaa
