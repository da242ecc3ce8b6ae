/-
  The contracts of the functions on rays: validity, determinants, steps.
-/
import Derived.Test.YtaloegjcdllgoaaNum
import Derived.Test.YtaloegjcdllgoaaConv
namespace Go.Proofs.Ytaloegjcdllgoaa
open Go.RowKit

theorem areSteps_any (x y : Int) (w : World) :
    Calls Try.prog 87 #[.int .i64 x, .int .i64 y] w fun r w' => r = .returned (.bool (stepB 20 x y)) ∧ w = w' := by
  go_enter Try.func87, Try.ntmps87
  go_wp2_with ((go_at_call 47; refine (within_any _ _ _ _).mono ?_; rintro e _ ⟨rfl, rfl⟩))
  all_goals (go_ret; exact ⟨ret_bool (by unfold stepB; first | (simp [*]; done) | simp_all), rfl⟩)

theorem gcd_ext (a b : Int) (ha1 : -9223372036854775807 ≤ a) (ha2 : a ≤ 9223372036854775807) (hb1 : -9223372036854775807 ≤ b) (hb2 : b ≤ 9223372036854775807) (w : World) :
    Calls Try.prog 67 #[.int .i64 a, .int .i64 b] w fun r w' => r = .returned (.int .i64 (gcdI a b)) ∧ Ext w w' :=
  (gcd_any a b ha1 ha2 hb1 hb2 w).mono fun _ _ ⟨he, n, hn⟩ => ⟨he, hn ▸ Ext.drewN (Ext.refl w) n⟩

theorem isRay_any (x y n : Int) (w : World) :
    Calls Try.prog 71 #[.agg #[.int .i64 x, .int .i64 y, .int .i64 n]] w fun r w' => r = .returned (.bool (rayB x y n)) ∧ Ext w w' := by
  have HA := (Has.new w #[.int .i64 x, .int .i64 y, .int .i64 n] 52)
  have Ac0 := Ext.keeps (HA 0 _ rfl)
  have Ac1 := Ext.keeps (HA 1 _ rfl)
  have Ac2 := Ext.keeps (HA 2 _ rfl)
  clear HA
  have hE : Ext (w.alloc (.cells #[.int .i64 x, .int .i64 y, .int .i64 n] 52)) (w.alloc (.cells #[.int .i64 x, .int .i64 y, .int .i64 n] 52)) := Ext.refl _
  rcases stepB_cases 20 x y with h | ⟨h, hx, hy, _⟩
  · go_enter Try.func71, Try.ntmps71
    go_wp2_with ((go_at_call 87; refine (areSteps_any _ _ _).mono ?_; rintro e _ ⟨rfl, rfl⟩))
    go_ret
    exact ⟨ret_bool (by rw [rayB_step, h]; rfl), (by repeat (first | exact Ext.refl _ | assumption | apply Ext.alloc | apply Ext.drew | apply Ext.drewN | (refine Ext.trans ?_ (by assumption)) | (refine Ext.setCell ?_ (by (try simp) <;> omega) _)))⟩
  · cases hg : (gcdI x y == 1) <;> (
      go_enter Try.func71, Try.ntmps71
      go_wp2_with (first | (go_at_call 87; refine (areSteps_any _ _ _).mono ?_; rintro e _ ⟨rfl, rfl⟩) | (go_at_call 67; refine (gcd_ext _ _ (by omega) (by omega) (by omega) (by omega) _).mono ?_; rintro e w' ⟨rfl, hb⟩; (first | replace hE := Ext.trans hE hb | replace hE := Ext.trans (Ext.alloc hE _) hb | replace hE := Ext.trans (Ext.alloc (Ext.alloc hE _) _) hb | replace hE := Ext.trans (Ext.drew hE) hb | replace hE := Ext.trans (Ext.alloc (Ext.alloc (Ext.alloc hE _) _) _) hb)) | (go_at_call 47; refine (within_any _ _ _ _).mono ?_; rintro e _ ⟨rfl, rfl⟩))
      go_ret
      exact ⟨ret_bool (by rw [rayB_step, h, hg]; simp), (by repeat (first | exact Ext.refl _ | assumption | apply Ext.alloc | apply Ext.drew | apply Ext.drewN | (refine Ext.trans ?_ (by assumption)) | (refine Ext.setCell ?_ (by (try simp) <;> omega) _)))⟩)

set_option maxHeartbeats 2000000 in
theorem stRay_any (x y n : Int) (w : World) :
    Calls Try.prog 53 #[.agg #[.int .i64 x, .int .i64 y, .int .i64 n]] w fun r w' => r = .returned (.bool (rayB x y n)) ∧ Ext w w' := by
  have HA := (Has.new w #[.int .i64 x, .int .i64 y, .int .i64 n] 52)
  have Ac0 := Ext.keeps (HA 0 _ rfl)
  have Ac1 := Ext.keeps (HA 1 _ rfl)
  have Ac2 := Ext.keeps (HA 2 _ rfl)
  clear HA
  have hE : Ext (w.alloc (.cells #[.int .i64 x, .int .i64 y, .int .i64 n] 52)) (w.alloc (.cells #[.int .i64 x, .int .i64 y, .int .i64 n] 52)) := Ext.refl _
  have hga := gcdI_absI x y
  cases h1 : inB x (-20) 20
  · go_enter Try.func53, Try.ntmps53
    go_wp2
    go_quiet ((go_at_call 44; exact quiet_left (l1In_any _ _ _ _)))
    go_wp2
    go_ret
    exact ⟨ret_bool (by simp [rayB, h1]), (by repeat (first | exact Ext.refl _ | assumption | apply Ext.alloc | apply Ext.drew | apply Ext.drewN | (refine Ext.trans ?_ (by assumption)) | (refine Ext.setCell ?_ (by (try simp) <;> omega) _)))⟩
  have b1 := inB_true.1 h1
  cases h2 : inB y (-20) 20
  · go_enter Try.func53, Try.ntmps53
    go_wp2
    go_quiet ((go_at_call 44; exact quiet_left (l1In_any _ _ _ _)))
    go_wp2
    go_ret
    exact ⟨ret_bool (by simp [rayB, h1, h2]), (by repeat (first | exact Ext.refl _ | assumption | apply Ext.alloc | apply Ext.drew | apply Ext.drewN | (refine Ext.trans ?_ (by assumption)) | (refine Ext.setCell ?_ (by (try simp) <;> omega) _)))⟩
  have b2 := inB_true.1 h2
  have k1 := absI_nonneg x
  have k2 := absI_nonneg y
  have k3 := absI_le b1.1 b1.2
  have k4 := absI_le b2.1 b2.2
  cases h3 : (gcdI x y == 1) <;> (
    go_enter Try.func53, Try.ntmps53
    go_wp2
    go_quiet ((first | (go_at_call 44; exact quiet_left (l1In_any _ _ _ _)) | (go_at_call 69; exact quiet_left (l1Abs_any _ (by omega) (by omega) _)) | (go_at_call 68; exact quiet_left (stCommon_any _ _ (by omega) (by omega) (by omega) (by omega) _))))
    go_wp2
    go_ret
    exact ⟨ret_bool (by simp [rayB, h1, h2, h3]), (by repeat (first | exact Ext.refl _ | assumption | apply Ext.alloc | apply Ext.drew | apply Ext.drewN | (refine Ext.trans ?_ (by assumption)) | (refine Ext.setCell ?_ (by (try simp) <;> omega) _)))⟩)

theorem cross_any (a b c d : Int) (a1 : -1000000 ≤ a) (a2 : a ≤ 1000000) (b1 : -1000000 ≤ b) (b2 : b ≤ 1000000) (c1 : -1000000 ≤ c) (c2 : c ≤ 1000000) (d1 : -1000000 ≤ d) (d2 : d ≤ 1000000) (w : World) :
    Calls Try.prog 63 #[.agg #[.int .i64 a, .int .i64 b], .agg #[.int .i64 c, .int .i64 d]] w fun r w' => r = .returned (.int .i64 (detI a b c d)) ∧ Ext w w' := by
  have k1 := mul_bd a1 a2 d1 d2
  have k2 := mul_bd b1 b2 c1 c2
  go_enter Try.func63, Try.ntmps63
  go_wp2
  go_ret
  exact ⟨rfl, (by repeat (first | exact Ext.refl _ | assumption | apply Ext.alloc | apply Ext.drew | apply Ext.drewN | (refine Ext.trans ?_ (by assumption)) | (refine Ext.setCell ?_ (by (try simp) <;> omega) _)))⟩

theorem steps_any (a b c : Int) (w : World) :
    Calls Try.prog 88 #[.agg #[.int .i64 a, .int .i64 b, .int .i64 c]] w fun r w' => r = .returned (.agg #[.int .i64 a, .int .i64 b]) ∧ Ext w w' := by
  go_enter Try.func88, Try.ntmps88
  go_wp2
  refine bodyPost_ret (v := .agg #[.int .i64 a, .int .i64 b]) (by simp [results, Try.results88, go_sem]) rfl ⟨rfl, (by repeat (first | exact Ext.refl _ | assumption | apply Ext.alloc | apply Ext.drew | apply Ext.drewN | (refine Ext.trans ?_ (by assumption)) | (refine Ext.setCell ?_ (by (try simp) <;> omega) _)))⟩

end Go.Proofs.Ytaloegjcdllgoaa
