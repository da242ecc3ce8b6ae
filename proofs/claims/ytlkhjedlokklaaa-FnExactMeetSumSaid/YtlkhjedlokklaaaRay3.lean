/-
  The contracts of primitive rays and of moved rays; their laws.
-/
import Derived.Test.YtlkhjedlokklaaaRay
namespace Go.Proofs.Ytlkhjedlokklaaa
open Go.RowKit

theorem primitive_any (x y : Int) (x1 : -1000000 ≤ x) (x2 : x ≤ 1000000) (y1 : -1000000 ≤ y) (y2 : y ≤ 1000000) (h0 : x ≠ 0 ∨ y ≠ 0) (w : World) :
    Calls Try.prog 63 #[.agg #[.int .i64 x, .int .i64 y]] w fun r w' => r = .returned (.agg #[.int .i64 (x.tdiv (gcdI x y)), .int .i64 (y.tdiv (gcdI x y)), .int .i64 (gcdI x y)]) ∧ Ext w w' := by
  have HA := (Has.alloc (Has.new w #[.int .i64 x, .int .i64 y] 73) (.cells #[.int .i64 0, .int .i64 0, .int .i64 0] 34))
  have Ac0 := Ext.keeps (HA 0 _ rfl)
  have Ac1 := Ext.keeps (HA 1 _ rfl)
  clear HA
  have HR := (Has.new2 w (.cells #[.int .i64 x, .int .i64 y] 73) #[.int .i64 0, .int .i64 0, .int .i64 0] 34)
  have Rc0 := Ext.keeps (HR 0 _ rfl)
  have Rc1 := Ext.keeps (HR 1 _ rfl)
  have Rc2 := Ext.keeps (HR 2 _ rfl)
  have Rf0 := Ext.thaws (w := ((w.alloc (.cells #[.int .i64 x, .int .i64 y] 73)).alloc (.cells #[.int .i64 0, .int .i64 0, .int .i64 0] 34))) (HR 0 _ rfl) (by simp)
  have Rf1 := Ext.thaws (w := ((w.alloc (.cells #[.int .i64 x, .int .i64 y] 73)).alloc (.cells #[.int .i64 0, .int .i64 0, .int .i64 0] 34))) (HR 1 _ rfl) (by simp)
  have Rf2 := Ext.thaws (w := ((w.alloc (.cells #[.int .i64 x, .int .i64 y] 73)).alloc (.cells #[.int .i64 0, .int .i64 0, .int .i64 0] 34))) (HR 2 _ rfl) (by simp)
  clear HR
  have hE : Ext ((w.alloc (.cells #[.int .i64 x, .int .i64 y] 73)).alloc (.cells #[.int .i64 0, .int .i64 0, .int .i64 0] 34)) ((w.alloc (.cells #[.int .i64 x, .int .i64 y] 73)).alloc (.cells #[.int .i64 0, .int .i64 0, .int .i64 0] 34)) := Ext.refl _
  have g1 := gcdI_pos_of h0
  have g2 := gcdI_le (x := x) (y := y) (k := 1000000) (by omega) (by omega) (by omega) (by omega)
  go_enter Try.func63, Try.ntmps63
  go_wp2_with ((go_at_call 95; refine (gcd_ext _ _ (by omega) (by omega) (by omega) (by omega) _).mono ?_; rintro e w' ⟨rfl, hb⟩; (first | replace hE := Ext.trans hE hb | replace hE := Ext.trans (Ext.alloc hE _) hb | replace hE := Ext.trans (Ext.alloc (Ext.alloc hE _) _) hb | replace hE := Ext.trans (Ext.drew hE) hb | replace hE := Ext.trans (Ext.alloc (Ext.alloc (Ext.alloc hE _) _) _) hb)))
  go_region
  go_wp2
  refine bodyPost_ret (v := .agg #[.int .i64 (x.tdiv (gcdI x y)), .int .i64 (y.tdiv (gcdI x y)), .int .i64 (gcdI x y)]) (by simp [results, Try.results63, go_sem, hE, Rc0, Rc1, Rc2]) rfl ⟨rfl, (by repeat (first | exact Ext.refl _ | assumption | apply Ext.alloc | apply Ext.drew | apply Ext.drewN | (refine Ext.trans ?_ (by assumption)) | (refine Ext.setCell ?_ (by simp; done) _) | (refine Ext.setCell ?_ (by simp; omega) _)))⟩

theorem mtMeets_any (a b n c d m p q : Int) (a1 : -20 ≤ a) (a2 : a ≤ 20) (b1 : -20 ≤ b) (b2 : b ≤ 20) (c1 : -20 ≤ c) (c2 : c ≤ 20) (d1 : -20 ≤ d) (d2 : d ≤ 20) (p1 : -1000 ≤ p) (p2 : p ≤ 1000) (q1 : -1000 ≤ q) (q2 : q ≤ 1000) (w : World) :
    Calls Try.prog 112 #[.agg #[.int .i64 a, .int .i64 b, .int .i64 n], .agg #[.int .i64 c, .int .i64 d, .int .i64 m], .int .i64 p, .int .i64 q] w fun r w' => r = .returned (.bool (meetB a b c d p q)) ∧ Ext w w' := by
  have HA := (Has.alloc (Has.new w #[.int .i64 a, .int .i64 b, .int .i64 n] 34) (.cells #[.int .i64 c, .int .i64 d, .int .i64 m] 34))
  have Ac0 := Ext.keeps (HA 0 _ rfl)
  have Ac1 := Ext.keeps (HA 1 _ rfl)
  have Ac2 := Ext.keeps (HA 2 _ rfl)
  clear HA
  have HB := (Has.new2 w (.cells #[.int .i64 a, .int .i64 b, .int .i64 n] 34) #[.int .i64 c, .int .i64 d, .int .i64 m] 34)
  have Bc0 := Ext.keeps (HB 0 _ rfl)
  have Bc1 := Ext.keeps (HB 1 _ rfl)
  have Bc2 := Ext.keeps (HB 2 _ rfl)
  clear HB
  have hE : Ext ((w.alloc (.cells #[.int .i64 a, .int .i64 b, .int .i64 n] 34)).alloc (.cells #[.int .i64 c, .int .i64 d, .int .i64 m] 34)) ((w.alloc (.cells #[.int .i64 a, .int .i64 b, .int .i64 n] 34)).alloc (.cells #[.int .i64 c, .int .i64 d, .int .i64 m] 34)) := Ext.refl _
  have hm : meetB a b c d p q = ((sgnI (detI a b c d) != 0) && (sgnI (p * d - q * c) == sgnI (detI a b c d)) && (sgnI (p * b - q * a) == sgnI (detI a b c d))) := rfl
  have H := Lib.hid hm
  clear hm
  have k1 := mul_bd p1 p2 d1 d2
  have k2 := mul_bd q1 q2 c1 c2
  have k3 := mul_bd p1 p2 b1 b2
  have k4 := mul_bd q1 q2 a1 a2
  go_enter Try.func112, Try.ntmps112
  go_wp2_with (first | (go_at_call 113; refine (mtDet_any _ _ _ _ _ _ (by omega) (by omega) (by omega) (by omega) (by omega) (by omega) (by omega) (by omega) _).mono ?_; rintro e w' ⟨rfl, hb⟩; (first | replace hE := Ext.trans hE hb | replace hE := Ext.trans (Ext.alloc hE _) hb | replace hE := Ext.trans (Ext.alloc (Ext.alloc hE _) _) hb | replace hE := Ext.trans (Ext.drew hE) hb | replace hE := Ext.trans (Ext.alloc (Ext.alloc (Ext.alloc hE _) _) _) hb)) | (go_at_call 117; refine (l1Sign_any _ _).mono ?_; rintro e _ ⟨rfl, rfl⟩))
  all_goals (
    go_ret
    exact ⟨ret_bool (by rw [H.out]; simp [*]), (by repeat (first | exact Ext.refl _ | assumption | apply Ext.alloc | apply Ext.drew | apply Ext.drewN | (refine Ext.trans ?_ (by assumption)) | (refine Ext.setCell ?_ (by simp; done) _) | (refine Ext.setCell ?_ (by simp; omega) _)))⟩)

set_option maxHeartbeats 2000000 in
theorem meets_any (a b n c d m p q : Int) (a1 : -20 ≤ a) (a2 : a ≤ 20) (b1 : -20 ≤ b) (b2 : b ≤ 20) (c1 : -20 ≤ c) (c2 : c ≤ 20) (d1 : -20 ≤ d) (d2 : d ≤ 20) (p1 : -1000 ≤ p) (p2 : p ≤ 1000) (q1 : -1000 ≤ q) (q2 : q ≤ 1000) (w : World) :
    Calls Try.prog 115 #[.agg #[.int .i64 a, .int .i64 b, .int .i64 n], .agg #[.int .i64 c, .int .i64 d, .int .i64 m], .agg #[.int .i64 p, .int .i64 q]] w fun r w' => r = .returned (.bool (meetB a b c d p q)) ∧ Ext w w' := by
  have HA := (Has.alloc (Has.alloc (Has.new w #[.int .i64 a, .int .i64 b, .int .i64 n] 34) (.cells #[.int .i64 c, .int .i64 d, .int .i64 m] 34)) (.cells #[.int .i64 p, .int .i64 q] 73))
  have Ac0 := Ext.keeps (HA 0 _ rfl)
  have Ac1 := Ext.keeps (HA 1 _ rfl)
  have Ac2 := Ext.keeps (HA 2 _ rfl)
  clear HA
  have HB := (Has.alloc (Has.new2 w (.cells #[.int .i64 a, .int .i64 b, .int .i64 n] 34) #[.int .i64 c, .int .i64 d, .int .i64 m] 34) (.cells #[.int .i64 p, .int .i64 q] 73))
  have Bc0 := Ext.keeps (HB 0 _ rfl)
  have Bc1 := Ext.keeps (HB 1 _ rfl)
  have Bc2 := Ext.keeps (HB 2 _ rfl)
  clear HB
  have HC := (Has.new3 w (.cells #[.int .i64 a, .int .i64 b, .int .i64 n] 34) (.cells #[.int .i64 c, .int .i64 d, .int .i64 m] 34) #[.int .i64 p, .int .i64 q] 73)
  have Cc0 := Ext.keeps (HC 0 _ rfl)
  have Cc1 := Ext.keeps (HC 1 _ rfl)
  clear HC
  have hE : Ext (((w.alloc (.cells #[.int .i64 a, .int .i64 b, .int .i64 n] 34)).alloc (.cells #[.int .i64 c, .int .i64 d, .int .i64 m] 34)).alloc (.cells #[.int .i64 p, .int .i64 q] 73)) (((w.alloc (.cells #[.int .i64 a, .int .i64 b, .int .i64 n] 34)).alloc (.cells #[.int .i64 c, .int .i64 d, .int .i64 m] 34)).alloc (.cells #[.int .i64 p, .int .i64 q] 73)) := Ext.refl _
  have hm : meetB a b c d p q = ((sgnI (detI a b c d) != 0) && (sgnI (detI p q c d) == sgnI (detI a b c d)) && (sgnI (detI p q a b) == sgnI (detI a b c d))) := rfl
  have H := Lib.hid hm
  clear hm
  cases hD : (sgnI (detI a b c d) != 0)
  · go_enter Try.func115, Try.ntmps115
    go_wp2_with fail
    have qA0 := fun s : Past (((w.alloc (.cells #[.int .i64 a, .int .i64 b, .int .i64 n] 34)).alloc (.cells #[.int .i64 c, .int .i64 d, .int .i64 m] 34)).alloc (.cells #[.int .i64 p, .int .i64 q] 73)) => Ac0 s.w s.ext
    have qA1 := fun s : Past (((w.alloc (.cells #[.int .i64 a, .int .i64 b, .int .i64 n] 34)).alloc (.cells #[.int .i64 c, .int .i64 d, .int .i64 m] 34)).alloc (.cells #[.int .i64 p, .int .i64 q] 73)) => Ac1 s.w s.ext
    have qA2 := fun s : Past (((w.alloc (.cells #[.int .i64 a, .int .i64 b, .int .i64 n] 34)).alloc (.cells #[.int .i64 c, .int .i64 d, .int .i64 m] 34)).alloc (.cells #[.int .i64 p, .int .i64 q] 73)) => Ac2 s.w s.ext
    have qB0 := fun s : Past (((w.alloc (.cells #[.int .i64 a, .int .i64 b, .int .i64 n] 34)).alloc (.cells #[.int .i64 c, .int .i64 d, .int .i64 m] 34)).alloc (.cells #[.int .i64 p, .int .i64 q] 73)) => Bc0 s.w s.ext
    have qB1 := fun s : Past (((w.alloc (.cells #[.int .i64 a, .int .i64 b, .int .i64 n] 34)).alloc (.cells #[.int .i64 c, .int .i64 d, .int .i64 m] 34)).alloc (.cells #[.int .i64 p, .int .i64 q] 73)) => Bc1 s.w s.ext
    have qB2 := fun s : Past (((w.alloc (.cells #[.int .i64 a, .int .i64 b, .int .i64 n] 34)).alloc (.cells #[.int .i64 c, .int .i64 d, .int .i64 m] 34)).alloc (.cells #[.int .i64 p, .int .i64 q] 73)) => Bc2 s.w s.ext
    have qC0 := fun s : Past (((w.alloc (.cells #[.int .i64 a, .int .i64 b, .int .i64 n] 34)).alloc (.cells #[.int .i64 c, .int .i64 d, .int .i64 m] 34)).alloc (.cells #[.int .i64 p, .int .i64 q] 73)) => Cc0 s.w s.ext
    have qC1 := fun s : Past (((w.alloc (.cells #[.int .i64 a, .int .i64 b, .int .i64 n] 34)).alloc (.cells #[.int .i64 c, .int .i64 d, .int .i64 m] 34)).alloc (.cells #[.int .i64 p, .int .i64 q] 73)) => Cc1 s.w s.ext
    refine wp_region_past (((w.alloc (.cells #[.int .i64 a, .int .i64 b, .int .i64 n] 34)).alloc (.cells #[.int .i64 c, .int .i64 d, .int .i64 m] 34)).alloc (.cells #[.int .i64 p, .int .i64 q] 73)) (by first | exact hE | exact Ext.alloc hE _ | exact Ext.drew hE | exact Ext.drewN hE _) (by kernel_rfl) (by kernel_rfl) ?_
    repeat (go_big_quiet_step ((first | (go_at_call 110; exact past_ext (steps_any _ _ _ _)) | (go_at_call 114; exact past_ext (cross_any _ _ _ _ (by omega) (by omega) (by omega) (by omega) (by omega) (by omega) (by omega) (by omega) _)) | (go_at_call 118; exact past_same (sign_any _ _)))))
    refine wpQuiet_nil ?_
    intro _ hw'
    obtain ⟨⟨v1, hE⟩, hw''⟩ := hw'
    subst hw''
    clear qA0 qA1 qA2 qB0 qB1 qB2 qC0 qC1
    go_wp2_with fail
    have qA0 := fun s : Past (((w.alloc (.cells #[.int .i64 a, .int .i64 b, .int .i64 n] 34)).alloc (.cells #[.int .i64 c, .int .i64 d, .int .i64 m] 34)).alloc (.cells #[.int .i64 p, .int .i64 q] 73)) => Ac0 s.w s.ext
    have qA1 := fun s : Past (((w.alloc (.cells #[.int .i64 a, .int .i64 b, .int .i64 n] 34)).alloc (.cells #[.int .i64 c, .int .i64 d, .int .i64 m] 34)).alloc (.cells #[.int .i64 p, .int .i64 q] 73)) => Ac1 s.w s.ext
    have qA2 := fun s : Past (((w.alloc (.cells #[.int .i64 a, .int .i64 b, .int .i64 n] 34)).alloc (.cells #[.int .i64 c, .int .i64 d, .int .i64 m] 34)).alloc (.cells #[.int .i64 p, .int .i64 q] 73)) => Ac2 s.w s.ext
    have qB0 := fun s : Past (((w.alloc (.cells #[.int .i64 a, .int .i64 b, .int .i64 n] 34)).alloc (.cells #[.int .i64 c, .int .i64 d, .int .i64 m] 34)).alloc (.cells #[.int .i64 p, .int .i64 q] 73)) => Bc0 s.w s.ext
    have qB1 := fun s : Past (((w.alloc (.cells #[.int .i64 a, .int .i64 b, .int .i64 n] 34)).alloc (.cells #[.int .i64 c, .int .i64 d, .int .i64 m] 34)).alloc (.cells #[.int .i64 p, .int .i64 q] 73)) => Bc1 s.w s.ext
    have qB2 := fun s : Past (((w.alloc (.cells #[.int .i64 a, .int .i64 b, .int .i64 n] 34)).alloc (.cells #[.int .i64 c, .int .i64 d, .int .i64 m] 34)).alloc (.cells #[.int .i64 p, .int .i64 q] 73)) => Bc2 s.w s.ext
    have qC0 := fun s : Past (((w.alloc (.cells #[.int .i64 a, .int .i64 b, .int .i64 n] 34)).alloc (.cells #[.int .i64 c, .int .i64 d, .int .i64 m] 34)).alloc (.cells #[.int .i64 p, .int .i64 q] 73)) => Cc0 s.w s.ext
    have qC1 := fun s : Past (((w.alloc (.cells #[.int .i64 a, .int .i64 b, .int .i64 n] 34)).alloc (.cells #[.int .i64 c, .int .i64 d, .int .i64 m] 34)).alloc (.cells #[.int .i64 p, .int .i64 q] 73)) => Cc1 s.w s.ext
    refine wp_region_past (((w.alloc (.cells #[.int .i64 a, .int .i64 b, .int .i64 n] 34)).alloc (.cells #[.int .i64 c, .int .i64 d, .int .i64 m] 34)).alloc (.cells #[.int .i64 p, .int .i64 q] 73)) (by first | exact hE | exact Ext.alloc hE _ | exact Ext.drew hE | exact Ext.drewN hE _) (by kernel_rfl) (by kernel_rfl) ?_
    repeat (go_big_quiet_step ((first | (go_at_call 110; exact past_ext (steps_any _ _ _ _)) | (go_at_call 114; exact past_ext (cross_any _ _ _ _ (by omega) (by omega) (by omega) (by omega) (by omega) (by omega) (by omega) (by omega) _)) | (go_at_call 118; exact past_same (sign_any _ _)))))
    refine wpQuiet_nil ?_
    intro _ hw'
    obtain ⟨⟨v2, hE⟩, hw''⟩ := hw'
    subst hw''
    clear qA0 qA1 qA2 qB0 qB1 qB2 qC0 qC1
    go_wp2
    go_ret
    exact ⟨ret_bool (by rw [H.out, hD]; simp), (by repeat (first | exact Ext.refl _ | assumption | apply Ext.alloc | apply Ext.drew | apply Ext.drewN | (refine Ext.trans ?_ (by assumption)) | (refine Ext.setCell ?_ (by simp; done) _) | (refine Ext.setCell ?_ (by simp; omega) _)))⟩
  
  cases hF : (sgnI (detI p q c d) == sgnI (detI a b c d))
  · go_enter Try.func115, Try.ntmps115
    go_wp2_with fail
    have qA0 := fun s : Past (((w.alloc (.cells #[.int .i64 a, .int .i64 b, .int .i64 n] 34)).alloc (.cells #[.int .i64 c, .int .i64 d, .int .i64 m] 34)).alloc (.cells #[.int .i64 p, .int .i64 q] 73)) => Ac0 s.w s.ext
    have qA1 := fun s : Past (((w.alloc (.cells #[.int .i64 a, .int .i64 b, .int .i64 n] 34)).alloc (.cells #[.int .i64 c, .int .i64 d, .int .i64 m] 34)).alloc (.cells #[.int .i64 p, .int .i64 q] 73)) => Ac1 s.w s.ext
    have qA2 := fun s : Past (((w.alloc (.cells #[.int .i64 a, .int .i64 b, .int .i64 n] 34)).alloc (.cells #[.int .i64 c, .int .i64 d, .int .i64 m] 34)).alloc (.cells #[.int .i64 p, .int .i64 q] 73)) => Ac2 s.w s.ext
    have qB0 := fun s : Past (((w.alloc (.cells #[.int .i64 a, .int .i64 b, .int .i64 n] 34)).alloc (.cells #[.int .i64 c, .int .i64 d, .int .i64 m] 34)).alloc (.cells #[.int .i64 p, .int .i64 q] 73)) => Bc0 s.w s.ext
    have qB1 := fun s : Past (((w.alloc (.cells #[.int .i64 a, .int .i64 b, .int .i64 n] 34)).alloc (.cells #[.int .i64 c, .int .i64 d, .int .i64 m] 34)).alloc (.cells #[.int .i64 p, .int .i64 q] 73)) => Bc1 s.w s.ext
    have qB2 := fun s : Past (((w.alloc (.cells #[.int .i64 a, .int .i64 b, .int .i64 n] 34)).alloc (.cells #[.int .i64 c, .int .i64 d, .int .i64 m] 34)).alloc (.cells #[.int .i64 p, .int .i64 q] 73)) => Bc2 s.w s.ext
    have qC0 := fun s : Past (((w.alloc (.cells #[.int .i64 a, .int .i64 b, .int .i64 n] 34)).alloc (.cells #[.int .i64 c, .int .i64 d, .int .i64 m] 34)).alloc (.cells #[.int .i64 p, .int .i64 q] 73)) => Cc0 s.w s.ext
    have qC1 := fun s : Past (((w.alloc (.cells #[.int .i64 a, .int .i64 b, .int .i64 n] 34)).alloc (.cells #[.int .i64 c, .int .i64 d, .int .i64 m] 34)).alloc (.cells #[.int .i64 p, .int .i64 q] 73)) => Cc1 s.w s.ext
    refine wp_region_past (((w.alloc (.cells #[.int .i64 a, .int .i64 b, .int .i64 n] 34)).alloc (.cells #[.int .i64 c, .int .i64 d, .int .i64 m] 34)).alloc (.cells #[.int .i64 p, .int .i64 q] 73)) (by first | exact hE | exact Ext.alloc hE _ | exact Ext.drew hE | exact Ext.drewN hE _) (by kernel_rfl) (by kernel_rfl) ?_
    repeat (go_big_quiet_step ((first | (go_at_call 110; exact past_ext (steps_any _ _ _ _)) | (go_at_call 114; exact past_ext (cross_any _ _ _ _ (by omega) (by omega) (by omega) (by omega) (by omega) (by omega) (by omega) (by omega) _)) | (go_at_call 118; exact past_same (sign_any _ _)))))
    refine wpQuiet_nil ?_
    intro _ hw'
    obtain ⟨⟨v1, hE⟩, hw''⟩ := hw'
    subst hw''
    clear qA0 qA1 qA2 qB0 qB1 qB2 qC0 qC1
    go_wp2_with fail
    have qA0 := fun s : Past (((w.alloc (.cells #[.int .i64 a, .int .i64 b, .int .i64 n] 34)).alloc (.cells #[.int .i64 c, .int .i64 d, .int .i64 m] 34)).alloc (.cells #[.int .i64 p, .int .i64 q] 73)) => Ac0 s.w s.ext
    have qA1 := fun s : Past (((w.alloc (.cells #[.int .i64 a, .int .i64 b, .int .i64 n] 34)).alloc (.cells #[.int .i64 c, .int .i64 d, .int .i64 m] 34)).alloc (.cells #[.int .i64 p, .int .i64 q] 73)) => Ac1 s.w s.ext
    have qA2 := fun s : Past (((w.alloc (.cells #[.int .i64 a, .int .i64 b, .int .i64 n] 34)).alloc (.cells #[.int .i64 c, .int .i64 d, .int .i64 m] 34)).alloc (.cells #[.int .i64 p, .int .i64 q] 73)) => Ac2 s.w s.ext
    have qB0 := fun s : Past (((w.alloc (.cells #[.int .i64 a, .int .i64 b, .int .i64 n] 34)).alloc (.cells #[.int .i64 c, .int .i64 d, .int .i64 m] 34)).alloc (.cells #[.int .i64 p, .int .i64 q] 73)) => Bc0 s.w s.ext
    have qB1 := fun s : Past (((w.alloc (.cells #[.int .i64 a, .int .i64 b, .int .i64 n] 34)).alloc (.cells #[.int .i64 c, .int .i64 d, .int .i64 m] 34)).alloc (.cells #[.int .i64 p, .int .i64 q] 73)) => Bc1 s.w s.ext
    have qB2 := fun s : Past (((w.alloc (.cells #[.int .i64 a, .int .i64 b, .int .i64 n] 34)).alloc (.cells #[.int .i64 c, .int .i64 d, .int .i64 m] 34)).alloc (.cells #[.int .i64 p, .int .i64 q] 73)) => Bc2 s.w s.ext
    have qC0 := fun s : Past (((w.alloc (.cells #[.int .i64 a, .int .i64 b, .int .i64 n] 34)).alloc (.cells #[.int .i64 c, .int .i64 d, .int .i64 m] 34)).alloc (.cells #[.int .i64 p, .int .i64 q] 73)) => Cc0 s.w s.ext
    have qC1 := fun s : Past (((w.alloc (.cells #[.int .i64 a, .int .i64 b, .int .i64 n] 34)).alloc (.cells #[.int .i64 c, .int .i64 d, .int .i64 m] 34)).alloc (.cells #[.int .i64 p, .int .i64 q] 73)) => Cc1 s.w s.ext
    refine wp_region_past (((w.alloc (.cells #[.int .i64 a, .int .i64 b, .int .i64 n] 34)).alloc (.cells #[.int .i64 c, .int .i64 d, .int .i64 m] 34)).alloc (.cells #[.int .i64 p, .int .i64 q] 73)) (by first | exact hE | exact Ext.alloc hE _ | exact Ext.drew hE | exact Ext.drewN hE _) (by kernel_rfl) (by kernel_rfl) ?_
    repeat (go_big_quiet_step ((first | (go_at_call 110; exact past_ext (steps_any _ _ _ _)) | (go_at_call 114; exact past_ext (cross_any _ _ _ _ (by omega) (by omega) (by omega) (by omega) (by omega) (by omega) (by omega) (by omega) _)) | (go_at_call 118; exact past_same (sign_any _ _)))))
    refine wpQuiet_nil ?_
    intro _ hw'
    obtain ⟨⟨v2, hE⟩, hw''⟩ := hw'
    subst hw''
    clear qA0 qA1 qA2 qB0 qB1 qB2 qC0 qC1
    go_wp2
    go_ret
    exact ⟨ret_bool (by rw [H.out, hD, hF]; simp), (by repeat (first | exact Ext.refl _ | assumption | apply Ext.alloc | apply Ext.drew | apply Ext.drewN | (refine Ext.trans ?_ (by assumption)) | (refine Ext.setCell ?_ (by simp; done) _) | (refine Ext.setCell ?_ (by simp; omega) _)))⟩
  
  · go_enter Try.func115, Try.ntmps115
    go_wp2_with fail
    have qA0 := fun s : Past (((w.alloc (.cells #[.int .i64 a, .int .i64 b, .int .i64 n] 34)).alloc (.cells #[.int .i64 c, .int .i64 d, .int .i64 m] 34)).alloc (.cells #[.int .i64 p, .int .i64 q] 73)) => Ac0 s.w s.ext
    have qA1 := fun s : Past (((w.alloc (.cells #[.int .i64 a, .int .i64 b, .int .i64 n] 34)).alloc (.cells #[.int .i64 c, .int .i64 d, .int .i64 m] 34)).alloc (.cells #[.int .i64 p, .int .i64 q] 73)) => Ac1 s.w s.ext
    have qA2 := fun s : Past (((w.alloc (.cells #[.int .i64 a, .int .i64 b, .int .i64 n] 34)).alloc (.cells #[.int .i64 c, .int .i64 d, .int .i64 m] 34)).alloc (.cells #[.int .i64 p, .int .i64 q] 73)) => Ac2 s.w s.ext
    have qB0 := fun s : Past (((w.alloc (.cells #[.int .i64 a, .int .i64 b, .int .i64 n] 34)).alloc (.cells #[.int .i64 c, .int .i64 d, .int .i64 m] 34)).alloc (.cells #[.int .i64 p, .int .i64 q] 73)) => Bc0 s.w s.ext
    have qB1 := fun s : Past (((w.alloc (.cells #[.int .i64 a, .int .i64 b, .int .i64 n] 34)).alloc (.cells #[.int .i64 c, .int .i64 d, .int .i64 m] 34)).alloc (.cells #[.int .i64 p, .int .i64 q] 73)) => Bc1 s.w s.ext
    have qB2 := fun s : Past (((w.alloc (.cells #[.int .i64 a, .int .i64 b, .int .i64 n] 34)).alloc (.cells #[.int .i64 c, .int .i64 d, .int .i64 m] 34)).alloc (.cells #[.int .i64 p, .int .i64 q] 73)) => Bc2 s.w s.ext
    have qC0 := fun s : Past (((w.alloc (.cells #[.int .i64 a, .int .i64 b, .int .i64 n] 34)).alloc (.cells #[.int .i64 c, .int .i64 d, .int .i64 m] 34)).alloc (.cells #[.int .i64 p, .int .i64 q] 73)) => Cc0 s.w s.ext
    have qC1 := fun s : Past (((w.alloc (.cells #[.int .i64 a, .int .i64 b, .int .i64 n] 34)).alloc (.cells #[.int .i64 c, .int .i64 d, .int .i64 m] 34)).alloc (.cells #[.int .i64 p, .int .i64 q] 73)) => Cc1 s.w s.ext
    refine wp_region_past (((w.alloc (.cells #[.int .i64 a, .int .i64 b, .int .i64 n] 34)).alloc (.cells #[.int .i64 c, .int .i64 d, .int .i64 m] 34)).alloc (.cells #[.int .i64 p, .int .i64 q] 73)) (by first | exact hE | exact Ext.alloc hE _ | exact Ext.drew hE | exact Ext.drewN hE _) (by kernel_rfl) (by kernel_rfl) ?_
    repeat (go_big_quiet_step ((first | (go_at_call 110; exact past_ext (steps_any _ _ _ _)) | (go_at_call 114; exact past_ext (cross_any _ _ _ _ (by omega) (by omega) (by omega) (by omega) (by omega) (by omega) (by omega) (by omega) _)) | (go_at_call 118; exact past_same (sign_any _ _)))))
    refine wpQuiet_nil ?_
    intro _ hw'
    obtain ⟨⟨v1, hE⟩, hw''⟩ := hw'
    subst hw''
    clear qA0 qA1 qA2 qB0 qB1 qB2 qC0 qC1
    go_wp2_with fail
    have qA0 := fun s : Past (((w.alloc (.cells #[.int .i64 a, .int .i64 b, .int .i64 n] 34)).alloc (.cells #[.int .i64 c, .int .i64 d, .int .i64 m] 34)).alloc (.cells #[.int .i64 p, .int .i64 q] 73)) => Ac0 s.w s.ext
    have qA1 := fun s : Past (((w.alloc (.cells #[.int .i64 a, .int .i64 b, .int .i64 n] 34)).alloc (.cells #[.int .i64 c, .int .i64 d, .int .i64 m] 34)).alloc (.cells #[.int .i64 p, .int .i64 q] 73)) => Ac1 s.w s.ext
    have qA2 := fun s : Past (((w.alloc (.cells #[.int .i64 a, .int .i64 b, .int .i64 n] 34)).alloc (.cells #[.int .i64 c, .int .i64 d, .int .i64 m] 34)).alloc (.cells #[.int .i64 p, .int .i64 q] 73)) => Ac2 s.w s.ext
    have qB0 := fun s : Past (((w.alloc (.cells #[.int .i64 a, .int .i64 b, .int .i64 n] 34)).alloc (.cells #[.int .i64 c, .int .i64 d, .int .i64 m] 34)).alloc (.cells #[.int .i64 p, .int .i64 q] 73)) => Bc0 s.w s.ext
    have qB1 := fun s : Past (((w.alloc (.cells #[.int .i64 a, .int .i64 b, .int .i64 n] 34)).alloc (.cells #[.int .i64 c, .int .i64 d, .int .i64 m] 34)).alloc (.cells #[.int .i64 p, .int .i64 q] 73)) => Bc1 s.w s.ext
    have qB2 := fun s : Past (((w.alloc (.cells #[.int .i64 a, .int .i64 b, .int .i64 n] 34)).alloc (.cells #[.int .i64 c, .int .i64 d, .int .i64 m] 34)).alloc (.cells #[.int .i64 p, .int .i64 q] 73)) => Bc2 s.w s.ext
    have qC0 := fun s : Past (((w.alloc (.cells #[.int .i64 a, .int .i64 b, .int .i64 n] 34)).alloc (.cells #[.int .i64 c, .int .i64 d, .int .i64 m] 34)).alloc (.cells #[.int .i64 p, .int .i64 q] 73)) => Cc0 s.w s.ext
    have qC1 := fun s : Past (((w.alloc (.cells #[.int .i64 a, .int .i64 b, .int .i64 n] 34)).alloc (.cells #[.int .i64 c, .int .i64 d, .int .i64 m] 34)).alloc (.cells #[.int .i64 p, .int .i64 q] 73)) => Cc1 s.w s.ext
    refine wp_region_past (((w.alloc (.cells #[.int .i64 a, .int .i64 b, .int .i64 n] 34)).alloc (.cells #[.int .i64 c, .int .i64 d, .int .i64 m] 34)).alloc (.cells #[.int .i64 p, .int .i64 q] 73)) (by first | exact hE | exact Ext.alloc hE _ | exact Ext.drew hE | exact Ext.drewN hE _) (by kernel_rfl) (by kernel_rfl) ?_
    repeat (go_big_quiet_step ((first | (go_at_call 110; exact past_ext (steps_any _ _ _ _)) | (go_at_call 114; exact past_ext (cross_any _ _ _ _ (by omega) (by omega) (by omega) (by omega) (by omega) (by omega) (by omega) (by omega) _)) | (go_at_call 118; exact past_same (sign_any _ _)))))
    refine wpQuiet_nil ?_
    intro _ hw'
    obtain ⟨⟨v2, hE⟩, hw''⟩ := hw'
    subst hw''
    clear qA0 qA1 qA2 qB0 qB1 qB2 qC0 qC1
    go_wp2
    go_ret
    exact ⟨ret_bool (by rw [H.out, hD, hF]; simp), (by repeat (first | exact Ext.refl _ | assumption | apply Ext.alloc | apply Ext.drew | apply Ext.drewN | (refine Ext.trans ?_ (by assumption)) | (refine Ext.setCell ?_ (by simp; done) _) | (refine Ext.setCell ?_ (by simp; omega) _)))⟩
  

end Go.Proofs.Ytlkhjedlokklaaa
