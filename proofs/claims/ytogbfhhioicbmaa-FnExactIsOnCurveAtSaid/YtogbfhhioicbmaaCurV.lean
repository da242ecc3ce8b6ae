/-
  Sums and products of valid fractions, which may fail; the value of a term at a spot.
-/
import Derived.Test.YtogbfhhioicbmaaValW
import Derived.Test.YtogbfhhioicbmaaPlane
import Derived.Test.YtogbfhhioicbmaaTail
namespace Go.Proofs.Ytogbfhhioicbmaa
open Go.RowKit

set_option maxHeartbeats 1000000 in
theorem MulFracsG_any (a b c d : Int) (ha : fracB a b = true) (hc : fracB c d = true) (w : World) :
    Calls Try.prog 106 #[.agg #[.int .i64 a, .int .i64 b], .agg #[.int .i64 c, .int .i64 d]] w fun r w' => r = .returned (.tuple #[.agg #[.int .i64 (gI (okM (a * c) (b * d)) (lowN (a * c) (b * d))), .int .i64 (gI (okM (a * c) (b * d)) (lowD (a * c) (b * d)))], .bool (okM (a * c) (b * d))]) ∧ Ext w w' := by
  have HA := (Has.alloc (Has.alloc (Has.new w #[.int .i64 a, .int .i64 b] 39) (.cells #[.int .i64 c, .int .i64 d] 39)) (.cells #[.int .i64 0, .int .i64 0] 39))
  have Ac0 := Ext.keeps (HA 0 _ rfl)
  have Ac1 := Ext.keeps (HA 1 _ rfl)
  clear HA
  have HB := (Has.alloc (Has.new2 w (.cells #[.int .i64 a, .int .i64 b] 39) #[.int .i64 c, .int .i64 d] 39) (.cells #[.int .i64 0, .int .i64 0] 39))
  have Bc0 := Ext.keeps (HB 0 _ rfl)
  have Bc1 := Ext.keeps (HB 1 _ rfl)
  clear HB
  have HR := (Has.new3 w (.cells #[.int .i64 a, .int .i64 b] 39) (.cells #[.int .i64 c, .int .i64 d] 39) #[.int .i64 0, .int .i64 0] 39)
  have Rc0 := Ext.keeps (HR 0 _ rfl)
  have Rc1 := Ext.keeps (HR 1 _ rfl)
  have Rf0 := Ext.thaws (w := (((w.alloc (.cells #[.int .i64 a, .int .i64 b] 39)).alloc (.cells #[.int .i64 c, .int .i64 d] 39)).alloc (.cells #[.int .i64 0, .int .i64 0] 39))) (HR 0 _ rfl) (frozen_fresh (by simp))
  have Rf1 := Ext.thaws (w := (((w.alloc (.cells #[.int .i64 a, .int .i64 b] 39)).alloc (.cells #[.int .i64 c, .int .i64 d] 39)).alloc (.cells #[.int .i64 0, .int .i64 0] 39))) (HR 1 _ rfl) (frozen_fresh (by simp))
  clear HR
  have hE : Ext (((w.alloc (.cells #[.int .i64 a, .int .i64 b] 39)).alloc (.cells #[.int .i64 c, .int .i64 d] 39)).alloc (.cells #[.int .i64 0, .int .i64 0] 39)) (((w.alloc (.cells #[.int .i64 a, .int .i64 b] 39)).alloc (.cells #[.int .i64 c, .int .i64 d] 39)).alloc (.cells #[.int .i64 0, .int .i64 0] 39)) := Ext.refl _
  have k1 := fracB_true.1 ha
  have k2 := fracB_true.1 hc
  have HM := Lib.hid (fun w => mul_any a b c d k1.1 (by omega) k2.1 (by omega) (by omega) (by omega) w)
  have hpos : 0 < b * d := Int.mul_pos (by omega) (by omega)
  have hOK : okM (a * c) (b * d) = fracB (lowN (a * c) (b * d)) (lowD (a * c) (b * d)) := by
    unfold okM
    have : (b * d != 0) = true := by simp; omega
    rw [this]; rfl
  rw [hOK]
  clear k1 k2 hOK hpos
  generalize lowN (a * c) (b * d) = p at *
  generalize lowD (a * c) (b * d) = q at *
  obtain ⟨P, hP⟩ : ∃ P, P = gI (fracB p q) p := ⟨_, rfl⟩
  obtain ⟨Q, hQ⟩ : ∃ Q, Q = gI (fracB p q) q := ⟨_, rfl⟩
  obtain ⟨K, hK⟩ : ∃ K, K = fracB p q := ⟨_, rfl⟩
  have HT := Lib.hid (fun w => toldFrac_any p q w)
  rw [← hP, ← hQ, ← hK] at HT ⊢
  clear hP hQ hK
  go_enter Try.func106, Try.ntmps106
  go_wp2_with fail
  refine (areFracs2_any _ _ _ a b c d rfl _ ?_).mono ?_
  · refine ⟨rfl, fun _ => ⟨_, _, rfl, fun j u hj => ?_⟩⟩
    match j, hj with
    | 0, hj => simp [pv] at hj; subst hj; exact cell_at_new (by simp) rfl
    | 1, hj => simp [pv] at hj; subst hj; exact cell_at_new (by simp) rfl
    | 2, hj => simp [pv] at hj; subst hj; exact cell_at_new (by simp) rfl
    | 3, hj => simp [pv] at hj; subst hj; exact cell_at_new (by simp) rfl
  rw [ha, hc]
  rintro e w1 ⟨rfl, hbb⟩
  replace hE := Ext.trans (Ext.alloc hE _) hbb
  clear hbb
  go_wp2_with fail
  refine (HM.out _).mono ?_
  rintro e w2 ⟨rfl, hbb⟩
  replace hE := Ext.trans hE hbb
  clear hbb
  go_wp2_with fail
  refine (HT.out _).mono ?_
  rintro e w3 ⟨rfl, hbb⟩
  replace hE := Ext.trans hE hbb
  clear hbb
  go_wp2
  refine bodyPost_ret (v := (.tuple #[.agg #[.int .i64 P, .int .i64 Q], .bool K])) (by simp [results, Try.results106, go_sem, hE, Rc0, Rc1]) rfl ⟨rfl, (by repeat (first | exact Ext.refl _ | assumption | apply Ext.alloc | apply Ext.drew | apply Ext.drewN | (refine Ext.trans ?_ (by assumption)) | (refine Ext.setCell ?_ (by (try simp) <;> omega) _)))⟩

set_option maxHeartbeats 1000000 in
theorem AddFracsG_any (a b c d : Int) (ha : fracB a b = true) (hc : fracB c d = true) (w : World) :
    Calls Try.prog 107 #[.agg #[.int .i64 a, .int .i64 b], .agg #[.int .i64 c, .int .i64 d]] w fun r w' => r = .returned (.tuple #[.agg #[.int .i64 (gI (okM (a * d + c * b) (b * d)) (lowN (a * d + c * b) (b * d))), .int .i64 (gI (okM (a * d + c * b) (b * d)) (lowD (a * d + c * b) (b * d)))], .bool (okM (a * d + c * b) (b * d))]) ∧ Ext w w' := by
  have HA := (Has.alloc (Has.alloc (Has.new w #[.int .i64 a, .int .i64 b] 39) (.cells #[.int .i64 c, .int .i64 d] 39)) (.cells #[.int .i64 0, .int .i64 0] 39))
  have Ac0 := Ext.keeps (HA 0 _ rfl)
  have Ac1 := Ext.keeps (HA 1 _ rfl)
  clear HA
  have HB := (Has.alloc (Has.new2 w (.cells #[.int .i64 a, .int .i64 b] 39) #[.int .i64 c, .int .i64 d] 39) (.cells #[.int .i64 0, .int .i64 0] 39))
  have Bc0 := Ext.keeps (HB 0 _ rfl)
  have Bc1 := Ext.keeps (HB 1 _ rfl)
  clear HB
  have HR := (Has.new3 w (.cells #[.int .i64 a, .int .i64 b] 39) (.cells #[.int .i64 c, .int .i64 d] 39) #[.int .i64 0, .int .i64 0] 39)
  have Rc0 := Ext.keeps (HR 0 _ rfl)
  have Rc1 := Ext.keeps (HR 1 _ rfl)
  have Rf0 := Ext.thaws (w := (((w.alloc (.cells #[.int .i64 a, .int .i64 b] 39)).alloc (.cells #[.int .i64 c, .int .i64 d] 39)).alloc (.cells #[.int .i64 0, .int .i64 0] 39))) (HR 0 _ rfl) (frozen_fresh (by simp))
  have Rf1 := Ext.thaws (w := (((w.alloc (.cells #[.int .i64 a, .int .i64 b] 39)).alloc (.cells #[.int .i64 c, .int .i64 d] 39)).alloc (.cells #[.int .i64 0, .int .i64 0] 39))) (HR 1 _ rfl) (frozen_fresh (by simp))
  clear HR
  have hE : Ext (((w.alloc (.cells #[.int .i64 a, .int .i64 b] 39)).alloc (.cells #[.int .i64 c, .int .i64 d] 39)).alloc (.cells #[.int .i64 0, .int .i64 0] 39)) (((w.alloc (.cells #[.int .i64 a, .int .i64 b] 39)).alloc (.cells #[.int .i64 c, .int .i64 d] 39)).alloc (.cells #[.int .i64 0, .int .i64 0] 39)) := Ext.refl _
  have k1 := fracB_true.1 ha
  have k2 := fracB_true.1 hc
  have HM := Lib.hid (fun w => add_any a b c d k1.1 (by omega) k2.1 (by omega) (by omega) (by omega) w)
  have hpos : 0 < b * d := Int.mul_pos (by omega) (by omega)
  have hOK : okM (a * d + c * b) (b * d) = fracB (lowN (a * d + c * b) (b * d)) (lowD (a * d + c * b) (b * d)) := by
    unfold okM
    have : (b * d != 0) = true := by simp; omega
    rw [this]; rfl
  rw [hOK]
  clear k1 k2 hOK hpos
  generalize lowN (a * d + c * b) (b * d) = p at *
  generalize lowD (a * d + c * b) (b * d) = q at *
  obtain ⟨P, hP⟩ : ∃ P, P = gI (fracB p q) p := ⟨_, rfl⟩
  obtain ⟨Q, hQ⟩ : ∃ Q, Q = gI (fracB p q) q := ⟨_, rfl⟩
  obtain ⟨K, hK⟩ : ∃ K, K = fracB p q := ⟨_, rfl⟩
  have HT := Lib.hid (fun w => toldFrac_any p q w)
  rw [← hP, ← hQ, ← hK] at HT ⊢
  clear hP hQ hK
  go_enter Try.func107, Try.ntmps107
  go_wp2_with fail
  refine (areFracs2_any _ _ _ a b c d rfl _ ?_).mono ?_
  · refine ⟨rfl, fun _ => ⟨_, _, rfl, fun j u hj => ?_⟩⟩
    match j, hj with
    | 0, hj => simp [pv] at hj; subst hj; exact cell_at_new (by simp) rfl
    | 1, hj => simp [pv] at hj; subst hj; exact cell_at_new (by simp) rfl
    | 2, hj => simp [pv] at hj; subst hj; exact cell_at_new (by simp) rfl
    | 3, hj => simp [pv] at hj; subst hj; exact cell_at_new (by simp) rfl
  rw [ha, hc]
  rintro e w1 ⟨rfl, hbb⟩
  replace hE := Ext.trans (Ext.alloc hE _) hbb
  clear hbb
  go_wp2_with fail
  refine (HM.out _).mono ?_
  rintro e w2 ⟨rfl, hbb⟩
  replace hE := Ext.trans hE hbb
  clear hbb
  go_wp2_with fail
  refine (HT.out _).mono ?_
  rintro e w3 ⟨rfl, hbb⟩
  replace hE := Ext.trans hE hbb
  clear hbb
  go_wp2
  refine bodyPost_ret (v := (.tuple #[.agg #[.int .i64 P, .int .i64 Q], .bool K])) (by simp [results, Try.results107, go_sem, hE, Rc0, Rc1]) rfl ⟨rfl, (by repeat (first | exact Ext.refl _ | assumption | apply Ext.alloc | apply Ext.drew | apply Ext.drewN | (refine Ext.trans ?_ (by assumption)) | (refine Ext.setCell ?_ (by (try simp) <;> omega) _)))⟩

/-- A product, a sum (in lowest terms, and whether it is valid); the value of a term at a spot. -/
def cvM (i a b : Int) : Int × Int × Bool := (gI (okM (i * a) (1 * b)) (lowN (i * a) (1 * b)), gI (okM (i * a) (1 * b)) (lowD (i * a) (1 * b)), okM (i * a) (1 * b))
def cvA (a b c d : Int) : Int × Int × Bool := (gI (okM (a * d + c * b) (b * d)) (lowN (a * d + c * b) (b * d)), gI (okM (a * d + c * b) (b * d)) (lowD (a * d + c * b) (b * d)), okM (a * d + c * b) (b * d))
def curV (i j c a b p q : Int) : Int × Int × Bool :=
  if (cvM i a b).2.2 && (cvM j p q).2.2 then
    if (cvA (cvM i a b).1 (cvM i a b).2.1 (cvM j p q).1 (cvM j p q).2.1).2.2 then
      cvA (cvA (cvM i a b).1 (cvM i a b).2.1 (cvM j p q).1 (cvM j p q).2.1).1 (cvA (cvM i a b).1 (cvM i a b).2.1 (cvM j p q).1 (cvM j p q).2.1).2.1 c 1
    else (0, 0, false)
  else (0, 0, false)
theorem okM_frac {n d : Int} (h : okM n d = true) : fracB (gI (okM n d) (lowN n d)) (gI (okM n d) (lowD n d)) = true := by
  rw [h]
  unfold okM at h
  simp only [Bool.and_eq_true] at h
  exact h.2
theorem cvM_frac {i a b x1 x2 : Int} (h : cvM i a b = (x1, x2, true)) : fracB x1 x2 = true := by
  simp only [cvM, Prod.mk.injEq] at h
  obtain ⟨e1, e2, e3⟩ := h
  rw [← e1, ← e2]
  exact okM_frac e3
theorem cvA_frac {a b c d x1 x2 : Int} (h : cvA a b c d = (x1, x2, true)) : fracB x1 x2 = true := by
  simp only [cvA, Prod.mk.injEq] at h
  obtain ⟨e1, e2, e3⟩ := h
  rw [← e1, ← e2]
  exact okM_frac e3

set_option maxHeartbeats 4000000 in
set_option maxRecDepth 100000 in
theorem cuValue_any (i j c a b p q r1 r2 : Int) (mr : Bool) (hi : 0 ≤ i ∧ i ≤ 6) (hj : 0 ≤ j ∧ j ≤ 6) (hc : -1000000 ≤ c ∧ c ≤ 1000000) (ha : fracB a b = true) (hp : fracB p q = true) (hR : curV i j c a b p q = (r1, r2, mr)) (w : World) :
    Calls Try.prog 46 #[.agg #[.int .i64 i, .int .i64 j, .int .i64 c], .agg #[.int .i64 a, .int .i64 b, .int .i64 p, .int .i64 q]] w fun r w' => r = .returned (.tuple #[.agg #[.int .i64 r1, .int .i64 r2], .bool mr]) ∧ Ext w w' := by
  obtain ⟨x1, x2, mx, hX⟩ : ∃ g1 g2 mg, cvM i a b = (g1, g2, mg) := ⟨_, _, _, rfl⟩
  obtain ⟨y1, y2, my, hY⟩ : ∃ g1 g2 mg, cvM j p q = (g1, g2, mg) := ⟨_, _, _, rfl⟩
  obtain ⟨s1, s2, ms, hS⟩ : ∃ g1 g2 mg, cvA x1 x2 y1 y2 = (g1, g2, mg) := ⟨_, _, _, rfl⟩
  obtain ⟨f1, f2, mf, hF⟩ : ∃ g1 g2 mg, cvA s1 s2 c 1 = (g1, g2, mg) := ⟨_, _, _, rfl⟩
  have HR := Lib.hid (show (if mx && my then (if ms then (f1, f2, mf) else (0, 0, false)) else ((0 : Int), (0 : Int), false)) = (r1, r2, mr) by
    rw [← hR]; unfold curV; rw [hX, hY]; dsimp only; rw [hS]; dsimp only; rw [hF])
  have ka := fracB_true.1 ha
  have kp := fracB_true.1 hp
  have HX := Lib.hid (fun w => show Calls Try.prog 99 #[.agg #[.int .i64 i, .int .i64 1], .agg #[.int .i64 a, .int .i64 b]] w fun r w' => r = .returned (.tuple #[.agg #[.int .i64 x1, .int .i64 x2], .bool mx]) ∧ Ext w w' from by
    have h1 := frMul_any i 1 a b (by omega) (by omega) ka.1 (by omega) w
    simp only [cvM, Prod.mk.injEq] at hX
    rw [hX.1, hX.2.1, hX.2.2] at h1
    exact h1)
  have HY := Lib.hid (fun w => show Calls Try.prog 99 #[.agg #[.int .i64 j, .int .i64 1], .agg #[.int .i64 p, .int .i64 q]] w fun r w' => r = .returned (.tuple #[.agg #[.int .i64 y1, .int .i64 y2], .bool my]) ∧ Ext w w' from by
    have h1 := frMul_any j 1 p q (by omega) (by omega) kp.1 (by omega) w
    simp only [cvM, Prod.mk.injEq] at hY
    rw [hY.1, hY.2.1, hY.2.2] at h1
    exact h1)
  have HS := Lib.hid (fun (e1 : mx = true) (e2 : my = true) w => show Calls Try.prog 101 #[.agg #[.int .i64 x1, .int .i64 x2], .agg #[.int .i64 y1, .int .i64 y2]] w fun r w' => r = .returned (.tuple #[.agg #[.int .i64 s1, .int .i64 s2], .bool ms]) ∧ Ext w w' from by
    subst e1
    subst e2
    have g1 := cvM_frac hX
    have g2 := cvM_frac hY
    have k1 := fracB_true.1 g1
    have k2 := fracB_true.1 g2
    have h1 := frAdd_any x1 x2 y1 y2 k1.1 (by omega) k2.1 (by omega) w
    simp only [cvA, Prod.mk.injEq] at hS
    rw [hS.1, hS.2.1, hS.2.2] at h1
    exact h1)
  have HT := Lib.hid (fun (e1 : ms = true) w => show Calls Try.prog 101 #[.agg #[.int .i64 s1, .int .i64 s2], .agg #[.int .i64 c, .int .i64 1]] w fun r w' => r = .returned (.tuple #[.agg #[.int .i64 f1, .int .i64 f2], .bool mf]) ∧ Ext w w' from by
    subst e1
    have g1 := cvA_frac hS
    have g2 := fracB_whole (x := c) (by omega)
    have k1 := fracB_true.1 g1
    have k2 := fracB_true.1 g2
    have h1 := frAdd_any s1 s2 c 1 k1.1 (by omega) k2.1 (by omega) w
    simp only [cvA, Prod.mk.injEq] at hF
    rw [hF.1, hF.2.1, hF.2.2] at h1
    exact h1)
  clear hX hY hS hF hR ka kp ha hp
  have HA := (Has.alloc (Has.alloc (Has.new w #[.int .i64 i, .int .i64 j, .int .i64 c] 71) (.cells #[.int .i64 a, .int .i64 b, .int .i64 p, .int .i64 q] 41)) (.cells #[.int .i64 0, .int .i64 0] 39))
  have Ac0 := Ext.keeps (HA 0 _ rfl)
  have Ac1 := Ext.keeps (HA 1 _ rfl)
  have Ac2 := Ext.keeps (HA 2 _ rfl)
  clear HA
  have HB := (Has.alloc (Has.new2 w (.cells #[.int .i64 i, .int .i64 j, .int .i64 c] 71) #[.int .i64 a, .int .i64 b, .int .i64 p, .int .i64 q] 41) (.cells #[.int .i64 0, .int .i64 0] 39))
  have Bc0 := Ext.keeps (HB 0 _ rfl)
  have Bc1 := Ext.keeps (HB 1 _ rfl)
  have Bc2 := Ext.keeps (HB 2 _ rfl)
  have Bc3 := Ext.keeps (HB 3 _ rfl)
  clear HB
  have HR := (Has.new3 w (.cells #[.int .i64 i, .int .i64 j, .int .i64 c] 71) (.cells #[.int .i64 a, .int .i64 b, .int .i64 p, .int .i64 q] 41) #[.int .i64 0, .int .i64 0] 39)
  have Rc0 := Ext.keeps (HR 0 _ rfl)
  have Rc1 := Ext.keeps (HR 1 _ rfl)
  have Rf0 := Ext.thaws (w := (((w.alloc (.cells #[.int .i64 i, .int .i64 j, .int .i64 c] 71)).alloc (.cells #[.int .i64 a, .int .i64 b, .int .i64 p, .int .i64 q] 41)).alloc (.cells #[.int .i64 0, .int .i64 0] 39))) (HR 0 _ rfl) (frozen_fresh (by simp))
  have Rf1 := Ext.thaws (w := (((w.alloc (.cells #[.int .i64 i, .int .i64 j, .int .i64 c] 71)).alloc (.cells #[.int .i64 a, .int .i64 b, .int .i64 p, .int .i64 q] 41)).alloc (.cells #[.int .i64 0, .int .i64 0] 39))) (HR 1 _ rfl) (frozen_fresh (by simp))
  clear HR
  have hE : Ext (((w.alloc (.cells #[.int .i64 i, .int .i64 j, .int .i64 c] 71)).alloc (.cells #[.int .i64 a, .int .i64 b, .int .i64 p, .int .i64 q] 41)).alloc (.cells #[.int .i64 0, .int .i64 0] 39)) (((w.alloc (.cells #[.int .i64 i, .int .i64 j, .int .i64 c] 71)).alloc (.cells #[.int .i64 a, .int .i64 b, .int .i64 p, .int .i64 q] 41)).alloc (.cells #[.int .i64 0, .int .i64 0] 39)) := Ext.refl _
  have hEw : Ext w (((w.alloc (.cells #[.int .i64 i, .int .i64 j, .int .i64 c] 71)).alloc (.cells #[.int .i64 a, .int .i64 b, .int .i64 p, .int .i64 q] 41)).alloc (.cells #[.int .i64 0, .int .i64 0] 39)) := (by repeat (first | exact Ext.refl _ | assumption | apply Ext.alloc | apply Ext.drew | apply Ext.drewN | (refine Ext.trans ?_ (by assumption)) | (refine Ext.setCell ?_ (by (try simp) <;> omega) _)))
  go_enter Try.func46, Try.ntmps46
  go_wp2
  obtain ⟨V0, hV0⟩ : ∃ V, V = (((w.alloc (.cells #[.int .i64 i, .int .i64 j, .int .i64 c] 71)).alloc (.cells #[.int .i64 a, .int .i64 b, .int .i64 p, .int .i64 q] 41)).alloc (.cells #[.int .i64 0, .int .i64 0] 39)) := ⟨_, rfl⟩
  rw [← hV0] at Ac0 Ac1 Ac2 Bc0 Bc1 Bc2 Bc3 Rc0 Rc1 Rf0 Rf1 hE hEw
  rw [← hV0]
  clear hV0
  go_region_held3 (fun w' => Ext V0 w') ((repeat (first | exact Ext.refl _ | assumption | apply Ext.alloc | apply Ext.drew | apply Ext.drewN | (refine Ext.trans ?_ (by assumption)) | (refine Ext.setCell ?_ (by (try simp) <;> omega) _)))) (first | (go_at_call 100; refine (frInt_any _ _).mono ?_; rintro e wa ⟨rfl, hba⟩; have ea : Ext V0 wa := Ext.trans (by repeat (first | exact Ext.refl _ | assumption | apply Ext.alloc | apply Ext.drew | apply Ext.drewN | (refine Ext.trans ?_ (by assumption)) | (refine Ext.setCell ?_ (by (try simp) <;> omega) _))) hba; have sa := Ext.size ea; (try have k0 := Ext.newBox (Ext.trans (Ext.drew (Ext.refl (V0.alloc (.cells #[.int .i64 0, .int .i64 0] 39)))) hba))) | (go_at_call 99; refine (HX.out _).mono ?_; rintro e wb ⟨rfl, hbb⟩; have eb : Ext V0 wb := Ext.trans (by repeat (first | exact Ext.refl _ | assumption | apply Ext.alloc | apply Ext.drew | apply Ext.drewN | (refine Ext.trans ?_ (by assumption)) | (refine Ext.setCell ?_ (by (try simp) <;> omega) _))) hbb; (try have jj0 := Ext.rebase hbb k0 _ (Ext.refl _)); (try have jj1 := Ext.newBox hbb _ (Ext.refl _))))
  all_goals (
    first
    | (have tA := jj0
       have hF : (((wb.setCell ⟨V0.heap.size, 0, none⟩ (.int .i64 x1)).setCell ⟨V0.heap.size, 1, none⟩ (.int .i64 x2))).cell? ⟨V0.heap.size, 0, none⟩ = some (.int .i64 x1) ∧ (((wb.setCell ⟨V0.heap.size, 0, none⟩ (.int .i64 x1)).setCell ⟨V0.heap.size, 1, none⟩ (.int .i64 x2))).cell? ⟨V0.heap.size, 1, none⟩ = some (.int .i64 x2) ∧ Ext V0 ((wb.setCell ⟨V0.heap.size, 0, none⟩ (.int .i64 x1)).setCell ⟨V0.heap.size, 1, none⟩ (.int .i64 x2)) := by refine ⟨?_, ?_, ?_⟩ <;> first | (simp [go_sem, tA.1, tA.2.1]; done) | exact (by repeat (first | exact Ext.refl _ | assumption | apply Ext.alloc | apply Ext.drew | apply Ext.drewN | (refine Ext.trans ?_ (by assumption)) | (refine Ext.setCell ?_ (by (try simp) <;> omega) _)))
       generalize ((wb.setCell ⟨V0.heap.size, 0, none⟩ (.int .i64 x1)).setCell ⟨V0.heap.size, 1, none⟩ (.int .i64 x2)) = vX at hF ⊢
       generalize V0.heap.size = pbX at hF ⊢)
    | (have tA := jj1
       have hF : (((wb.setCell ⟨wa.heap.size, 0, none⟩ (.int .i64 x1)).setCell ⟨wa.heap.size, 1, none⟩ (.int .i64 x2))).cell? ⟨wa.heap.size, 0, none⟩ = some (.int .i64 x1) ∧ (((wb.setCell ⟨wa.heap.size, 0, none⟩ (.int .i64 x1)).setCell ⟨wa.heap.size, 1, none⟩ (.int .i64 x2))).cell? ⟨wa.heap.size, 1, none⟩ = some (.int .i64 x2) ∧ Ext V0 ((wb.setCell ⟨wa.heap.size, 0, none⟩ (.int .i64 x1)).setCell ⟨wa.heap.size, 1, none⟩ (.int .i64 x2)) := by refine ⟨?_, ?_, ?_⟩ <;> first | (simp [go_sem, tA.1, tA.2.1]; done) | exact (by repeat (first | exact Ext.refl _ | assumption | apply Ext.alloc | apply Ext.drew | apply Ext.drewN | (refine Ext.trans ?_ (by assumption)) | (refine Ext.setCell ?_ (by (try simp) <;> omega) _)))
       generalize ((wb.setCell ⟨wa.heap.size, 0, none⟩ (.int .i64 x1)).setCell ⟨wa.heap.size, 1, none⟩ (.int .i64 x2)) = vX at hF ⊢
       generalize wa.heap.size = pbX at hF ⊢)
    | (have hF : ((wb.alloc (.cells #[.int .i64 x1, .int .i64 x2] 39))).cell? ⟨wb.heap.size, 0, none⟩ = some (.int .i64 x1) ∧ ((wb.alloc (.cells #[.int .i64 x1, .int .i64 x2] 39))).cell? ⟨wb.heap.size, 1, none⟩ = some (.int .i64 x2) ∧ Ext V0 (wb.alloc (.cells #[.int .i64 x1, .int .i64 x2] 39)) := by refine ⟨?_, ?_, ?_⟩ <;> first | (simp [go_sem]; done) | exact (by repeat (first | exact Ext.refl _ | assumption | apply Ext.alloc | apply Ext.drew | apply Ext.drewN | (refine Ext.trans ?_ (by assumption)) | (refine Ext.setCell ?_ (by (try simp) <;> omega) _)))
       generalize (wb.alloc (.cells #[.int .i64 x1, .int .i64 x2] 39)) = vX at hF ⊢
       generalize wb.heap.size = pbX at hF ⊢))
  all_goals (
    obtain ⟨u0, u1, EX⟩ := hF
    try clear jj0
    try clear jj1
    try clear k0
    clear hba hbb ea sa eb
    have A1 := Ext.rebase EX Ac1
    have A2 := Ext.rebase EX Ac2
    have B2 := Ext.rebase EX Bc2
    have B3 := Ext.rebase EX Bc3
    replace u0 := Ext.keeps u0
    replace u1 := Ext.keeps u1
    go_wp2
    go_region_held3 (fun w' => Ext vX w') ((repeat (first | exact Ext.refl _ | assumption | apply Ext.alloc | apply Ext.drew | apply Ext.drewN | (refine Ext.trans ?_ (by assumption)) | (refine Ext.setCell ?_ (by (try simp) <;> omega) _)))) (first | (go_at_call 100; refine (frInt_any _ _).mono ?_; rintro e wa ⟨rfl, hba⟩; have ea : Ext vX wa := Ext.trans (by repeat (first | exact Ext.refl _ | assumption | apply Ext.alloc | apply Ext.drew | apply Ext.drewN | (refine Ext.trans ?_ (by assumption)) | (refine Ext.setCell ?_ (by (try simp) <;> omega) _))) hba; have sa := Ext.size ea; (try have k0 := Ext.newBox (Ext.trans (Ext.drew (Ext.refl (vX.alloc (.cells #[.int .i64 0, .int .i64 0] 39)))) hba))) | (go_at_call 99; refine (HY.out _).mono ?_; rintro e wb ⟨rfl, hbb⟩; have eb : Ext vX wb := Ext.trans (by repeat (first | exact Ext.refl _ | assumption | apply Ext.alloc | apply Ext.drew | apply Ext.drewN | (refine Ext.trans ?_ (by assumption)) | (refine Ext.setCell ?_ (by (try simp) <;> omega) _))) hbb; (try have jj0 := Ext.rebase hbb k0 _ (Ext.refl _)); (try have jj1 := Ext.newBox hbb _ (Ext.refl _))))
    all_goals (
      first
      | (have tA := jj0
         have hF : (((wb.setCell ⟨vX.heap.size, 0, none⟩ (.int .i64 y1)).setCell ⟨vX.heap.size, 1, none⟩ (.int .i64 y2))).cell? ⟨vX.heap.size, 0, none⟩ = some (.int .i64 y1) ∧ (((wb.setCell ⟨vX.heap.size, 0, none⟩ (.int .i64 y1)).setCell ⟨vX.heap.size, 1, none⟩ (.int .i64 y2))).cell? ⟨vX.heap.size, 1, none⟩ = some (.int .i64 y2) ∧ Ext vX ((wb.setCell ⟨vX.heap.size, 0, none⟩ (.int .i64 y1)).setCell ⟨vX.heap.size, 1, none⟩ (.int .i64 y2)) := by refine ⟨?_, ?_, ?_⟩ <;> first | (simp [go_sem, tA.1, tA.2.1]; done) | exact (by repeat (first | exact Ext.refl _ | assumption | apply Ext.alloc | apply Ext.drew | apply Ext.drewN | (refine Ext.trans ?_ (by assumption)) | (refine Ext.setCell ?_ (by (try simp) <;> omega) _)))
         generalize ((wb.setCell ⟨vX.heap.size, 0, none⟩ (.int .i64 y1)).setCell ⟨vX.heap.size, 1, none⟩ (.int .i64 y2)) = vY at hF ⊢
         generalize vX.heap.size = pbY at hF ⊢)
      | (have tA := jj1
         have hF : (((wb.setCell ⟨wa.heap.size, 0, none⟩ (.int .i64 y1)).setCell ⟨wa.heap.size, 1, none⟩ (.int .i64 y2))).cell? ⟨wa.heap.size, 0, none⟩ = some (.int .i64 y1) ∧ (((wb.setCell ⟨wa.heap.size, 0, none⟩ (.int .i64 y1)).setCell ⟨wa.heap.size, 1, none⟩ (.int .i64 y2))).cell? ⟨wa.heap.size, 1, none⟩ = some (.int .i64 y2) ∧ Ext vX ((wb.setCell ⟨wa.heap.size, 0, none⟩ (.int .i64 y1)).setCell ⟨wa.heap.size, 1, none⟩ (.int .i64 y2)) := by refine ⟨?_, ?_, ?_⟩ <;> first | (simp [go_sem, tA.1, tA.2.1]; done) | exact (by repeat (first | exact Ext.refl _ | assumption | apply Ext.alloc | apply Ext.drew | apply Ext.drewN | (refine Ext.trans ?_ (by assumption)) | (refine Ext.setCell ?_ (by (try simp) <;> omega) _)))
         generalize ((wb.setCell ⟨wa.heap.size, 0, none⟩ (.int .i64 y1)).setCell ⟨wa.heap.size, 1, none⟩ (.int .i64 y2)) = vY at hF ⊢
         generalize wa.heap.size = pbY at hF ⊢)
      | (have hF : ((wb.alloc (.cells #[.int .i64 y1, .int .i64 y2] 39))).cell? ⟨wb.heap.size, 0, none⟩ = some (.int .i64 y1) ∧ ((wb.alloc (.cells #[.int .i64 y1, .int .i64 y2] 39))).cell? ⟨wb.heap.size, 1, none⟩ = some (.int .i64 y2) ∧ Ext vX (wb.alloc (.cells #[.int .i64 y1, .int .i64 y2] 39)) := by refine ⟨?_, ?_, ?_⟩ <;> first | (simp [go_sem]; done) | exact (by repeat (first | exact Ext.refl _ | assumption | apply Ext.alloc | apply Ext.drew | apply Ext.drewN | (refine Ext.trans ?_ (by assumption)) | (refine Ext.setCell ?_ (by (try simp) <;> omega) _)))
         generalize (wb.alloc (.cells #[.int .i64 y1, .int .i64 y2] 39)) = vY at hF ⊢
         generalize wb.heap.size = pbY at hF ⊢))
    all_goals (
      obtain ⟨t0, t1, EY⟩ := hF
      try clear jj0
      try clear jj1
      try clear k0
      clear hba hbb ea sa eb
      have EXY := Ext.trans EX EY
      have r0 := Rc0 _ EXY
      have r1' := Rc1 _ EXY
      have rf0 := Rf0 _ EXY
      have rf1 := Rf1 _ EXY
      have hEr := hEw.trans EXY
      have c0 := u0 _ EY
      have c1 := u1 _ EY
      cases mx
      · clear HS HT c0 c1 t0 t1
        go_wp2
        have hZ : (0 : Int) = r1 ∧ (0 : Int) = r2 ∧ false = mr := by have := HR.out; simpa using this
        refine bodyPost_ret (v := (.tuple #[.agg #[.int .i64 0, .int .i64 0], .bool false])) (by simp [results, Try.results46, go_sem, r0, r1']) rfl ⟨by rw [← hZ.1, ← hZ.2.1, ← hZ.2.2], (by repeat (first | exact Ext.refl _ | assumption | apply Ext.alloc | apply Ext.drew | apply Ext.drewN | (refine Ext.trans ?_ (by assumption)) | (refine Ext.setCell ?_ (by (try simp) <;> omega) _)))⟩
      · cases my
        · clear HS HT c0 c1 t0 t1
          go_wp2
          have hZ : (0 : Int) = r1 ∧ (0 : Int) = r2 ∧ false = mr := by have := HR.out; simpa using this
          refine bodyPost_ret (v := (.tuple #[.agg #[.int .i64 0, .int .i64 0], .bool false])) (by simp [results, Try.results46, go_sem, r0, r1']) rfl ⟨by rw [← hZ.1, ← hZ.2.1, ← hZ.2.2], (by repeat (first | exact Ext.refl _ | assumption | apply Ext.alloc | apply Ext.drew | apply Ext.drewN | (refine Ext.trans ?_ (by assumption)) | (refine Ext.setCell ?_ (by (try simp) <;> omega) _)))⟩
        · have HS2 := Lib.hid (HS.out rfl rfl)
          clear HS r0 r1' rf0 rf1
          go_wp2_with fail
          refine (HS2.out _).mono ?_
          rintro e v3 ⟨rfl, hb3⟩
          obtain ⟨V4, hV4⟩ : ∃ V, V = v3.alloc (.cells #[.int .i64 s1, .int .i64 s2] 39) := ⟨_, rfl⟩
          have E4 : Ext V0 V4 := by rw [hV4]; exact Ext.alloc (EXY.trans hb3) _
          have S0 := Ext.keeps (show V4.cell? ⟨v3.heap.size, 0, none⟩ = some (.int .i64 s1) by rw [hV4]; exact cell_at_new rfl rfl)
          have S1 := Ext.keeps (show V4.cell? ⟨v3.heap.size, 1, none⟩ = some (.int .i64 s2) by rw [hV4]; exact cell_at_new rfl rfl)
          have r0 := Rc0 _ E4
          have r1' := Rc1 _ E4
          have rf0 := Rf0 _ E4
          have rf1 := Rf1 _ E4
          replace hEr := hEw.trans E4
          cases ms
          · rw [hV4] at r0 r1' rf0 rf1 hEr
            clear HT hV4 S0 S1 E4
            go_wp2
            have hZ : (0 : Int) = r1 ∧ (0 : Int) = r2 ∧ false = mr := by have := HR.out; simpa using this
            refine bodyPost_ret (v := (.tuple #[.agg #[.int .i64 0, .int .i64 0], .bool false])) (by simp [results, Try.results46, go_sem, r0, r1']) rfl ⟨by rw [← hZ.1, ← hZ.2.1, ← hZ.2.2], (by repeat (first | exact Ext.refl _ | assumption | apply Ext.alloc | apply Ext.drew | apply Ext.drewN | (refine Ext.trans ?_ (by assumption)) | (refine Ext.setCell ?_ (by (try simp) <;> omega) _)))⟩
          · have HT2 := Lib.hid (HT.out rfl)
            have A3 := Ext.rebase E4 Ac2
            have K0 := Ext.rebase E4 Rc0
            have K1 := Ext.rebase E4 Rc1
            have K2 := Ext.rebase E4 Rf0
            have K3 := Ext.rebase E4 Rf1
            clear HT c0 c1 t0 t1
            go_wp2
            rw [← hV4]
            clear hV4
            have z0 := fun s : Past V4 => S0 s.w s.ext
            have z1 := fun s : Past V4 => S1 s.w s.ext
            have z2 := fun s : Past V4 => A3 s.w s.ext
            refine wp_region_past_tail 7 V4 (Ext.refl _) (by kernel_rfl) (by kernel_rfl) ?_
            simp only [List.take_succ_cons, List.take_zero, List.drop_succ_cons, List.drop_zero]
            repeat (go_big_quiet_step ((first | (go_at_call 100; exact past_ext (frInt_any _ _)) | (go_at_call 101; exact past_ext (HT2.out _)))))
            refine wpQuiet_nil ?_
            intro v5 hw'
            have E5 : Ext V4 v5 := by obtain ⟨s, hs⟩ := hw'; subst hs; exact s.ext
            clear hw' z0 z1 z2
            have r2' := K0 _ E5
            have r3' := K1 _ E5
            have rf2 := K2 _ E5
            have rf3 := K3 _ E5
            have hEr2 := hEr.trans E5
            clear r0 r1' rf0 rf1
            go_wp2
            have hZ : f1 = r1 ∧ f2 = r2 ∧ mf = mr := by have := HR.out; simpa using this
            refine bodyPost_ret (v := (.tuple #[.agg #[.int .i64 f1, .int .i64 f2], .bool mf])) (by simp [results, Try.results46, go_sem, r2', r3']) rfl ⟨by rw [← hZ.1, ← hZ.2.1, ← hZ.2.2], (by repeat (first | exact Ext.refl _ | assumption | apply Ext.alloc | apply Ext.drew | apply Ext.drewN | (refine Ext.trans ?_ (by assumption)) | (refine Ext.setCell ?_ (by (try simp) <;> omega) _)))⟩))

end Go.Proofs.Ytogbfhhioicbmaa
