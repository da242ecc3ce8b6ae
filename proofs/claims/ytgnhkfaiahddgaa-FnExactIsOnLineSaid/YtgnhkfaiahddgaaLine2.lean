/-
  The contracts of the functions on lines: lines through points, meeting points, moves.
-/
import Derived.Test.YtgnhkfaiahddgaaLine
namespace Go.Proofs.Ytgnhkfaiahddgaa
open Go.RowKit

theorem lnIf_any (a b c : Int) (w : World) :
    Calls Try.prog 51 #[.agg #[.int .i64 a, .int .i64 b, .int .i64 c]] w fun r w' => r = .returned (.tuple #[.agg #[.int .i64 (gI (fin3 a b c) a), .int .i64 (gI (fin3 a b c) b), .int .i64 (gI (fin3 a b c) c)], .bool (fin3 a b c)]) ∧ Ext w w' := by
  have HA := (Has.alloc (Has.new w #[.int .i64 a, .int .i64 b, .int .i64 c] 25) (.cells #[.int .i64 0, .int .i64 0, .int .i64 0] 25))
  have Ac0 := Ext.keeps (HA 0 _ rfl)
  have Ac1 := Ext.keeps (HA 1 _ rfl)
  have Ac2 := Ext.keeps (HA 2 _ rfl)
  clear HA
  have HR := (Has.new2 w (.cells #[.int .i64 a, .int .i64 b, .int .i64 c] 25) #[.int .i64 0, .int .i64 0, .int .i64 0] 25)
  have Rc0 := Ext.keeps (HR 0 _ rfl)
  have Rc1 := Ext.keeps (HR 1 _ rfl)
  have Rc2 := Ext.keeps (HR 2 _ rfl)
  have Rf0 := Ext.thaws (w := ((w.alloc (.cells #[.int .i64 a, .int .i64 b, .int .i64 c] 25)).alloc (.cells #[.int .i64 0, .int .i64 0, .int .i64 0] 25))) (HR 0 _ rfl) (by simp)
  have Rf1 := Ext.thaws (w := ((w.alloc (.cells #[.int .i64 a, .int .i64 b, .int .i64 c] 25)).alloc (.cells #[.int .i64 0, .int .i64 0, .int .i64 0] 25))) (HR 1 _ rfl) (by simp)
  have Rf2 := Ext.thaws (w := ((w.alloc (.cells #[.int .i64 a, .int .i64 b, .int .i64 c] 25)).alloc (.cells #[.int .i64 0, .int .i64 0, .int .i64 0] 25))) (HR 2 _ rfl) (by simp)
  clear HR
  have hE : Ext ((w.alloc (.cells #[.int .i64 a, .int .i64 b, .int .i64 c] 25)).alloc (.cells #[.int .i64 0, .int .i64 0, .int .i64 0] 25)) ((w.alloc (.cells #[.int .i64 a, .int .i64 b, .int .i64 c] 25)).alloc (.cells #[.int .i64 0, .int .i64 0, .int .i64 0] 25)) := Ext.refl _
  cases h : fin3 a b c <;> (
    go_enter Try.func51, Try.ntmps51
    go_wp2_with ((go_at_call 45; refine (lnGood_any _ _ _ _).mono ?_; rintro e w' ⟨rfl, hb⟩; (first | replace hE := Ext.trans hE hb | replace hE := Ext.trans (Ext.alloc hE _) hb | replace hE := Ext.trans (Ext.alloc (Ext.alloc hE _) _) hb | replace hE := Ext.trans (Ext.drew hE) hb | replace hE := Ext.trans (Ext.alloc (Ext.alloc (Ext.alloc hE _) _) _) hb)))
    refine bodyPost_ret (v := .tuple #[.agg #[.int .i64 (gI (fin3 a b c) a), .int .i64 (gI (fin3 a b c) b), .int .i64 (gI (fin3 a b c) c)], .bool (fin3 a b c)]) (by simp [results, Try.results51, go_sem, gI, h, hE, Rc0, Rc1, Rc2]) rfl ⟨by simp [h], (by repeat (first | exact Ext.refl _ | assumption | apply Ext.alloc | apply Ext.drew | apply Ext.drewN | (refine Ext.trans ?_ (by assumption)) | (refine Ext.setCell ?_ (by simp; done) _) | (refine Ext.setCell ?_ (by simp; omega) _)))⟩)

theorem toldLine_any (a b c : Int) (w : World) :
    Calls Try.prog 53 #[.agg #[.int .i64 a, .int .i64 b, .int .i64 c]] w fun r w' => r = .returned (.tuple #[.agg #[.int .i64 (gI (fin3 a b c) a), .int .i64 (gI (fin3 a b c) b), .int .i64 (gI (fin3 a b c) c)], .bool (fin3 a b c)]) ∧ Ext w w' := by
  have HA := (Has.alloc (Has.new w #[.int .i64 a, .int .i64 b, .int .i64 c] 25) (.cells #[.int .i64 0, .int .i64 0, .int .i64 0] 25))
  have Ac0 := Ext.keeps (HA 0 _ rfl)
  have Ac1 := Ext.keeps (HA 1 _ rfl)
  have Ac2 := Ext.keeps (HA 2 _ rfl)
  clear HA
  have HR := (Has.new2 w (.cells #[.int .i64 a, .int .i64 b, .int .i64 c] 25) #[.int .i64 0, .int .i64 0, .int .i64 0] 25)
  have Rc0 := Ext.keeps (HR 0 _ rfl)
  have Rc1 := Ext.keeps (HR 1 _ rfl)
  have Rc2 := Ext.keeps (HR 2 _ rfl)
  have Rf0 := Ext.thaws (w := ((w.alloc (.cells #[.int .i64 a, .int .i64 b, .int .i64 c] 25)).alloc (.cells #[.int .i64 0, .int .i64 0, .int .i64 0] 25))) (HR 0 _ rfl) (by simp)
  have Rf1 := Ext.thaws (w := ((w.alloc (.cells #[.int .i64 a, .int .i64 b, .int .i64 c] 25)).alloc (.cells #[.int .i64 0, .int .i64 0, .int .i64 0] 25))) (HR 1 _ rfl) (by simp)
  have Rf2 := Ext.thaws (w := ((w.alloc (.cells #[.int .i64 a, .int .i64 b, .int .i64 c] 25)).alloc (.cells #[.int .i64 0, .int .i64 0, .int .i64 0] 25))) (HR 2 _ rfl) (by simp)
  clear HR
  have hE : Ext ((w.alloc (.cells #[.int .i64 a, .int .i64 b, .int .i64 c] 25)).alloc (.cells #[.int .i64 0, .int .i64 0, .int .i64 0] 25)) ((w.alloc (.cells #[.int .i64 a, .int .i64 b, .int .i64 c] 25)).alloc (.cells #[.int .i64 0, .int .i64 0, .int .i64 0] 25)) := Ext.refl _
  cases h : fin3 a b c <;> (
    go_enter Try.func53, Try.ntmps53
    go_wp2_with ((go_at_call 46; refine (isLine_any _ _ _ _).mono ?_; rintro e w' ⟨rfl, hb⟩; (first | replace hE := Ext.trans hE hb | replace hE := Ext.trans (Ext.alloc hE _) hb | replace hE := Ext.trans (Ext.alloc (Ext.alloc hE _) _) hb | replace hE := Ext.trans (Ext.drew hE) hb | replace hE := Ext.trans (Ext.alloc (Ext.alloc (Ext.alloc hE _) _) _) hb)))
    refine bodyPost_ret (v := .tuple #[.agg #[.int .i64 (gI (fin3 a b c) a), .int .i64 (gI (fin3 a b c) b), .int .i64 (gI (fin3 a b c) c)], .bool (fin3 a b c)]) (by simp [results, Try.results53, go_sem, gI, h, hE, Rc0, Rc1, Rc2]) rfl ⟨by simp [h], (by repeat (first | exact Ext.refl _ | assumption | apply Ext.alloc | apply Ext.drew | apply Ext.drewN | (refine Ext.trans ?_ (by assumption)) | (refine Ext.setCell ?_ (by simp; done) _) | (refine Ext.setCell ?_ (by simp; omega) _)))⟩)

theorem eqLine_same (a b c : Int) (w : World) :
    Calls Try.prog 26 #[.agg #[.int .i64 a, .int .i64 b, .int .i64 c], .agg #[.int .i64 a, .int .i64 b, .int .i64 c]] w fun r w' => r = .returned (.bool true) ∧ Ext w w' := by
  go_enter Try.func26, Try.ntmps26
  go_wp2
  go_ret
  exact ⟨rfl, (by repeat (first | exact Ext.refl _ | assumption | apply Ext.alloc | apply Ext.drew | apply Ext.drewN | (refine Ext.trans ?_ (by assumption)) | (refine Ext.setCell ?_ (by simp; done) _) | (refine Ext.setCell ?_ (by simp; omega) _)))⟩

theorem lnAsked_any (a b c x y : Int) (w : World) :
    Calls Try.prog 59 #[.agg #[.int .i64 a, .int .i64 b, .int .i64 c], .int .i64 x, .int .i64 y] w fun r w' => r = .returned (.bool (fin3 a b c && finB x && finB y)) ∧ Ext w w' := by
  have HA := (Has.new w #[.int .i64 a, .int .i64 b, .int .i64 c] 25)
  have Ac0 := Ext.keeps (HA 0 _ rfl)
  have Ac1 := Ext.keeps (HA 1 _ rfl)
  have Ac2 := Ext.keeps (HA 2 _ rfl)
  clear HA
  have hE : Ext (w.alloc (.cells #[.int .i64 a, .int .i64 b, .int .i64 c] 25)) (w.alloc (.cells #[.int .i64 a, .int .i64 b, .int .i64 c] 25)) := Ext.refl _
  cases h : fin3 a b c <;> cases h1 : finB x <;> (
    go_enter Try.func59, Try.ntmps59
    go_wp2_with (first | (go_at_call 45; refine (lnGood_any _ _ _ _).mono ?_; rintro e w' ⟨rfl, hb⟩; (first | replace hE := Ext.trans hE hb | replace hE := Ext.trans (Ext.alloc hE _) hb | replace hE := Ext.trans (Ext.alloc (Ext.alloc hE _) _) hb | replace hE := Ext.trans (Ext.drew hE) hb | replace hE := Ext.trans (Ext.alloc (Ext.alloc (Ext.alloc hE _) _) _) hb)) | (go_at_call 50; refine (poFinite_any _ _).mono ?_; rintro e _ ⟨rfl, rfl⟩))
    go_ret
    exact ⟨rfl, (by repeat (first | exact Ext.refl _ | assumption | apply Ext.alloc | apply Ext.drew | apply Ext.drewN | (refine Ext.trans ?_ (by assumption)) | (refine Ext.setCell ?_ (by simp; done) _) | (refine Ext.setCell ?_ (by simp; omega) _)))⟩)

theorem spec_LineThrough_any (x y u v : Int) (w : World) :
    Calls Try.prog 24 #[.int .i64 x, .int .i64 y, .int .i64 u, .int .i64 v] w fun r w' => r = .returned (.tuple #[.agg #[.int .i64 (gI ((finB x && finB y && finB u && finB v) && fin3 (minI y v) (minI x u) (minI (x + v) (u + y))) (minI y v)), .int .i64 (gI ((finB x && finB y && finB u && finB v) && fin3 (minI y v) (minI x u) (minI (x + v) (u + y))) (minI x u)), .int .i64 (gI ((finB x && finB y && finB u && finB v) && fin3 (minI y v) (minI x u) (minI (x + v) (u + y))) (minI (x + v) (u + y)))], .bool ((finB x && finB y && finB u && finB v) && fin3 (minI y v) (minI x u) (minI (x + v) (u + y)))]) ∧ Ext w w' := by
  have HR := (Has.new w #[.int .i64 0, .int .i64 0, .int .i64 0] 25)
  have Rc0 := Ext.keeps (HR 0 _ rfl)
  have Rc1 := Ext.keeps (HR 1 _ rfl)
  have Rc2 := Ext.keeps (HR 2 _ rfl)
  have Rf0 := Ext.thaws (w := (w.alloc (.cells #[.int .i64 0, .int .i64 0, .int .i64 0] 25))) (HR 0 _ rfl) (by simp)
  have Rf1 := Ext.thaws (w := (w.alloc (.cells #[.int .i64 0, .int .i64 0, .int .i64 0] 25))) (HR 1 _ rfl) (by simp)
  have Rf2 := Ext.thaws (w := (w.alloc (.cells #[.int .i64 0, .int .i64 0, .int .i64 0] 25))) (HR 2 _ rfl) (by simp)
  clear HR
  have hE : Ext (w.alloc (.cells #[.int .i64 0, .int .i64 0, .int .i64 0] 25)) (w.alloc (.cells #[.int .i64 0, .int .i64 0, .int .i64 0] 25)) := Ext.refl _
  rcases finB_cases x with h1 | ⟨h1, k1⟩ <;> rcases finB_cases y with h2 | ⟨h2, k2⟩ <;> rcases finB_cases u with h3 | ⟨h3, k3⟩ <;> rcases finB_cases v with h4 | ⟨h4, k4⟩ <;> (
    go_enter Try.func24, Try.ntmps24
    go_wp2_with (first | (go_at_call 50; refine (poFinite_any _ _).mono ?_; rintro e _ ⟨rfl, rfl⟩) | (go_at_call 49; refine (l1Least_any _ _ _).mono ?_; rintro e _ ⟨rfl, rfl⟩) | (go_at_call 51; refine (lnIf_any _ _ _ _).mono ?_; rintro e w' ⟨rfl, hb⟩; (first | replace hE := Ext.trans hE hb | replace hE := Ext.trans (Ext.alloc hE _) hb | replace hE := Ext.trans (Ext.alloc (Ext.alloc hE _) _) hb | replace hE := Ext.trans (Ext.drew hE) hb | replace hE := Ext.trans (Ext.alloc (Ext.alloc (Ext.alloc hE _) _) _) hb)))
    refine bodyPost_ret (v := .tuple #[.agg #[.int .i64 (gI ((finB x && finB y && finB u && finB v) && fin3 (minI y v) (minI x u) (minI (x + v) (u + y))) (minI y v)), .int .i64 (gI ((finB x && finB y && finB u && finB v) && fin3 (minI y v) (minI x u) (minI (x + v) (u + y))) (minI x u)), .int .i64 (gI ((finB x && finB y && finB u && finB v) && fin3 (minI y v) (minI x u) (minI (x + v) (u + y))) (minI (x + v) (u + y)))], .bool ((finB x && finB y && finB u && finB v) && fin3 (minI y v) (minI x u) (minI (x + v) (u + y)))]) (by simp [results, Try.results24, go_sem, gI, h1, h2, h3, h4, hE, Rc0, Rc1, Rc2]) rfl ⟨by simp [h1, h2, h3, h4], (by repeat (first | exact Ext.refl _ | assumption | apply Ext.alloc | apply Ext.drew | apply Ext.drewN | (refine Ext.trans ?_ (by assumption)) | (refine Ext.setCell ?_ (by simp; done) _) | (refine Ext.setCell ?_ (by simp; omega) _)))⟩)

theorem impl_LineThrough_any (x y u v : Int) (w : World) :
    Calls Try.prog 25 #[.int .i64 x, .int .i64 y, .int .i64 u, .int .i64 v] w fun r w' => r = .returned (.tuple #[.agg #[.int .i64 (gI ((finB x && finB y && finB u && finB v) && fin3 (minI y v) (minI x u) (minI (x + v) (u + y))) (minI y v)), .int .i64 (gI ((finB x && finB y && finB u && finB v) && fin3 (minI y v) (minI x u) (minI (x + v) (u + y))) (minI x u)), .int .i64 (gI ((finB x && finB y && finB u && finB v) && fin3 (minI y v) (minI x u) (minI (x + v) (u + y))) (minI (x + v) (u + y)))], .bool ((finB x && finB y && finB u && finB v) && fin3 (minI y v) (minI x u) (minI (x + v) (u + y)))]) ∧ Ext w w' := by
  have HR := (Has.new w #[.int .i64 0, .int .i64 0, .int .i64 0] 25)
  have Rc0 := Ext.keeps (HR 0 _ rfl)
  have Rc1 := Ext.keeps (HR 1 _ rfl)
  have Rc2 := Ext.keeps (HR 2 _ rfl)
  have Rf0 := Ext.thaws (w := (w.alloc (.cells #[.int .i64 0, .int .i64 0, .int .i64 0] 25))) (HR 0 _ rfl) (by simp)
  have Rf1 := Ext.thaws (w := (w.alloc (.cells #[.int .i64 0, .int .i64 0, .int .i64 0] 25))) (HR 1 _ rfl) (by simp)
  have Rf2 := Ext.thaws (w := (w.alloc (.cells #[.int .i64 0, .int .i64 0, .int .i64 0] 25))) (HR 2 _ rfl) (by simp)
  clear HR
  have hE : Ext (w.alloc (.cells #[.int .i64 0, .int .i64 0, .int .i64 0] 25)) (w.alloc (.cells #[.int .i64 0, .int .i64 0, .int .i64 0] 25)) := Ext.refl _
  have hb : (finB x && finB y && finB u && finB v) = false ∨ ((finB x && finB y && finB u && finB v) = true ∧ (-1000000 ≤ x ∧ x ≤ 1000000) ∧ (-1000000 ≤ y ∧ y ≤ 1000000) ∧ (-1000000 ≤ u ∧ u ≤ 1000000) ∧ (-1000000 ≤ v ∧ v ≤ 1000000)) := by
    cases h : (finB x && finB y && finB u && finB v)
    · exact .inl rfl
    · simp [finB_true] at h; exact .inr ⟨rfl, by omega, by omega, by omega, by omega⟩
  rcases hb with h | ⟨h, k1, k2, k3, k4⟩ <;> (
    go_enter Try.func25, Try.ntmps25
    go_wp2_with fail
    refine (areFinite_any _ _ _ _ [x, y, u, v] rfl (by simp) _ ?_).mono ?_
    · intro i hi
      match i, hi with
      | 0, _ => simp
      | 1, _ => simp
      | 2, _ => simp
      | 3, _ => simp
    rintro e w' ⟨rfl, rfl⟩
    rw [show [x, y, u, v].all finB = (finB x && finB y && finB u && finB v) by simp [Bool.and_assoc], h]
    replace hE := Ext.alloc hE (.cells #[.int .i64 x, .int .i64 y, .int .i64 u, .int .i64 v] 3)
    go_wp2_with ((go_at_call 53; refine (toldLine_any _ _ _ _).mono ?_; rintro e w' ⟨rfl, hb⟩; (first | replace hE := Ext.trans hE hb | replace hE := Ext.trans (Ext.alloc hE _) hb | replace hE := Ext.trans (Ext.alloc (Ext.alloc hE _) _) hb | replace hE := Ext.trans (Ext.drew hE) hb | replace hE := Ext.trans (Ext.alloc (Ext.alloc (Ext.alloc hE _) _) _) hb)))
    refine bodyPost_ret (v := .tuple #[.agg #[.int .i64 (gI ((finB x && finB y && finB u && finB v) && fin3 (minI y v) (minI x u) (minI (x + v) (u + y))) (minI y v)), .int .i64 (gI ((finB x && finB y && finB u && finB v) && fin3 (minI y v) (minI x u) (minI (x + v) (u + y))) (minI x u)), .int .i64 (gI ((finB x && finB y && finB u && finB v) && fin3 (minI y v) (minI x u) (minI (x + v) (u + y))) (minI (x + v) (u + y)))], .bool ((finB x && finB y && finB u && finB v) && fin3 (minI y v) (minI x u) (minI (x + v) (u + y)))]) (by simp [results, Try.results25, go_sem, gI, h, hE, Rc0, Rc1, Rc2]) rfl ⟨by simp [h], (by repeat (first | exact Ext.refl _ | assumption | apply Ext.alloc | apply Ext.drew | apply Ext.drewN | (refine Ext.trans ?_ (by assumption)) | (refine Ext.setCell ?_ (by simp; done) _) | (refine Ext.setCell ?_ (by simp; omega) _)))⟩)

theorem law_LineThrough (x y u v : Int) (w : World) :
    Calls Try.prog 7 #[.int .i64 x, .int .i64 y, .int .i64 u, .int .i64 v] w fun r w' => r = .returned (.bool true) ∧ Ext w w' := by
  have hE : Ext w w := Ext.refl _
  go_enter Try.func7, Try.ntmps7
  go_wp2_with fail
  refine (spec_LineThrough_any _ _ _ _ _).mono ?_
  rintro e w1 ⟨rfl, hb⟩
  (first | replace hE := Ext.trans hE hb | replace hE := Ext.trans (Ext.alloc hE _) hb | replace hE := Ext.trans (Ext.alloc (Ext.alloc hE _) _) hb | replace hE := Ext.trans (Ext.drew hE) hb | replace hE := Ext.trans (Ext.alloc (Ext.alloc (Ext.alloc hE _) _) _) hb)
  have hT : Ext w (w1.alloc (.cells #[.int .i64 (gI ((finB x && finB y && finB u && finB v) && fin3 (minI y v) (minI x u) (minI (x + v) (u + y))) (minI y v)), .int .i64 (gI ((finB x && finB y && finB u && finB v) && fin3 (minI y v) (minI x u) (minI (x + v) (u + y))) (minI x u)), .int .i64 (gI ((finB x && finB y && finB u && finB v) && fin3 (minI y v) (minI x u) (minI (x + v) (u + y))) (minI (x + v) (u + y)))] 25)) := Ext.alloc hE _
  have HB := Has.new w1 #[.int .i64 (gI ((finB x && finB y && finB u && finB v) && fin3 (minI y v) (minI x u) (minI (x + v) (u + y))) (minI y v)), .int .i64 (gI ((finB x && finB y && finB u && finB v) && fin3 (minI y v) (minI x u) (minI (x + v) (u + y))) (minI x u)), .int .i64 (gI ((finB x && finB y && finB u && finB v) && fin3 (minI y v) (minI x u) (minI (x + v) (u + y))) (minI (x + v) (u + y)))] 25
  have Bc0 := Ext.keeps (HB 0 _ rfl)
  have Bc1 := Ext.keeps (HB 1 _ rfl)
  have Bc2 := Ext.keeps (HB 2 _ rfl)
  clear HB
  replace hE : Ext (w1.alloc (.cells #[.int .i64 (gI ((finB x && finB y && finB u && finB v) && fin3 (minI y v) (minI x u) (minI (x + v) (u + y))) (minI y v)), .int .i64 (gI ((finB x && finB y && finB u && finB v) && fin3 (minI y v) (minI x u) (minI (x + v) (u + y))) (minI x u)), .int .i64 (gI ((finB x && finB y && finB u && finB v) && fin3 (minI y v) (minI x u) (minI (x + v) (u + y))) (minI (x + v) (u + y)))] 25)) (w1.alloc (.cells #[.int .i64 (gI ((finB x && finB y && finB u && finB v) && fin3 (minI y v) (minI x u) (minI (x + v) (u + y))) (minI y v)), .int .i64 (gI ((finB x && finB y && finB u && finB v) && fin3 (minI y v) (minI x u) (minI (x + v) (u + y))) (minI x u)), .int .i64 (gI ((finB x && finB y && finB u && finB v) && fin3 (minI y v) (minI x u) (minI (x + v) (u + y))) (minI (x + v) (u + y)))] 25)) := Ext.refl _
  go_wp2_with fail
  refine (impl_LineThrough_any _ _ _ _ _).mono ?_
  rintro e w2 ⟨rfl, hb⟩
  (first | replace hE := Ext.trans hE hb | replace hE := Ext.trans (Ext.alloc hE _) hb | replace hE := Ext.trans (Ext.alloc (Ext.alloc hE _) _) hb | replace hE := Ext.trans (Ext.drew hE) hb | replace hE := Ext.trans (Ext.alloc (Ext.alloc (Ext.alloc hE _) _) _) hb)
  have hT : Ext (w1.alloc (.cells #[.int .i64 (gI ((finB x && finB y && finB u && finB v) && fin3 (minI y v) (minI x u) (minI (x + v) (u + y))) (minI y v)), .int .i64 (gI ((finB x && finB y && finB u && finB v) && fin3 (minI y v) (minI x u) (minI (x + v) (u + y))) (minI x u)), .int .i64 (gI ((finB x && finB y && finB u && finB v) && fin3 (minI y v) (minI x u) (minI (x + v) (u + y))) (minI (x + v) (u + y)))] 25)) (w2.alloc (.cells #[.int .i64 (gI ((finB x && finB y && finB u && finB v) && fin3 (minI y v) (minI x u) (minI (x + v) (u + y))) (minI y v)), .int .i64 (gI ((finB x && finB y && finB u && finB v) && fin3 (minI y v) (minI x u) (minI (x + v) (u + y))) (minI x u)), .int .i64 (gI ((finB x && finB y && finB u && finB v) && fin3 (minI y v) (minI x u) (minI (x + v) (u + y))) (minI (x + v) (u + y)))] 25)) := Ext.alloc hE _
  replace Bc0 := Ext.rebase hT Bc0
  replace Bc1 := Ext.rebase hT Bc1
  replace Bc2 := Ext.rebase hT Bc2
  have HC := Has.new w2 #[.int .i64 (gI ((finB x && finB y && finB u && finB v) && fin3 (minI y v) (minI x u) (minI (x + v) (u + y))) (minI y v)), .int .i64 (gI ((finB x && finB y && finB u && finB v) && fin3 (minI y v) (minI x u) (minI (x + v) (u + y))) (minI x u)), .int .i64 (gI ((finB x && finB y && finB u && finB v) && fin3 (minI y v) (minI x u) (minI (x + v) (u + y))) (minI (x + v) (u + y)))] 25
  have Cc0 := Ext.keeps (HC 0 _ rfl)
  have Cc1 := Ext.keeps (HC 1 _ rfl)
  have Cc2 := Ext.keeps (HC 2 _ rfl)
  clear HC
  replace hE : Ext (w2.alloc (.cells #[.int .i64 (gI ((finB x && finB y && finB u && finB v) && fin3 (minI y v) (minI x u) (minI (x + v) (u + y))) (minI y v)), .int .i64 (gI ((finB x && finB y && finB u && finB v) && fin3 (minI y v) (minI x u) (minI (x + v) (u + y))) (minI x u)), .int .i64 (gI ((finB x && finB y && finB u && finB v) && fin3 (minI y v) (minI x u) (minI (x + v) (u + y))) (minI (x + v) (u + y)))] 25)) (w2.alloc (.cells #[.int .i64 (gI ((finB x && finB y && finB u && finB v) && fin3 (minI y v) (minI x u) (minI (x + v) (u + y))) (minI y v)), .int .i64 (gI ((finB x && finB y && finB u && finB v) && fin3 (minI y v) (minI x u) (minI (x + v) (u + y))) (minI x u)), .int .i64 (gI ((finB x && finB y && finB u && finB v) && fin3 (minI y v) (minI x u) (minI (x + v) (u + y))) (minI (x + v) (u + y)))] 25)) := Ext.refl _
  go_wp2_with fail
  refine (eqLine_same _ _ _ _).mono ?_
  rintro e w' ⟨rfl, hb⟩
  (first | replace hE := Ext.trans hE hb | replace hE := Ext.trans (Ext.alloc hE _) hb | replace hE := Ext.trans (Ext.alloc (Ext.alloc hE _) _) hb | replace hE := Ext.trans (Ext.drew hE) hb | replace hE := Ext.trans (Ext.alloc (Ext.alloc (Ext.alloc hE _) _) _) hb)
  go_wp2
  go_ret
  exact ⟨rfl, (by repeat (first | exact Ext.refl _ | assumption | apply Ext.alloc | apply Ext.drew | apply Ext.drewN | (refine Ext.trans ?_ (by assumption)) | (refine Ext.setCell ?_ (by simp; done) _) | (refine Ext.setCell ?_ (by simp; omega) _)))⟩

theorem spec_MoveLine_any (a b c x y : Int) (w : World) :
    Calls Try.prog 30 #[.agg #[.int .i64 a, .int .i64 b, .int .i64 c], .int .i64 x, .int .i64 y] w fun r w' => r = .returned (.tuple #[.agg #[.int .i64 (gI ((fin3 a b c && finB x && finB y) && fin3 (a - x) (b - y) c) (a - x)), .int .i64 (gI ((fin3 a b c && finB x && finB y) && fin3 (a - x) (b - y) c) (b - y)), .int .i64 (gI ((fin3 a b c && finB x && finB y) && fin3 (a - x) (b - y) c) c)], .bool ((fin3 a b c && finB x && finB y) && fin3 (a - x) (b - y) c)]) ∧ Ext w w' := by
  have HA := (Has.alloc (Has.new w #[.int .i64 a, .int .i64 b, .int .i64 c] 25) (.cells #[.int .i64 0, .int .i64 0, .int .i64 0] 25))
  have Ac0 := Ext.keeps (HA 0 _ rfl)
  have Ac1 := Ext.keeps (HA 1 _ rfl)
  have Ac2 := Ext.keeps (HA 2 _ rfl)
  clear HA
  have HR := (Has.new2 w (.cells #[.int .i64 a, .int .i64 b, .int .i64 c] 25) #[.int .i64 0, .int .i64 0, .int .i64 0] 25)
  have Rc0 := Ext.keeps (HR 0 _ rfl)
  have Rc1 := Ext.keeps (HR 1 _ rfl)
  have Rc2 := Ext.keeps (HR 2 _ rfl)
  have Rf0 := Ext.thaws (w := ((w.alloc (.cells #[.int .i64 a, .int .i64 b, .int .i64 c] 25)).alloc (.cells #[.int .i64 0, .int .i64 0, .int .i64 0] 25))) (HR 0 _ rfl) (by simp)
  have Rf1 := Ext.thaws (w := ((w.alloc (.cells #[.int .i64 a, .int .i64 b, .int .i64 c] 25)).alloc (.cells #[.int .i64 0, .int .i64 0, .int .i64 0] 25))) (HR 1 _ rfl) (by simp)
  have Rf2 := Ext.thaws (w := ((w.alloc (.cells #[.int .i64 a, .int .i64 b, .int .i64 c] 25)).alloc (.cells #[.int .i64 0, .int .i64 0, .int .i64 0] 25))) (HR 2 _ rfl) (by simp)
  clear HR
  have hE : Ext ((w.alloc (.cells #[.int .i64 a, .int .i64 b, .int .i64 c] 25)).alloc (.cells #[.int .i64 0, .int .i64 0, .int .i64 0] 25)) ((w.alloc (.cells #[.int .i64 a, .int .i64 b, .int .i64 c] 25)).alloc (.cells #[.int .i64 0, .int .i64 0, .int .i64 0] 25)) := Ext.refl _
  rcases fin3_cases a b c with h | ⟨h, hx⟩ <;> rcases finB_cases x with h1 | ⟨h1, k1⟩ <;> rcases finB_cases y with h2 | ⟨h2, k2⟩ <;> (
    go_enter Try.func30, Try.ntmps30
    go_wp2_with (first | (go_at_call 59; refine (lnAsked_any _ _ _ _ _ _).mono ?_; rintro e w' ⟨rfl, hb⟩; (first | replace hE := Ext.trans hE hb | replace hE := Ext.trans (Ext.alloc hE _) hb | replace hE := Ext.trans (Ext.alloc (Ext.alloc hE _) _) hb | replace hE := Ext.trans (Ext.drew hE) hb | replace hE := Ext.trans (Ext.alloc (Ext.alloc (Ext.alloc hE _) _) _) hb)) | (go_at_call 51; refine (lnIf_any _ _ _ _).mono ?_; rintro e w' ⟨rfl, hb⟩; (first | replace hE := Ext.trans hE hb | replace hE := Ext.trans (Ext.alloc hE _) hb | replace hE := Ext.trans (Ext.alloc (Ext.alloc hE _) _) hb | replace hE := Ext.trans (Ext.drew hE) hb | replace hE := Ext.trans (Ext.alloc (Ext.alloc (Ext.alloc hE _) _) _) hb)))
    refine bodyPost_ret (v := .tuple #[.agg #[.int .i64 (gI ((fin3 a b c && finB x && finB y) && fin3 (a - x) (b - y) c) (a - x)), .int .i64 (gI ((fin3 a b c && finB x && finB y) && fin3 (a - x) (b - y) c) (b - y)), .int .i64 (gI ((fin3 a b c && finB x && finB y) && fin3 (a - x) (b - y) c) c)], .bool ((fin3 a b c && finB x && finB y) && fin3 (a - x) (b - y) c)]) (by simp [results, Try.results30, go_sem, gI, h, h1, h2, hE, Rc0, Rc1, Rc2]) rfl ⟨by simp [h, h1, h2], (by repeat (first | exact Ext.refl _ | assumption | apply Ext.alloc | apply Ext.drew | apply Ext.drewN | (refine Ext.trans ?_ (by assumption)) | (refine Ext.setCell ?_ (by simp; done) _) | (refine Ext.setCell ?_ (by simp; omega) _)))⟩)

theorem impl_MoveLine_any (a b c x y : Int) (w : World) :
    Calls Try.prog 31 #[.agg #[.int .i64 a, .int .i64 b, .int .i64 c], .int .i64 x, .int .i64 y] w fun r w' => r = .returned (.tuple #[.agg #[.int .i64 (gI ((fin3 a b c && finB x && finB y) && fin3 (a - x) (b - y) c) (a - x)), .int .i64 (gI ((fin3 a b c && finB x && finB y) && fin3 (a - x) (b - y) c) (b - y)), .int .i64 (gI ((fin3 a b c && finB x && finB y) && fin3 (a - x) (b - y) c) c)], .bool ((fin3 a b c && finB x && finB y) && fin3 (a - x) (b - y) c)]) ∧ Ext w w' := by
  have HA := (Has.alloc (Has.new w #[.int .i64 a, .int .i64 b, .int .i64 c] 25) (.cells #[.int .i64 0, .int .i64 0, .int .i64 0] 25))
  have Ac0 := Ext.keeps (HA 0 _ rfl)
  have Ac1 := Ext.keeps (HA 1 _ rfl)
  have Ac2 := Ext.keeps (HA 2 _ rfl)
  clear HA
  have HR := (Has.new2 w (.cells #[.int .i64 a, .int .i64 b, .int .i64 c] 25) #[.int .i64 0, .int .i64 0, .int .i64 0] 25)
  have Rc0 := Ext.keeps (HR 0 _ rfl)
  have Rc1 := Ext.keeps (HR 1 _ rfl)
  have Rc2 := Ext.keeps (HR 2 _ rfl)
  have Rf0 := Ext.thaws (w := ((w.alloc (.cells #[.int .i64 a, .int .i64 b, .int .i64 c] 25)).alloc (.cells #[.int .i64 0, .int .i64 0, .int .i64 0] 25))) (HR 0 _ rfl) (by simp)
  have Rf1 := Ext.thaws (w := ((w.alloc (.cells #[.int .i64 a, .int .i64 b, .int .i64 c] 25)).alloc (.cells #[.int .i64 0, .int .i64 0, .int .i64 0] 25))) (HR 1 _ rfl) (by simp)
  have Rf2 := Ext.thaws (w := ((w.alloc (.cells #[.int .i64 a, .int .i64 b, .int .i64 c] 25)).alloc (.cells #[.int .i64 0, .int .i64 0, .int .i64 0] 25))) (HR 2 _ rfl) (by simp)
  clear HR
  have hE : Ext ((w.alloc (.cells #[.int .i64 a, .int .i64 b, .int .i64 c] 25)).alloc (.cells #[.int .i64 0, .int .i64 0, .int .i64 0] 25)) ((w.alloc (.cells #[.int .i64 a, .int .i64 b, .int .i64 c] 25)).alloc (.cells #[.int .i64 0, .int .i64 0, .int .i64 0] 25)) := Ext.refl _
  rcases fin3_cases a b c with h | ⟨h, hx⟩
  · go_enter Try.func31, Try.ntmps31
    go_wp2_with ((go_at_call 46; refine (isLine_any _ _ _ _).mono ?_; rintro e w' ⟨rfl, hb⟩; (first | replace hE := Ext.trans hE hb | replace hE := Ext.trans (Ext.alloc hE _) hb | replace hE := Ext.trans (Ext.alloc (Ext.alloc hE _) _) hb | replace hE := Ext.trans (Ext.drew hE) hb | replace hE := Ext.trans (Ext.alloc (Ext.alloc (Ext.alloc hE _) _) _) hb)))
    refine bodyPost_ret (v := .tuple #[.agg #[.int .i64 (gI ((fin3 a b c && finB x && finB y) && fin3 (a - x) (b - y) c) (a - x)), .int .i64 (gI ((fin3 a b c && finB x && finB y) && fin3 (a - x) (b - y) c) (b - y)), .int .i64 (gI ((fin3 a b c && finB x && finB y) && fin3 (a - x) (b - y) c) c)], .bool ((fin3 a b c && finB x && finB y) && fin3 (a - x) (b - y) c)]) (by simp [results, Try.results31, go_sem, gI, h, hE, Rc0, Rc1, Rc2]) rfl ⟨by simp [h], (by repeat (first | exact Ext.refl _ | assumption | apply Ext.alloc | apply Ext.drew | apply Ext.drewN | (refine Ext.trans ?_ (by assumption)) | (refine Ext.setCell ?_ (by simp; done) _) | (refine Ext.setCell ?_ (by simp; omega) _)))⟩
  · rcases finB_cases x with h1 | ⟨h1, k1⟩ <;> rcases finB_cases y with h2 | ⟨h2, k2⟩ <;> (
      go_enter Try.func31, Try.ntmps31
      go_wp2_with fail
      refine (isLine_any _ _ _ _).mono ?_
      rintro e w' ⟨rfl, hb⟩
      (first | replace hE := Ext.trans hE hb | replace hE := Ext.trans (Ext.alloc hE _) hb | replace hE := Ext.trans (Ext.alloc (Ext.alloc hE _) _) hb | replace hE := Ext.trans (Ext.drew hE) hb | replace hE := Ext.trans (Ext.alloc (Ext.alloc (Ext.alloc hE _) _) _) hb)
      go_wp2_with fail
      refine (areFinite_any _ _ _ _ [x, y] rfl (by simp) _ ?_).mono ?_
      · intro i hi
        match i, hi with
        | 0, _ => simp
        | 1, _ => simp
      rintro e _ ⟨rfl, rfl⟩
      simp only [List.all_cons, List.all_nil, Bool.and_true, h1, h2]
      replace hE := Ext.alloc hE (.cells #[.int .i64 x, .int .i64 y] 3)
      go_wp2_with ((go_at_call 53; refine (toldLine_any _ _ _ _).mono ?_; rintro e w' ⟨rfl, hb⟩; (first | replace hE := Ext.trans hE hb | replace hE := Ext.trans (Ext.alloc hE _) hb | replace hE := Ext.trans (Ext.alloc (Ext.alloc hE _) _) hb | replace hE := Ext.trans (Ext.drew hE) hb | replace hE := Ext.trans (Ext.alloc (Ext.alloc (Ext.alloc hE _) _) _) hb)))
      refine bodyPost_ret (v := .tuple #[.agg #[.int .i64 (gI ((fin3 a b c && finB x && finB y) && fin3 (a - x) (b - y) c) (a - x)), .int .i64 (gI ((fin3 a b c && finB x && finB y) && fin3 (a - x) (b - y) c) (b - y)), .int .i64 (gI ((fin3 a b c && finB x && finB y) && fin3 (a - x) (b - y) c) c)], .bool ((fin3 a b c && finB x && finB y) && fin3 (a - x) (b - y) c)]) (by simp [results, Try.results31, go_sem, gI, h, h1, h2, hE, Rc0, Rc1, Rc2]) rfl ⟨by simp [h, h1, h2], (by repeat (first | exact Ext.refl _ | assumption | apply Ext.alloc | apply Ext.drew | apply Ext.drewN | (refine Ext.trans ?_ (by assumption)) | (refine Ext.setCell ?_ (by simp; done) _) | (refine Ext.setCell ?_ (by simp; omega) _)))⟩)

theorem law_MoveLine (a b c x y : Int) (w : World) :
    Calls Try.prog 9 #[.agg #[.int .i64 a, .int .i64 b, .int .i64 c], .int .i64 x, .int .i64 y] w fun r w' => r = .returned (.bool true) ∧ Ext w w' := by
  have HA := (Has.new w #[.int .i64 a, .int .i64 b, .int .i64 c] 23)
  have Ac0 := Ext.keeps (HA 0 _ rfl)
  have Ac1 := Ext.keeps (HA 1 _ rfl)
  have Ac2 := Ext.keeps (HA 2 _ rfl)
  clear HA
  have hE : Ext (w.alloc (.cells #[.int .i64 a, .int .i64 b, .int .i64 c] 23)) (w.alloc (.cells #[.int .i64 a, .int .i64 b, .int .i64 c] 23)) := Ext.refl _
  go_enter Try.func9, Try.ntmps9
  go_wp2_with fail
  refine (toLine_any _ _ _ _).mono ?_
  rintro e w' ⟨rfl, hb⟩
  (first | replace hE := Ext.trans hE hb | replace hE := Ext.trans (Ext.alloc hE _) hb | replace hE := Ext.trans (Ext.alloc (Ext.alloc hE _) _) hb | replace hE := Ext.trans (Ext.drew hE) hb | replace hE := Ext.trans (Ext.alloc (Ext.alloc (Ext.alloc hE _) _) _) hb)
  go_wp2_with fail
  refine (spec_MoveLine_any _ _ _ _ _ _).mono ?_
  rintro e w1 ⟨rfl, hb⟩
  (first | replace hE := Ext.trans hE hb | replace hE := Ext.trans (Ext.alloc hE _) hb | replace hE := Ext.trans (Ext.alloc (Ext.alloc hE _) _) hb | replace hE := Ext.trans (Ext.drew hE) hb | replace hE := Ext.trans (Ext.alloc (Ext.alloc (Ext.alloc hE _) _) _) hb)
  have hT : Ext (w.alloc (.cells #[.int .i64 a, .int .i64 b, .int .i64 c] 23)) (w1.alloc (.cells #[.int .i64 (gI ((fin3 a b c && finB x && finB y) && fin3 (a - x) (b - y) c) (a - x)), .int .i64 (gI ((fin3 a b c && finB x && finB y) && fin3 (a - x) (b - y) c) (b - y)), .int .i64 (gI ((fin3 a b c && finB x && finB y) && fin3 (a - x) (b - y) c) c)] 25)) := Ext.alloc hE _
  replace Ac0 := Ext.rebase hT Ac0
  replace Ac1 := Ext.rebase hT Ac1
  replace Ac2 := Ext.rebase hT Ac2
  have HB := Has.new w1 #[.int .i64 (gI ((fin3 a b c && finB x && finB y) && fin3 (a - x) (b - y) c) (a - x)), .int .i64 (gI ((fin3 a b c && finB x && finB y) && fin3 (a - x) (b - y) c) (b - y)), .int .i64 (gI ((fin3 a b c && finB x && finB y) && fin3 (a - x) (b - y) c) c)] 25
  have Bc0 := Ext.keeps (HB 0 _ rfl)
  have Bc1 := Ext.keeps (HB 1 _ rfl)
  have Bc2 := Ext.keeps (HB 2 _ rfl)
  clear HB
  replace hE : Ext (w1.alloc (.cells #[.int .i64 (gI ((fin3 a b c && finB x && finB y) && fin3 (a - x) (b - y) c) (a - x)), .int .i64 (gI ((fin3 a b c && finB x && finB y) && fin3 (a - x) (b - y) c) (b - y)), .int .i64 (gI ((fin3 a b c && finB x && finB y) && fin3 (a - x) (b - y) c) c)] 25)) (w1.alloc (.cells #[.int .i64 (gI ((fin3 a b c && finB x && finB y) && fin3 (a - x) (b - y) c) (a - x)), .int .i64 (gI ((fin3 a b c && finB x && finB y) && fin3 (a - x) (b - y) c) (b - y)), .int .i64 (gI ((fin3 a b c && finB x && finB y) && fin3 (a - x) (b - y) c) c)] 25)) := Ext.refl _
  go_wp2_with fail
  refine (toLine_any _ _ _ _).mono ?_
  rintro e w' ⟨rfl, hb⟩
  (first | replace hE := Ext.trans hE hb | replace hE := Ext.trans (Ext.alloc hE _) hb | replace hE := Ext.trans (Ext.alloc (Ext.alloc hE _) _) hb | replace hE := Ext.trans (Ext.drew hE) hb | replace hE := Ext.trans (Ext.alloc (Ext.alloc (Ext.alloc hE _) _) _) hb)
  go_wp2_with fail
  refine (impl_MoveLine_any _ _ _ _ _ _).mono ?_
  rintro e w2 ⟨rfl, hb⟩
  (first | replace hE := Ext.trans hE hb | replace hE := Ext.trans (Ext.alloc hE _) hb | replace hE := Ext.trans (Ext.alloc (Ext.alloc hE _) _) hb | replace hE := Ext.trans (Ext.drew hE) hb | replace hE := Ext.trans (Ext.alloc (Ext.alloc (Ext.alloc hE _) _) _) hb)
  have hT : Ext (w1.alloc (.cells #[.int .i64 (gI ((fin3 a b c && finB x && finB y) && fin3 (a - x) (b - y) c) (a - x)), .int .i64 (gI ((fin3 a b c && finB x && finB y) && fin3 (a - x) (b - y) c) (b - y)), .int .i64 (gI ((fin3 a b c && finB x && finB y) && fin3 (a - x) (b - y) c) c)] 25)) (w2.alloc (.cells #[.int .i64 (gI ((fin3 a b c && finB x && finB y) && fin3 (a - x) (b - y) c) (a - x)), .int .i64 (gI ((fin3 a b c && finB x && finB y) && fin3 (a - x) (b - y) c) (b - y)), .int .i64 (gI ((fin3 a b c && finB x && finB y) && fin3 (a - x) (b - y) c) c)] 25)) := Ext.alloc hE _
  replace Bc0 := Ext.rebase hT Bc0
  replace Bc1 := Ext.rebase hT Bc1
  replace Bc2 := Ext.rebase hT Bc2
  have HC := Has.new w2 #[.int .i64 (gI ((fin3 a b c && finB x && finB y) && fin3 (a - x) (b - y) c) (a - x)), .int .i64 (gI ((fin3 a b c && finB x && finB y) && fin3 (a - x) (b - y) c) (b - y)), .int .i64 (gI ((fin3 a b c && finB x && finB y) && fin3 (a - x) (b - y) c) c)] 25
  have Cc0 := Ext.keeps (HC 0 _ rfl)
  have Cc1 := Ext.keeps (HC 1 _ rfl)
  have Cc2 := Ext.keeps (HC 2 _ rfl)
  clear HC
  replace hE : Ext (w2.alloc (.cells #[.int .i64 (gI ((fin3 a b c && finB x && finB y) && fin3 (a - x) (b - y) c) (a - x)), .int .i64 (gI ((fin3 a b c && finB x && finB y) && fin3 (a - x) (b - y) c) (b - y)), .int .i64 (gI ((fin3 a b c && finB x && finB y) && fin3 (a - x) (b - y) c) c)] 25)) (w2.alloc (.cells #[.int .i64 (gI ((fin3 a b c && finB x && finB y) && fin3 (a - x) (b - y) c) (a - x)), .int .i64 (gI ((fin3 a b c && finB x && finB y) && fin3 (a - x) (b - y) c) (b - y)), .int .i64 (gI ((fin3 a b c && finB x && finB y) && fin3 (a - x) (b - y) c) c)] 25)) := Ext.refl _
  go_wp2_with fail
  refine (eqLine_same _ _ _ _).mono ?_
  rintro e w' ⟨rfl, hb⟩
  (first | replace hE := Ext.trans hE hb | replace hE := Ext.trans (Ext.alloc hE _) hb | replace hE := Ext.trans (Ext.alloc (Ext.alloc hE _) _) hb | replace hE := Ext.trans (Ext.drew hE) hb | replace hE := Ext.trans (Ext.alloc (Ext.alloc (Ext.alloc hE _) _) _) hb)
  go_wp2
  go_ret
  exact ⟨rfl, (by repeat (first | exact Ext.refl _ | assumption | apply Ext.alloc | apply Ext.drew | apply Ext.drewN | (refine Ext.trans ?_ (by assumption)) | (refine Ext.setCell ?_ (by simp; done) _) | (refine Ext.setCell ?_ (by simp; omega) _)))⟩

--w5
end Go.Proofs.Ytgnhkfaiahddgaa
