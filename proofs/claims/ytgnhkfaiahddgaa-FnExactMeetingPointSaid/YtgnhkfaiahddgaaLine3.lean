/-
  The contracts of the functions on lines: the meeting point of two lines.
-/
import Derived.Test.YtgnhkfaiahddgaaLine
namespace Go.Proofs.Ytgnhkfaiahddgaa
open Go.RowKit

theorem spec_MeetingPoint_any (a b c d e f : Int) (w : World) :
    Calls Try.prog 22 #[.agg #[.int .i64 a, .int .i64 b, .int .i64 c], .agg #[.int .i64 d, .int .i64 e, .int .i64 f]] w fun r w' => r = .returned (.tuple #[.int .i64 (gI ((fin3 a b c && fin3 d e f) && (finB (minI (b + f) (e + c) - minI (a + e) (d + b)) && finB (minI (a + f) (d + c) - minI (a + e) (d + b)))) (minI (b + f) (e + c) - minI (a + e) (d + b))), .int .i64 (gI ((fin3 a b c && fin3 d e f) && (finB (minI (b + f) (e + c) - minI (a + e) (d + b)) && finB (minI (a + f) (d + c) - minI (a + e) (d + b)))) (minI (a + f) (d + c) - minI (a + e) (d + b))), .bool ((fin3 a b c && fin3 d e f) && (finB (minI (b + f) (e + c) - minI (a + e) (d + b)) && finB (minI (a + f) (d + c) - minI (a + e) (d + b))))]) ∧ Ext w w' := by
  have HA := (Has.alloc (Has.new w #[.int .i64 a, .int .i64 b, .int .i64 c] 25) (.cells #[.int .i64 d, .int .i64 e, .int .i64 f] 25))
  have Ac0 := Ext.keeps (HA 0 _ rfl)
  have Ac1 := Ext.keeps (HA 1 _ rfl)
  have Ac2 := Ext.keeps (HA 2 _ rfl)
  clear HA
  have HB := (Has.new2 w (.cells #[.int .i64 a, .int .i64 b, .int .i64 c] 25) #[.int .i64 d, .int .i64 e, .int .i64 f] 25)
  have Bc0 := Ext.keeps (HB 0 _ rfl)
  have Bc1 := Ext.keeps (HB 1 _ rfl)
  have Bc2 := Ext.keeps (HB 2 _ rfl)
  clear HB
  have hE : Ext ((w.alloc (.cells #[.int .i64 a, .int .i64 b, .int .i64 c] 25)).alloc (.cells #[.int .i64 d, .int .i64 e, .int .i64 f] 25)) ((w.alloc (.cells #[.int .i64 a, .int .i64 b, .int .i64 c] 25)).alloc (.cells #[.int .i64 d, .int .i64 e, .int .i64 f] 25)) := Ext.refl _
  rcases fin3_cases a b c with h | ⟨h, hx⟩
  · go_enter Try.func22, Try.ntmps22
    go_wp2_with ((go_at_call 45; refine (lnGood_any _ _ _ _).mono ?_; rintro e w' ⟨rfl, hb⟩; (first | replace hE := Ext.trans hE hb | replace hE := Ext.trans (Ext.alloc hE _) hb | replace hE := Ext.trans (Ext.alloc (Ext.alloc hE _) _) hb | replace hE := Ext.trans (Ext.drew hE) hb | replace hE := Ext.trans (Ext.alloc (Ext.alloc (Ext.alloc hE _) _) _) hb)))
    go_ret3
    exact ⟨by simp [h, gI], (by repeat (first | exact Ext.refl _ | assumption | apply Ext.alloc | apply Ext.drew | apply Ext.drewN | (refine Ext.trans ?_ (by assumption)) | (refine Ext.setCell ?_ (by simp; done) _) | (refine Ext.setCell ?_ (by simp; omega) _)))⟩
  rcases fin3_cases d e f with h2 | ⟨h2, hy⟩
  · go_enter Try.func22, Try.ntmps22
    go_wp2_with ((go_at_call 45; refine (lnGood_any _ _ _ _).mono ?_; rintro e w' ⟨rfl, hb⟩; (first | replace hE := Ext.trans hE hb | replace hE := Ext.trans (Ext.alloc hE _) hb | replace hE := Ext.trans (Ext.alloc (Ext.alloc hE _) _) hb | replace hE := Ext.trans (Ext.drew hE) hb | replace hE := Ext.trans (Ext.alloc (Ext.alloc (Ext.alloc hE _) _) _) hb)))
    go_ret3
    exact ⟨by simp [h, h2, gI], (by repeat (first | exact Ext.refl _ | assumption | apply Ext.alloc | apply Ext.drew | apply Ext.drewN | (refine Ext.trans ?_ (by assumption)) | (refine Ext.setCell ?_ (by simp; done) _) | (refine Ext.setCell ?_ (by simp; omega) _)))⟩
  · have b1 := minI_bd (a := b + f) (b := e + c) (l := -2000000) (h := 2000000) (by omega) (by omega) (by omega) (by omega)
    have b2 := minI_bd (a := a + f) (b := d + c) (l := -2000000) (h := 2000000) (by omega) (by omega) (by omega) (by omega)
    have b3 := minI_bd (a := a + e) (b := d + b) (l := -2000000) (h := 2000000) (by omega) (by omega) (by omega) (by omega)
    go_enter Try.func22, Try.ntmps22
    go_wp2_with (first | (go_at_call 45; refine (lnGood_any _ _ _ _).mono ?_; rintro e w' ⟨rfl, hb⟩; (first | replace hE := Ext.trans hE hb | replace hE := Ext.trans (Ext.alloc hE _) hb | replace hE := Ext.trans (Ext.alloc (Ext.alloc hE _) _) hb | replace hE := Ext.trans (Ext.drew hE) hb | replace hE := Ext.trans (Ext.alloc (Ext.alloc (Ext.alloc hE _) _) _) hb)) | (go_at_call 49; refine (l1Least_any _ _ _).mono ?_; rintro e _ ⟨rfl, rfl⟩))
    go_quiet ((first | (go_at_call 49; exact quiet_left (l1Least_any _ _ _)) | (go_at_call 47; exact quiet_left (lnPoint_any _ _ _))))
    go_wp2
    go_ret3
    exact ⟨by simp [h, h2], (by repeat (first | exact Ext.refl _ | assumption | apply Ext.alloc | apply Ext.drew | apply Ext.drewN | (refine Ext.trans ?_ (by assumption)) | (refine Ext.setCell ?_ (by simp; done) _) | (refine Ext.setCell ?_ (by simp; omega) _)))⟩

theorem impl_MeetingPoint_any (a b c d e f : Int) (w : World) :
    Calls Try.prog 23 #[.agg #[.int .i64 a, .int .i64 b, .int .i64 c], .agg #[.int .i64 d, .int .i64 e, .int .i64 f]] w fun r w' => r = .returned (.tuple #[.int .i64 (gI ((fin3 a b c && fin3 d e f) && (finB (minI (b + f) (e + c) - minI (a + e) (d + b)) && finB (minI (a + f) (d + c) - minI (a + e) (d + b)))) (minI (b + f) (e + c) - minI (a + e) (d + b))), .int .i64 (gI ((fin3 a b c && fin3 d e f) && (finB (minI (b + f) (e + c) - minI (a + e) (d + b)) && finB (minI (a + f) (d + c) - minI (a + e) (d + b)))) (minI (a + f) (d + c) - minI (a + e) (d + b))), .bool ((fin3 a b c && fin3 d e f) && (finB (minI (b + f) (e + c) - minI (a + e) (d + b)) && finB (minI (a + f) (d + c) - minI (a + e) (d + b))))]) ∧ Ext w w' := by
  have HA := (Has.alloc (Has.new w #[.int .i64 a, .int .i64 b, .int .i64 c] 25) (.cells #[.int .i64 d, .int .i64 e, .int .i64 f] 25))
  have Ac0 := Ext.keeps (HA 0 _ rfl)
  have Ac1 := Ext.keeps (HA 1 _ rfl)
  have Ac2 := Ext.keeps (HA 2 _ rfl)
  clear HA
  have HB := (Has.new2 w (.cells #[.int .i64 a, .int .i64 b, .int .i64 c] 25) #[.int .i64 d, .int .i64 e, .int .i64 f] 25)
  have Bc0 := Ext.keeps (HB 0 _ rfl)
  have Bc1 := Ext.keeps (HB 1 _ rfl)
  have Bc2 := Ext.keeps (HB 2 _ rfl)
  clear HB
  have hE : Ext ((w.alloc (.cells #[.int .i64 a, .int .i64 b, .int .i64 c] 25)).alloc (.cells #[.int .i64 d, .int .i64 e, .int .i64 f] 25)) ((w.alloc (.cells #[.int .i64 a, .int .i64 b, .int .i64 c] 25)).alloc (.cells #[.int .i64 d, .int .i64 e, .int .i64 f] 25)) := Ext.refl _
  rcases fin3_cases a b c with h | ⟨h, hx⟩
  · go_enter Try.func23, Try.ntmps23
    go_wp2_with ((go_at_call 46; refine (isLine_any _ _ _ _).mono ?_; rintro e w' ⟨rfl, hb⟩; (first | replace hE := Ext.trans hE hb | replace hE := Ext.trans (Ext.alloc hE _) hb | replace hE := Ext.trans (Ext.alloc (Ext.alloc hE _) _) hb | replace hE := Ext.trans (Ext.drew hE) hb | replace hE := Ext.trans (Ext.alloc (Ext.alloc (Ext.alloc hE _) _) _) hb)))
    go_ret3
    exact ⟨by simp [h, gI], (by repeat (first | exact Ext.refl _ | assumption | apply Ext.alloc | apply Ext.drew | apply Ext.drewN | (refine Ext.trans ?_ (by assumption)) | (refine Ext.setCell ?_ (by simp; done) _) | (refine Ext.setCell ?_ (by simp; omega) _)))⟩
  rcases fin3_cases d e f with h2 | ⟨h2, hy⟩
  · go_enter Try.func23, Try.ntmps23
    go_wp2_with ((go_at_call 46; refine (isLine_any _ _ _ _).mono ?_; rintro e w' ⟨rfl, hb⟩; (first | replace hE := Ext.trans hE hb | replace hE := Ext.trans (Ext.alloc hE _) hb | replace hE := Ext.trans (Ext.alloc (Ext.alloc hE _) _) hb | replace hE := Ext.trans (Ext.drew hE) hb | replace hE := Ext.trans (Ext.alloc (Ext.alloc (Ext.alloc hE _) _) _) hb)))
    go_ret3
    exact ⟨by simp [h, h2, gI], (by repeat (first | exact Ext.refl _ | assumption | apply Ext.alloc | apply Ext.drew | apply Ext.drewN | (refine Ext.trans ?_ (by assumption)) | (refine Ext.setCell ?_ (by simp; done) _) | (refine Ext.setCell ?_ (by simp; omega) _)))⟩
  · have b1 := minI_bd (a := b + f) (b := e + c) (l := -2000000) (h := 2000000) (by omega) (by omega) (by omega) (by omega)
    have b2 := minI_bd (a := a + f) (b := d + c) (l := -2000000) (h := 2000000) (by omega) (by omega) (by omega) (by omega)
    have b3 := minI_bd (a := a + e) (b := d + b) (l := -2000000) (h := 2000000) (by omega) (by omega) (by omega) (by omega)
    go_enter Try.func23, Try.ntmps23
    go_wp2_with (first | (go_at_call 46; refine (isLine_any _ _ _ _).mono ?_; rintro e w' ⟨rfl, hb⟩; (first | replace hE := Ext.trans hE hb | replace hE := Ext.trans (Ext.alloc hE _) hb | replace hE := Ext.trans (Ext.alloc (Ext.alloc hE _) _) hb | replace hE := Ext.trans (Ext.drew hE) hb | replace hE := Ext.trans (Ext.alloc (Ext.alloc (Ext.alloc hE _) _) _) hb)) | (go_at_call 48; refine (toldPoint_any _ _ _).mono ?_; rintro e w' ⟨rfl, hb⟩; (first | replace hE := Ext.trans hE hb | replace hE := Ext.trans (Ext.alloc hE _) hb | replace hE := Ext.trans (Ext.alloc (Ext.alloc hE _) _) hb | replace hE := Ext.trans (Ext.drew hE) hb | replace hE := Ext.trans (Ext.alloc (Ext.alloc (Ext.alloc hE _) _) _) hb)))
    go_ret3
    exact ⟨by simp [h, h2], (by repeat (first | exact Ext.refl _ | assumption | apply Ext.alloc | apply Ext.drew | apply Ext.drewN | (refine Ext.trans ?_ (by assumption)) | (refine Ext.setCell ?_ (by simp; done) _) | (refine Ext.setCell ?_ (by simp; omega) _)))⟩

theorem law_MeetingPoint (a b c d e f : Int) (w : World) :
    Calls Try.prog 6 #[.agg #[.int .i64 a, .int .i64 b, .int .i64 c], .agg #[.int .i64 d, .int .i64 e, .int .i64 f]] w fun r w' => r = .returned (.bool true) ∧ Ext w w' := by
  have HA := (Has.alloc (Has.new w #[.int .i64 a, .int .i64 b, .int .i64 c] 23) (.cells #[.int .i64 d, .int .i64 e, .int .i64 f] 23))
  have Ac0 := Ext.keeps (HA 0 _ rfl)
  have Ac1 := Ext.keeps (HA 1 _ rfl)
  have Ac2 := Ext.keeps (HA 2 _ rfl)
  clear HA
  have HB := (Has.new2 w (.cells #[.int .i64 a, .int .i64 b, .int .i64 c] 23) #[.int .i64 d, .int .i64 e, .int .i64 f] 23)
  have Bc0 := Ext.keeps (HB 0 _ rfl)
  have Bc1 := Ext.keeps (HB 1 _ rfl)
  have Bc2 := Ext.keeps (HB 2 _ rfl)
  clear HB
  have hE : Ext ((w.alloc (.cells #[.int .i64 a, .int .i64 b, .int .i64 c] 23)).alloc (.cells #[.int .i64 d, .int .i64 e, .int .i64 f] 23)) ((w.alloc (.cells #[.int .i64 a, .int .i64 b, .int .i64 c] 23)).alloc (.cells #[.int .i64 d, .int .i64 e, .int .i64 f] 23)) := Ext.refl _
  go_enter Try.func6, Try.ntmps6
  go_wp2_with fail
  go_region_held3 (fun w' => Ext ((w.alloc (.cells #[.int .i64 a, .int .i64 b, .int .i64 c] 23)).alloc (.cells #[.int .i64 d, .int .i64 e, .int .i64 f] 23)) w') ((repeat (first | exact Ext.refl _ | assumption | apply Ext.alloc | apply Ext.drew | apply Ext.drewN | (refine Ext.trans ?_ (by assumption)) | (refine Ext.setCell ?_ (by simp; done) _) | (refine Ext.setCell ?_ (by simp; omega) _)))) (first | (go_at_call 16; refine (toLine_any _ _ _ _).mono ?_; rintro e w' ⟨rfl, hb⟩) | (go_at_call 22; refine (spec_MeetingPoint_any _ _ _ _ _ _ _).mono ?_; rintro e w' ⟨rfl, hb⟩))
  all_goals (
    go_wp2_with fail
    go_region_held3 (fun w' => Ext ((w.alloc (.cells #[.int .i64 a, .int .i64 b, .int .i64 c] 23)).alloc (.cells #[.int .i64 d, .int .i64 e, .int .i64 f] 23)) w') ((repeat (first | exact Ext.refl _ | assumption | apply Ext.alloc | apply Ext.drew | apply Ext.drewN | (refine Ext.trans ?_ (by assumption)) | (refine Ext.setCell ?_ (by simp; done) _) | (refine Ext.setCell ?_ (by simp; omega) _)))) (first | (go_at_call 16; refine (toLine_any _ _ _ _).mono ?_; rintro e w' ⟨rfl, hb⟩) | (go_at_call 23; refine (impl_MeetingPoint_any _ _ _ _ _ _ _).mono ?_; rintro e w' ⟨rfl, hb⟩))
    )
  all_goals (
    go_wp2
    go_ret
    exact ⟨rfl, (by repeat (first | exact Ext.refl _ | assumption | apply Ext.alloc | apply Ext.drew | apply Ext.drewN | (refine Ext.trans ?_ (by assumption)) | (refine Ext.setCell ?_ (by simp; done) _) | (refine Ext.setCell ?_ (by simp; omega) _)))⟩)

end Go.Proofs.Ytgnhkfaiahddgaa
