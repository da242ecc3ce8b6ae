/-
  The contracts of the functions on lines: validity, centres, meeting points, moves.
-/
import Derived.Test.YtgnhkfaiahddgaaNum
namespace Go.Proofs.Ytgnhkfaiahddgaa
open Go.RowKit

theorem areFinite_any (b off n cap : Nat) (zs : List Int) (hn : zs.length = n) (hl : n ≤ 9223372036854775807) (w : World) (hc : ∀ i, i < zs.length → w.cell? ⟨b, off + i, none⟩ = some (.int .i64 (zs.getD i 0))) :
    Calls Try.prog 52 #[.slice (some ⟨b, off, none⟩) n cap] w fun e w' => e = .returned (.bool (zs.all finB)) ∧ w = w' := by
  subst hn
  go_enter Try.func52, Try.ntmps52
  go_wp2
  go_loop [4, 7] (fun _ t => ∃ k : Nat, k ≤ zs.length ∧ t = .int .i64 k ∧ (zs.take k).all finB = true) (fun _ t => zs.length - (intOf t).toNat)
  case atStart => exact ⟨0, Nat.zero_le _, rfl, rfl⟩
  case round =>
    obtain ⟨k, hk, rfl, hg⟩ := hrel
    have HG := Lib.hid hg
    clear hg
    by_cases hlt : k < zs.length
    · have hck := hc k hlt
      have H1 := Lib.hid (all_take_succ finB zs k hlt)
      have H2 := Lib.hid (all_false_at finB zs k hlt)
      obtain ⟨z, hz⟩ : ∃ z, z = zs.getD k 0 := ⟨_, rfl⟩
      rw [← hz] at hck H1 H2
      have HZ := Lib.hid hz
      clear hz hc
      go_wp2_with (go_at_call 78; refine (isFinite_any _ _).mono ?_; rintro e w' ⟨rfl, rfl⟩)
      · have h : (!finB z) = true := by assumption
        go_ret
        exact ⟨ret_bool (H2.out (by simpa using h)).symm, rfl⟩
      · have h : finB z = true := by simpa using (show (!finB z) = false by assumption)
        go_round
        case rel => exact ⟨k + 1, hlt, by go_num, by rw [H1.out, HG.out, h]; rfl⟩
        case measure => simp [intOf]; omega
    · go_wp2
      go_ret
      exact ⟨ret_bool (by rw [← all_take_full finB zs k (by omega)]; exact HG.out.symm), rfl⟩

theorem lnGood_any (a b c : Int) (w : World) :
    Calls Try.prog 45 #[.agg #[.int .i64 a, .int .i64 b, .int .i64 c]] w fun e w' => e = .returned (.bool (fin3 a b c)) ∧ Ext w w' := by
  go_enter Try.func45, Try.ntmps45
  go_wp2_with (go_at_call 50; refine (poFinite_any _ _).mono ?_; rintro e w' ⟨rfl, rfl⟩)
  all_goals (go_ret; exact ⟨ret_bool (by unfold fin3; simp [*]), (by repeat (first | exact Ext.refl _ | assumption | apply Ext.alloc | apply Ext.drew | apply Ext.drewN | (refine Ext.trans ?_ (by assumption)) | (refine Ext.setCell ?_ (by simp; done) _) | (refine Ext.setCell ?_ (by simp; omega) _)))⟩)

theorem isLine_any (a b c : Int) (w : World) :
    Calls Try.prog 46 #[.agg #[.int .i64 a, .int .i64 b, .int .i64 c]] w fun e w' => e = .returned (.bool (fin3 a b c)) ∧ Ext w w' := by
  go_enter Try.func46, Try.ntmps46
  go_wp2_with fail
  refine (areFinite_any _ _ _ _ [a, b, c] rfl (by simp) _ ?_).mono ?_
  · intro i hi
    match i, hi with
    | 0, _ => simp
    | 1, _ => simp
    | 2, _ => simp
  rintro e w' ⟨rfl, rfl⟩
  go_wp2
  go_ret
  exact ⟨ret_bool (fin3_and a b c), (by repeat (first | exact Ext.refl _ | assumption | apply Ext.alloc | apply Ext.drew | apply Ext.drewN | (refine Ext.trans ?_ (by assumption)) | (refine Ext.setCell ?_ (by simp; done) _) | (refine Ext.setCell ?_ (by simp; omega) _)))⟩

theorem toLine_any (a b c : Int) (w : World) :
    Calls Try.prog 16 #[.agg #[.int .i64 a, .int .i64 b, .int .i64 c]] w fun e w' => e = .returned (.agg #[.int .i64 a, .int .i64 b, .int .i64 c]) ∧ Ext w w' := by
  go_enter Try.func16, Try.ntmps16
  go_wp2
  refine bodyPost_ret (v := .agg #[.int .i64 a, .int .i64 b, .int .i64 c]) (by simp [results, Try.results16, go_sem]) rfl ⟨rfl, (by repeat (first | exact Ext.refl _ | assumption | apply Ext.alloc | apply Ext.drew | apply Ext.drewN | (refine Ext.trans ?_ (by assumption)) | (refine Ext.setCell ?_ (by simp; done) _) | (refine Ext.setCell ?_ (by simp; omega) _)))⟩

theorem spec_IsLine_any (a b c : Int) (w : World) :
    Calls Try.prog 15 #[.agg #[.int .i64 a, .int .i64 b, .int .i64 c]] w fun e w' => e = .returned (.bool (fin3 a b c)) ∧ Ext w w' := by
  go_enter Try.func15, Try.ntmps15
  go_wp2_with (go_at_call 45; refine (lnGood_any _ _ _ _).mono ?_; rintro e w' ⟨rfl, hb⟩)
  go_ret
  exact ⟨rfl, (by repeat (first | exact Ext.refl _ | assumption | apply Ext.alloc | apply Ext.drew | apply Ext.drewN | (refine Ext.trans ?_ (by assumption)) | (refine Ext.setCell ?_ (by simp; done) _) | (refine Ext.setCell ?_ (by simp; omega) _)))⟩

theorem impl_IsLine_any (a b c : Int) (w : World) :
    Calls Try.prog 17 #[.agg #[.int .i64 a, .int .i64 b, .int .i64 c]] w fun e w' => e = .returned (.bool (fin3 a b c)) ∧ Ext w w' := by
  go_enter Try.func17, Try.ntmps17
  go_wp2_with (go_at_call 46; refine (isLine_any _ _ _ _).mono ?_; rintro e w' ⟨rfl, hb⟩)
  go_ret
  exact ⟨rfl, (by repeat (first | exact Ext.refl _ | assumption | apply Ext.alloc | apply Ext.drew | apply Ext.drewN | (refine Ext.trans ?_ (by assumption)) | (refine Ext.setCell ?_ (by simp; done) _) | (refine Ext.setCell ?_ (by simp; omega) _)))⟩

theorem law_IsLine (a b c : Int) (w : World) :
    Calls Try.prog 3 #[.agg #[.int .i64 a, .int .i64 b, .int .i64 c]] w fun r w' => r = .returned (.bool true) ∧ Ext w w' := by
  have HA := (Has.new w #[.int .i64 a, .int .i64 b, .int .i64 c] 23)
  have Ac0 := Ext.keeps (HA 0 _ rfl)
  have Ac1 := Ext.keeps (HA 1 _ rfl)
  have Ac2 := Ext.keeps (HA 2 _ rfl)
  clear HA
  have hE : Ext (w.alloc (.cells #[.int .i64 a, .int .i64 b, .int .i64 c] 23)) (w.alloc (.cells #[.int .i64 a, .int .i64 b, .int .i64 c] 23)) := Ext.refl _
  go_enter Try.func3, Try.ntmps3
  go_wp2_with (first | (go_at_call 16; refine (toLine_any _ _ _ _).mono ?_; rintro e w' ⟨rfl, hb⟩; (first | replace hE := Ext.trans hE hb | replace hE := Ext.trans (Ext.alloc hE _) hb | replace hE := Ext.trans (Ext.alloc (Ext.alloc hE _) _) hb | replace hE := Ext.trans (Ext.drew hE) hb | replace hE := Ext.trans (Ext.alloc (Ext.alloc (Ext.alloc hE _) _) _) hb)) | (go_at_call 15; refine (spec_IsLine_any _ _ _ _).mono ?_; rintro e w' ⟨rfl, hb⟩; (first | replace hE := Ext.trans hE hb | replace hE := Ext.trans (Ext.alloc hE _) hb | replace hE := Ext.trans (Ext.alloc (Ext.alloc hE _) _) hb | replace hE := Ext.trans (Ext.drew hE) hb | replace hE := Ext.trans (Ext.alloc (Ext.alloc (Ext.alloc hE _) _) _) hb)) | (go_at_call 17; refine (impl_IsLine_any _ _ _ _).mono ?_; rintro e w' ⟨rfl, hb⟩; (first | replace hE := Ext.trans hE hb | replace hE := Ext.trans (Ext.alloc hE _) hb | replace hE := Ext.trans (Ext.alloc (Ext.alloc hE _) _) hb | replace hE := Ext.trans (Ext.drew hE) hb | replace hE := Ext.trans (Ext.alloc (Ext.alloc (Ext.alloc hE _) _) _) hb)))
  go_ret
  exact ⟨rfl, (by repeat (first | exact Ext.refl _ | assumption | apply Ext.alloc | apply Ext.drew | apply Ext.drewN | (refine Ext.trans ?_ (by assumption)) | (refine Ext.setCell ?_ (by simp; done) _) | (refine Ext.setCell ?_ (by simp; omega) _)))⟩

theorem lnPoint_any (x y : Int) (w : World) :
    Calls Try.prog 47 #[.int .i64 x, .int .i64 y] w fun e w' => e = .returned (.tuple #[.int .i64 (gI (finB x && finB y) x), .int .i64 (gI (finB x && finB y) y), .bool (finB x && finB y)]) ∧ w = w' := by
  cases hx : finB x <;> cases hy : finB y <;> (
    go_enter Try.func47, Try.ntmps47
    go_wp2_with ((go_at_call 50; refine (poFinite_any _ _).mono ?_; rintro e _ ⟨rfl, rfl⟩))
    go_ret3
    exact ⟨rfl, rfl⟩)

theorem toldPoint_any (x y : Int) (w : World) :
    Calls Try.prog 48 #[.int .i64 x, .int .i64 y] w fun e w' => e = .returned (.tuple #[.int .i64 (gI (finB x && finB y) x), .int .i64 (gI (finB x && finB y) y), .bool (finB x && finB y)]) ∧ Ext w w' := by
  cases hx : (finB x && finB y) <;> (
    go_enter Try.func48, Try.ntmps48
    go_wp2_with fail
    refine (areFinite_any _ _ _ _ [x, y] rfl (by simp) _ ?_).mono ?_
    · intro i hi
      match i, hi with
      | 0, _ => simp
      | 1, _ => simp
    rintro e w' ⟨rfl, rfl⟩
    simp only [List.all_cons, List.all_nil, Bool.and_true]
    go_wp2
    go_ret3
    exact ⟨rfl, (by repeat (first | exact Ext.refl _ | assumption | apply Ext.alloc | apply Ext.drew | apply Ext.drewN | (refine Ext.trans ?_ (by assumption)) | (refine Ext.setCell ?_ (by simp; done) _) | (refine Ext.setCell ?_ (by simp; omega) _)))⟩)

theorem spec_CenterOf_any (a b c : Int) (w : World) :
    Calls Try.prog 20 #[.agg #[.int .i64 a, .int .i64 b, .int .i64 c]] w fun r w' => r = .returned (.tuple #[.int .i64 (gI (fin3 a b c && (finB (c - a) && finB (c - b))) (c - a)), .int .i64 (gI (fin3 a b c && (finB (c - a) && finB (c - b))) (c - b)), .bool (fin3 a b c && (finB (c - a) && finB (c - b)))]) ∧ Ext w w' := by
  have HA := (Has.new w #[.int .i64 a, .int .i64 b, .int .i64 c] 25)
  have Ac0 := Ext.keeps (HA 0 _ rfl)
  have Ac1 := Ext.keeps (HA 1 _ rfl)
  have Ac2 := Ext.keeps (HA 2 _ rfl)
  clear HA
  have hE : Ext (w.alloc (.cells #[.int .i64 a, .int .i64 b, .int .i64 c] 25)) (w.alloc (.cells #[.int .i64 a, .int .i64 b, .int .i64 c] 25)) := Ext.refl _
  rcases fin3_cases a b c with h | ⟨h, hx⟩ <;> (
    go_enter Try.func20, Try.ntmps20
    go_wp2_with (first | (go_at_call 45; refine (lnGood_any _ _ _ _).mono ?_; rintro e w' ⟨rfl, hb⟩; (first | replace hE := Ext.trans hE hb | replace hE := Ext.trans (Ext.alloc hE _) hb | replace hE := Ext.trans (Ext.alloc (Ext.alloc hE _) _) hb | replace hE := Ext.trans (Ext.drew hE) hb | replace hE := Ext.trans (Ext.alloc (Ext.alloc (Ext.alloc hE _) _) _) hb)) | (go_at_call 47; refine (lnPoint_any _ _ _).mono ?_; rintro e _ ⟨rfl, rfl⟩))
    go_ret3
    exact ⟨by simp [h, gI], (by repeat (first | exact Ext.refl _ | assumption | apply Ext.alloc | apply Ext.drew | apply Ext.drewN | (refine Ext.trans ?_ (by assumption)) | (refine Ext.setCell ?_ (by simp; done) _) | (refine Ext.setCell ?_ (by simp; omega) _)))⟩)

theorem impl_CenterOf_any (a b c : Int) (w : World) :
    Calls Try.prog 21 #[.agg #[.int .i64 a, .int .i64 b, .int .i64 c]] w fun r w' => r = .returned (.tuple #[.int .i64 (gI (fin3 a b c && (finB (c - a) && finB (c - b))) (c - a)), .int .i64 (gI (fin3 a b c && (finB (c - a) && finB (c - b))) (c - b)), .bool (fin3 a b c && (finB (c - a) && finB (c - b)))]) ∧ Ext w w' := by
  have HA := (Has.new w #[.int .i64 a, .int .i64 b, .int .i64 c] 25)
  have Ac0 := Ext.keeps (HA 0 _ rfl)
  have Ac1 := Ext.keeps (HA 1 _ rfl)
  have Ac2 := Ext.keeps (HA 2 _ rfl)
  clear HA
  have hE : Ext (w.alloc (.cells #[.int .i64 a, .int .i64 b, .int .i64 c] 25)) (w.alloc (.cells #[.int .i64 a, .int .i64 b, .int .i64 c] 25)) := Ext.refl _
  rcases fin3_cases a b c with h | ⟨h, hx⟩ <;> (
    go_enter Try.func21, Try.ntmps21
    go_wp2_with (first | (go_at_call 46; refine (isLine_any _ _ _ _).mono ?_; rintro e w' ⟨rfl, hb⟩; (first | replace hE := Ext.trans hE hb | replace hE := Ext.trans (Ext.alloc hE _) hb | replace hE := Ext.trans (Ext.alloc (Ext.alloc hE _) _) hb | replace hE := Ext.trans (Ext.drew hE) hb | replace hE := Ext.trans (Ext.alloc (Ext.alloc (Ext.alloc hE _) _) _) hb)) | (go_at_call 48; refine (toldPoint_any _ _ _).mono ?_; rintro e w' ⟨rfl, hb⟩; (first | replace hE := Ext.trans hE hb | replace hE := Ext.trans (Ext.alloc hE _) hb | replace hE := Ext.trans (Ext.alloc (Ext.alloc hE _) _) hb | replace hE := Ext.trans (Ext.drew hE) hb | replace hE := Ext.trans (Ext.alloc (Ext.alloc (Ext.alloc hE _) _) _) hb)))
    go_ret3
    exact ⟨by simp [h, gI], (by repeat (first | exact Ext.refl _ | assumption | apply Ext.alloc | apply Ext.drew | apply Ext.drewN | (refine Ext.trans ?_ (by assumption)) | (refine Ext.setCell ?_ (by simp; done) _) | (refine Ext.setCell ?_ (by simp; omega) _)))⟩)

theorem law_CenterOf (a b c : Int) (w : World) :
    Calls Try.prog 5 #[.agg #[.int .i64 a, .int .i64 b, .int .i64 c]] w fun r w' => r = .returned (.bool true) ∧ Ext w w' := by
  have HA := (Has.new w #[.int .i64 a, .int .i64 b, .int .i64 c] 23)
  have Ac0 := Ext.keeps (HA 0 _ rfl)
  have Ac1 := Ext.keeps (HA 1 _ rfl)
  have Ac2 := Ext.keeps (HA 2 _ rfl)
  clear HA
  have hE : Ext (w.alloc (.cells #[.int .i64 a, .int .i64 b, .int .i64 c] 23)) (w.alloc (.cells #[.int .i64 a, .int .i64 b, .int .i64 c] 23)) := Ext.refl _
  go_enter Try.func5, Try.ntmps5
  go_wp2_with (first | (go_at_call 16; refine (toLine_any _ _ _ _).mono ?_; rintro e w' ⟨rfl, hb⟩; (first | replace hE := Ext.trans hE hb | replace hE := Ext.trans (Ext.alloc hE _) hb | replace hE := Ext.trans (Ext.alloc (Ext.alloc hE _) _) hb | replace hE := Ext.trans (Ext.drew hE) hb | replace hE := Ext.trans (Ext.alloc (Ext.alloc (Ext.alloc hE _) _) _) hb)) | (go_at_call 20; refine (spec_CenterOf_any _ _ _ _).mono ?_; rintro e w' ⟨rfl, hb⟩; (first | replace hE := Ext.trans hE hb | replace hE := Ext.trans (Ext.alloc hE _) hb | replace hE := Ext.trans (Ext.alloc (Ext.alloc hE _) _) hb | replace hE := Ext.trans (Ext.drew hE) hb | replace hE := Ext.trans (Ext.alloc (Ext.alloc (Ext.alloc hE _) _) _) hb)) | (go_at_call 21; refine (impl_CenterOf_any _ _ _ _).mono ?_; rintro e w' ⟨rfl, hb⟩; (first | replace hE := Ext.trans hE hb | replace hE := Ext.trans (Ext.alloc hE _) hb | replace hE := Ext.trans (Ext.alloc (Ext.alloc hE _) _) hb | replace hE := Ext.trans (Ext.drew hE) hb | replace hE := Ext.trans (Ext.alloc (Ext.alloc (Ext.alloc hE _) _) _) hb)))
  go_ret
  exact ⟨rfl, (by repeat (first | exact Ext.refl _ | assumption | apply Ext.alloc | apply Ext.drew | apply Ext.drewN | (refine Ext.trans ?_ (by assumption)) | (refine Ext.setCell ?_ (by simp; done) _) | (refine Ext.setCell ?_ (by simp; omega) _)))⟩

/-- Whether the coefficients of two lines differ by one number. -/
def sameL (a b c d e f : Int) : Bool := (fin3 a b c && fin3 d e f) && (decide (a - d = c - f) && decide (b - e = c - f))

theorem spec_SameLine_any (a b c d e f : Int) (w : World) :
    Calls Try.prog 18 #[.agg #[.int .i64 a, .int .i64 b, .int .i64 c], .agg #[.int .i64 d, .int .i64 e, .int .i64 f]] w fun r w' => r = .returned (.tuple #[.bool (sameL a b c d e f), .bool (fin3 a b c && fin3 d e f)]) ∧ Ext w w' := by
  have HA := (Has.alloc (Has.new w #[.int .i64 a, .int .i64 b, .int .i64 c] 25) (.cells #[.int .i64 d, .int .i64 e, .int .i64 f] 25))
  have Ac0 := Ext.keeps (HA 0 _ rfl)
  have Ac1 := Ext.keeps (HA 1 _ rfl)
  have Ac2 := Ext.keeps (HA 2 _ rfl)
  clear HA
  have HB := (Has.new2 w (.cells #[.int .i64 a, .int .i64 b, .int .i64 c] 25) #[.int .i64 d, .int .i64 e, .int .i64 f] 25)
  have Bc0 := Ext.keeps (HB 0 _ rfl)
  have Bc1 := Ext.keeps (HB 1 _ rfl)
  have Bc2 := Ext.keeps (HB 2 _ rfl)
  clear HB
  have hE : Ext ((w.alloc (.cells #[.int .i64 a, .int .i64 b, .int .i64 c] 25)).alloc (.cells #[.int .i64 d, .int .i64 e, .int .i64 f] 25)) ((w.alloc (.cells #[.int .i64 a, .int .i64 b, .int .i64 c] 25)).alloc (.cells #[.int .i64 d, .int .i64 e, .int .i64 f] 25)) := Ext.refl _
  rcases fin3_cases a b c with h | ⟨h, hx⟩ <;> rcases fin3_cases d e f with h2 | ⟨h2, hy⟩ <;> (
    go_enter Try.func18, Try.ntmps18
    go_wp2_with ((go_at_call 45; refine (lnGood_any _ _ _ _).mono ?_; rintro e w' ⟨rfl, hb⟩; (first | replace hE := Ext.trans hE hb | replace hE := Ext.trans (Ext.alloc hE _) hb | replace hE := Ext.trans (Ext.alloc (Ext.alloc hE _) _) hb | replace hE := Ext.trans (Ext.drew hE) hb | replace hE := Ext.trans (Ext.alloc (Ext.alloc (Ext.alloc hE _) _) _) hb)))
    all_goals (go_ret2; exact ⟨ret_bb (by unfold sameL; rw [h, h2, Bool.eq_iff_iff]; simp; try omega) (by rw [h, h2]; rfl), (by repeat (first | exact Ext.refl _ | assumption | apply Ext.alloc | apply Ext.drew | apply Ext.drewN | (refine Ext.trans ?_ (by assumption)) | (refine Ext.setCell ?_ (by simp; done) _) | (refine Ext.setCell ?_ (by simp; omega) _)))⟩))

theorem impl_SameLine_any (a b c d e f : Int) (w : World) :
    Calls Try.prog 19 #[.agg #[.int .i64 a, .int .i64 b, .int .i64 c], .agg #[.int .i64 d, .int .i64 e, .int .i64 f]] w fun r w' => r = .returned (.tuple #[.bool (sameL a b c d e f), .bool (fin3 a b c && fin3 d e f)]) ∧ Ext w w' := by
  have HA := (Has.alloc (Has.new w #[.int .i64 a, .int .i64 b, .int .i64 c] 25) (.cells #[.int .i64 d, .int .i64 e, .int .i64 f] 25))
  have Ac0 := Ext.keeps (HA 0 _ rfl)
  have Ac1 := Ext.keeps (HA 1 _ rfl)
  have Ac2 := Ext.keeps (HA 2 _ rfl)
  clear HA
  have HB := (Has.new2 w (.cells #[.int .i64 a, .int .i64 b, .int .i64 c] 25) #[.int .i64 d, .int .i64 e, .int .i64 f] 25)
  have Bc0 := Ext.keeps (HB 0 _ rfl)
  have Bc1 := Ext.keeps (HB 1 _ rfl)
  have Bc2 := Ext.keeps (HB 2 _ rfl)
  clear HB
  have hE : Ext ((w.alloc (.cells #[.int .i64 a, .int .i64 b, .int .i64 c] 25)).alloc (.cells #[.int .i64 d, .int .i64 e, .int .i64 f] 25)) ((w.alloc (.cells #[.int .i64 a, .int .i64 b, .int .i64 c] 25)).alloc (.cells #[.int .i64 d, .int .i64 e, .int .i64 f] 25)) := Ext.refl _
  rcases fin3_cases a b c with h | ⟨h, hx⟩ <;> rcases fin3_cases d e f with h2 | ⟨h2, hy⟩ <;> (
    go_enter Try.func19, Try.ntmps19
    go_wp2_with ((go_at_call 46; refine (isLine_any _ _ _ _).mono ?_; rintro e w' ⟨rfl, hb⟩; (first | replace hE := Ext.trans hE hb | replace hE := Ext.trans (Ext.alloc hE _) hb | replace hE := Ext.trans (Ext.alloc (Ext.alloc hE _) _) hb | replace hE := Ext.trans (Ext.drew hE) hb | replace hE := Ext.trans (Ext.alloc (Ext.alloc (Ext.alloc hE _) _) _) hb)))
    all_goals (go_ret2; exact ⟨ret_bb (by unfold sameL; rw [h, h2, Bool.eq_iff_iff]; simp; try omega) (by rw [h, h2]; rfl), (by repeat (first | exact Ext.refl _ | assumption | apply Ext.alloc | apply Ext.drew | apply Ext.drewN | (refine Ext.trans ?_ (by assumption)) | (refine Ext.setCell ?_ (by simp; done) _) | (refine Ext.setCell ?_ (by simp; omega) _)))⟩))

theorem law_SameLine (a b c d e f : Int) (w : World) :
    Calls Try.prog 4 #[.agg #[.int .i64 a, .int .i64 b, .int .i64 c], .agg #[.int .i64 d, .int .i64 e, .int .i64 f]] w fun r w' => r = .returned (.bool true) ∧ Ext w w' := by
  have HA := (Has.alloc (Has.new w #[.int .i64 a, .int .i64 b, .int .i64 c] 23) (.cells #[.int .i64 d, .int .i64 e, .int .i64 f] 23))
  have Ac0 := Ext.keeps (HA 0 _ rfl)
  have Ac1 := Ext.keeps (HA 1 _ rfl)
  have Ac2 := Ext.keeps (HA 2 _ rfl)
  clear HA
  have HB := (Has.new2 w (.cells #[.int .i64 a, .int .i64 b, .int .i64 c] 23) #[.int .i64 d, .int .i64 e, .int .i64 f] 23)
  have Bc0 := Ext.keeps (HB 0 _ rfl)
  have Bc1 := Ext.keeps (HB 1 _ rfl)
  have Bc2 := Ext.keeps (HB 2 _ rfl)
  clear HB
  have hE : Ext ((w.alloc (.cells #[.int .i64 a, .int .i64 b, .int .i64 c] 23)).alloc (.cells #[.int .i64 d, .int .i64 e, .int .i64 f] 23)) ((w.alloc (.cells #[.int .i64 a, .int .i64 b, .int .i64 c] 23)).alloc (.cells #[.int .i64 d, .int .i64 e, .int .i64 f] 23)) := Ext.refl _
  go_enter Try.func4, Try.ntmps4
  go_wp2_with fail
  go_region_held3 (fun w' => Ext ((w.alloc (.cells #[.int .i64 a, .int .i64 b, .int .i64 c] 23)).alloc (.cells #[.int .i64 d, .int .i64 e, .int .i64 f] 23)) w') ((repeat (first | exact Ext.refl _ | assumption | apply Ext.alloc | apply Ext.drew | apply Ext.drewN | (refine Ext.trans ?_ (by assumption)) | (refine Ext.setCell ?_ (by simp; done) _) | (refine Ext.setCell ?_ (by simp; omega) _)))) (first | (go_at_call 16; refine (toLine_any _ _ _ _).mono ?_; rintro e w' ⟨rfl, hb⟩) | (go_at_call 18; refine (spec_SameLine_any _ _ _ _ _ _ _).mono ?_; rintro e w' ⟨rfl, hb⟩))
  all_goals (
    go_wp2_with fail
    go_region_held3 (fun w' => Ext ((w.alloc (.cells #[.int .i64 a, .int .i64 b, .int .i64 c] 23)).alloc (.cells #[.int .i64 d, .int .i64 e, .int .i64 f] 23)) w') ((repeat (first | exact Ext.refl _ | assumption | apply Ext.alloc | apply Ext.drew | apply Ext.drewN | (refine Ext.trans ?_ (by assumption)) | (refine Ext.setCell ?_ (by simp; done) _) | (refine Ext.setCell ?_ (by simp; omega) _)))) (first | (go_at_call 16; refine (toLine_any _ _ _ _).mono ?_; rintro e w' ⟨rfl, hb⟩) | (go_at_call 19; refine (impl_SameLine_any _ _ _ _ _ _ _).mono ?_; rintro e w' ⟨rfl, hb⟩))
    )
  all_goals (
    go_wp2
    go_ret
    exact ⟨rfl, (by repeat (first | exact Ext.refl _ | assumption | apply Ext.alloc | apply Ext.drew | apply Ext.drewN | (refine Ext.trans ?_ (by assumption)) | (refine Ext.setCell ?_ (by simp; done) _) | (refine Ext.setCell ?_ (by simp; omega) _)))⟩)

end Go.Proofs.Ytgnhkfaiahddgaa
