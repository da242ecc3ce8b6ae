/-
  The contracts of the functions on lines: validity, centres, meeting points, moves.
-/
import Derived.Test.YtgnhkfaiahddgaaNum
namespace Go.Proofs.Ytgnhkfaiahddgaa
open Go.RowKit

theorem areFinite_any (b off n cap : Nat) (zs : List Int) (hn : zs.length = n) (hl : n ≤ 9223372036854775807) (w : World) (hc : ∀ i, i < zs.length → w.cell? ⟨b, off + i, none⟩ = some (.int .i64 (zs.getD i 0))) :
    Calls Try.prog 52 #[.slice (some ⟨b, off, none⟩) n cap] w fun e w' => e = .returned (.bool (zs.all finB)) ∧ w = w' := by
  subst hn
  go_enter Try.func52, Try.ntmps52
  go_wp2
  go_loop [4, 7] (fun _ t => ∃ k : Nat, k ≤ zs.length ∧ t = .int .i64 k ∧ (zs.take k).all finB = true) (fun _ t => zs.length - (intOf t).toNat)
  case atStart => exact ⟨0, Nat.zero_le _, rfl, rfl⟩
  case round =>
    obtain ⟨k, hk, rfl, hg⟩ := hrel
    have HG := Lib.hid hg
    clear hg
    by_cases hlt : k < zs.length
    · have hck := hc k hlt
      have H1 := Lib.hid (all_take_succ finB zs k hlt)
      have H2 := Lib.hid (all_false_at finB zs k hlt)
      obtain ⟨z, hz⟩ : ∃ z, z = zs.getD k 0 := ⟨_, rfl⟩
      rw [← hz] at hck H1 H2
      have HZ := Lib.hid hz
      clear hz hc
      go_wp2_with (go_at_call 78; refine (isFinite_any _ _).mono ?_; rintro e w' ⟨rfl, rfl⟩)
      · have h : (!finB z) = true := by assumption
        go_ret
        exact ⟨ret_bool (H2.out (by simpa using h)).symm, rfl⟩
      · have h : finB z = true := by simpa using (show (!finB z) = false by assumption)
        go_round
        case rel => exact ⟨k + 1, hlt, by go_num, by rw [H1.out, HG.out, h]; rfl⟩
        case measure => simp [intOf]; omega
    · go_wp2
      go_ret
      exact ⟨ret_bool (by rw [← all_take_full finB zs k (by omega)]; exact HG.out.symm), rfl⟩

theorem lnGood_any (a b c : Int) (w : World) :
    Calls Try.prog 45 #[.agg #[.int .i64 a, .int .i64 b, .int .i64 c]] w fun e w' => e = .returned (.bool (fin3 a b c)) ∧ Ext w w' := by
  go_enter Try.func45, Try.ntmps45
  go_wp2_with (go_at_call 50; refine (poFinite_any _ _).mono ?_; rintro e w' ⟨rfl, rfl⟩)
  all_goals (go_ret; exact ⟨ret_bool (by unfold fin3; simp [*]), (by repeat (first | exact Ext.refl _ | assumption | apply Ext.alloc | apply Ext.drew | apply Ext.drewN | (refine Ext.trans ?_ (by assumption)) | (refine Ext.setCell ?_ (by simp; done) _) | (refine Ext.setCell ?_ (by simp; omega) _)))⟩)

theorem isLine_any (a b c : Int) (w : World) :
    Calls Try.prog 46 #[.agg #[.int .i64 a, .int .i64 b, .int .i64 c]] w fun e w' => e = .returned (.bool (fin3 a b c)) ∧ Ext w w' := by
  go_enter Try.func46, Try.ntmps46
  go_wp2_with fail
  refine (areFinite_any _ _ _ _ [a, b, c] rfl (by simp) _ ?_).mono ?_
  · intro i hi
    match i, hi with
    | 0, _ => simp
    | 1, _ => simp
    | 2, _ => simp
  rintro e w' ⟨rfl, rfl⟩
  go_wp2
  go_ret
  exact ⟨ret_bool (fin3_and a b c), (by repeat (first | exact Ext.refl _ | assumption | apply Ext.alloc | apply Ext.drew | apply Ext.drewN | (refine Ext.trans ?_ (by assumption)) | (refine Ext.setCell ?_ (by simp; done) _) | (refine Ext.setCell ?_ (by simp; omega) _)))⟩

theorem toLine_any (a b c : Int) (w : World) :
    Calls Try.prog 16 #[.agg #[.int .i64 a, .int .i64 b, .int .i64 c]] w fun e w' => e = .returned (.agg #[.int .i64 a, .int .i64 b, .int .i64 c]) ∧ Ext w w' := by
  go_enter Try.func16, Try.ntmps16
  go_wp2
  refine bodyPost_ret (v := .agg #[.int .i64 a, .int .i64 b, .int .i64 c]) (by simp [results, Try.results16, go_sem]) rfl ⟨rfl, (by repeat (first | exact Ext.refl _ | assumption | apply Ext.alloc | apply Ext.drew | apply Ext.drewN | (refine Ext.trans ?_ (by assumption)) | (refine Ext.setCell ?_ (by simp; done) _) | (refine Ext.setCell ?_ (by simp; omega) _)))⟩

theorem spec_IsLine_any (a b c : Int) (w : World) :
    Calls Try.prog 15 #[.agg #[.int .i64 a, .int .i64 b, .int .i64 c]] w fun e w' => e = .returned (.bool (fin3 a b c)) ∧ Ext w w' := by
  go_enter Try.func15, Try.ntmps15
  go_wp2_with (go_at_call 45; refine (lnGood_any _ _ _ _).mono ?_; rintro e w' ⟨rfl, hb⟩)
  go_ret
  exact ⟨rfl, (by repeat (first | exact Ext.refl _ | assumption | apply Ext.alloc | apply Ext.drew | apply Ext.drewN | (refine Ext.trans ?_ (by assumption)) | (refine Ext.setCell ?_ (by simp; done) _) | (refine Ext.setCell ?_ (by simp; omega) _)))⟩

theorem impl_IsLine_any (a b c : Int) (w : World) :
    Calls Try.prog 17 #[.agg #[.int .i64 a, .int .i64 b, .int .i64 c]] w fun e w' => e = .returned (.bool (fin3 a b c)) ∧ Ext w w' := by
  go_enter Try.func17, Try.ntmps17
  go_wp2_with (go_at_call 46; refine (isLine_any _ _ _ _).mono ?_; rintro e w' ⟨rfl, hb⟩)
  go_ret
  exact ⟨rfl, (by repeat (first | exact Ext.refl _ | assumption | apply Ext.alloc | apply Ext.drew | apply Ext.drewN | (refine Ext.trans ?_ (by assumption)) | (refine Ext.setCell ?_ (by simp; done) _) | (refine Ext.setCell ?_ (by simp; omega) _)))⟩

theorem law_IsLine (a b c : Int) (w : World) :
    Calls Try.prog 3 #[.agg #[.int .i64 a, .int .i64 b, .int .i64 c]] w fun e w' => e = .returned (.bool true) ∧ Ext w w' := by
  have HA := Has.new w #[.int .i64 a, .int .i64 b, .int .i64 c] 23
  go_enter Try.func3, Try.ntmps3
  go_wp2_with fail
  refine (toLine_any _ _ _ _).mono ?_
  rintro e w1 ⟨rfl, hb1⟩
  replace HA := Has.ext hb1 HA
  have HAc0 := HA 0 _ rfl
  have HAc1 := HA 1 _ rfl
  have HAc2 := HA 2 _ rfl
  go_wp2_with fail
  refine (spec_IsLine_any _ _ _ _).mono ?_
  rintro e w2 ⟨rfl, hb2⟩
  replace HA := Has.ext hb2 HA
  have HAc0 := HA 0 _ rfl
  have HAc1 := HA 1 _ rfl
  have HAc2 := HA 2 _ rfl
  go_wp2_with fail
  refine (toLine_any _ _ _ _).mono ?_
  rintro e w3 ⟨rfl, hb3⟩
  replace HA := Has.ext hb3 HA
  have HAc0 := HA 0 _ rfl
  have HAc1 := HA 1 _ rfl
  have HAc2 := HA 2 _ rfl
  go_wp2_with fail
  refine (impl_IsLine_any _ _ _ _).mono ?_
  rintro e w4 ⟨rfl, hb4⟩
  replace HA := Has.ext hb4 HA
  have HAc0 := HA 0 _ rfl
  have HAc1 := HA 1 _ rfl
  have HAc2 := HA 2 _ rfl
  go_wp2
  go_ret
  exact ⟨rfl, (by repeat (first | exact Ext.refl _ | assumption | apply Ext.alloc | apply Ext.drew | apply Ext.drewN | (refine Ext.trans ?_ (by assumption)) | (refine Ext.setCell ?_ (by simp; done) _) | (refine Ext.setCell ?_ (by simp; omega) _)))⟩

end Go.Proofs.Ytgnhkfaiahddgaa
