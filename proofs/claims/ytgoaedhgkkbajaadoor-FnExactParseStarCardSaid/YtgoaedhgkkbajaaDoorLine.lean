/-
  The contracts of the functions on lines: validity, centres, meeting points, moves.
-/
import Derived.Test.YtgoaedhgkkbajaaDoorNum
import Derived.Test.YtgoaedhgkkbajaaDoorConv
namespace Go.Proofs.YtgoaedhgkkbajaaDoor
open Go.RowKit

theorem areFinite_any (b off n cap : Nat) (zs : List Int) (hn : zs.length = n) (hl : n ≤ 9223372036854775807) (w : World) (hc : ∀ i, i < zs.length → w.cell? ⟨b, off + i, none⟩ = some (.int .i64 (zs.getD i 0))) :
    Calls Tryd.prog 65 #[.slice (some ⟨b, off, none⟩) n cap] w fun e w' => e = .returned (.bool (zs.all finB)) ∧ w = w' := by
  subst hn
  go_enter Tryd.func65, Tryd.ntmps65
  go_wp2
  go_loop [4, 7] (fun _ t => ∃ k : Nat, k ≤ zs.length ∧ t = .int .i64 k ∧ (zs.take k).all finB = true) (fun _ t => zs.length - (intOf t).toNat)
  case atStart => exact ⟨0, Nat.zero_le _, rfl, rfl⟩
  case round =>
    obtain ⟨k, hk, rfl, hg⟩ := hrel
    have HG := Lib.hid hg
    clear hg
    by_cases hlt : k < zs.length
    · have hck := hc k hlt
      have H1 := Lib.hid (all_take_succ finB zs k hlt)
      have H2 := Lib.hid (all_false_at finB zs k hlt)
      obtain ⟨z, hz⟩ : ∃ z, z = zs.getD k 0 := ⟨_, rfl⟩
      rw [← hz] at hck H1 H2
      have HZ := Lib.hid hz
      clear hz hc
      go_wp2_with (go_at_call 90; refine (isFinite_any _ _).mono ?_; rintro e w' ⟨rfl, rfl⟩)
      · have h : (!finB z) = true := by assumption
        go_ret
        exact ⟨ret_bool (H2.out (by simpa using h)).symm, rfl⟩
      · have h : finB z = true := by simpa using (show (!finB z) = false by assumption)
        go_round
        case rel => exact ⟨k + 1, hlt, by go_num, by rw [H1.out, HG.out, h]; rfl⟩
        case measure => simp [intOf]; omega
    · go_wp2
      go_ret
      exact ⟨ret_bool (by rw [← all_take_full finB zs k (by omega)]; exact HG.out.symm), rfl⟩

theorem lnGood_any (a b c : Int) (w : World) :
    Calls Tryd.prog 35 #[.agg #[.int .i64 a, .int .i64 b, .int .i64 c]] w fun e w' => e = .returned (.bool (fin3 a b c)) ∧ Ext w w' := by
  go_enter Tryd.func35, Tryd.ntmps35
  go_wp2_with (go_at_call 63; refine (poFinite_any _ _).mono ?_; rintro e w' ⟨rfl, rfl⟩)
  all_goals (go_ret; exact ⟨ret_bool (by unfold fin3; simp [*]), (by repeat (first | exact Ext.refl _ | assumption | apply Ext.alloc | apply Ext.drew | apply Ext.drewN | (refine Ext.trans ?_ (by assumption)) | (refine Ext.setCell ?_ (by (try simp) <;> omega) _)))⟩)

theorem isLine_any (a b c : Int) (w : World) :
    Calls Tryd.prog 37 #[.agg #[.int .i64 a, .int .i64 b, .int .i64 c]] w fun e w' => e = .returned (.bool (fin3 a b c)) ∧ Ext w w' := by
  go_enter Tryd.func37, Tryd.ntmps37
  go_wp2_with fail
  refine (areFinite_any _ _ _ _ [a, b, c] rfl (by simp) _ ?_).mono ?_
  · intro i hi
    match i, hi with
    | 0, _ => simp
    | 1, _ => simp
    | 2, _ => simp
  rintro e w' ⟨rfl, rfl⟩
  go_wp2
  go_ret
  exact ⟨ret_bool (fin3_and a b c), (by repeat (first | exact Ext.refl _ | assumption | apply Ext.alloc | apply Ext.drew | apply Ext.drewN | (refine Ext.trans ?_ (by assumption)) | (refine Ext.setCell ?_ (by (try simp) <;> omega) _)))⟩

end Go.Proofs.YtgoaedhgkkbajaaDoor
