/-
  The contracts of the small functions on numbers: what each returns for all arguments; the world is left as it was (gcd: but for draws).
-/
import Derived.Test.YtaloegjcdllgoaaRows
import Derived.Test.YtaloegjcdllgoaaPlain
import Derived.Test.YtaloegjcdllgoaaWorld
namespace Go.Proofs.Ytaloegjcdllgoaa
open Go.RowKit

theorem inB_left {n lo hi : Int} (h : n < lo) : inB n lo hi = false := by simp [inB]; omega
theorem inB_right {n lo hi : Int} (h : lo ≤ n) : inB n lo hi = decide (n ≤ hi) := by simp [inB, h]

theorem l1In_any (n lo hi : Int) (w : World) :
    Calls Try.prog 44 #[.int .i64 n, .int .i64 lo, .int .i64 hi] w fun e w' => e = .returned (.bool (inB n lo hi)) ∧ w = w' := by
  go_enter Try.func44, Try.ntmps44
  go_wp2
  all_goals (go_ret; exact ⟨ret_bool (by first | rw [inB_left (by assumption)] | rw [inB_right (by assumption)]), rfl⟩)

theorem within_any (n lo hi : Int) (w : World) :
    Calls Try.prog 47 #[.int .i64 n, .int .i64 lo, .int .i64 hi] w fun e w' => e = .returned (.bool (inB n lo hi)) ∧ w = w' := by
  go_enter Try.func47, Try.ntmps47
  go_wp2
  all_goals (go_ret; exact ⟨ret_bool (by first | rw [inB_left (by assumption)] | rw [inB_right (by assumption)]), rfl⟩)

theorem isFinite_any (n : Int) (w : World) :
    Calls Try.prog 83 #[.int .i64 n] w fun e w' => e = .returned (.bool (finB n)) ∧ w = w' := by
  go_enter Try.func83, Try.ntmps83
  go_wp2
  all_goals (go_ret; exact ⟨ret_bool (by unfold finB; first | rw [inB_left (by assumption)] | rw [inB_right (by assumption)]), rfl⟩)

theorem isNumber_any (n : Int) (w : World) :
    Calls Try.prog 66 #[.int .i64 n] w fun e w' => e = .returned (.bool (numB n)) ∧ w = w' := by
  go_enter Try.func66, Try.ntmps66
  go_wp2_with (go_at_call 83; refine (isFinite_any _ _).mono ?_; rintro e w' ⟨rfl, rfl⟩)
  all_goals (go_ret; exact ⟨by simp [numB, *], rfl⟩)

theorem nuGood_any (n : Int) (w : World) :
    Calls Try.prog 43 #[.int .i64 n] w fun e w' => e = .returned (.bool (numB n)) ∧ w = w' := by
  go_enter Try.func43, Try.ntmps43
  go_wp2_with (go_at_call 44; refine (l1In_any _ _ _ _).mono ?_; rintro e w' ⟨rfl, rfl⟩)
  all_goals (go_ret; exact ⟨by simp [numB_swap, finB, *], rfl⟩)

theorem l1Least_any (a b : Int) (w : World) :
    Calls Try.prog 57 #[.int .i64 a, .int .i64 b] w fun e w' => e = .returned (.int .i64 (minI a b)) ∧ w = w' := by
  go_enter Try.func57, Try.ntmps57
  go_wp2
  all_goals (go_ret; exact ⟨ret_int (by unfold minI; split <;> omega), rfl⟩)

theorem l1Most_any (a b : Int) (w : World) :
    Calls Try.prog 85 #[.int .i64 a, .int .i64 b] w fun e w' => e = .returned (.int .i64 (maxI a b)) ∧ w = w' := by
  go_enter Try.func85, Try.ntmps85
  go_wp2
  all_goals (go_ret; exact ⟨ret_int (by unfold maxI; split <;> omega), rfl⟩)

theorem l1Abs_any (n : Int) (h : -9223372036854775807 ≤ n) (h2 : n ≤ 9223372036854775807) (w : World) :
    Calls Try.prog 69 #[.int .i64 n] w fun e w' => e = .returned (.int .i64 (absI n)) ∧ w = w' := by
  go_enter Try.func69, Try.ntmps69
  go_wp2_with (go_at_call 85; refine (l1Most_any _ _ _).mono ?_; rintro e w' ⟨rfl, rfl⟩)
  go_ret
  exact ⟨ret_int (by unfold maxI absI; split <;> omega), rfl⟩

theorem abs_any (n : Int) (h : -9223372036854775807 ≤ n) (h2 : n ≤ 9223372036854775807) (w : World) :
    Calls Try.prog 84 #[.int .i64 n] w fun e w' => e = .returned (.int .i64 (absI n)) ∧ w = w' := by
  go_enter Try.func84, Try.ntmps84
  go_wp2
  go_ret
  exact ⟨ret_int (by unfold maxI absI; split <;> omega), rfl⟩

theorem stCommon_any (a b : Int) (ha : 0 ≤ a) (hb : 0 ≤ b) (ha2 : a ≤ 9223372036854775807) (hb2 : b ≤ 9223372036854775807) (w : World) :
    Calls Try.prog 68 #[.int .i64 a, .int .i64 b] w fun e w' => e = .returned (.int .i64 (gcdI a b)) ∧ w = w' := by
  go_enter Try.func68, Try.ntmps68
  go_wp2
  go_loop [0, 1, 5] (fun s t _ => ∃ x y : Int, 0 ≤ x ∧ 0 ≤ y ∧ x ≤ 9223372036854775807 ∧ y ≤ 9223372036854775807 ∧ s = .int .i64 x ∧ t = .int .i64 y ∧ gcdI x y = gcdI a b) (fun _ t _ => (intOf t).toNat)
  case atStart => exact ⟨a, b, ha, hb, ha2, hb2, rfl, rfl, rfl⟩
  case round =>
    obtain ⟨x, y, hx, hy, hx2, hy2, rfl, rfl, hg⟩ := hrel
    have HG := Lib.hid hg
    clear hg
    by_cases hc : 0 < y
    · have hm1 : 0 ≤ x % y := Int.emod_nonneg _ (by omega)
      have hm2 : x % y < y := Int.emod_lt_of_pos _ hc
      go_wp2
      go_round
      case rel => exact ⟨y, x % y, hy, hm1, hy2, by omega, rfl, rfl, by rw [gcdI_emod _ _ hx]; exact HG.out⟩
      case measure => simp [intOf]; omega
    · have HY : Hid (y = 0) := by show y = 0; omega
      go_wp2
      go_ret
      exact ⟨ret_int (by have h1 := HG.out; rw [HY.out, gcdI_zero, absI_of_nonneg hx] at h1; exact h1), rfl⟩

theorem gcd_any (a b : Int) (ha1 : -9223372036854775807 ≤ a) (ha2 : a ≤ 9223372036854775807) (hb1 : -9223372036854775807 ≤ b) (hb2 : b ≤ 9223372036854775807) (w : World) :
    Calls Try.prog 67 #[.int .i64 a, .int .i64 b] w fun e w' => e = .returned (.int .i64 (gcdI a b)) ∧ ∃ n, w' = w.drewN n := by
  have k1 := absI_nonneg a
  have k2 := absI_nonneg b
  have k3 := absI_le ha1 ha2
  have k4 := absI_le hb1 hb2
  go_enter Try.func67, Try.ntmps67
  go_wp2_with (go_at_call 84; refine (abs_any _ (by assumption) (by assumption) _).mono ?_; rintro e w' ⟨rfl, rfl⟩)
  go_loopw [0, 1] (fun s t wr => ∃ x y : Int, 0 ≤ x ∧ 0 ≤ y ∧ x ≤ 9223372036854775807 ∧ y ≤ 9223372036854775807 ∧ s = .int .i64 x ∧ t = .int .i64 y ∧ gcdI x y = gcdI a b ∧ ∃ n, wr = w.drewN n) (fun _ t _ => (intOf t).toNat)
  case atStart => exact ⟨absI a, absI b, k1, k2, k3, k4, rfl, rfl, gcdI_absI a b, 0, rfl⟩
  case round =>
    obtain ⟨x, y, hx, hy, hx2, hy2, rfl, rfl, hg, nn, rfl⟩ := hrel
    have HG := Lib.hid hg
    clear hg
    by_cases hc : 0 < y
    · have hm1 : 0 ≤ x % y := Int.emod_nonneg _ (by omega)
      have hm2 : x % y < y := Int.emod_lt_of_pos _ hc
      go_wp2
      go_quiet (fail)
      go_wp2
      go_roundw
      case rel => exact ⟨y, x % y, hy, hm1, hy2, by omega, rfl, rfl, by rw [gcdI_emod _ _ hx]; exact HG.out, _, World.drewN_drewN _ _ _⟩
      case measure => simp [intOf]; omega
    · have HY : Hid (y = 0) := by show y = 0; omega
      go_wp2
      go_ret
      exact ⟨ret_int (by have h1 := HG.out; rw [HY.out, gcdI_zero, absI_of_nonneg hx] at h1; exact h1), _, rfl⟩

end Go.Proofs.Ytaloegjcdllgoaa
