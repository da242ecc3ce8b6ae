/-
  Whether a point is small enough: both sides.
-/
import Derived.Test.YtaloegjcdllgoaaDualQ
namespace Go.Proofs.Ytaloegjcdllgoaa
open Go.RowKit

def ptB (x y : Int) : Bool := inB x (-100) 100 && inB y (-100) 100
/-- The points from number f on, round to the start. -/
def turnD (M : List (Int × Int)) (f i : Nat) : List (Int × Int) := (List.range i).map fun j => pat M ((f + j) % M.length)
theorem turnD_len (M : List (Int × Int)) (f i : Nat) : (turnD M f i).length = i := by simp [turnD]
theorem turnD_succ (M : List (Int × Int)) (f i : Nat) : turnD M f (i + 1) = turnD M f i ++ [pat M ((f + i) % M.length)] := by simp [turnD, List.range_succ]
theorem turn_full {M : List (Int × Int)} {f : Nat} (hf : f < M.length) : turnD M f M.length = M.drop f ++ M.take f := by
  refine List.ext_getElem? fun j => ?_
  by_cases hj : j < M.length
  · rw [List.getElem?_append]
    by_cases h2 : j < M.length - f
    · have e : (f + j) % M.length = f + j := Nat.mod_eq_of_lt (by omega)
      rw [if_pos (by simpa using h2)]
      have h3 : f + j < M.length := by omega
      simp [turnD, hj, e, pat, List.getD, h3]
    · have e : (f + j) % M.length = j - (M.length - f) := by
        rw [show f + j = (j - (M.length - f)) + M.length by omega, Nat.add_mod_right, Nat.mod_eq_of_lt (by omega)]
      have h3 : j - (M.length - f) < M.length := by omega
      rw [if_neg (by simpa using h2), List.length_drop, List.getElem?_take, if_pos (by omega)]
      simp [turnD, hj, e, pat, List.getD, h3]
  · rw [List.getElem?_eq_none (by rw [turnD_len]; omega), List.getElem?_eq_none (by simp; omega)]
theorem pyOne_any (x y : Int) (w : World) :
    Calls Try.prog 29 #[.agg #[.int .i64 x, .int .i64 y]] w fun r w' => r = .returned (.bool (ptB x y)) ∧ Ext w w' := by
  have HA := (Has.new w #[.int .i64 x, .int .i64 y] 49)
  have Ac0 := Ext.keeps (HA 0 _ rfl)
  have Ac1 := Ext.keeps (HA 1 _ rfl)
  clear HA
  have hE : Ext (w.alloc (.cells #[.int .i64 x, .int .i64 y] 49)) (w.alloc (.cells #[.int .i64 x, .int .i64 y] 49)) := Ext.refl _
  have HF := Lib.hid (show ptB x y = (inB x (-100) 100 && inB y (-100) 100) from rfl)
  cases h1 : inB x (-100) 100
  · go_enter Try.func29, Try.ntmps29
    go_wp2_with ((go_at_call 44; refine (l1In_any _ _ _ _).mono ?_; rintro e _ ⟨rfl, rfl⟩))
    go_ret
    exact ⟨ret_bool (by rw [HF.out, h1]; simp), (by repeat (first | exact Ext.refl _ | assumption | apply Ext.alloc | apply Ext.drew | apply Ext.drewN | (refine Ext.trans ?_ (by assumption)) | (refine Ext.setCell ?_ (by (try simp) <;> omega) _)))⟩
  · go_enter Try.func29, Try.ntmps29
    go_wp2_with ((go_at_call 44; refine (l1In_any _ _ _ _).mono ?_; rintro e _ ⟨rfl, rfl⟩))
    go_ret
    exact ⟨ret_bool (by rw [HF.out, h1]; simp), (by repeat (first | exact Ext.refl _ | assumption | apply Ext.alloc | apply Ext.drew | apply Ext.drewN | (refine Ext.trans ?_ (by assumption)) | (refine Ext.setCell ?_ (by (try simp) <;> omega) _)))⟩
theorem isPoint_any (x y : Int) (w : World) :
    Calls Try.prog 36 #[.agg #[.int .i64 x, .int .i64 y]] w fun r w' => r = .returned (.bool (ptB x y)) ∧ Ext w w' := by
  have HA := (Has.new w #[.int .i64 x, .int .i64 y] 49)
  have Ac0 := Ext.keeps (HA 0 _ rfl)
  have Ac1 := Ext.keeps (HA 1 _ rfl)
  clear HA
  have hE : Ext (w.alloc (.cells #[.int .i64 x, .int .i64 y] 49)) (w.alloc (.cells #[.int .i64 x, .int .i64 y] 49)) := Ext.refl _
  have HF := Lib.hid (show ptB x y = (inB x (-100) 100 && inB y (-100) 100) from rfl)
  cases h1 : inB x (-100) 100
  · go_enter Try.func36, Try.ntmps36
    go_wp2_with ((go_at_call 47; refine (within_any _ _ _ _).mono ?_; rintro e _ ⟨rfl, rfl⟩))
    go_ret
    exact ⟨ret_bool (by rw [HF.out, h1]; simp), (by repeat (first | exact Ext.refl _ | assumption | apply Ext.alloc | apply Ext.drew | apply Ext.drewN | (refine Ext.trans ?_ (by assumption)) | (refine Ext.setCell ?_ (by (try simp) <;> omega) _)))⟩
  · go_enter Try.func36, Try.ntmps36
    go_wp2_with ((go_at_call 47; refine (within_any _ _ _ _).mono ?_; rintro e _ ⟨rfl, rfl⟩))
    go_ret
    exact ⟨ret_bool (by rw [HF.out, h1]; simp), (by repeat (first | exact Ext.refl _ | assumption | apply Ext.alloc | apply Ext.drew | apply Ext.drewN | (refine Ext.trans ?_ (by assumption)) | (refine Ext.setCell ?_ (by (try simp) <;> omega) _)))⟩
end Go.Proofs.Ytaloegjcdllgoaa
