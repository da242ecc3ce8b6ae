/-
  StarSum, IsBalanced, SupportOf.
-/
import Derived.Test.YtaloegjcdllgoaaSum
namespace Go.Proofs.Ytaloegjcdllgoaa
open Go.RowKit

theorem small_of {zs : List (Int × Int × Int)} : starB zs = false ∨ (starB zs = true ∧ Small zs) := by
  rcases starB_cases zs with h | ⟨h, h1, h2⟩
  · exact .inl h
  · exact .inr ⟨h, h1, h2⟩
/-- A star whose sum is zero. -/
def balB (zs : List (Int × Int × Int)) : Bool := (sX zs zs.length == 0) && (sY zs zs.length == 0)

theorem stBalanced_any (a : Option Addr) (n c : Nat) (zs : List (Int × Int × Int)) (hs : Small zs) (w : World) (h : Reads w a 3 n (tv zs)) :
    Calls Try.prog 27 #[.slice a n c] w fun r w' => r = .returned (.bool (balB zs)) ∧ Ext w w' := by
  have hl : zs.length = n := by have := h.1; rw [tv_len] at this; omega
  have HB := Lib.hid (show balB zs = ((sX zs n == 0) && (sY zs n == 0)) by rw [← hl]; rfl)
  go_enter Try.func27, Try.ntmps27
  go_wp2_with fail
  refine (stSum_any _ _ _ zs hs _ h).mono ?_
  rintro e w1 ⟨rfl, hb1⟩
  go_wp2
  all_goals go_ret
  all_goals exact ⟨ret_bool (by rw [HB.out]; simp [*]), hb1⟩

theorem isBalanced_any (a : Option Addr) (n c : Nat) (zs : List (Int × Int × Int)) (hb : starB zs = true) (hs : Small zs) (w : World) (h : Reads w a 3 n (tv zs)) :
    Calls Try.prog 31 #[.slice a n c] w fun r w' => r = .returned (.bool (balB zs)) ∧ Ext w w' := by
  have hl : zs.length = n := by have := h.1; rw [tv_len] at this; omega
  have HB := Lib.hid (show balB zs = ((sX zs n == 0) && (sY zs n == 0)) by rw [← hl]; rfl)
  have hn := hs.1
  go_enter Try.func31, Try.ntmps31
  go_wp2_with fail
  refine (isStar_any _ _ _ zs (by omega) _ h).mono ?_
  rw [hb]
  rintro e w1 ⟨rfl, hb1⟩
  go_wp2_with fail
  refine (starSum_any _ _ _ zs hs _ (h.ext hb1)).mono ?_
  rintro e w2 ⟨rfl, hb2⟩
  go_wp2
  all_goals go_ret
  all_goals exact ⟨ret_bool (by rw [HB.out]; simp [*]), hb1.trans hb2⟩

end Go.Proofs.Ytaloegjcdllgoaa
