/-
  The contracts of the functions on polynomials: validity, end terms.
-/
import Derived.Test.YtaloegjcdllgoaaInts
namespace Go.Proofs.Ytaloegjcdllgoaa
open Go.RowKit

/-- A polynomial. -/
def polyB (zs : List Int) : Bool := inB (zs.length : Int) 1 13 && zs.all numB && (zs.getD (zs.length - 1) 0 != 1000000000)
theorem polyB_cases (zs : List Int) : polyB zs = false ∨ (polyB zs = true ∧ 1 ≤ zs.length ∧ zs.length ≤ 13 ∧ zs.all numB = true ∧ zs.getD (zs.length - 1) 0 ≠ 1000000000) := by
  cases h : polyB zs
  · exact .inl rfl
  · have h' := h
    simp only [polyB, Bool.and_eq_true, inB_true, bne_iff_ne] at h'
    exact .inr ⟨rfl, by omega, by omega, h'.1.2, h'.2⟩
/-- The least exponent whose coefficient is not Infinity. -/
def firstI (zs : List Int) : Nat := zs.findIdx (fun z => z != 1000000000)
theorem firstI_lt {zs : List Int} (h1 : 1 ≤ zs.length) (h : zs.getD (zs.length - 1) 0 ≠ 1000000000) : firstI zs < zs.length := by
  refine List.findIdx_lt_length_of_exists ⟨zs[zs.length - 1]'(by omega), List.getElem_mem _, ?_⟩
  simpa [List.getD, List.getElem?_eq_getElem (show zs.length - 1 < zs.length by omega)] using h
theorem firstI_before {zs : List Int} {k : Nat} (h : k < firstI zs) : zs.getD k 0 = 1000000000 := by
  have h1 := List.not_of_lt_findIdx h
  have h2 : k < zs.length := Nat.lt_of_lt_of_le h List.findIdx_le_length
  simpa [List.getD, List.getElem?_eq_getElem h2] using h1
theorem firstI_at {zs : List Int} (h : firstI zs < zs.length) : zs.getD (firstI zs) 0 ≠ 1000000000 := by
  have h1 := List.findIdx_getElem (p := fun z : Int => z != 1000000000) (w := h)
  have e : zs.getD (firstI zs) 0 = zs[firstI zs] := by simp [List.getD, List.getElem?_eq_getElem h]
  rw [e]
  exact bne_iff_ne.1 h1

theorem areNumbers_any (a : Option Addr) (n c : Nat) (zs : List Int) (hn : n ≤ 1073741824) (w : World) (h : Reads w a 1 n (iv zs)) :
    Calls Try.prog 48 #[.slice a n c] w fun r w' => r = .returned (.bool (zs.all numB)) ∧ w = w' := by
  have hl : zs.length = n := by have := h.1; rw [iv_len] at this; omega
  subst hl
  go_enter Try.func48, Try.ntmps48
  go_wp2
  go_loop [4, 7] (fun _ t => ∃ k : Nat, k ≤ zs.length ∧ t = .int .i64 k ∧ (zs.take k).all numB = true) (fun _ t => zs.length - (intOf t).toNat)
  case atStart => exact ⟨0, Nat.zero_le _, rfl, rfl⟩
  case round =>
    obtain ⟨k, hk, rfl, hg⟩ := hrel
    have HG := Lib.hid hg
    clear hg
    by_cases hlt : k < zs.length
    · obtain ⟨b, off, rfl, hcell⟩ := h.2 (by omega)
      have hck := hcell k _ (iv_at hlt)
      have H1 := Lib.hid (all_take_succ numB zs k hlt)
      have H2 := Lib.hid (all_false_at numB zs k hlt)
      obtain ⟨z, hz⟩ : ∃ z, z = zs.getD k 0 := ⟨_, rfl⟩
      rw [← hz] at hck H1 H2
      have HZ := Lib.hid hz
      clear hz hcell h
      go_wp2_with (go_at_call 66; refine (isNumber_any _ _).mono ?_; rintro e w' ⟨rfl, rfl⟩)
      · have h : (!numB z) = true := by assumption
        go_ret
        exact ⟨ret_bool (H2.out (by simpa using h)).symm, rfl⟩
      · have h : numB z = true := by simpa using (show (!numB z) = false by assumption)
        go_round
        case rel => exact ⟨k + 1, hlt, by go_num, by rw [H1.out, HG.out, h]; rfl⟩
        case measure => simp [intOf]; omega
    · go_wp2
      go_ret
      exact ⟨ret_bool (by rw [← all_take_full numB zs k (by omega)]; exact HG.out.symm), rfl⟩

theorem isPoly_any (a : Option Addr) (n c : Nat) (zs : List Int) (hn : n ≤ 1073741824) (w : World) (h : Reads w a 1 n (iv zs)) :
    Calls Try.prog 22 #[.slice a n c] w fun r w' => r = .returned (.bool (polyB zs)) ∧ w = w' := by
  have hl : zs.length = n := by have := h.1; rw [iv_len] at this; omega
  cases h1 : inB (n : Int) 1 13
  · go_enter Try.func22, Try.ntmps22
    go_wp2_with ((go_at_call 47; refine (within_any _ _ _ _).mono ?_; rintro e _ ⟨rfl, rfl⟩))
    go_ret
    exact ⟨ret_bool (by unfold polyB; rw [hl, h1]; rfl), rfl⟩
  have hb := inB_true.1 h1
  obtain ⟨b, off, rfl, hcell⟩ := h.2 (by omega)
  have hck := hcell (n - 1) _ (iv_at (by omega))
  have HP : polyB zs = (inB (zs.length : Int) 1 13 && zs.all numB && (zs.getD (zs.length - 1) 0 != 1000000000)) := rfl
  rw [hl, h1] at HP
  have HL := Lib.hid hl
  generalize zs.getD (n - 1) 0 = z at hck HP
  have HH := Lib.hid HP
  clear HP hl
  cases h2 : zs.all numB <;> (
    go_enter Try.func22, Try.ntmps22
    go_wp2_with (first | (go_at_call 47; refine (within_any _ _ _ _).mono ?_; rintro e _ ⟨rfl, rfl⟩) | (go_at_call 48; refine (areNumbers_any _ _ _ zs hn _ h).mono ?_; rintro e _ ⟨rfl, rfl⟩))
    all_goals (
      go_ret
      exact ⟨ret_bool (by rw [HH.out, h2]; simp [*]), rfl⟩))

theorem poGood_any (a : Option Addr) (n c : Nat) (zs : List Int) (hn : n ≤ 1073741824) (w : World) (h : Reads w a 1 n (iv zs)) :
    Calls Try.prog 20 #[.slice a n c] w fun r w' => r = .returned (.bool (polyB zs)) ∧ w = w' := by
  have hl : zs.length = n := by have := h.1; rw [iv_len] at this; omega
  subst hl
  have HP := Lib.hid (show polyB zs = (inB (zs.length : Int) 1 13 && zs.all numB && (zs.getD (zs.length - 1) 0 != 1000000000)) from rfl)
  go_enter Try.func20, Try.ntmps20
  go_wp2
  go_loop [4, 7] (fun _ t => ∃ k : Nat, k ≤ zs.length ∧ t = .int .i64 k ∧ (zs.take k).all numB = true) (fun _ t => zs.length - (intOf t).toNat)
  case atStart => exact ⟨0, Nat.zero_le _, rfl, rfl⟩
  case round =>
    obtain ⟨k, hk, rfl, hg⟩ := hrel
    have HG := Lib.hid hg
    clear hg
    by_cases hlt : k < zs.length
    · obtain ⟨b, off, rfl, hcell⟩ := h.2 (by omega)
      have hck := hcell k _ (iv_at hlt)
      have H1 := Lib.hid (all_take_succ numB zs k hlt)
      have H2 := Lib.hid (all_false_at numB zs k hlt)
      obtain ⟨z, hz⟩ : ∃ z, z = zs.getD k 0 := ⟨_, rfl⟩
      rw [← hz] at hck H1 H2
      have HZ := Lib.hid hz
      clear hz hcell h
      go_wp2_with (go_at_call 43; refine (nuGood_any _ _).mono ?_; rintro e w' ⟨rfl, rfl⟩)
      · have h : (!numB z) = true := by assumption
        go_ret
        exact ⟨ret_bool (by rw [HP.out, H2.out (by simpa using h)]; simp), rfl⟩
      · have h : numB z = true := by simpa using (show (!numB z) = false by assumption)
        go_round
        case rel => exact ⟨k + 1, hlt, by go_num, by rw [H1.out, HG.out, h]; rfl⟩
        case measure => simp [intOf]; omega
    · have HA : Hid (zs.all numB = true) := by rw [← all_take_full numB zs k (by omega)]; exact HG.out
      cases h1 : inB (zs.length : Int) 1 13
      · go_wp2_with (go_at_call 44; refine (l1In_any _ _ _ _).mono ?_; rintro e w' ⟨rfl, rfl⟩)
        go_ret
        exact ⟨ret_bool (by rw [HP.out, h1]; simp), rfl⟩
      · have hb := inB_true.1 h1
        obtain ⟨b, off, rfl, hcell⟩ := h.2 (by omega)
        have hck := hcell (zs.length - 1) _ (iv_at (by omega))
        generalize zs.getD (zs.length - 1) 0 = z at hck HP
        clear hcell h
        go_wp2_with (go_at_call 44; refine (l1In_any _ _ _ _).mono ?_; rintro e w' ⟨rfl, rfl⟩)
        go_ret
        exact ⟨ret_bool (by rw [HP.out, h1, HA.out]; simp), rfl⟩

end Go.Proofs.Ytaloegjcdllgoaa
