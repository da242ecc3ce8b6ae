/-
  Whether a slice of ints holds a number, as the program asks; a copy, as the reference makes it.
-/
import Derived.Test.YtngbdopgdcjdeaaGreatBa4
import Derived.BigQuiet
namespace Go.Proofs.YtngbdopgdcjdeaaGreat
open Go.RowKit

theorem containsN_index (a : Option Addr) (n c : Nat) (zs : List Int) (v : Int) (hn : n ≤ 1073741824) (w : World) (h : Reads w a 1 n (iv zs)) :
    Calls Tryz.prog 110 #[.slice a n c, .int .i64 v] w fun r w' => ∃ k : Int, r = .returned (.int .i64 k) ∧ (0 ≤ k ↔ v ∈ zs) ∧ -1 ≤ k ∧ k ≤ 1073741824 ∧ w = w' := by
  have hl : zs.length = n := by have := h.1; rw [iv_len] at this; omega
  have HL := Lib.hid hl
  clear hl
  go_enter Tryz.func110, Tryz.ntmps110
  go_wp2
  go_loop [5, 8] (fun _ s => ∃ k : Nat, k ≤ n ∧ s = .int .i64 k ∧ Hid (v ∉ zs.take k)) (fun _ s => n - (intOf s).toNat)
  case atStart => exact ⟨0, Nat.zero_le _, rfl, Lib.hid (by simp)⟩
  case round =>
    obtain ⟨k, hk, rfl, HM⟩ := hrel
    by_cases hlt : k < n
    · have hlz : k < zs.length := by rw [HL.out]; exact hlt
      obtain ⟨b, off, rfl, hc⟩ := h.2 (by omega)
      have hck := hc k _ (iv_at hlz)
      have HT := Lib.hid (show zs.take (k + 1) = zs.take k ++ [zs.getD k 0] by rw [List.take_succ_eq_append_getElem hlz]; simp [List.getD, hlz])
      have HX := Lib.hid (show zs.getD k 0 ∈ zs by rw [show zs.getD k 0 = zs[k] by simp [List.getD, hlz]]; exact List.getElem_mem hlz)
      generalize zs.getD k 0 = z at *
      clear hc h hlz
      by_cases hv : v = z
      · have HF := Lib.hid (show (0 ≤ (k : Int) ↔ v ∈ zs) from ⟨fun _ => by rw [hv]; exact HX.out, fun _ => by omega⟩)
        subst hv
        go_wp2
        go_ret
        exact ⟨k, rfl, HF.out, by omega, by omega, rfl⟩
      · have hv2 : (v == z) = false := by simpa using hv
        have HM2 := Lib.hid (show v ∉ zs.take (k + 1) by rw [HT.out, List.mem_append, List.mem_singleton]; rintro (h1 | h1); exact HM.out h1; exact hv h1)
        clear hv
        go_wp2
        go_round
        case rel => exact ⟨k + 1, by omega, by go_num, HM2⟩
        case measure => simp [intOf]; omega
    · obtain rfl : k = n := by omega
      have HF := Lib.hid (show (0 ≤ (-1 : Int) ↔ v ∈ zs) by
        have := HM.out
        rw [List.take_of_length_le (by rw [HL.out]; exact Nat.le_refl _)] at this
        exact ⟨fun h => by omega, fun h => absurd h this⟩)
      go_wp2
      go_ret
      exact ⟨-1, rfl, HF.out, by omega, by omega, rfl⟩
theorem containsN_any (a : Option Addr) (n c : Nat) (zs : List Int) (v : Int) (hn : n ≤ 1073741824) (w : World) (h : Reads w a 1 n (iv zs)) :
    Calls Tryz.prog 88 #[.slice a n c, .int .i64 v] w fun r w' => r = .returned (.bool (decide (v ∈ zs))) ∧ w = w' := by
  go_enter Tryz.func88, Tryz.ntmps88
  go_wp2_with fail
  refine (containsN_index _ _ _ zs v hn _ h).mono ?_
  rintro e _ ⟨k, rfl, hk, _, _, rfl⟩
  go_wp2
  go_ret
  exact ⟨by first | rfl | exact ret_bool (decide_eq_decide.2 hk), rfl⟩
theorem l1Own_any (a : Option Addr) (n c : Nat) (zs : List Int) (hn : n ≤ 1048576) (hn0 : 0 < n) (w : World) (h : Reads w a 1 n (iv zs)) :
    Calls Tryz.prog 39 #[.slice a n c] w fun r w' => ∃ a1 c1, r = .returned (.slice a1 n c1) ∧ w'.ownsRow w.heap.size 3 1 (.slice a1 n c1) n (iv zs) ∧ Ext w w' := by
  have hl : zs.length = n := by have := h.1; rw [iv_len] at this; omega
  obtain ⟨b, off, rfl, _⟩ := h.2 hn0
  have HR := Lib.hid h
  clear h
  go_enter Tryz.func39, Tryz.ntmps39
  have H0 := Lib.hid (own_empty w w.heap.size 3 1 (Nat.le_refl _))
  obtain ⟨i0, hz1, hz2, hz3, hz4⟩ := info_parts int_info
  go_wp2_with (at_builtin; go_must (refine wpList_app_any _ rfl _ _ 56 rfl w.heap.size 3 i0 _ 1 8 Tryz.underlying56 hz1 hz2 hz3 hz4 rfl (by decide) _ 0 [] rfl H0.out (some ⟨b, off, none⟩) n c (iv zs) rfl (HR.out.alloc _) (iv_one _) (by unfold maxLen; omega) (by omega) (by simp) ?_))
  intro a1 c1 w2 ho2 hg2 _
  have hE2 : Ext w w2 := Ext.grown (Ext.alloc (Ext.refl w) _) hg2 (fun k hk => by simp [Value.ownBlock] at hk; omega)
  clear hg2
  go_wp2
  go_ret
  exact ⟨a1, c1, by simp, by simpa using ho2, hE2⟩
end Go.Proofs.YtngbdopgdcjdeaaGreat
