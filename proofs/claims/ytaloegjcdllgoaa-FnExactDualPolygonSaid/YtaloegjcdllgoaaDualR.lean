/-
  DualPolygon: the reference's walk.
-/
import Derived.Test.YtaloegjcdllgoaaDualV
import Derived.Test.YtaloegjcdllgoaaNewton
import Derived.BigQuiet
namespace Go.Proofs.Ytaloegjcdllgoaa
open Go.RowKit

theorem dualB_star {zs : List (Int × Int × Int)} (h : starB zs = false) : dualB zs = false := by simp [dualB, h]
theorem dualB_none {zs : List (Int × Int × Int)} (h : zs.length = 0) : dualB zs = false := by simp [dualB, h]
theorem dualB_bal {zs : List (Int × Int × Int)} (h : balB zs = false) : dualB zs = false := by simp [dualB, h]
theorem dualB_ok {zs : List (Int × Int × Int)} (h : starB zs = true) (h0 : 0 < zs.length) (h1 : balB zs = true) : dualB zs = okD (sidesD zs) := by
  simp [dualB, h, h1, show zs ≠ [] by rintro rfl; simp at h0]
theorem dual_len (zs : List (Int × Int × Int)) : (gP (dualB zs) (ansD (sidesD zs))).length ≤ 1048576 := by
  cases h : starB zs
  · simp [gP, dualB_star h]
  · have := (star_rows h).1
    exact gP_le (by rw [ansD_len, sidesD_len h]; omega)
set_option maxHeartbeats 4000000 in
theorem spec_DualPolygon_any (a : Option Addr) (n c : Nat) (zs : List (Int × Int × Int)) (hn : n ≤ 1048576) (w : World) (h : Reads w a 3 n (tv zs)) :
    Calls Try.prog 12 #[.slice a n c] w (OwnsPtsB w.heap.size (gP (dualB zs) (ansD (sidesD zs))) (dualB zs) w) := by
  have hl : zs.length = n := by have := h.1; rw [tv_len] at this; omega
  rcases small_of (zs := zs) with h1 | ⟨h1, hsm⟩
  · rw [dualB_star h1]
    go_enter Try.func12, Try.ntmps12
    go_wp2_with fail
    refine (stGood_any _ _ _ zs (by omega) _ h).mono ?_
    rw [h1]
    rintro e w1 ⟨rfl, hb1⟩
    go_wp2
    go_ret2
    exact ⟨none, 0, rfl, own_nonePt _ _, hb1⟩
  · by_cases h0 : n = 0
    · rw [dualB_none (by omega)]
      subst h0
      go_enter Try.func12, Try.ntmps12
      go_wp2_with fail
      refine (stGood_any _ _ _ zs (by omega) _ h).mono ?_
      rw [h1]
      rintro e w1 ⟨rfl, hb1⟩
      clear hl
      go_wp2
      go_ret2
      exact ⟨none, 0, rfl, own_nonePt _ _, hb1⟩
    · have h00 : 0 < n := by omega
      have hne : ¬ (n : Int) = 0 := by omega
      cases h2 : balB zs
      · rw [dualB_bal h2]
        go_enter Try.func12, Try.ntmps12
        go_wp2_with fail
        refine (stGood_any _ _ _ zs (by omega) _ h).mono ?_
        rw [h1]
        rintro e w1 ⟨rfl, hb1⟩
        clear hl
        go_wp2_with fail
        refine (stBalanced_any _ _ _ zs hsm _ (h.ext hb1)).mono ?_
        rw [h2]
        rintro e w2 ⟨rfl, hb2⟩
        go_wp2
        go_ret2
        exact ⟨none, 0, rfl, own_nonePt _ _, hb1.trans hb2⟩
      · have hdb := dualB_ok h1 (by omega) h2
        have hsl := sidesD_len h1
        have HD := Lib.hid (stDual_any a n c zs h1 h2 (by omega))
        rw [hl] at hsl
        have hoa := okD_ans (S := sidesD zs) (by omega)
        have hal := ansD_len (sidesD zs)
        rw [hsl] at hal
        rw [hdb, hoa]
        generalize ansD (sidesD zs) = A at *
        clear hdb hoa hsl
        go_enter Try.func12, Try.ntmps12
        go_wp2_with fail
        refine (stGood_any _ _ _ zs (by omega) _ h).mono ?_
        rw [h1]
        rintro e w1 ⟨rfl, hb1⟩
        clear hl
        go_wp2_with fail
        refine (stBalanced_any _ _ _ zs hsm _ (h.ext hb1)).mono ?_
        rw [h2]
        rintro e w2 ⟨rfl, hb2⟩
        have hE2 := hb1.trans hb2
        go_wp2_with fail
        refine (HD.out _ (h.ext hE2)).mono ?_
        rintro e w3 ⟨a3, c3, rfl, hown3, hE3⟩
        rw [hal] at hown3 ⊢
        obtain ⟨g, rfl, hg1, hg2⟩ := own_head hown3 h00
        have HE3 := Lib.hid (hE2.trans hE3)
        have HO3 := Lib.hid (own_mono (Ext.size hE2) hown3)
        have HAL := Lib.hid hal
        clear hb1 hb2 hE2 hE3 hown3 hal HD h hsm
        go_wp2
        go_loopw [24] (fun t wr => ∃ (i : Nat), i ≤ n ∧ t = .int .i64 i ∧ Hid (∀ j, j < i → ptB (pat A j).1 (pat A j).2 = true) ∧ Ext w3 wr) (fun t _ => n - (intOf t).toNat)
        case atStart => exact ⟨0, Nat.zero_le _, rfl, Lib.hid (fun j hj => by omega), Ext.refl _⟩
        case round =>
          obtain ⟨i, hi, rfl, HP, hE⟩ := hrel
          by_cases hlt : i < n
          · obtain ⟨_, _, e1, z0, z1⟩ := (own_reads (own_ext hE HO3.out)).pair hlt
            simp only [Option.some.injEq, Addr.mk.injEq, and_true] at e1
            obtain ⟨rfl, rfl⟩ := e1
            have HN := Lib.hid (fun (e : ptB (pat A i).1 (pat A i).2 = false) => all_not (l := A) (j := i) (by have := HAL.out; omega) e)
            have HP1 := Lib.hid (fun (e : ptB (pat A i).1 (pat A i).2 = true) j (hj : j < i + 1) => show ptB (pat A j).1 (pat A j).2 = true by
              rcases (show j < i ∨ j = i by omega) with h | h
              · exact HP.out j h
              · subst h; exact e)
            have HPY := Lib.hid (fun w => pyOne_any (pat A i).1 (pat A i).2 w)
            generalize pat A i = z at *
            obtain ⟨zx, zy⟩ := z
            simp only [Nat.zero_add] at z0 z1 HPY HN HP1
            have HE4 := Lib.hid (HE3.out.trans hE)
            have HEk := Lib.hid hE
            clear HP hE
            cases hp : ptB zx zy
            · rw [hp] at HPY
              have HFA := Lib.hid (HN.out hp)
              clear HP1 HN
              go_wp2_with fail
              refine (HPY.out _).mono ?_
              rintro e w5 ⟨rfl, hb5⟩
              go_wp2
              go_ret2
              rw [HFA.out]
              exact ⟨none, 0, rfl, own_nonePt _ _, (HE4.out.alloc _).trans hb5⟩
            · rw [hp] at HPY
              have HP2 := Lib.hid (HP1.out hp)
              clear HP1 HN
              go_wp2_with fail
              refine (HPY.out _).mono ?_
              rintro e w5 ⟨rfl, hb5⟩
              go_wp2
              go_roundw
              case rel => exact ⟨i + 1, by omega, by go_num, HP2, (HEk.out.alloc _).trans hb5⟩
              case measure => simp [intOf]; omega
          · obtain rfl : n = i := by omega
            have hall : (A.all fun p => ptB p.1 p.2) = true := all_pat.2 (by rw [HAL.out]; exact HP.out)
            have HFA := Lib.hid hall
            have hEw := HE3.out.trans hE
            clear HP hall
            go_wp2
            go_ret2
            rw [HFA.out]
            exact ⟨some ⟨g, 0, none⟩, c3, (by simp [gP, HAL.out] <;> rfl), by simpa [gP, HAL.out] using own_ext hE HO3.out, hEw⟩
end Go.Proofs.Ytaloegjcdllgoaa
