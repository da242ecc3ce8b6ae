/-
  A line read of a text by the program; the law of ParseLine.
-/
import Derived.Test.YtgoaedhgkkbajaaDoorParseLW
namespace Go.Proofs.YtgoaedhgkkbajaaDoor
open Go.RowKit

set_option maxHeartbeats 4000000 in
set_option maxRecDepth 100000 in
set_option linter.unusedSimpArgs false in
theorem impl_ParseLine_any (l : List UInt8) (hl : l.length ≤ 1048576) (w : World) (he : Env w) :
    Calls Tryd.prog 29 #[.string (txt l)] w (LineIs (tellLn (lineI l) l) w) := by
  have HEN := Lib.hid (fun w' (e : Ext w w') => he.ext e)
  have HSW := Lib.hid (fun (g : Nat) w' (e : Ext w w') h0 h1 => splitWhole_any l 32 32 hl g w' h0 h1 (he.ext e))
  clear he
  have hlen := fun xs (h : wholeL [32, 32] l = some xs) => wholeL_len h
  cases hw : wholeL [32, 32] l
  · have HV := Lib.hid (show tellLn (lineI l) l = (0, 0, 0, false) by unfold lineI; rw [hw]; rfl)
    rw [hw] at HSW
    clear hw hlen
    go_enter Tryd.func29, Tryd.ntmps29
    go_wp2_with fail
    refine (HSW.out _ _ (by repeat (first | exact Ext.refl _ | assumption | apply Ext.alloc | apply Ext.drew | apply Ext.drewN | (refine Ext.trans ?_ (by assumption)) | (refine Ext.setCell ?_ (by (try simp) <;> omega) _))) (by simp) (by simp)).mono ?_
    rintro e w2 ⟨rfl, hb2⟩
    have HF0 := Lib.hid (fun w' (e : Ext (w.alloc (.cells #[.int .i64 0, .int .i64 0, .int .i64 0] 26)) w') => Ext.thaws (w := (w.alloc (.cells #[.int .i64 0, .int .i64 0, .int .i64 0] 26))) (b := w.heap.size) (o := 0) (v := .int .i64 0) (by simp) (by simp) w' e)
    have HF1 := Lib.hid (fun w' (e : Ext (w.alloc (.cells #[.int .i64 0, .int .i64 0, .int .i64 0] 26)) w') => Ext.thaws (w := (w.alloc (.cells #[.int .i64 0, .int .i64 0, .int .i64 0] 26))) (b := w.heap.size) (o := 1) (v := .int .i64 0) (by simp) (by simp) w' e)
    have HF2 := Lib.hid (fun w' (e : Ext (w.alloc (.cells #[.int .i64 0, .int .i64 0, .int .i64 0] 26)) w') => Ext.thaws (w := (w.alloc (.cells #[.int .i64 0, .int .i64 0, .int .i64 0] 26))) (b := w.heap.size) (o := 2) (v := .int .i64 0) (by simp) (by simp) w' e)
    have HC0 := Lib.hid (fun w' (e : Ext (w.alloc (.cells #[.int .i64 0, .int .i64 0, .int .i64 0] 26)) w') => e.keep (b := w.heap.size) (o := 0) (v := .int .i64 0) (by simp))
    have HC1 := Lib.hid (fun w' (e : Ext (w.alloc (.cells #[.int .i64 0, .int .i64 0, .int .i64 0] 26)) w') => e.keep (b := w.heap.size) (o := 1) (v := .int .i64 0) (by simp))
    have HC2 := Lib.hid (fun w' (e : Ext (w.alloc (.cells #[.int .i64 0, .int .i64 0, .int .i64 0] 26)) w') => e.keep (b := w.heap.size) (o := 2) (v := .int .i64 0) (by simp))
    have HW := Lib.hid (fun w' (e : Ext (w.alloc (.cells #[.int .i64 0, .int .i64 0, .int .i64 0] 26)) w') => show Ext w w' from Ext.trans (Ext.alloc (Ext.refl w) _) e)
    have e2 : Ext (w.alloc (.cells #[.int .i64 0, .int .i64 0, .int .i64 0] 26)) w2 := Ext.trans (Ext.alloc (Ext.refl _) _) hb2
    clear hb2
    have s0 := HC0.out _ e2
    have s1 := HC1.out _ e2
    have s2 := HC2.out _ e2
    have k0 := HF0.out _ e2
    have k1 := HF1.out _ e2
    have k2 := HF2.out _ e2
    have xx := HW.out _ e2
    go_wp2
    refine bodyPost_ret (v := .tuple #[.agg #[.int .i64 0, .int .i64 0, .int .i64 0], .bool false]) (by simp [results, Tryd.results29, go_sem, s0, s1, s2, k0, k1, k2]) rfl ⟨by rw [HV.out], ?_⟩
    exact Ext.setCell (Ext.setCell (Ext.setCell (xx) (Nat.le_refl _) _) (Nat.le_refl _) _) (Nat.le_refl _) _
  · rename_i xs
    obtain ⟨x, y, z, rfl⟩ : ∃ x y z, xs = [x, y, z] := by
      match xs, hlen xs hw with
      | [x, y, z], _ => exact ⟨x, y, z, rfl⟩
    have HCD := Lib.hid (show lineI l = some (x, y, z) by unfold lineI; rw [hw])
    rw [hw] at HSW
    clear hw hlen
    go_enter Tryd.func29, Tryd.ntmps29
    go_wp2_with fail
    refine (HSW.out _ _ (by repeat (first | exact Ext.refl _ | assumption | apply Ext.alloc | apply Ext.drew | apply Ext.drewN | (refine Ext.trans ?_ (by assumption)) | (refine Ext.setCell ?_ (by (try simp) <;> omega) _))) (by simp) (by simp)).mono ?_
    rintro e w2 ⟨a2, c2, rfl, hown, hb2⟩
    have HF0 := Lib.hid (fun w' (e : Ext (w.alloc (.cells #[.int .i64 0, .int .i64 0, .int .i64 0] 26)) w') => Ext.thaws (w := (w.alloc (.cells #[.int .i64 0, .int .i64 0, .int .i64 0] 26))) (b := w.heap.size) (o := 0) (v := .int .i64 0) (by simp) (by simp) w' e)
    have HF1 := Lib.hid (fun w' (e : Ext (w.alloc (.cells #[.int .i64 0, .int .i64 0, .int .i64 0] 26)) w') => Ext.thaws (w := (w.alloc (.cells #[.int .i64 0, .int .i64 0, .int .i64 0] 26))) (b := w.heap.size) (o := 1) (v := .int .i64 0) (by simp) (by simp) w' e)
    have HF2 := Lib.hid (fun w' (e : Ext (w.alloc (.cells #[.int .i64 0, .int .i64 0, .int .i64 0] 26)) w') => Ext.thaws (w := (w.alloc (.cells #[.int .i64 0, .int .i64 0, .int .i64 0] 26))) (b := w.heap.size) (o := 2) (v := .int .i64 0) (by simp) (by simp) w' e)
    have HC0 := Lib.hid (fun w' (e : Ext (w.alloc (.cells #[.int .i64 0, .int .i64 0, .int .i64 0] 26)) w') => e.keep (b := w.heap.size) (o := 0) (v := .int .i64 0) (by simp))
    have HC1 := Lib.hid (fun w' (e : Ext (w.alloc (.cells #[.int .i64 0, .int .i64 0, .int .i64 0] 26)) w') => e.keep (b := w.heap.size) (o := 1) (v := .int .i64 0) (by simp))
    have HC2 := Lib.hid (fun w' (e : Ext (w.alloc (.cells #[.int .i64 0, .int .i64 0, .int .i64 0] 26)) w') => e.keep (b := w.heap.size) (o := 2) (v := .int .i64 0) (by simp))
    have HW := Lib.hid (fun w' (e : Ext (w.alloc (.cells #[.int .i64 0, .int .i64 0, .int .i64 0] 26)) w') => show Ext w w' from Ext.trans (Ext.alloc (Ext.refl w) _) e)
    have e2 : Ext (w.alloc (.cells #[.int .i64 0, .int .i64 0, .int .i64 0] 26)) w2 := Ext.trans (Ext.alloc (Ext.refl _) _) hb2
    clear hb2
    obtain ⟨g, rfl, hg3, hg4⟩ := own_head hown (by simp)
    have c0 := Ext.keeps (show w2.cell? ⟨g, 0, none⟩ = some (.int .i64 x) from (hown.cellAt 0 (by simp)).trans (by simp [iv]))
    have c1 := Ext.keeps (show w2.cell? ⟨g, 1, none⟩ = some (.int .i64 y) from (hown.cellAt 1 (by simp)).trans (by simp [iv]))
    have c2 := Ext.keeps (show w2.cell? ⟨g, 2, none⟩ = some (.int .i64 z) from (hown.cellAt 2 (by simp)).trans (by simp [iv]))
    have HEr := Ext.refl w2
    clear hown
    go_wp2
    go_region_held3 (fun w' => Ext w2 w') ((repeat (first | exact Ext.refl _ | assumption | apply Ext.alloc | apply Ext.drew | apply Ext.drewN | (refine Ext.trans ?_ (by assumption)) | (refine Ext.setCell ?_ (by (try simp) <;> omega) _)))) (fail)
    obtain ⟨w5, hw5⟩ : ∃ w5, w5 = (w2.alloc (.cells #[.int .i64 x, .int .i64 y, .int .i64 z] 26)).drew := ⟨_, rfl⟩
    rw [← hw5]
    have e5 : Ext (w.alloc (.cells #[.int .i64 0, .int .i64 0, .int .i64 0] 26)) w5 := by rw [hw5]; exact Ext.drew (Ext.alloc e2 _)
    have q0 : w5.cell? ⟨w2.heap.size, 0, none⟩ = some (.int .i64 x) := by rw [hw5]; simp
    have q1 : w5.cell? ⟨w2.heap.size, 1, none⟩ = some (.int .i64 y) := by rw [hw5]; simp
    have q2 : w5.cell? ⟨w2.heap.size, 2, none⟩ = some (.int .i64 z) := by rw [hw5]; simp
    clear hw5
    cases hF : fin3 x y z
    · have HG := Lib.hid (fun w => isLine_any x y z w)
      rw [hF] at HG
      have HV := Lib.hid (show tellLn (lineI l) l = (0, 0, 0, false) by rw [HCD.out]; unfold tellLn; simp [hF])
      go_wp2_with fail
      refine (HG.out _).mono ?_
      rintro e w6 ⟨rfl, hb6⟩
      have e6 : Ext (w.alloc (.cells #[.int .i64 0, .int .i64 0, .int .i64 0] 26)) w6 := e5.trans hb6
      clear hb6
      have s0 := HC0.out _ e6
      have s1 := HC1.out _ e6
      have s2 := HC2.out _ e6
      have k0 := HF0.out _ e6
      have k1 := HF1.out _ e6
      have k2 := HF2.out _ e6
      have xx := HW.out _ e6
      go_wp2
      refine bodyPost_ret (v := .tuple #[.agg #[.int .i64 0, .int .i64 0, .int .i64 0], .bool false]) (by simp [results, Tryd.results29, go_sem, s0, s1, s2, k0, k1, k2]) rfl ⟨by rw [HV.out], ?_⟩
      exact Ext.setCell (Ext.setCell (Ext.setCell (xx) (Nat.le_refl _) _) (Nat.le_refl _) _) (Nat.le_refl _) _
    · have HG := Lib.hid (fun w => isLine_any x y z w)
      rw [hF] at HG
      have HX := Lib.hid (fun w' (e : Ext w w') => lineText_any x y z hF w' (HEN.out w' e).tab)
      go_wp2_with fail
      refine (HG.out _).mono ?_
      rintro e w6 ⟨rfl, hb6⟩
      have e6 : Ext (w.alloc (.cells #[.int .i64 0, .int .i64 0, .int .i64 0] 26)) w6 := e5.trans hb6
      replace q0 := hb6.keep q0
      replace q1 := hb6.keep q1
      replace q2 := hb6.keep q2
      clear hb6
      go_wp2_with fail
      refine (HX.out _ (HW.out _ e6)).mono ?_
      rintro e w7 ⟨rfl, hb7⟩
      have e7 : Ext (w.alloc (.cells #[.int .i64 0, .int .i64 0, .int .i64 0] 26)) w7 := e6.trans hb7
      replace q0 := hb7.keep q0
      replace q1 := hb7.keep q1
      replace q2 := hb7.keep q2
      clear hb7
      by_cases hE : lineT x y z = txt l
      · have HV := Lib.hid (show tellLn (lineI l) l = (x, y, z, true) by rw [HCD.out]; unfold tellLn; simp [hF, hE])
        have hq : ((lineT x y z).toList == (txt l).toList) = true := by rw [hE]; simp
        clear hE
        have s0 := HC0.out _ e7
        have s1 := HC1.out _ e7
        have s2 := HC2.out _ e7
        have k0 := HF0.out _ e7
        have k1 := HF1.out _ e7
        have k2 := HF2.out _ e7
        have xx := HW.out _ e7
        go_wp2
        refine bodyPost_ret (v := .tuple #[.agg #[.int .i64 x, .int .i64 y, .int .i64 z], .bool true]) (by simp [results, Tryd.results29, go_sem, s0, s1, s2, k0, k1, k2]) rfl ⟨by rw [HV.out], ?_⟩
        exact Ext.setCell (Ext.setCell (Ext.setCell (xx) (Nat.le_refl _) _) (Nat.le_refl _) _) (Nat.le_refl _) _
      · have HV := Lib.hid (show tellLn (lineI l) l = (0, 0, 0, false) by rw [HCD.out]; unfold tellLn; simp [hE])
        have hq : ((lineT x y z).toList == (txt l).toList) = false := by
          simp only [beq_eq_false_iff_ne, ne_eq]
          intro e
          apply hE
          rw [ByteArray.toList_eq, ByteArray.toList_eq] at e
          exact ByteArray.ext (Array.toList_inj.1 e)
        clear hE
        have s0 := HC0.out _ e7
        have s1 := HC1.out _ e7
        have s2 := HC2.out _ e7
        have k0 := HF0.out _ e7
        have k1 := HF1.out _ e7
        have k2 := HF2.out _ e7
        have xx := HW.out _ e7
        go_wp2
        refine bodyPost_ret (v := .tuple #[.agg #[.int .i64 0, .int .i64 0, .int .i64 0], .bool false]) (by simp [results, Tryd.results29, go_sem, s0, s1, s2, k0, k1, k2]) rfl ⟨by rw [HV.out], ?_⟩
        exact Ext.setCell (Ext.setCell (Ext.setCell (xx) (Nat.le_refl _) _) (Nat.le_refl _) _) (Nat.le_refl _) _
theorem spec_ParseLine_any (l : List UInt8) (hl : l.length ≤ 1048576) (w : World) :
    Calls Tryd.prog 28 #[.string (txt l)] w (LineIs (tellLn (lineI l) l) w) := by
  have := spec_ParseLine_any0 l hl w
  rwa [← tellLn_same l] at this
set_option maxHeartbeats 2000000 in
set_option maxRecDepth 100000 in
theorem law_ParseLine (s : ByteArray) (w : World) (hz : s.size ≤ maxLen) (he : Env w) :
    Calls Tryd.prog 8 #[.string s] w fun r w' => r = .returned (.bool true) ∧ Ext w w' := by
  unfold maxLen at hz
  by_cases hg : s.size ≤ 1048576
  rotate_left
  · go_enter Tryd.func8, Tryd.ntmps8
    go_wp2
    go_ret
    exact ⟨rfl, Ext.refl _⟩
  obtain ⟨l, rfl⟩ : ∃ l, s = txt l := ⟨s.data.toList, by apply ByteArray.ext; simp [txt]⟩
  have hl : l.length ≤ 1048576 := by rw [txt_size] at hg; exact hg
  obtain ⟨T, hT⟩ : ∃ T, T = tellLn (lineI l) l := ⟨_, rfl⟩
  have HS := Lib.hid (fun w => spec_ParseLine_any l hl w)
  have HI := Lib.hid (fun w' (e : Ext w w') => impl_ParseLine_any l hl w' (he.ext e))
  rw [← hT] at HS HI
  clear hT he
  obtain ⟨x, y, z, b⟩ := T
  go_enter Tryd.func8, Tryd.ntmps8
  go_wp2_with fail
  refine (HS.out _).mono ?_
  rintro e w1 ⟨rfl, hb1⟩
  go_wp2_with fail
  refine (HI.out _ (by repeat (first | exact Ext.refl _ | assumption | apply Ext.alloc | apply Ext.drew | apply Ext.drewN | (refine Ext.trans ?_ (by assumption)) | (refine Ext.setCell ?_ (by (try simp) <;> omega) _)))).mono ?_
  rintro e w2 ⟨rfl, hb2⟩
  have r0 := hb2.keep (b := w1.heap.size) (o := 0) (v := .int .i64 x) (by simp)
  have r1 := hb2.keep (b := w1.heap.size) (o := 1) (v := .int .i64 y) (by simp)
  have r2 := hb2.keep (b := w1.heap.size) (o := 2) (v := .int .i64 z) (by simp)
  have e2 : Ext w w2 := (hb1.alloc _).trans hb2
  have t0 := Ext.keep (Ext.alloc (Ext.refl w2) (.cells #[.int .i64 x, .int .i64 y, .int .i64 z] 26)) r0
  have t1 := Ext.keep (Ext.alloc (Ext.refl w2) (.cells #[.int .i64 x, .int .i64 y, .int .i64 z] 26)) r1
  have t2 := Ext.keep (Ext.alloc (Ext.refl w2) (.cells #[.int .i64 x, .int .i64 y, .int .i64 z] 26)) r2
  have hne : ¬ w1.heap.size = w2.heap.size := by have := hb2.size; simp at this; omega
  have hne2 : ¬ w2.heap.size = w1.heap.size := by have := hb2.size; simp at this; omega
  clear hb1 hb2
  go_wp2_with fail
  refine (eqLine_same _ _ _ _).mono ?_
  rintro e w3 ⟨rfl, hb3⟩
  have e3 : Ext w w3 := (e2.alloc _).trans hb3
  go_wp2
  go_ret
  exact ⟨rfl, e3⟩
end Go.Proofs.YtgoaedhgkkbajaaDoor
