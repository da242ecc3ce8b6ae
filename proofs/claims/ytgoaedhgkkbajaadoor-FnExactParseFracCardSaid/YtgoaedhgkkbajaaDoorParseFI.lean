/-
  A fraction read of a text: the program's walk; both sides tell the same.
-/
import Derived.Test.YtgoaedhgkkbajaaDoorEnv
import Derived.Test.YtgoaedhgkkbajaaDoorFracT
namespace Go.Proofs.YtgoaedhgkkbajaaDoor
open Go.RowKit

set_option maxHeartbeats 4000000 in
set_option maxRecDepth 100000 in
set_option linter.unusedSimpArgs false in
theorem impl_ParseFrac_any (l : List UInt8) (hl : l.length ≤ 1048576) (w : World) (he : Env w) :
    Calls Tryd.prog 26 #[.string (txt l)] w (FracIs (tellF (candI l) l) w) := by
  have HEN := Lib.hid (fun w' (e : Ext w w') => he.ext e)
  have hl1 : (Lib.cut l [47]).1.length ≤ 1048576 := Nat.le_trans (cut_len l [47]).1 hl
  have hl2 : (Lib.cut l [47]).2.1.length ≤ 1048576 := Nat.le_trans (cut_len l [47]).2 hl
  clear he
  cases ha1 : atV (Lib.cut l [47]).1 with
  | none =>
    cases hb : (Lib.cut l [47]).2.2
    · have HCD := Lib.hid (show candI l = none by unfold candI; simp [ha1, hb])
      have HT1 := Lib.hid (fun w' (e : Ext w w') => atoi_no _ ha1 hl1 w' (HEN.out w' e))
      have HCut := Lib.hid (fun w e => cut_any l 47 hl w (HEN.out w e))
      rw [hb] at HCut
      clear ha1 hb
      generalize (Lib.cut l [47]).1 = p at *
      generalize (Lib.cut l [47]).2.1 = d at *
      clear hl1 hl2
      go_enter Tryd.func26, Tryd.ntmps26
      go_wp2_with fail
      refine (HCut.out _ (by repeat (first | exact Ext.refl _ | assumption | apply Ext.alloc | apply Ext.drew | apply Ext.drewN | (refine Ext.trans ?_ (by assumption)) | (refine Ext.setCell ?_ (by (try simp) <;> omega) _)))).mono ?_
      rintro e w1 ⟨rfl, hb1⟩
      have HF20 := Lib.hid (fun w' (e : Ext (w.alloc (.cells #[.int .i64 0, .int .i64 0] 32)) w') => Ext.thaws (w := (w.alloc (.cells #[.int .i64 0, .int .i64 0] 32))) (b := w.heap.size) (o := 0) (v := .int .i64 0) (by simp) (by simp) w' e)
      have HF21 := Lib.hid (fun w' (e : Ext (w.alloc (.cells #[.int .i64 0, .int .i64 0] 32)) w') => Ext.thaws (w := (w.alloc (.cells #[.int .i64 0, .int .i64 0] 32))) (b := w.heap.size) (o := 1) (v := .int .i64 0) (by simp) (by simp) w' e)
      have HC20 := Lib.hid (fun w' (e : Ext (w.alloc (.cells #[.int .i64 0, .int .i64 0] 32)) w') => e.keep (b := w.heap.size) (o := 0) (v := .int .i64 0) (by simp))
      have HC21 := Lib.hid (fun w' (e : Ext (w.alloc (.cells #[.int .i64 0, .int .i64 0] 32)) w') => e.keep (b := w.heap.size) (o := 1) (v := .int .i64 0) (by simp))
      have HW := Lib.hid (fun w' (e : Ext (w.alloc (.cells #[.int .i64 0, .int .i64 0] 32)) w') => show Ext w w' from Ext.trans (Ext.alloc (Ext.refl w) _) e)
      have e1 : Ext (w.alloc (.cells #[.int .i64 0, .int .i64 0] 32)) w1 := (by repeat (first | exact Ext.refl _ | assumption | apply Ext.alloc | apply Ext.drew | apply Ext.drewN | (refine Ext.trans ?_ (by assumption)) | (refine Ext.setCell ?_ (by (try simp) <;> omega) _)))
      have x1 := HW.out _ e1
      clear hb1
      go_wp2_with fail
      refine (HT1.out _ x1).mono ?_
      rintro e w2 ⟨v1, N1, rfl, hb2⟩
      have e2 := e1.trans hb2
      have hz2 : w.heap.size < w2.heap.size := by have := e2.size; simp at this; omega
      clear e1 hb2 x1
      have hne : ¬ w.heap.size = w2.heap.size := by omega
      have hne2 : ¬ w2.heap.size = w.heap.size := by omega
      have HV := Lib.hid (show tellF (candI l) l = (0, 0, false) by rw [HCD.out]; rfl)
      have s20 := HC20.out _ e2
      have s21 := HC21.out _ e2
      have k20 := HF20.out _ e2
      have k21 := HF21.out _ e2
      have xx := HW.out _ e2
      go_wp2
      refine bodyPost_ret (v := .tuple #[.agg #[.int .i64 0, .int .i64 0], .bool false]) (by simp [results, Tryd.results26, go_sem, s20, s21, k20, k21, World.cell?_alloc_lt, hz2]) rfl ⟨by rw [HV.out], ?_⟩
      exact Ext.alloc (Ext.setCell (Ext.setCell xx (Nat.le_refl _) _) (Nat.le_refl _) _) _
    · have HCD := Lib.hid (show candI l = none by unfold candI; simp [ha1, hb])
      have HT1 := Lib.hid (fun w' (e : Ext w w') => atoi_no _ ha1 hl1 w' (HEN.out w' e))
      have HCut := Lib.hid (fun w e => cut_any l 47 hl w (HEN.out w e))
      rw [hb] at HCut
      clear ha1 hb
      generalize (Lib.cut l [47]).1 = p at *
      generalize (Lib.cut l [47]).2.1 = d at *
      clear hl1 hl2
      go_enter Tryd.func26, Tryd.ntmps26
      go_wp2_with fail
      refine (HCut.out _ (by repeat (first | exact Ext.refl _ | assumption | apply Ext.alloc | apply Ext.drew | apply Ext.drewN | (refine Ext.trans ?_ (by assumption)) | (refine Ext.setCell ?_ (by (try simp) <;> omega) _)))).mono ?_
      rintro e w1 ⟨rfl, hb1⟩
      have HF20 := Lib.hid (fun w' (e : Ext (w.alloc (.cells #[.int .i64 0, .int .i64 0] 32)) w') => Ext.thaws (w := (w.alloc (.cells #[.int .i64 0, .int .i64 0] 32))) (b := w.heap.size) (o := 0) (v := .int .i64 0) (by simp) (by simp) w' e)
      have HF21 := Lib.hid (fun w' (e : Ext (w.alloc (.cells #[.int .i64 0, .int .i64 0] 32)) w') => Ext.thaws (w := (w.alloc (.cells #[.int .i64 0, .int .i64 0] 32))) (b := w.heap.size) (o := 1) (v := .int .i64 0) (by simp) (by simp) w' e)
      have HC20 := Lib.hid (fun w' (e : Ext (w.alloc (.cells #[.int .i64 0, .int .i64 0] 32)) w') => e.keep (b := w.heap.size) (o := 0) (v := .int .i64 0) (by simp))
      have HC21 := Lib.hid (fun w' (e : Ext (w.alloc (.cells #[.int .i64 0, .int .i64 0] 32)) w') => e.keep (b := w.heap.size) (o := 1) (v := .int .i64 0) (by simp))
      have HW := Lib.hid (fun w' (e : Ext (w.alloc (.cells #[.int .i64 0, .int .i64 0] 32)) w') => show Ext w w' from Ext.trans (Ext.alloc (Ext.refl w) _) e)
      have e1 : Ext (w.alloc (.cells #[.int .i64 0, .int .i64 0] 32)) w1 := (by repeat (first | exact Ext.refl _ | assumption | apply Ext.alloc | apply Ext.drew | apply Ext.drewN | (refine Ext.trans ?_ (by assumption)) | (refine Ext.setCell ?_ (by (try simp) <;> omega) _)))
      have x1 := HW.out _ e1
      clear hb1
      go_wp2_with fail
      refine (HT1.out _ x1).mono ?_
      rintro e w2 ⟨v1, N1, rfl, hb2⟩
      have e2 := e1.trans hb2
      have hz2 : w.heap.size < w2.heap.size := by have := e2.size; simp at this; omega
      clear e1 hb2 x1
      have hne : ¬ w.heap.size = w2.heap.size := by omega
      have hne2 : ¬ w2.heap.size = w.heap.size := by omega
      have HV := Lib.hid (show tellF (candI l) l = (0, 0, false) by rw [HCD.out]; rfl)
      have s20 := HC20.out _ e2
      have s21 := HC21.out _ e2
      have k20 := HF20.out _ e2
      have k21 := HF21.out _ e2
      have xx := HW.out _ e2
      go_wp2
      refine bodyPost_ret (v := .tuple #[.agg #[.int .i64 0, .int .i64 0], .bool false]) (by simp [results, Tryd.results26, go_sem, s20, s21, k20, k21, World.cell?_alloc_lt, hz2]) rfl ⟨by rw [HV.out], ?_⟩
      exact Ext.alloc (Ext.setCell (Ext.setCell xx (Nat.le_refl _) _) (Nat.le_refl _) _) _
  | some N =>
    cases hb : (Lib.cut l [47]).2.2
    · have HCD := Lib.hid (show candI l = some (N, 1) by unfold candI; simp [ha1, hb])
      have HT1 := Lib.hid (fun w' (e : Ext w w') => atoi_yes _ N ha1 hl1 w')
      have HCut := Lib.hid (fun w e => cut_any l 47 hl w (HEN.out w e))
      rw [hb] at HCut
      clear ha1 hb
      generalize (Lib.cut l [47]).1 = p at *
      generalize (Lib.cut l [47]).2.1 = d at *
      clear hl1 hl2
      go_enter Tryd.func26, Tryd.ntmps26
      go_wp2_with fail
      refine (HCut.out _ (by repeat (first | exact Ext.refl _ | assumption | apply Ext.alloc | apply Ext.drew | apply Ext.drewN | (refine Ext.trans ?_ (by assumption)) | (refine Ext.setCell ?_ (by (try simp) <;> omega) _)))).mono ?_
      rintro e w1 ⟨rfl, hb1⟩
      have HF20 := Lib.hid (fun w' (e : Ext (w.alloc (.cells #[.int .i64 0, .int .i64 0] 32)) w') => Ext.thaws (w := (w.alloc (.cells #[.int .i64 0, .int .i64 0] 32))) (b := w.heap.size) (o := 0) (v := .int .i64 0) (by simp) (by simp) w' e)
      have HF21 := Lib.hid (fun w' (e : Ext (w.alloc (.cells #[.int .i64 0, .int .i64 0] 32)) w') => Ext.thaws (w := (w.alloc (.cells #[.int .i64 0, .int .i64 0] 32))) (b := w.heap.size) (o := 1) (v := .int .i64 0) (by simp) (by simp) w' e)
      have HC20 := Lib.hid (fun w' (e : Ext (w.alloc (.cells #[.int .i64 0, .int .i64 0] 32)) w') => e.keep (b := w.heap.size) (o := 0) (v := .int .i64 0) (by simp))
      have HC21 := Lib.hid (fun w' (e : Ext (w.alloc (.cells #[.int .i64 0, .int .i64 0] 32)) w') => e.keep (b := w.heap.size) (o := 1) (v := .int .i64 0) (by simp))
      have HW := Lib.hid (fun w' (e : Ext (w.alloc (.cells #[.int .i64 0, .int .i64 0] 32)) w') => show Ext w w' from Ext.trans (Ext.alloc (Ext.refl w) _) e)
      have e1 : Ext (w.alloc (.cells #[.int .i64 0, .int .i64 0] 32)) w1 := (by repeat (first | exact Ext.refl _ | assumption | apply Ext.alloc | apply Ext.drew | apply Ext.drewN | (refine Ext.trans ?_ (by assumption)) | (refine Ext.setCell ?_ (by (try simp) <;> omega) _)))
      have x1 := HW.out _ e1
      clear hb1
      go_wp2_with fail
      refine (HT1.out _ x1).mono ?_
      rintro e w2 ⟨rfl, hb2⟩
      have e2 := e1.trans hb2
      have hz2 : w.heap.size < w2.heap.size := by have := e2.size; simp at this; omega
      clear e1 hb2 x1
      have hne : ¬ w.heap.size = w2.heap.size := by omega
      have hne2 : ¬ w2.heap.size = w.heap.size := by omega
      cases hF : fracB N 1
      · have HG := Lib.hid (fun w => isFrac_any N 1 w)
        rw [hF] at HG
        have HV := Lib.hid (show tellF (candI l) l = (0, 0, false) by rw [HCD.out]; unfold tellF; simp [hF])
        go_wp2_with fail
        refine (HG.out _).mono ?_
        rintro e w5 ⟨rfl, hb5⟩
        have e5 : Ext (w.alloc (.cells #[.int .i64 0, .int .i64 0] 32)) w5 := (e2.alloc _).trans hb5
        clear hb5
        have s20 := HC20.out _ e5
        have s21 := HC21.out _ e5
        have k20 := HF20.out _ e5
        have k21 := HF21.out _ e5
        have xx := HW.out _ e5
        go_wp2
        refine bodyPost_ret (v := .tuple #[.agg #[.int .i64 0, .int .i64 0], .bool false]) (by simp [results, Tryd.results26, go_sem, s20, s21, k20, k21]) rfl ⟨by rw [HV.out], ?_⟩
        exact Ext.setCell (Ext.setCell (xx) (Nat.le_refl _) _) (Nat.le_refl _) _
      · have HG := Lib.hid (fun w => isFrac_any N 1 w)
        rw [hF] at HG
        obtain ⟨bx, by', _⟩ := fracB_true.1 hF
        have HX := Lib.hid (fun w' (e : Ext w w') => fracText_any N 1 bx by' w' (HEN.out w' e).tab)
        clear bx by'
        go_wp2_with fail
        refine (HG.out _).mono ?_
        rintro e w5 ⟨rfl, hb5⟩
        have e5 : Ext (w.alloc (.cells #[.int .i64 0, .int .i64 0] 32)) w5 := (e2.alloc _).trans hb5
        have r0 := hb5.keep (b := w2.heap.size) (o := 0) (v := .int .i64 N) (by simp)
        have r1 := hb5.keep (b := w2.heap.size) (o := 1) (v := .int .i64 1) (by simp)
        clear hb5
        go_wp2_with fail
        refine (HX.out _ (HW.out _ e5)).mono ?_
        rintro e w6 ⟨rfl, hb6⟩
        have e6 : Ext (w.alloc (.cells #[.int .i64 0, .int .i64 0] 32)) w6 := e5.trans hb6
        replace r0 := hb6.keep r0
        replace r1 := hb6.keep r1
        clear hb6 e5
        by_cases hE : fracT N 1 = txt l
        · have HV := Lib.hid (show tellF (candI l) l = (N, 1, true) by rw [HCD.out]; unfold tellF; simp [hF, hE])
          have hq : ((fracT N 1).toList == (txt l).toList) = true := by rw [hE]; simp
          clear hE
          have s20 := HC20.out _ e6
          have s21 := HC21.out _ e6
          have k20 := HF20.out _ e6
          have k21 := HF21.out _ e6
          have xx := HW.out _ e6
          go_wp2
          refine bodyPost_ret (v := .tuple #[.agg #[.int .i64 N, .int .i64 1], .bool true]) (by simp [results, Tryd.results26, go_sem, s20, s21, k20, k21]) rfl ⟨by rw [HV.out], ?_⟩
          exact Ext.setCell (Ext.setCell (xx) (Nat.le_refl _) _) (Nat.le_refl _) _
        · have HV := Lib.hid (show tellF (candI l) l = (0, 0, false) by rw [HCD.out]; unfold tellF; simp [hE])
          have hq : ((fracT N 1).toList == (txt l).toList) = false := by
            simp only [beq_eq_false_iff_ne, ne_eq]
            intro e
            apply hE
            rw [ByteArray.toList_eq, ByteArray.toList_eq] at e
            exact ByteArray.ext (Array.toList_inj.1 e)
          clear hE
          have s20 := HC20.out _ e6
          have s21 := HC21.out _ e6
          have k20 := HF20.out _ e6
          have k21 := HF21.out _ e6
          have xx := HW.out _ e6
          go_wp2
          refine bodyPost_ret (v := .tuple #[.agg #[.int .i64 0, .int .i64 0], .bool false]) (by simp [results, Tryd.results26, go_sem, s20, s21, k20, k21]) rfl ⟨by rw [HV.out], ?_⟩
          exact Ext.setCell (Ext.setCell (xx) (Nat.le_refl _) _) (Nat.le_refl _) _
    · cases ha2 : atV (Lib.cut l [47]).2.1 with
      | none =>
        · have HCD := Lib.hid (show candI l = none by unfold candI; simp [ha1, hb, ha2])
          have HT1 := Lib.hid (fun w' (e : Ext w w') => atoi_yes _ N ha1 hl1 w')
          have HT2 := Lib.hid (fun w' (e : Ext w w') => atoi_no _ ha2 hl2 w' (HEN.out w' e))
          have HCut := Lib.hid (fun w e => cut_any l 47 hl w (HEN.out w e))
          rw [hb] at HCut
          clear ha1 hb ha2
          generalize (Lib.cut l [47]).1 = p at *
          generalize (Lib.cut l [47]).2.1 = d at *
          clear hl1 hl2
          go_enter Tryd.func26, Tryd.ntmps26
          go_wp2_with fail
          refine (HCut.out _ (by repeat (first | exact Ext.refl _ | assumption | apply Ext.alloc | apply Ext.drew | apply Ext.drewN | (refine Ext.trans ?_ (by assumption)) | (refine Ext.setCell ?_ (by (try simp) <;> omega) _)))).mono ?_
          rintro e w1 ⟨rfl, hb1⟩
          have HF20 := Lib.hid (fun w' (e : Ext (w.alloc (.cells #[.int .i64 0, .int .i64 0] 32)) w') => Ext.thaws (w := (w.alloc (.cells #[.int .i64 0, .int .i64 0] 32))) (b := w.heap.size) (o := 0) (v := .int .i64 0) (by simp) (by simp) w' e)
          have HF21 := Lib.hid (fun w' (e : Ext (w.alloc (.cells #[.int .i64 0, .int .i64 0] 32)) w') => Ext.thaws (w := (w.alloc (.cells #[.int .i64 0, .int .i64 0] 32))) (b := w.heap.size) (o := 1) (v := .int .i64 0) (by simp) (by simp) w' e)
          have HC20 := Lib.hid (fun w' (e : Ext (w.alloc (.cells #[.int .i64 0, .int .i64 0] 32)) w') => e.keep (b := w.heap.size) (o := 0) (v := .int .i64 0) (by simp))
          have HC21 := Lib.hid (fun w' (e : Ext (w.alloc (.cells #[.int .i64 0, .int .i64 0] 32)) w') => e.keep (b := w.heap.size) (o := 1) (v := .int .i64 0) (by simp))
          have HW := Lib.hid (fun w' (e : Ext (w.alloc (.cells #[.int .i64 0, .int .i64 0] 32)) w') => show Ext w w' from Ext.trans (Ext.alloc (Ext.refl w) _) e)
          have e1 : Ext (w.alloc (.cells #[.int .i64 0, .int .i64 0] 32)) w1 := (by repeat (first | exact Ext.refl _ | assumption | apply Ext.alloc | apply Ext.drew | apply Ext.drewN | (refine Ext.trans ?_ (by assumption)) | (refine Ext.setCell ?_ (by (try simp) <;> omega) _)))
          have x1 := HW.out _ e1
          clear hb1
          go_wp2_with fail
          refine (HT1.out _ x1).mono ?_
          rintro e w2 ⟨rfl, hb2⟩
          have e2 := e1.trans hb2
          have hz2 : w.heap.size < w2.heap.size := by have := e2.size; simp at this; omega
          clear e1 hb2 x1
          have hne : ¬ w.heap.size = w2.heap.size := by omega
          have hne2 : ¬ w2.heap.size = w.heap.size := by omega
          go_wp2_with fail
          refine (HT2.out _ (HW.out _ (e2.alloc _))).mono ?_
          rintro e w3 ⟨v2, N2, rfl, hb3⟩
          have q0 := hb3.keep (b := w2.heap.size) (o := 0) (v := .int .i64 N) (by simp)
          have q1 := hb3.keep (b := w2.heap.size) (o := 1) (v := .int .i64 1) (by simp)
          have g0 := Ext.thaws (b := w2.heap.size) (o := 0) (v := .int .i64 N) (by simp) (by simp) _ hb3
          have g1 := Ext.thaws (b := w2.heap.size) (o := 1) (v := .int .i64 1) (by simp) (by simp) _ hb3
          have e3 : Ext (w.alloc (.cells #[.int .i64 0, .int .i64 0] 32)) w3 := (e2.alloc _).trans hb3
          have hz3 : w2.heap.size < w3.heap.size := by have := hb3.size; simp at this; omega
          clear hb3
          have HV := Lib.hid (show tellF (candI l) l = (0, 0, false) by rw [HCD.out]; rfl)
          have e0 : Ext (w.alloc (.cells #[.int .i64 0, .int .i64 0] 32)) (w3.setCell ⟨w2.heap.size, 1, none⟩ (.int .i64 v2)) := e3.setCell (by simp; omega) _
          have m0 := HC20.out _ e3
          have m1 := HC21.out _ e3
          have m2 := HF20.out _ e3
          have m3 := HF21.out _ e3
          have s20 := HC20.out _ e0
          have s21 := HC21.out _ e0
          have k20 := HF20.out _ e0
          have k21 := HF21.out _ e0
          have xx := HW.out _ e0
          go_wp2
          refine bodyPost_ret (v := .tuple #[.agg #[.int .i64 0, .int .i64 0], .bool false]) (by simp [results, Tryd.results26, go_sem, s20, s21, k20, k21]) rfl ⟨by rw [HV.out], ?_⟩
          exact Ext.setCell (Ext.setCell (xx) (Nat.le_refl _) _) (Nat.le_refl _) _
      | some D =>
        · have HCD := Lib.hid (show candI l = some (N, D) by unfold candI; simp [ha1, hb, ha2])
          have HT1 := Lib.hid (fun w' (e : Ext w w') => atoi_yes _ N ha1 hl1 w')
          have HT2 := Lib.hid (fun w' (e : Ext w w') => atoi_yes _ D ha2 hl2 w')
          have HCut := Lib.hid (fun w e => cut_any l 47 hl w (HEN.out w e))
          rw [hb] at HCut
          clear ha1 hb ha2
          generalize (Lib.cut l [47]).1 = p at *
          generalize (Lib.cut l [47]).2.1 = d at *
          clear hl1 hl2
          go_enter Tryd.func26, Tryd.ntmps26
          go_wp2_with fail
          refine (HCut.out _ (by repeat (first | exact Ext.refl _ | assumption | apply Ext.alloc | apply Ext.drew | apply Ext.drewN | (refine Ext.trans ?_ (by assumption)) | (refine Ext.setCell ?_ (by (try simp) <;> omega) _)))).mono ?_
          rintro e w1 ⟨rfl, hb1⟩
          have HF20 := Lib.hid (fun w' (e : Ext (w.alloc (.cells #[.int .i64 0, .int .i64 0] 32)) w') => Ext.thaws (w := (w.alloc (.cells #[.int .i64 0, .int .i64 0] 32))) (b := w.heap.size) (o := 0) (v := .int .i64 0) (by simp) (by simp) w' e)
          have HF21 := Lib.hid (fun w' (e : Ext (w.alloc (.cells #[.int .i64 0, .int .i64 0] 32)) w') => Ext.thaws (w := (w.alloc (.cells #[.int .i64 0, .int .i64 0] 32))) (b := w.heap.size) (o := 1) (v := .int .i64 0) (by simp) (by simp) w' e)
          have HC20 := Lib.hid (fun w' (e : Ext (w.alloc (.cells #[.int .i64 0, .int .i64 0] 32)) w') => e.keep (b := w.heap.size) (o := 0) (v := .int .i64 0) (by simp))
          have HC21 := Lib.hid (fun w' (e : Ext (w.alloc (.cells #[.int .i64 0, .int .i64 0] 32)) w') => e.keep (b := w.heap.size) (o := 1) (v := .int .i64 0) (by simp))
          have HW := Lib.hid (fun w' (e : Ext (w.alloc (.cells #[.int .i64 0, .int .i64 0] 32)) w') => show Ext w w' from Ext.trans (Ext.alloc (Ext.refl w) _) e)
          have e1 : Ext (w.alloc (.cells #[.int .i64 0, .int .i64 0] 32)) w1 := (by repeat (first | exact Ext.refl _ | assumption | apply Ext.alloc | apply Ext.drew | apply Ext.drewN | (refine Ext.trans ?_ (by assumption)) | (refine Ext.setCell ?_ (by (try simp) <;> omega) _)))
          have x1 := HW.out _ e1
          clear hb1
          go_wp2_with fail
          refine (HT1.out _ x1).mono ?_
          rintro e w2 ⟨rfl, hb2⟩
          have e2 := e1.trans hb2
          have hz2 : w.heap.size < w2.heap.size := by have := e2.size; simp at this; omega
          clear e1 hb2 x1
          have hne : ¬ w.heap.size = w2.heap.size := by omega
          have hne2 : ¬ w2.heap.size = w.heap.size := by omega
          go_wp2_with fail
          refine (HT2.out _ (HW.out _ (e2.alloc _))).mono ?_
          rintro e w3 ⟨rfl, hb3⟩
          have q0 := hb3.keep (b := w2.heap.size) (o := 0) (v := .int .i64 N) (by simp)
          have q1 := hb3.keep (b := w2.heap.size) (o := 1) (v := .int .i64 1) (by simp)
          have g0 := Ext.thaws (b := w2.heap.size) (o := 0) (v := .int .i64 N) (by simp) (by simp) _ hb3
          have g1 := Ext.thaws (b := w2.heap.size) (o := 1) (v := .int .i64 1) (by simp) (by simp) _ hb3
          have e3 : Ext (w.alloc (.cells #[.int .i64 0, .int .i64 0] 32)) w3 := (e2.alloc _).trans hb3
          have hz3 : w2.heap.size < w3.heap.size := by have := hb3.size; simp at this; omega
          clear hb3
          obtain ⟨w4, hw4⟩ : ∃ w4, w4 = w3.setCell ⟨w2.heap.size, 1, none⟩ (.int .i64 D) := ⟨_, rfl⟩
          have e4 : Ext (w.alloc (.cells #[.int .i64 0, .int .i64 0] 32)) w4 := by rw [hw4]; exact e3.setCell (by simp; omega) _
          have r0 : w4.cell? ⟨w2.heap.size, 0, none⟩ = some (.int .i64 N) := by rw [hw4]; exact (World.cell?_setCell_other _ _ _ _ (by simp)).trans q0
          have r1 : w4.cell? ⟨w2.heap.size, 1, none⟩ = some (.int .i64 D) := by rw [hw4]; exact World.cell?_setCell_same _ _ _ q1
          clear e3 e2
          cases hF : fracB N D
          · have HG := Lib.hid (fun w => isFrac_any N D w)
            rw [hF] at HG
            have HV := Lib.hid (show tellF (candI l) l = (0, 0, false) by rw [HCD.out]; unfold tellF; simp [hF])
            go_wp2_with fail
            rw [← hw4]
            clear hw4 q0 q1 g0 g1
            refine (HG.out _).mono ?_
            rintro e w5 ⟨rfl, hb5⟩
            have e5 : Ext (w.alloc (.cells #[.int .i64 0, .int .i64 0] 32)) w5 := e4.trans hb5
            clear hb5
            have s20 := HC20.out _ e5
            have s21 := HC21.out _ e5
            have k20 := HF20.out _ e5
            have k21 := HF21.out _ e5
            have xx := HW.out _ e5
            go_wp2
            refine bodyPost_ret (v := .tuple #[.agg #[.int .i64 0, .int .i64 0], .bool false]) (by simp [results, Tryd.results26, go_sem, s20, s21, k20, k21]) rfl ⟨by rw [HV.out], ?_⟩
            exact Ext.setCell (Ext.setCell (xx) (Nat.le_refl _) _) (Nat.le_refl _) _
          · have HG := Lib.hid (fun w => isFrac_any N D w)
            rw [hF] at HG
            obtain ⟨bx, by', _⟩ := fracB_true.1 hF
            have HX := Lib.hid (fun w' (e : Ext w w') => fracText_any N D bx by' w' (HEN.out w' e).tab)
            clear bx by'
            go_wp2_with fail
            rw [← hw4]
            clear hw4 q0 q1 g0 g1
            refine (HG.out _).mono ?_
            rintro e w5 ⟨rfl, hb5⟩
            have e5 : Ext (w.alloc (.cells #[.int .i64 0, .int .i64 0] 32)) w5 := e4.trans hb5
            replace r0 := hb5.keep r0
            replace r1 := hb5.keep r1
            clear hb5
            go_wp2_with fail
            refine (HX.out _ (HW.out _ e5)).mono ?_
            rintro e w6 ⟨rfl, hb6⟩
            have e6 : Ext (w.alloc (.cells #[.int .i64 0, .int .i64 0] 32)) w6 := e5.trans hb6
            replace r0 := hb6.keep r0
            replace r1 := hb6.keep r1
            clear hb6 e5
            by_cases hE : fracT N D = txt l
            · have HV := Lib.hid (show tellF (candI l) l = (N, D, true) by rw [HCD.out]; unfold tellF; simp [hF, hE])
              have hq : ((fracT N D).toList == (txt l).toList) = true := by rw [hE]; simp
              clear hE
              have s20 := HC20.out _ e6
              have s21 := HC21.out _ e6
              have k20 := HF20.out _ e6
              have k21 := HF21.out _ e6
              have xx := HW.out _ e6
              go_wp2
              refine bodyPost_ret (v := .tuple #[.agg #[.int .i64 N, .int .i64 D], .bool true]) (by simp [results, Tryd.results26, go_sem, s20, s21, k20, k21]) rfl ⟨by rw [HV.out], ?_⟩
              exact Ext.setCell (Ext.setCell (xx) (Nat.le_refl _) _) (Nat.le_refl _) _
            · have HV := Lib.hid (show tellF (candI l) l = (0, 0, false) by rw [HCD.out]; unfold tellF; simp [hE])
              have hq : ((fracT N D).toList == (txt l).toList) = false := by
                simp only [beq_eq_false_iff_ne, ne_eq]
                intro e
                apply hE
                rw [ByteArray.toList_eq, ByteArray.toList_eq] at e
                exact ByteArray.ext (Array.toList_inj.1 e)
              clear hE
              have s20 := HC20.out _ e6
              have s21 := HC21.out _ e6
              have k20 := HF20.out _ e6
              have k21 := HF21.out _ e6
              have xx := HW.out _ e6
              go_wp2
              refine bodyPost_ret (v := .tuple #[.agg #[.int .i64 0, .int .i64 0], .bool false]) (by simp [results, Tryd.results26, go_sem, s20, s21, k20, k21]) rfl ⟨by rw [HV.out], ?_⟩
              exact Ext.setCell (Ext.setCell (xx) (Nat.le_refl _) _) (Nat.le_refl _) _
theorem tell_same (l : List UInt8) : tellF (candI l) l = tellF (candL l) l := by
  have key : ∀ c : Option (Int × Int), ∀ x y : Int, (fracB x y = true ∧ fracT x y = txt l) → (c = some (x, y) → tellF c l = (x, y, true)) := by
    rintro c x y h rfl
    unfold tellF
    simp only
    rw [if_pos h]
  by_cases hx : ∃ x y : Int, fracB x y = true ∧ fracT x y = txt l
  · obtain ⟨x, y, h1, h2⟩ := hx
    obtain ⟨bx, by', _⟩ := fracB_true.1 h1
    have hl : l = fracL x y := by
      apply txt_inj
      rw [← h2]
      unfold fracT fracL
      split
      · rfl
      · rw [show (⟨#[47]⟩ : ByteArray) = txt [47] from rfl, txt_app, txt_app]; simp
    rw [key _ x y ⟨h1, h2⟩ (by rw [hl]; exact candI_frac bx by'), key _ x y ⟨h1, h2⟩ (by rw [hl]; exact cand_frac bx by')]
  · have no : ∀ c, tellF c l = (0, 0, false) := by
      intro c
      unfold tellF
      split
      · rename_i x y
        rw [if_neg fun h => hx ⟨x, y, h⟩]
      · rfl
    rw [no, no]
set_option linter.unusedSimpArgs false in
theorem spec_ParseFrac_any (l : List UInt8) (hl : l.length ≤ 1048576) (w : World) :
    Calls Tryd.prog 25 #[.string (txt l)] w (FracIs (tellF (candI l) l) w) := by
  have HP := Lib.hid (fun w => frParse_any l hl w)
  rw [← tell_same l] at HP
  generalize tellF (candI l) l = T at *
  obtain ⟨x, y, b⟩ := T
  go_enter Tryd.func25, Tryd.ntmps25
  go_wp2_with fail
  refine (HP.out _).mono ?_
  rintro e w1 ⟨rfl, hb1⟩
  have s20 := hb1.keep (b := w.heap.size) (o := 0) (v := .int .i64 0) (by simp)
  have s21 := hb1.keep (b := w.heap.size) (o := 1) (v := .int .i64 0) (by simp)
  have k20 := Ext.thaws (b := w.heap.size) (o := 0) (v := .int .i64 0) (by simp) (by simp) _ hb1
  have k21 := Ext.thaws (b := w.heap.size) (o := 1) (v := .int .i64 0) (by simp) (by simp) _ hb1
  have xx : Ext w w1 := Ext.trans (Ext.alloc (Ext.refl w) _) hb1
  go_wp2
  refine bodyPost_ret (v := .tuple #[.agg #[.int .i64 x, .int .i64 y], .bool b]) (by simp [results, Tryd.results25, go_sem, s20, s21, k20, k21]) rfl ⟨rfl, ?_⟩
  exact Ext.setCell (Ext.setCell xx (Nat.le_refl _) _) (Nat.le_refl _) _
set_option maxHeartbeats 2000000 in
set_option maxRecDepth 100000 in
theorem law_ParseFrac (s : ByteArray) (w : World) (hz : s.size ≤ maxLen) (he : Env w) :
    Calls Tryd.prog 7 #[.string s] w fun r w' => r = .returned (.bool true) ∧ Ext w w' := by
  unfold maxLen at hz
  by_cases hg : s.size ≤ 1048576
  rotate_left
  · go_enter Tryd.func7, Tryd.ntmps7
    go_wp2
    go_ret
    exact ⟨rfl, Ext.refl _⟩
  obtain ⟨l, rfl⟩ : ∃ l, s = txt l := ⟨s.data.toList, by apply ByteArray.ext; simp [txt]⟩
  have hl : l.length ≤ 1048576 := by rw [txt_size] at hg; exact hg
  obtain ⟨T, hT⟩ : ∃ T, T = tellF (candI l) l := ⟨_, rfl⟩
  have HS := Lib.hid (fun w => spec_ParseFrac_any l hl w)
  have HI := Lib.hid (fun w' (e : Ext w w') => impl_ParseFrac_any l hl w' (he.ext e))
  rw [← hT] at HS HI
  clear hT he
  obtain ⟨x, y, b⟩ := T
  go_enter Tryd.func7, Tryd.ntmps7
  go_wp2_with fail
  refine (HS.out _).mono ?_
  rintro e w1 ⟨rfl, hb1⟩
  go_wp2_with fail
  refine (HI.out _ (by repeat (first | exact Ext.refl _ | assumption | apply Ext.alloc | apply Ext.drew | apply Ext.drewN | (refine Ext.trans ?_ (by assumption)) | (refine Ext.setCell ?_ (by (try simp) <;> omega) _)))).mono ?_
  rintro e w2 ⟨rfl, hb2⟩
  have r0 := hb2.keep (b := w1.heap.size) (o := 0) (v := .int .i64 x) (by simp)
  have r1 := hb2.keep (b := w1.heap.size) (o := 1) (v := .int .i64 y) (by simp)
  have e2 : Ext w w2 := (hb1.alloc _).trans hb2
  have t0 := Ext.keep (Ext.alloc (Ext.refl w2) (.cells #[.int .i64 x, .int .i64 y] 32)) r0
  have t1 := Ext.keep (Ext.alloc (Ext.refl w2) (.cells #[.int .i64 x, .int .i64 y] 32)) r1
  have hne : ¬ w1.heap.size = w2.heap.size := by have := hb2.size; simp at this; omega
  have hne2 : ¬ w2.heap.size = w1.heap.size := by have := hb2.size; simp at this; omega
  clear hb1 hb2
  go_wp2_with fail
  refine (eqFrac_same _ _ _).mono ?_
  rintro e w3 ⟨rfl, hb3⟩
  have e3 : Ext w w3 := (e2.alloc _).trans hb3
  go_wp2
  go_ret
  exact ⟨rfl, e3⟩
end Go.Proofs.YtgoaedhgkkbajaaDoor
