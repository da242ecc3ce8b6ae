/-
  A fraction read of a text: the reference's walk.
-/
import Derived.Test.YtgoaedhgkkbajaaDoorParseF
import Derived.Test.YtgoaedhgkkbajaaDoorFracT
import Derived.Test.YtgoaedhgkkbajaaDoorSlice
namespace Go.Proofs.YtgoaedhgkkbajaaDoor
open Go.RowKit

theorem splitGo_ne (b : UInt8) : ∀ (r cur : List UInt8), ∃ p q, splitGo b cur r = p :: q
  | [], cur => ⟨cur, [], rfl⟩
  | c :: r, cur => by
    rw [splitGo]
    split
    · exact ⟨_, _, rfl⟩
    · exact splitGo_ne b r (cur ++ [c])
theorem txt_toList (l : List UInt8) : (txt l).toList = l := by
  unfold txt
  exact ByteArray.toList_mk l
theorem readL_bd (l : List UInt8) : -1 ≤ readL l ∧ readL l < 10000000000 := by
  unfold readL
  split
  · rename_i h
    have := valD_small h.1.2 h.2
    omega
  · omega
/-- What the reference says of a text: a fraction, or none. -/
def tellF (c : Option (Int × Int)) (l : List UInt8) : Int × Int × Bool := match c with
  | some (x, y) => if fracB x y = true ∧ fracT x y = txt l then (x, y, true) else (0, 0, false)
  | none => (0, 0, false)
def FracIs (r3 : Int × Int × Bool) (w : World) (r : Ending) (w' : World) : Prop := r = .returned (.tuple #[.agg #[.int .i64 r3.1, .int .i64 r3.2.1], .bool r3.2.2]) ∧ Ext w w'
theorem txt_inj {{a b : List UInt8}} (h : txt a = txt b) : a = b := by
  have := congrArg ByteArray.toList h
  rwa [txt_toList, txt_toList] at this
set_option maxHeartbeats 4000000 in
set_option maxRecDepth 100000 in
set_option linter.unusedSimpArgs false in
theorem frParse_any (l : List UInt8) (hn : l.length ≤ 1048576) (w : World) :
    Calls Tryd.prog 55 #[.string (txt l)] w (FracIs (tellF (candL l) l) w) := by
  obtain ⟨p, q, hpq⟩ := splitGo_ne 47 l []
  have HSp := Lib.hid (fun w => show Calls Tryd.prog 58 #[.string (txt l), .int .u8 47] w (OwnsStrs w.heap.size (p :: q) w) from (by have := l1Split_any l 47 hn w; unfold splitL at this; rw [hpq] at this; exact this))
  rcases p with _ | ⟨c, t⟩
  · rcases q with _ | ⟨d, _ | ⟨e, q⟩⟩
    · have hbd := readL_bd []
      have HCD := Lib.hid (show candL l = some (readL [], 1) by
          unfold candL splitL
          rw [hpq]
          have : numL [] = 1 * readL [] := rfl
          simp only [this, Int.one_mul, Int.neg_mul, Int.one_mul])
      have HR0 := Lib.hid (fun w => frRead_any [] w)
      generalize readL [] = N at *
      have hw : IntKind.i64.wrap N = N := by rw [wrap_i64] <;> omega
      have hwn : IntKind.i64.wrap (-N) = -N := by rw [wrap_i64] <;> omega
      go_enter Tryd.func55, Tryd.ntmps55
      go_wp2_with fail
      refine (HSp.out _).mono ?_
      rintro e w1 ⟨a, cc, rfl, hown, hb⟩
      have hz1 := hb.size
      have HF20 := Lib.hid (fun w' (e : Ext (w.alloc (.cells #[.int .i64 0, .int .i64 0] 32)) w') => Ext.thaws (w := w.alloc (.cells #[.int .i64 0, .int .i64 0] 32)) (b := w.heap.size) (o := 0) (v := .int .i64 0) (by simp) (by simp) w' e)
      have HF21 := Lib.hid (fun w' (e : Ext (w.alloc (.cells #[.int .i64 0, .int .i64 0] 32)) w') => Ext.thaws (w := w.alloc (.cells #[.int .i64 0, .int .i64 0] 32)) (b := w.heap.size) (o := 1) (v := .int .i64 0) (by simp) (by simp) w' e)
      have HC20 := Lib.hid (fun w' (e : Ext (w.alloc (.cells #[.int .i64 0, .int .i64 0] 32)) w') => e.keep (b := w.heap.size) (o := 0) (v := .int .i64 0) (by simp))
      have HC21 := Lib.hid (fun w' (e : Ext (w.alloc (.cells #[.int .i64 0, .int .i64 0] 32)) w') => e.keep (b := w.heap.size) (o := 1) (v := .int .i64 0) (by simp))
      have HW := Lib.hid (fun w' (e : Ext (w.alloc (.cells #[.int .i64 0, .int .i64 0] 32)) w') => show Ext w w' from Ext.trans (Ext.alloc (Ext.refl w) _) e)
      obtain ⟨gr, rfl, hg1, hg2⟩ := own_head hown (by simp)
      have hc0 : w1.cell? ⟨gr, 0, none⟩ = some (.string (txt [])) := by simpa [Addr.add] using hown.cells (g := gr) rfl 0 (.string (txt [])) (by simp [sv])
      have hf0 := hown.frozenAt 0
      have hg1' : w.heap.size + 1 ≤ gr := by simpa using hg1
      have hne : ¬ gr = w1.heap.size := by omega
      have hne2 : ¬ w1.heap.size = gr := by omega
      have s20 := HC20.out w1 hb
      have s21 := HC21.out w1 hb
      have hT := txt_toList []
      clear hpq HSp s20 s21
      go_wp2_with fail
      refine (HR0.out _).mono ?_
      rintro e _ ⟨rfl, rfl⟩
      cases hF : fracB N 1
      · have HG := Lib.hid (fun w => frGood_any N 1 w)
        rw [hF] at HG
        have HV := Lib.hid (show tellF (candL l) l = (0, 0, false) by rw [HCD.out]; unfold tellF; simp [hF])
        go_wp2_with fail
        refine (HG.out _).mono ?_
        rintro e w5 ⟨rfl, hb5⟩
        have e0 : Ext (w.alloc (.cells #[.int .i64 0, .int .i64 0] 32)) w5 := (by repeat (first | exact Ext.refl _ | assumption | apply Ext.alloc | apply Ext.drew | apply Ext.drewN | (refine Ext.trans ?_ (by assumption)) | (refine Ext.setCell ?_ (by (try simp) <;> omega) _)))
        have s20 := HC20.out w5 e0
        have s21 := HC21.out w5 e0
        have k20 := HF20.out w5 e0
        have k21 := HF21.out w5 e0
        have xx := HW.out w5 e0
        clear hc0 hf0
        go_wp2
        refine bodyPost_ret (v := .tuple #[.agg #[.int .i64 0, .int .i64 0], .bool false]) (by simp [results, Tryd.results55, go_sem, s20, s21, k20, k21]) rfl ⟨by rw [HV.out], ?_⟩
        exact Ext.setCell (Ext.setCell xx (Nat.le_refl _) _) (Nat.le_refl _) _
      · have HG := Lib.hid (fun w => frGood_any N 1 w)
        rw [hF] at HG
        obtain ⟨bx, by', _⟩ := fracB_true.1 hF
        have HX := Lib.hid (fun w => frText_any N 1 bx by' w)
        go_wp2_with fail
        refine (HG.out _).mono ?_
        rintro e w5 ⟨rfl, hb5⟩
        have e05 : Ext (w.alloc (.cells #[.int .i64 0, .int .i64 0] 32)) w5 := (by repeat (first | exact Ext.refl _ | assumption | apply Ext.alloc | apply Ext.drew | apply Ext.drewN | (refine Ext.trans ?_ (by assumption)) | (refine Ext.setCell ?_ (by (try simp) <;> omega) _)))
        have q0 := hb5.keep (b := w1.heap.size) (o := 0) (v := .int .i64 N) (by first | (simp; done) | (simp [go_sem, hne, hne2]; done))
        have q1 := hb5.keep (b := w1.heap.size) (o := 1) (v := .int .i64 1) (by first | (simp; done) | (simp [go_sem, hne, hne2]; done))
        go_wp2_with fail
        refine (HX.out _).mono ?_
        rintro e w6 ⟨rfl, hb6⟩
        have e0 : Ext (w.alloc (.cells #[.int .i64 0, .int .i64 0] 32)) w6 := e05.trans hb6
        replace q0 := hb6.keep q0
        replace q1 := hb6.keep q1
        clear hb5 hb6 e05
        by_cases hE : fracT N 1 = txt l
        · have HV := Lib.hid (show tellF (candL l) l = (N, 1, true) by rw [HCD.out]; unfold tellF; simp [hF, hE])
          have hq : ((fracT N 1).toList == (txt l).toList) = true := by rw [hE]; simp
          clear hE
          have s20 := HC20.out w6 e0
          have s21 := HC21.out w6 e0
          have k20 := HF20.out w6 e0
          have k21 := HF21.out w6 e0
          have xx := HW.out w6 e0
          clear hc0 hf0
          go_wp2
          refine bodyPost_ret (v := .tuple #[.agg #[.int .i64 N, .int .i64 1], .bool true]) (by simp [results, Tryd.results55, go_sem, s20, s21, k20, k21]) rfl ⟨by rw [HV.out], ?_⟩
          exact Ext.setCell (Ext.setCell xx (Nat.le_refl _) _) (Nat.le_refl _) _
        · have HV := Lib.hid (show tellF (candL l) l = (0, 0, false) by rw [HCD.out]; unfold tellF; simp [hE])
          have hq : ((fracT N 1).toList == (txt l).toList) = false := by
              simp only [beq_eq_false_iff_ne, ne_eq]
              intro e
              apply hE
              rw [ByteArray.toList_eq, ByteArray.toList_eq] at e
              exact ByteArray.ext (Array.toList_inj.1 e)
          clear hE
          have s20 := HC20.out w6 e0
          have s21 := HC21.out w6 e0
          have k20 := HF20.out w6 e0
          have k21 := HF21.out w6 e0
          have xx := HW.out w6 e0
          clear hc0 hf0
          go_wp2
          refine bodyPost_ret (v := .tuple #[.agg #[.int .i64 0, .int .i64 0], .bool false]) (by simp [results, Tryd.results55, go_sem, s20, s21, k20, k21]) rfl ⟨by rw [HV.out], ?_⟩
          exact Ext.setCell (Ext.setCell xx (Nat.le_refl _) _) (Nat.le_refl _) _
    · have hbd := readL_bd []
      have hbd2 := readL_bd d
      have HCD := Lib.hid (show candL l = some (readL [], readL d) by
          unfold candL splitL
          rw [hpq]
          have : numL [] = 1 * readL [] := rfl
          simp only [this, Int.one_mul, Int.neg_mul, Int.one_mul])
      have HR0 := Lib.hid (fun w => frRead_any [] w)
      have HR1 := Lib.hid (fun w => frRead_any d w)
      generalize readL [] = N at *
      generalize readL d = D at *
      have hw : IntKind.i64.wrap N = N := by rw [wrap_i64] <;> omega
      have hwn : IntKind.i64.wrap (-N) = -N := by rw [wrap_i64] <;> omega
      go_enter Tryd.func55, Tryd.ntmps55
      go_wp2_with fail
      refine (HSp.out _).mono ?_
      rintro e w1 ⟨a, cc, rfl, hown, hb⟩
      have hz1 := hb.size
      have HF20 := Lib.hid (fun w' (e : Ext (w.alloc (.cells #[.int .i64 0, .int .i64 0] 32)) w') => Ext.thaws (w := w.alloc (.cells #[.int .i64 0, .int .i64 0] 32)) (b := w.heap.size) (o := 0) (v := .int .i64 0) (by simp) (by simp) w' e)
      have HF21 := Lib.hid (fun w' (e : Ext (w.alloc (.cells #[.int .i64 0, .int .i64 0] 32)) w') => Ext.thaws (w := w.alloc (.cells #[.int .i64 0, .int .i64 0] 32)) (b := w.heap.size) (o := 1) (v := .int .i64 0) (by simp) (by simp) w' e)
      have HC20 := Lib.hid (fun w' (e : Ext (w.alloc (.cells #[.int .i64 0, .int .i64 0] 32)) w') => e.keep (b := w.heap.size) (o := 0) (v := .int .i64 0) (by simp))
      have HC21 := Lib.hid (fun w' (e : Ext (w.alloc (.cells #[.int .i64 0, .int .i64 0] 32)) w') => e.keep (b := w.heap.size) (o := 1) (v := .int .i64 0) (by simp))
      have HW := Lib.hid (fun w' (e : Ext (w.alloc (.cells #[.int .i64 0, .int .i64 0] 32)) w') => show Ext w w' from Ext.trans (Ext.alloc (Ext.refl w) _) e)
      obtain ⟨gr, rfl, hg1, hg2⟩ := own_head hown (by simp)
      have hc0 : w1.cell? ⟨gr, 0, none⟩ = some (.string (txt [])) := by simpa [Addr.add] using hown.cells (g := gr) rfl 0 (.string (txt [])) (by simp [sv])
      have hf0 := hown.frozenAt 0
      have hc1 : w1.cell? ⟨gr, 1, none⟩ = some (.string (txt d)) := by simpa [Addr.add] using hown.cells (g := gr) rfl 1 (.string (txt d)) (by simp [sv])
      have hg1' : w.heap.size + 1 ≤ gr := by simpa using hg1
      have hne : ¬ gr = w1.heap.size := by omega
      have hne2 : ¬ w1.heap.size = gr := by omega
      have s20 := HC20.out w1 hb
      have s21 := HC21.out w1 hb
      have hT := txt_toList []
      clear hpq HSp s20 s21
      go_wp2_with fail
      refine (HR0.out _).mono ?_
      rintro e _ ⟨rfl, rfl⟩
      go_wp2_with fail
      refine (HR1.out _).mono ?_
      rintro e _ ⟨rfl, rfl⟩
      cases hF : fracB N D
      · have HG := Lib.hid (fun w => frGood_any N D w)
        rw [hF] at HG
        have HV := Lib.hid (show tellF (candL l) l = (0, 0, false) by rw [HCD.out]; unfold tellF; simp [hF])
        go_wp2_with fail
        refine (HG.out _).mono ?_
        rintro e w5 ⟨rfl, hb5⟩
        have e0 : Ext (w.alloc (.cells #[.int .i64 0, .int .i64 0] 32)) w5 := (by repeat (first | exact Ext.refl _ | assumption | apply Ext.alloc | apply Ext.drew | apply Ext.drewN | (refine Ext.trans ?_ (by assumption)) | (refine Ext.setCell ?_ (by (try simp) <;> omega) _)))
        have s20 := HC20.out w5 e0
        have s21 := HC21.out w5 e0
        have k20 := HF20.out w5 e0
        have k21 := HF21.out w5 e0
        have xx := HW.out w5 e0
        clear hc0 hf0
        go_wp2
        refine bodyPost_ret (v := .tuple #[.agg #[.int .i64 0, .int .i64 0], .bool false]) (by simp [results, Tryd.results55, go_sem, s20, s21, k20, k21]) rfl ⟨by rw [HV.out], ?_⟩
        exact Ext.setCell (Ext.setCell xx (Nat.le_refl _) _) (Nat.le_refl _) _
      · have HG := Lib.hid (fun w => frGood_any N D w)
        rw [hF] at HG
        obtain ⟨bx, by', _⟩ := fracB_true.1 hF
        have HX := Lib.hid (fun w => frText_any N D bx by' w)
        go_wp2_with fail
        refine (HG.out _).mono ?_
        rintro e w5 ⟨rfl, hb5⟩
        have e05 : Ext (w.alloc (.cells #[.int .i64 0, .int .i64 0] 32)) w5 := (by repeat (first | exact Ext.refl _ | assumption | apply Ext.alloc | apply Ext.drew | apply Ext.drewN | (refine Ext.trans ?_ (by assumption)) | (refine Ext.setCell ?_ (by (try simp) <;> omega) _)))
        have q0 := hb5.keep (b := w1.heap.size) (o := 0) (v := .int .i64 N) (by first | (simp; done) | (simp [go_sem, hne, hne2]; done))
        have q1 := hb5.keep (b := w1.heap.size) (o := 1) (v := .int .i64 D) (by first | (simp; done) | (simp [go_sem, hne, hne2]; done))
        go_wp2_with fail
        refine (HX.out _).mono ?_
        rintro e w6 ⟨rfl, hb6⟩
        have e0 : Ext (w.alloc (.cells #[.int .i64 0, .int .i64 0] 32)) w6 := e05.trans hb6
        replace q0 := hb6.keep q0
        replace q1 := hb6.keep q1
        clear hb5 hb6 e05
        by_cases hE : fracT N D = txt l
        · have HV := Lib.hid (show tellF (candL l) l = (N, D, true) by rw [HCD.out]; unfold tellF; simp [hF, hE])
          have hq : ((fracT N D).toList == (txt l).toList) = true := by rw [hE]; simp
          clear hE
          have s20 := HC20.out w6 e0
          have s21 := HC21.out w6 e0
          have k20 := HF20.out w6 e0
          have k21 := HF21.out w6 e0
          have xx := HW.out w6 e0
          clear hc0 hf0
          go_wp2
          refine bodyPost_ret (v := .tuple #[.agg #[.int .i64 N, .int .i64 D], .bool true]) (by simp [results, Tryd.results55, go_sem, s20, s21, k20, k21]) rfl ⟨by rw [HV.out], ?_⟩
          exact Ext.setCell (Ext.setCell xx (Nat.le_refl _) _) (Nat.le_refl _) _
        · have HV := Lib.hid (show tellF (candL l) l = (0, 0, false) by rw [HCD.out]; unfold tellF; simp [hE])
          have hq : ((fracT N D).toList == (txt l).toList) = false := by
              simp only [beq_eq_false_iff_ne, ne_eq]
              intro e
              apply hE
              rw [ByteArray.toList_eq, ByteArray.toList_eq] at e
              exact ByteArray.ext (Array.toList_inj.1 e)
          clear hE
          have s20 := HC20.out w6 e0
          have s21 := HC21.out w6 e0
          have k20 := HF20.out w6 e0
          have k21 := HF21.out w6 e0
          have xx := HW.out w6 e0
          clear hc0 hf0
          go_wp2
          refine bodyPost_ret (v := .tuple #[.agg #[.int .i64 0, .int .i64 0], .bool false]) (by simp [results, Tryd.results55, go_sem, s20, s21, k20, k21]) rfl ⟨by rw [HV.out], ?_⟩
          exact Ext.setCell (Ext.setCell xx (Nat.le_refl _) _) (Nat.le_refl _) _
    · have hbd := readL_bd []
      have HCD := Lib.hid (show candL l = none by unfold candL splitL; rw [hpq])
      have HR0 := Lib.hid (fun w => frRead_any [] w)
      generalize readL [] = N at *
      have hw : IntKind.i64.wrap N = N := by rw [wrap_i64] <;> omega
      have hwn : IntKind.i64.wrap (-N) = -N := by rw [wrap_i64] <;> omega
      have h2a : ¬ ((q.length : Int) + 1 + 1 + 1 = 2) := by omega
      have h2b : (2 : Int) < (q.length : Int) + 1 + 1 + 1 := by omega
      have h2c : decide ((q.length : Int) + 1 + 1 + 1 = 2) = false := decide_eq_false h2a
      have h2d : decide ((2 : Int) < (q.length : Int) + 1 + 1 + 1) = true := decide_eq_true h2b
      go_enter Tryd.func55, Tryd.ntmps55
      go_wp2_with fail
      refine (HSp.out _).mono ?_
      rintro e w1 ⟨a, cc, rfl, hown, hb⟩
      have hz1 := hb.size
      have HF20 := Lib.hid (fun w' (e : Ext (w.alloc (.cells #[.int .i64 0, .int .i64 0] 32)) w') => Ext.thaws (w := w.alloc (.cells #[.int .i64 0, .int .i64 0] 32)) (b := w.heap.size) (o := 0) (v := .int .i64 0) (by simp) (by simp) w' e)
      have HF21 := Lib.hid (fun w' (e : Ext (w.alloc (.cells #[.int .i64 0, .int .i64 0] 32)) w') => Ext.thaws (w := w.alloc (.cells #[.int .i64 0, .int .i64 0] 32)) (b := w.heap.size) (o := 1) (v := .int .i64 0) (by simp) (by simp) w' e)
      have HC20 := Lib.hid (fun w' (e : Ext (w.alloc (.cells #[.int .i64 0, .int .i64 0] 32)) w') => e.keep (b := w.heap.size) (o := 0) (v := .int .i64 0) (by simp))
      have HC21 := Lib.hid (fun w' (e : Ext (w.alloc (.cells #[.int .i64 0, .int .i64 0] 32)) w') => e.keep (b := w.heap.size) (o := 1) (v := .int .i64 0) (by simp))
      have HW := Lib.hid (fun w' (e : Ext (w.alloc (.cells #[.int .i64 0, .int .i64 0] 32)) w') => show Ext w w' from Ext.trans (Ext.alloc (Ext.refl w) _) e)
      obtain ⟨gr, rfl, hg1, hg2⟩ := own_head hown (by simp)
      have hc0 : w1.cell? ⟨gr, 0, none⟩ = some (.string (txt [])) := by simpa [Addr.add] using hown.cells (g := gr) rfl 0 (.string (txt [])) (by simp [sv])
      have hf0 := hown.frozenAt 0
      have hg1' : w.heap.size + 1 ≤ gr := by simpa using hg1
      have hne : ¬ gr = w1.heap.size := by omega
      have hne2 : ¬ w1.heap.size = gr := by omega
      have s20 := HC20.out w1 hb
      have s21 := HC21.out w1 hb
      have hT := txt_toList []
      clear hpq HSp s20 s21
      go_wp2_with fail
      refine (HR0.out _).mono ?_
      rintro e _ ⟨rfl, rfl⟩
      have HV := Lib.hid (show tellF (candL l) l = (0, 0, false) by rw [HCD.out]; rfl)
      have k20 := HF20.out w1 hb
      have k21 := HF21.out w1 hb
      have s20 := HC20.out w1 hb
      have s21 := HC21.out w1 hb
      have hm1 : ¬ w.heap.size = gr := by omega
      have hm2 : ¬ w.heap.size = w1.heap.size := by omega
      have hm3 : ¬ gr = w.heap.size := by omega
      have hm4 : ¬ w1.heap.size = w.heap.size := by omega
      have hm5 : w.heap.size < w1.heap.size := by omega
      have xw := HW.out _ hb
      clear hg1 hb
      go_wp2
      refine bodyPost_ret (v := .tuple #[.agg #[.int .i64 0, .int .i64 0], .bool false]) (by simp [results, Tryd.results55, go_sem, s20, s21, k20, k21, hm1, hm2, hm3, hm4, hm5]) rfl ⟨by rw [HV.out], (by repeat (first | exact Ext.refl _ | assumption | apply Ext.alloc | apply Ext.drew | apply Ext.drewN | (refine Ext.trans ?_ (by assumption)) | (refine Ext.setCell ?_ (by (try simp) <;> omega) _)))⟩
  · by_cases h45 : c = 45
    · subst h45
      rcases q with _ | ⟨d, _ | ⟨e, q⟩⟩
      · have hbd := readL_bd t
        have HCD := Lib.hid (show candL l = some (-readL t, 1) by
            unfold candL splitL
            rw [hpq]
            have : numL (45 :: t) = -1 * readL t := rfl
            simp only [this, Int.one_mul, Int.neg_mul, Int.one_mul])
        have HR0 := Lib.hid (fun w => frRead_any t w)
        generalize readL t = N at *
        have hw : IntKind.i64.wrap N = N := by rw [wrap_i64] <;> omega
        have hwn : IntKind.i64.wrap (-N) = -N := by rw [wrap_i64] <;> omega
        go_enter Tryd.func55, Tryd.ntmps55
        go_wp2_with fail
        refine (HSp.out _).mono ?_
        rintro e w1 ⟨a, cc, rfl, hown, hb⟩
        have hz1 := hb.size
        have HF20 := Lib.hid (fun w' (e : Ext (w.alloc (.cells #[.int .i64 0, .int .i64 0] 32)) w') => Ext.thaws (w := w.alloc (.cells #[.int .i64 0, .int .i64 0] 32)) (b := w.heap.size) (o := 0) (v := .int .i64 0) (by simp) (by simp) w' e)
        have HF21 := Lib.hid (fun w' (e : Ext (w.alloc (.cells #[.int .i64 0, .int .i64 0] 32)) w') => Ext.thaws (w := w.alloc (.cells #[.int .i64 0, .int .i64 0] 32)) (b := w.heap.size) (o := 1) (v := .int .i64 0) (by simp) (by simp) w' e)
        have HC20 := Lib.hid (fun w' (e : Ext (w.alloc (.cells #[.int .i64 0, .int .i64 0] 32)) w') => e.keep (b := w.heap.size) (o := 0) (v := .int .i64 0) (by simp))
        have HC21 := Lib.hid (fun w' (e : Ext (w.alloc (.cells #[.int .i64 0, .int .i64 0] 32)) w') => e.keep (b := w.heap.size) (o := 1) (v := .int .i64 0) (by simp))
        have HW := Lib.hid (fun w' (e : Ext (w.alloc (.cells #[.int .i64 0, .int .i64 0] 32)) w') => show Ext w w' from Ext.trans (Ext.alloc (Ext.refl w) _) e)
        obtain ⟨gr, rfl, hg1, hg2⟩ := own_head hown (by simp)
        have hc0 : w1.cell? ⟨gr, 0, none⟩ = some (.string (txt (45 :: t))) := by simpa [Addr.add] using hown.cells (g := gr) rfl 0 (.string (txt (45 :: t))) (by simp [sv])
        have hf0 := hown.frozenAt 0
        have hg1' : w.heap.size + 1 ≤ gr := by simpa using hg1
        have hne : ¬ gr = w1.heap.size := by omega
        have hne2 : ¬ w1.heap.size = gr := by omega
        have s20 := HC20.out w1 hb
        have s21 := HC21.out w1 hb
        have hT := txt_toList (45 :: t)
        have hS := txt_size (45 :: t)
        have hp : 0 < (txt (45 :: t)).size := by rw [hS]; simp
        have hi1 : (((txt (45 :: t))[0]'hp).toNat : Int) = 45 := rfl
        have hcut : (txt (45 :: t)).extract 1 (t.length + 1) = txt t := by rw [txt_cut]; simp
        clear hpq HSp s20 s21
        go_wp2_with fail
        refine (HR0.out _).mono ?_
        rintro e _ ⟨rfl, rfl⟩
        cases hF : fracB (-N) 1
        · have HG := Lib.hid (fun w => frGood_any (-N) 1 w)
          rw [hF] at HG
          have HV := Lib.hid (show tellF (candL l) l = (0, 0, false) by rw [HCD.out]; unfold tellF; simp [hF])
          go_wp2_with fail
          refine (HG.out _).mono ?_
          rintro e w5 ⟨rfl, hb5⟩
          have e0 : Ext (w.alloc (.cells #[.int .i64 0, .int .i64 0] 32)) w5 := (by repeat (first | exact Ext.refl _ | assumption | apply Ext.alloc | apply Ext.drew | apply Ext.drewN | (refine Ext.trans ?_ (by assumption)) | (refine Ext.setCell ?_ (by (try simp) <;> omega) _)))
          have s20 := HC20.out w5 e0
          have s21 := HC21.out w5 e0
          have k20 := HF20.out w5 e0
          have k21 := HF21.out w5 e0
          have xx := HW.out w5 e0
          clear hc0 hf0
          go_wp2
          refine bodyPost_ret (v := .tuple #[.agg #[.int .i64 0, .int .i64 0], .bool false]) (by simp [results, Tryd.results55, go_sem, s20, s21, k20, k21]) rfl ⟨by rw [HV.out], ?_⟩
          exact Ext.setCell (Ext.setCell xx (Nat.le_refl _) _) (Nat.le_refl _) _
        · have HG := Lib.hid (fun w => frGood_any (-N) 1 w)
          rw [hF] at HG
          obtain ⟨bx, by', _⟩ := fracB_true.1 hF
          have HX := Lib.hid (fun w => frText_any (-N) 1 bx by' w)
          go_wp2_with fail
          refine (HG.out _).mono ?_
          rintro e w5 ⟨rfl, hb5⟩
          have e05 : Ext (w.alloc (.cells #[.int .i64 0, .int .i64 0] 32)) w5 := (by repeat (first | exact Ext.refl _ | assumption | apply Ext.alloc | apply Ext.drew | apply Ext.drewN | (refine Ext.trans ?_ (by assumption)) | (refine Ext.setCell ?_ (by (try simp) <;> omega) _)))
          have q0 := hb5.keep (b := w1.heap.size) (o := 0) (v := .int .i64 (-N)) (by first | (simp; done) | (simp [go_sem, hne, hne2]; done))
          have q1 := hb5.keep (b := w1.heap.size) (o := 1) (v := .int .i64 1) (by first | (simp; done) | (simp [go_sem, hne, hne2]; done))
          go_wp2_with fail
          refine (HX.out _).mono ?_
          rintro e w6 ⟨rfl, hb6⟩
          have e0 : Ext (w.alloc (.cells #[.int .i64 0, .int .i64 0] 32)) w6 := e05.trans hb6
          replace q0 := hb6.keep q0
          replace q1 := hb6.keep q1
          clear hb5 hb6 e05
          by_cases hE : fracT (-N) 1 = txt l
          · have HV := Lib.hid (show tellF (candL l) l = ((-N), 1, true) by rw [HCD.out]; unfold tellF; simp [hF, hE])
            have hq : ((fracT (-N) 1).toList == (txt l).toList) = true := by rw [hE]; simp
            clear hE
            have s20 := HC20.out w6 e0
            have s21 := HC21.out w6 e0
            have k20 := HF20.out w6 e0
            have k21 := HF21.out w6 e0
            have xx := HW.out w6 e0
            clear hc0 hf0
            go_wp2
            refine bodyPost_ret (v := .tuple #[.agg #[.int .i64 (-N), .int .i64 1], .bool true]) (by simp [results, Tryd.results55, go_sem, s20, s21, k20, k21]) rfl ⟨by rw [HV.out], ?_⟩
            exact Ext.setCell (Ext.setCell xx (Nat.le_refl _) _) (Nat.le_refl _) _
          · have HV := Lib.hid (show tellF (candL l) l = (0, 0, false) by rw [HCD.out]; unfold tellF; simp [hE])
            have hq : ((fracT (-N) 1).toList == (txt l).toList) = false := by
                simp only [beq_eq_false_iff_ne, ne_eq]
                intro e
                apply hE
                rw [ByteArray.toList_eq, ByteArray.toList_eq] at e
                exact ByteArray.ext (Array.toList_inj.1 e)
            clear hE
            have s20 := HC20.out w6 e0
            have s21 := HC21.out w6 e0
            have k20 := HF20.out w6 e0
            have k21 := HF21.out w6 e0
            have xx := HW.out w6 e0
            clear hc0 hf0
            go_wp2
            refine bodyPost_ret (v := .tuple #[.agg #[.int .i64 0, .int .i64 0], .bool false]) (by simp [results, Tryd.results55, go_sem, s20, s21, k20, k21]) rfl ⟨by rw [HV.out], ?_⟩
            exact Ext.setCell (Ext.setCell xx (Nat.le_refl _) _) (Nat.le_refl _) _
      · have hbd := readL_bd t
        have hbd2 := readL_bd d
        have HCD := Lib.hid (show candL l = some (-readL t, readL d) by
            unfold candL splitL
            rw [hpq]
            have : numL (45 :: t) = -1 * readL t := rfl
            simp only [this, Int.one_mul, Int.neg_mul, Int.one_mul])
        have HR0 := Lib.hid (fun w => frRead_any t w)
        have HR1 := Lib.hid (fun w => frRead_any d w)
        generalize readL t = N at *
        generalize readL d = D at *
        have hw : IntKind.i64.wrap N = N := by rw [wrap_i64] <;> omega
        have hwn : IntKind.i64.wrap (-N) = -N := by rw [wrap_i64] <;> omega
        go_enter Tryd.func55, Tryd.ntmps55
        go_wp2_with fail
        refine (HSp.out _).mono ?_
        rintro e w1 ⟨a, cc, rfl, hown, hb⟩
        have hz1 := hb.size
        have HF20 := Lib.hid (fun w' (e : Ext (w.alloc (.cells #[.int .i64 0, .int .i64 0] 32)) w') => Ext.thaws (w := w.alloc (.cells #[.int .i64 0, .int .i64 0] 32)) (b := w.heap.size) (o := 0) (v := .int .i64 0) (by simp) (by simp) w' e)
        have HF21 := Lib.hid (fun w' (e : Ext (w.alloc (.cells #[.int .i64 0, .int .i64 0] 32)) w') => Ext.thaws (w := w.alloc (.cells #[.int .i64 0, .int .i64 0] 32)) (b := w.heap.size) (o := 1) (v := .int .i64 0) (by simp) (by simp) w' e)
        have HC20 := Lib.hid (fun w' (e : Ext (w.alloc (.cells #[.int .i64 0, .int .i64 0] 32)) w') => e.keep (b := w.heap.size) (o := 0) (v := .int .i64 0) (by simp))
        have HC21 := Lib.hid (fun w' (e : Ext (w.alloc (.cells #[.int .i64 0, .int .i64 0] 32)) w') => e.keep (b := w.heap.size) (o := 1) (v := .int .i64 0) (by simp))
        have HW := Lib.hid (fun w' (e : Ext (w.alloc (.cells #[.int .i64 0, .int .i64 0] 32)) w') => show Ext w w' from Ext.trans (Ext.alloc (Ext.refl w) _) e)
        obtain ⟨gr, rfl, hg1, hg2⟩ := own_head hown (by simp)
        have hc0 : w1.cell? ⟨gr, 0, none⟩ = some (.string (txt (45 :: t))) := by simpa [Addr.add] using hown.cells (g := gr) rfl 0 (.string (txt (45 :: t))) (by simp [sv])
        have hf0 := hown.frozenAt 0
        have hc1 : w1.cell? ⟨gr, 1, none⟩ = some (.string (txt d)) := by simpa [Addr.add] using hown.cells (g := gr) rfl 1 (.string (txt d)) (by simp [sv])
        have hg1' : w.heap.size + 1 ≤ gr := by simpa using hg1
        have hne : ¬ gr = w1.heap.size := by omega
        have hne2 : ¬ w1.heap.size = gr := by omega
        have s20 := HC20.out w1 hb
        have s21 := HC21.out w1 hb
        have hT := txt_toList (45 :: t)
        have hS := txt_size (45 :: t)
        have hp : 0 < (txt (45 :: t)).size := by rw [hS]; simp
        have hi1 : (((txt (45 :: t))[0]'hp).toNat : Int) = 45 := rfl
        have hcut : (txt (45 :: t)).extract 1 (t.length + 1) = txt t := by rw [txt_cut]; simp
        clear hpq HSp s20 s21
        go_wp2_with fail
        refine (HR0.out _).mono ?_
        rintro e _ ⟨rfl, rfl⟩
        go_wp2_with fail
        refine (HR1.out _).mono ?_
        rintro e _ ⟨rfl, rfl⟩
        cases hF : fracB (-N) D
        · have HG := Lib.hid (fun w => frGood_any (-N) D w)
          rw [hF] at HG
          have HV := Lib.hid (show tellF (candL l) l = (0, 0, false) by rw [HCD.out]; unfold tellF; simp [hF])
          go_wp2_with fail
          refine (HG.out _).mono ?_
          rintro e w5 ⟨rfl, hb5⟩
          have e0 : Ext (w.alloc (.cells #[.int .i64 0, .int .i64 0] 32)) w5 := (by repeat (first | exact Ext.refl _ | assumption | apply Ext.alloc | apply Ext.drew | apply Ext.drewN | (refine Ext.trans ?_ (by assumption)) | (refine Ext.setCell ?_ (by (try simp) <;> omega) _)))
          have s20 := HC20.out w5 e0
          have s21 := HC21.out w5 e0
          have k20 := HF20.out w5 e0
          have k21 := HF21.out w5 e0
          have xx := HW.out w5 e0
          clear hc0 hf0
          go_wp2
          refine bodyPost_ret (v := .tuple #[.agg #[.int .i64 0, .int .i64 0], .bool false]) (by simp [results, Tryd.results55, go_sem, s20, s21, k20, k21]) rfl ⟨by rw [HV.out], ?_⟩
          exact Ext.setCell (Ext.setCell xx (Nat.le_refl _) _) (Nat.le_refl _) _
        · have HG := Lib.hid (fun w => frGood_any (-N) D w)
          rw [hF] at HG
          obtain ⟨bx, by', _⟩ := fracB_true.1 hF
          have HX := Lib.hid (fun w => frText_any (-N) D bx by' w)
          go_wp2_with fail
          refine (HG.out _).mono ?_
          rintro e w5 ⟨rfl, hb5⟩
          have e05 : Ext (w.alloc (.cells #[.int .i64 0, .int .i64 0] 32)) w5 := (by repeat (first | exact Ext.refl _ | assumption | apply Ext.alloc | apply Ext.drew | apply Ext.drewN | (refine Ext.trans ?_ (by assumption)) | (refine Ext.setCell ?_ (by (try simp) <;> omega) _)))
          have q0 := hb5.keep (b := w1.heap.size) (o := 0) (v := .int .i64 (-N)) (by first | (simp; done) | (simp [go_sem, hne, hne2]; done))
          have q1 := hb5.keep (b := w1.heap.size) (o := 1) (v := .int .i64 D) (by first | (simp; done) | (simp [go_sem, hne, hne2]; done))
          go_wp2_with fail
          refine (HX.out _).mono ?_
          rintro e w6 ⟨rfl, hb6⟩
          have e0 : Ext (w.alloc (.cells #[.int .i64 0, .int .i64 0] 32)) w6 := e05.trans hb6
          replace q0 := hb6.keep q0
          replace q1 := hb6.keep q1
          clear hb5 hb6 e05
          by_cases hE : fracT (-N) D = txt l
          · have HV := Lib.hid (show tellF (candL l) l = ((-N), D, true) by rw [HCD.out]; unfold tellF; simp [hF, hE])
            have hq : ((fracT (-N) D).toList == (txt l).toList) = true := by rw [hE]; simp
            clear hE
            have s20 := HC20.out w6 e0
            have s21 := HC21.out w6 e0
            have k20 := HF20.out w6 e0
            have k21 := HF21.out w6 e0
            have xx := HW.out w6 e0
            clear hc0 hf0
            go_wp2
            refine bodyPost_ret (v := .tuple #[.agg #[.int .i64 (-N), .int .i64 D], .bool true]) (by simp [results, Tryd.results55, go_sem, s20, s21, k20, k21]) rfl ⟨by rw [HV.out], ?_⟩
            exact Ext.setCell (Ext.setCell xx (Nat.le_refl _) _) (Nat.le_refl _) _
          · have HV := Lib.hid (show tellF (candL l) l = (0, 0, false) by rw [HCD.out]; unfold tellF; simp [hE])
            have hq : ((fracT (-N) D).toList == (txt l).toList) = false := by
                simp only [beq_eq_false_iff_ne, ne_eq]
                intro e
                apply hE
                rw [ByteArray.toList_eq, ByteArray.toList_eq] at e
                exact ByteArray.ext (Array.toList_inj.1 e)
            clear hE
            have s20 := HC20.out w6 e0
            have s21 := HC21.out w6 e0
            have k20 := HF20.out w6 e0
            have k21 := HF21.out w6 e0
            have xx := HW.out w6 e0
            clear hc0 hf0
            go_wp2
            refine bodyPost_ret (v := .tuple #[.agg #[.int .i64 0, .int .i64 0], .bool false]) (by simp [results, Tryd.results55, go_sem, s20, s21, k20, k21]) rfl ⟨by rw [HV.out], ?_⟩
            exact Ext.setCell (Ext.setCell xx (Nat.le_refl _) _) (Nat.le_refl _) _
      · have hbd := readL_bd t
        have HCD := Lib.hid (show candL l = none by unfold candL splitL; rw [hpq])
        have HR0 := Lib.hid (fun w => frRead_any t w)
        generalize readL t = N at *
        have hw : IntKind.i64.wrap N = N := by rw [wrap_i64] <;> omega
        have hwn : IntKind.i64.wrap (-N) = -N := by rw [wrap_i64] <;> omega
        have h2a : ¬ ((q.length : Int) + 1 + 1 + 1 = 2) := by omega
        have h2b : (2 : Int) < (q.length : Int) + 1 + 1 + 1 := by omega
        have h2c : decide ((q.length : Int) + 1 + 1 + 1 = 2) = false := decide_eq_false h2a
        have h2d : decide ((2 : Int) < (q.length : Int) + 1 + 1 + 1) = true := decide_eq_true h2b
        go_enter Tryd.func55, Tryd.ntmps55
        go_wp2_with fail
        refine (HSp.out _).mono ?_
        rintro e w1 ⟨a, cc, rfl, hown, hb⟩
        have hz1 := hb.size
        have HF20 := Lib.hid (fun w' (e : Ext (w.alloc (.cells #[.int .i64 0, .int .i64 0] 32)) w') => Ext.thaws (w := w.alloc (.cells #[.int .i64 0, .int .i64 0] 32)) (b := w.heap.size) (o := 0) (v := .int .i64 0) (by simp) (by simp) w' e)
        have HF21 := Lib.hid (fun w' (e : Ext (w.alloc (.cells #[.int .i64 0, .int .i64 0] 32)) w') => Ext.thaws (w := w.alloc (.cells #[.int .i64 0, .int .i64 0] 32)) (b := w.heap.size) (o := 1) (v := .int .i64 0) (by simp) (by simp) w' e)
        have HC20 := Lib.hid (fun w' (e : Ext (w.alloc (.cells #[.int .i64 0, .int .i64 0] 32)) w') => e.keep (b := w.heap.size) (o := 0) (v := .int .i64 0) (by simp))
        have HC21 := Lib.hid (fun w' (e : Ext (w.alloc (.cells #[.int .i64 0, .int .i64 0] 32)) w') => e.keep (b := w.heap.size) (o := 1) (v := .int .i64 0) (by simp))
        have HW := Lib.hid (fun w' (e : Ext (w.alloc (.cells #[.int .i64 0, .int .i64 0] 32)) w') => show Ext w w' from Ext.trans (Ext.alloc (Ext.refl w) _) e)
        obtain ⟨gr, rfl, hg1, hg2⟩ := own_head hown (by simp)
        have hc0 : w1.cell? ⟨gr, 0, none⟩ = some (.string (txt (45 :: t))) := by simpa [Addr.add] using hown.cells (g := gr) rfl 0 (.string (txt (45 :: t))) (by simp [sv])
        have hf0 := hown.frozenAt 0
        have hg1' : w.heap.size + 1 ≤ gr := by simpa using hg1
        have hne : ¬ gr = w1.heap.size := by omega
        have hne2 : ¬ w1.heap.size = gr := by omega
        have s20 := HC20.out w1 hb
        have s21 := HC21.out w1 hb
        have hT := txt_toList (45 :: t)
        have hS := txt_size (45 :: t)
        have hp : 0 < (txt (45 :: t)).size := by rw [hS]; simp
        have hi1 : (((txt (45 :: t))[0]'hp).toNat : Int) = 45 := rfl
        have hcut : (txt (45 :: t)).extract 1 (t.length + 1) = txt t := by rw [txt_cut]; simp
        clear hpq HSp s20 s21
        go_wp2_with fail
        refine (HR0.out _).mono ?_
        rintro e _ ⟨rfl, rfl⟩
        have HV := Lib.hid (show tellF (candL l) l = (0, 0, false) by rw [HCD.out]; rfl)
        have k20 := HF20.out w1 hb
        have k21 := HF21.out w1 hb
        have s20 := HC20.out w1 hb
        have s21 := HC21.out w1 hb
        have hm1 : ¬ w.heap.size = gr := by omega
        have hm2 : ¬ w.heap.size = w1.heap.size := by omega
        have hm3 : ¬ gr = w.heap.size := by omega
        have hm4 : ¬ w1.heap.size = w.heap.size := by omega
        have hm5 : w.heap.size < w1.heap.size := by omega
        have xw := HW.out _ hb
        clear hg1 hb
        go_wp2
        refine bodyPost_ret (v := .tuple #[.agg #[.int .i64 0, .int .i64 0], .bool false]) (by simp [results, Tryd.results55, go_sem, s20, s21, k20, k21, hm1, hm2, hm3, hm4, hm5]) rfl ⟨by rw [HV.out], (by repeat (first | exact Ext.refl _ | assumption | apply Ext.alloc | apply Ext.drew | apply Ext.drewN | (refine Ext.trans ?_ (by assumption)) | (refine Ext.setCell ?_ (by (try simp) <;> omega) _)))⟩
    · rcases q with _ | ⟨d, _ | ⟨e, q⟩⟩
      · have hbd := readL_bd (c :: t)
        have HCD := Lib.hid (show candL l = some (readL (c :: t), 1) by
            unfold candL splitL
            rw [hpq]
            have : numL (c :: t) = 1 * readL (c :: t) := by
              unfold numL
              split
              · rename_i u hu; exact absurd (List.cons.inj hu).1 h45
              · rfl
            simp only [this, Int.one_mul, Int.neg_mul, Int.one_mul])
        have HR0 := Lib.hid (fun w => frRead_any (c :: t) w)
        generalize readL (c :: t) = N at *
        have hw : IntKind.i64.wrap N = N := by rw [wrap_i64] <;> omega
        have hwn : IntKind.i64.wrap (-N) = -N := by rw [wrap_i64] <;> omega
        go_enter Tryd.func55, Tryd.ntmps55
        go_wp2_with fail
        refine (HSp.out _).mono ?_
        rintro e w1 ⟨a, cc, rfl, hown, hb⟩
        have hz1 := hb.size
        have HF20 := Lib.hid (fun w' (e : Ext (w.alloc (.cells #[.int .i64 0, .int .i64 0] 32)) w') => Ext.thaws (w := w.alloc (.cells #[.int .i64 0, .int .i64 0] 32)) (b := w.heap.size) (o := 0) (v := .int .i64 0) (by simp) (by simp) w' e)
        have HF21 := Lib.hid (fun w' (e : Ext (w.alloc (.cells #[.int .i64 0, .int .i64 0] 32)) w') => Ext.thaws (w := w.alloc (.cells #[.int .i64 0, .int .i64 0] 32)) (b := w.heap.size) (o := 1) (v := .int .i64 0) (by simp) (by simp) w' e)
        have HC20 := Lib.hid (fun w' (e : Ext (w.alloc (.cells #[.int .i64 0, .int .i64 0] 32)) w') => e.keep (b := w.heap.size) (o := 0) (v := .int .i64 0) (by simp))
        have HC21 := Lib.hid (fun w' (e : Ext (w.alloc (.cells #[.int .i64 0, .int .i64 0] 32)) w') => e.keep (b := w.heap.size) (o := 1) (v := .int .i64 0) (by simp))
        have HW := Lib.hid (fun w' (e : Ext (w.alloc (.cells #[.int .i64 0, .int .i64 0] 32)) w') => show Ext w w' from Ext.trans (Ext.alloc (Ext.refl w) _) e)
        obtain ⟨gr, rfl, hg1, hg2⟩ := own_head hown (by simp)
        have hc0 : w1.cell? ⟨gr, 0, none⟩ = some (.string (txt (c :: t))) := by simpa [Addr.add] using hown.cells (g := gr) rfl 0 (.string (txt (c :: t))) (by simp [sv])
        have hf0 := hown.frozenAt 0
        have hg1' : w.heap.size + 1 ≤ gr := by simpa using hg1
        have hne : ¬ gr = w1.heap.size := by omega
        have hne2 : ¬ w1.heap.size = gr := by omega
        have s20 := HC20.out w1 hb
        have s21 := HC21.out w1 hb
        have hT := txt_toList (c :: t)
        have hS := txt_size (c :: t)
        have hp : 0 < (txt (c :: t)).size := by rw [hS]; simp
        have hi0 : ((txt (c :: t))[0]'hp) = c := rfl
        have hi1 : ¬ (((txt (c :: t))[0]'hp).toNat : Int) = 45 := by rw [hi0]; intro e; exact h45 (UInt8.toNat_inj.1 (by show c.toNat = 45; omega))
        clear hi0
        clear hpq HSp s20 s21
        go_wp2_with fail
        refine (HR0.out _).mono ?_
        rintro e _ ⟨rfl, rfl⟩
        cases hF : fracB N 1
        · have HG := Lib.hid (fun w => frGood_any N 1 w)
          rw [hF] at HG
          have HV := Lib.hid (show tellF (candL l) l = (0, 0, false) by rw [HCD.out]; unfold tellF; simp [hF])
          go_wp2_with fail
          refine (HG.out _).mono ?_
          rintro e w5 ⟨rfl, hb5⟩
          have e0 : Ext (w.alloc (.cells #[.int .i64 0, .int .i64 0] 32)) w5 := (by repeat (first | exact Ext.refl _ | assumption | apply Ext.alloc | apply Ext.drew | apply Ext.drewN | (refine Ext.trans ?_ (by assumption)) | (refine Ext.setCell ?_ (by (try simp) <;> omega) _)))
          have s20 := HC20.out w5 e0
          have s21 := HC21.out w5 e0
          have k20 := HF20.out w5 e0
          have k21 := HF21.out w5 e0
          have xx := HW.out w5 e0
          clear hc0 hf0
          go_wp2
          refine bodyPost_ret (v := .tuple #[.agg #[.int .i64 0, .int .i64 0], .bool false]) (by simp [results, Tryd.results55, go_sem, s20, s21, k20, k21]) rfl ⟨by rw [HV.out], ?_⟩
          exact Ext.setCell (Ext.setCell xx (Nat.le_refl _) _) (Nat.le_refl _) _
        · have HG := Lib.hid (fun w => frGood_any N 1 w)
          rw [hF] at HG
          obtain ⟨bx, by', _⟩ := fracB_true.1 hF
          have HX := Lib.hid (fun w => frText_any N 1 bx by' w)
          go_wp2_with fail
          refine (HG.out _).mono ?_
          rintro e w5 ⟨rfl, hb5⟩
          have e05 : Ext (w.alloc (.cells #[.int .i64 0, .int .i64 0] 32)) w5 := (by repeat (first | exact Ext.refl _ | assumption | apply Ext.alloc | apply Ext.drew | apply Ext.drewN | (refine Ext.trans ?_ (by assumption)) | (refine Ext.setCell ?_ (by (try simp) <;> omega) _)))
          have q0 := hb5.keep (b := w1.heap.size) (o := 0) (v := .int .i64 N) (by first | (simp; done) | (simp [go_sem, hne, hne2]; done))
          have q1 := hb5.keep (b := w1.heap.size) (o := 1) (v := .int .i64 1) (by first | (simp; done) | (simp [go_sem, hne, hne2]; done))
          go_wp2_with fail
          refine (HX.out _).mono ?_
          rintro e w6 ⟨rfl, hb6⟩
          have e0 : Ext (w.alloc (.cells #[.int .i64 0, .int .i64 0] 32)) w6 := e05.trans hb6
          replace q0 := hb6.keep q0
          replace q1 := hb6.keep q1
          clear hb5 hb6 e05
          by_cases hE : fracT N 1 = txt l
          · have HV := Lib.hid (show tellF (candL l) l = (N, 1, true) by rw [HCD.out]; unfold tellF; simp [hF, hE])
            have hq : ((fracT N 1).toList == (txt l).toList) = true := by rw [hE]; simp
            clear hE
            have s20 := HC20.out w6 e0
            have s21 := HC21.out w6 e0
            have k20 := HF20.out w6 e0
            have k21 := HF21.out w6 e0
            have xx := HW.out w6 e0
            clear hc0 hf0
            go_wp2
            refine bodyPost_ret (v := .tuple #[.agg #[.int .i64 N, .int .i64 1], .bool true]) (by simp [results, Tryd.results55, go_sem, s20, s21, k20, k21]) rfl ⟨by rw [HV.out], ?_⟩
            exact Ext.setCell (Ext.setCell xx (Nat.le_refl _) _) (Nat.le_refl _) _
          · have HV := Lib.hid (show tellF (candL l) l = (0, 0, false) by rw [HCD.out]; unfold tellF; simp [hE])
            have hq : ((fracT N 1).toList == (txt l).toList) = false := by
                simp only [beq_eq_false_iff_ne, ne_eq]
                intro e
                apply hE
                rw [ByteArray.toList_eq, ByteArray.toList_eq] at e
                exact ByteArray.ext (Array.toList_inj.1 e)
            clear hE
            have s20 := HC20.out w6 e0
            have s21 := HC21.out w6 e0
            have k20 := HF20.out w6 e0
            have k21 := HF21.out w6 e0
            have xx := HW.out w6 e0
            clear hc0 hf0
            go_wp2
            refine bodyPost_ret (v := .tuple #[.agg #[.int .i64 0, .int .i64 0], .bool false]) (by simp [results, Tryd.results55, go_sem, s20, s21, k20, k21]) rfl ⟨by rw [HV.out], ?_⟩
            exact Ext.setCell (Ext.setCell xx (Nat.le_refl _) _) (Nat.le_refl _) _
      · have hbd := readL_bd (c :: t)
        have hbd2 := readL_bd d
        have HCD := Lib.hid (show candL l = some (readL (c :: t), readL d) by
            unfold candL splitL
            rw [hpq]
            have : numL (c :: t) = 1 * readL (c :: t) := by
              unfold numL
              split
              · rename_i u hu; exact absurd (List.cons.inj hu).1 h45
              · rfl
            simp only [this, Int.one_mul, Int.neg_mul, Int.one_mul])
        have HR0 := Lib.hid (fun w => frRead_any (c :: t) w)
        have HR1 := Lib.hid (fun w => frRead_any d w)
        generalize readL (c :: t) = N at *
        generalize readL d = D at *
        have hw : IntKind.i64.wrap N = N := by rw [wrap_i64] <;> omega
        have hwn : IntKind.i64.wrap (-N) = -N := by rw [wrap_i64] <;> omega
        go_enter Tryd.func55, Tryd.ntmps55
        go_wp2_with fail
        refine (HSp.out _).mono ?_
        rintro e w1 ⟨a, cc, rfl, hown, hb⟩
        have hz1 := hb.size
        have HF20 := Lib.hid (fun w' (e : Ext (w.alloc (.cells #[.int .i64 0, .int .i64 0] 32)) w') => Ext.thaws (w := w.alloc (.cells #[.int .i64 0, .int .i64 0] 32)) (b := w.heap.size) (o := 0) (v := .int .i64 0) (by simp) (by simp) w' e)
        have HF21 := Lib.hid (fun w' (e : Ext (w.alloc (.cells #[.int .i64 0, .int .i64 0] 32)) w') => Ext.thaws (w := w.alloc (.cells #[.int .i64 0, .int .i64 0] 32)) (b := w.heap.size) (o := 1) (v := .int .i64 0) (by simp) (by simp) w' e)
        have HC20 := Lib.hid (fun w' (e : Ext (w.alloc (.cells #[.int .i64 0, .int .i64 0] 32)) w') => e.keep (b := w.heap.size) (o := 0) (v := .int .i64 0) (by simp))
        have HC21 := Lib.hid (fun w' (e : Ext (w.alloc (.cells #[.int .i64 0, .int .i64 0] 32)) w') => e.keep (b := w.heap.size) (o := 1) (v := .int .i64 0) (by simp))
        have HW := Lib.hid (fun w' (e : Ext (w.alloc (.cells #[.int .i64 0, .int .i64 0] 32)) w') => show Ext w w' from Ext.trans (Ext.alloc (Ext.refl w) _) e)
        obtain ⟨gr, rfl, hg1, hg2⟩ := own_head hown (by simp)
        have hc0 : w1.cell? ⟨gr, 0, none⟩ = some (.string (txt (c :: t))) := by simpa [Addr.add] using hown.cells (g := gr) rfl 0 (.string (txt (c :: t))) (by simp [sv])
        have hf0 := hown.frozenAt 0
        have hc1 : w1.cell? ⟨gr, 1, none⟩ = some (.string (txt d)) := by simpa [Addr.add] using hown.cells (g := gr) rfl 1 (.string (txt d)) (by simp [sv])
        have hg1' : w.heap.size + 1 ≤ gr := by simpa using hg1
        have hne : ¬ gr = w1.heap.size := by omega
        have hne2 : ¬ w1.heap.size = gr := by omega
        have s20 := HC20.out w1 hb
        have s21 := HC21.out w1 hb
        have hT := txt_toList (c :: t)
        have hS := txt_size (c :: t)
        have hp : 0 < (txt (c :: t)).size := by rw [hS]; simp
        have hi0 : ((txt (c :: t))[0]'hp) = c := rfl
        have hi1 : ¬ (((txt (c :: t))[0]'hp).toNat : Int) = 45 := by rw [hi0]; intro e; exact h45 (UInt8.toNat_inj.1 (by show c.toNat = 45; omega))
        clear hi0
        clear hpq HSp s20 s21
        go_wp2_with fail
        refine (HR0.out _).mono ?_
        rintro e _ ⟨rfl, rfl⟩
        go_wp2_with fail
        refine (HR1.out _).mono ?_
        rintro e _ ⟨rfl, rfl⟩
        cases hF : fracB N D
        · have HG := Lib.hid (fun w => frGood_any N D w)
          rw [hF] at HG
          have HV := Lib.hid (show tellF (candL l) l = (0, 0, false) by rw [HCD.out]; unfold tellF; simp [hF])
          go_wp2_with fail
          refine (HG.out _).mono ?_
          rintro e w5 ⟨rfl, hb5⟩
          have e0 : Ext (w.alloc (.cells #[.int .i64 0, .int .i64 0] 32)) w5 := (by repeat (first | exact Ext.refl _ | assumption | apply Ext.alloc | apply Ext.drew | apply Ext.drewN | (refine Ext.trans ?_ (by assumption)) | (refine Ext.setCell ?_ (by (try simp) <;> omega) _)))
          have s20 := HC20.out w5 e0
          have s21 := HC21.out w5 e0
          have k20 := HF20.out w5 e0
          have k21 := HF21.out w5 e0
          have xx := HW.out w5 e0
          clear hc0 hf0
          go_wp2
          refine bodyPost_ret (v := .tuple #[.agg #[.int .i64 0, .int .i64 0], .bool false]) (by simp [results, Tryd.results55, go_sem, s20, s21, k20, k21]) rfl ⟨by rw [HV.out], ?_⟩
          exact Ext.setCell (Ext.setCell xx (Nat.le_refl _) _) (Nat.le_refl _) _
        · have HG := Lib.hid (fun w => frGood_any N D w)
          rw [hF] at HG
          obtain ⟨bx, by', _⟩ := fracB_true.1 hF
          have HX := Lib.hid (fun w => frText_any N D bx by' w)
          go_wp2_with fail
          refine (HG.out _).mono ?_
          rintro e w5 ⟨rfl, hb5⟩
          have e05 : Ext (w.alloc (.cells #[.int .i64 0, .int .i64 0] 32)) w5 := (by repeat (first | exact Ext.refl _ | assumption | apply Ext.alloc | apply Ext.drew | apply Ext.drewN | (refine Ext.trans ?_ (by assumption)) | (refine Ext.setCell ?_ (by (try simp) <;> omega) _)))
          have q0 := hb5.keep (b := w1.heap.size) (o := 0) (v := .int .i64 N) (by first | (simp; done) | (simp [go_sem, hne, hne2]; done))
          have q1 := hb5.keep (b := w1.heap.size) (o := 1) (v := .int .i64 D) (by first | (simp; done) | (simp [go_sem, hne, hne2]; done))
          go_wp2_with fail
          refine (HX.out _).mono ?_
          rintro e w6 ⟨rfl, hb6⟩
          have e0 : Ext (w.alloc (.cells #[.int .i64 0, .int .i64 0] 32)) w6 := e05.trans hb6
          replace q0 := hb6.keep q0
          replace q1 := hb6.keep q1
          clear hb5 hb6 e05
          by_cases hE : fracT N D = txt l
          · have HV := Lib.hid (show tellF (candL l) l = (N, D, true) by rw [HCD.out]; unfold tellF; simp [hF, hE])
            have hq : ((fracT N D).toList == (txt l).toList) = true := by rw [hE]; simp
            clear hE
            have s20 := HC20.out w6 e0
            have s21 := HC21.out w6 e0
            have k20 := HF20.out w6 e0
            have k21 := HF21.out w6 e0
            have xx := HW.out w6 e0
            clear hc0 hf0
            go_wp2
            refine bodyPost_ret (v := .tuple #[.agg #[.int .i64 N, .int .i64 D], .bool true]) (by simp [results, Tryd.results55, go_sem, s20, s21, k20, k21]) rfl ⟨by rw [HV.out], ?_⟩
            exact Ext.setCell (Ext.setCell xx (Nat.le_refl _) _) (Nat.le_refl _) _
          · have HV := Lib.hid (show tellF (candL l) l = (0, 0, false) by rw [HCD.out]; unfold tellF; simp [hE])
            have hq : ((fracT N D).toList == (txt l).toList) = false := by
                simp only [beq_eq_false_iff_ne, ne_eq]
                intro e
                apply hE
                rw [ByteArray.toList_eq, ByteArray.toList_eq] at e
                exact ByteArray.ext (Array.toList_inj.1 e)
            clear hE
            have s20 := HC20.out w6 e0
            have s21 := HC21.out w6 e0
            have k20 := HF20.out w6 e0
            have k21 := HF21.out w6 e0
            have xx := HW.out w6 e0
            clear hc0 hf0
            go_wp2
            refine bodyPost_ret (v := .tuple #[.agg #[.int .i64 0, .int .i64 0], .bool false]) (by simp [results, Tryd.results55, go_sem, s20, s21, k20, k21]) rfl ⟨by rw [HV.out], ?_⟩
            exact Ext.setCell (Ext.setCell xx (Nat.le_refl _) _) (Nat.le_refl _) _
      · have hbd := readL_bd (c :: t)
        have HCD := Lib.hid (show candL l = none by unfold candL splitL; rw [hpq])
        have HR0 := Lib.hid (fun w => frRead_any (c :: t) w)
        generalize readL (c :: t) = N at *
        have hw : IntKind.i64.wrap N = N := by rw [wrap_i64] <;> omega
        have hwn : IntKind.i64.wrap (-N) = -N := by rw [wrap_i64] <;> omega
        have h2a : ¬ ((q.length : Int) + 1 + 1 + 1 = 2) := by omega
        have h2b : (2 : Int) < (q.length : Int) + 1 + 1 + 1 := by omega
        have h2c : decide ((q.length : Int) + 1 + 1 + 1 = 2) = false := decide_eq_false h2a
        have h2d : decide ((2 : Int) < (q.length : Int) + 1 + 1 + 1) = true := decide_eq_true h2b
        go_enter Tryd.func55, Tryd.ntmps55
        go_wp2_with fail
        refine (HSp.out _).mono ?_
        rintro e w1 ⟨a, cc, rfl, hown, hb⟩
        have hz1 := hb.size
        have HF20 := Lib.hid (fun w' (e : Ext (w.alloc (.cells #[.int .i64 0, .int .i64 0] 32)) w') => Ext.thaws (w := w.alloc (.cells #[.int .i64 0, .int .i64 0] 32)) (b := w.heap.size) (o := 0) (v := .int .i64 0) (by simp) (by simp) w' e)
        have HF21 := Lib.hid (fun w' (e : Ext (w.alloc (.cells #[.int .i64 0, .int .i64 0] 32)) w') => Ext.thaws (w := w.alloc (.cells #[.int .i64 0, .int .i64 0] 32)) (b := w.heap.size) (o := 1) (v := .int .i64 0) (by simp) (by simp) w' e)
        have HC20 := Lib.hid (fun w' (e : Ext (w.alloc (.cells #[.int .i64 0, .int .i64 0] 32)) w') => e.keep (b := w.heap.size) (o := 0) (v := .int .i64 0) (by simp))
        have HC21 := Lib.hid (fun w' (e : Ext (w.alloc (.cells #[.int .i64 0, .int .i64 0] 32)) w') => e.keep (b := w.heap.size) (o := 1) (v := .int .i64 0) (by simp))
        have HW := Lib.hid (fun w' (e : Ext (w.alloc (.cells #[.int .i64 0, .int .i64 0] 32)) w') => show Ext w w' from Ext.trans (Ext.alloc (Ext.refl w) _) e)
        obtain ⟨gr, rfl, hg1, hg2⟩ := own_head hown (by simp)
        have hc0 : w1.cell? ⟨gr, 0, none⟩ = some (.string (txt (c :: t))) := by simpa [Addr.add] using hown.cells (g := gr) rfl 0 (.string (txt (c :: t))) (by simp [sv])
        have hf0 := hown.frozenAt 0
        have hg1' : w.heap.size + 1 ≤ gr := by simpa using hg1
        have hne : ¬ gr = w1.heap.size := by omega
        have hne2 : ¬ w1.heap.size = gr := by omega
        have s20 := HC20.out w1 hb
        have s21 := HC21.out w1 hb
        have hT := txt_toList (c :: t)
        have hS := txt_size (c :: t)
        have hp : 0 < (txt (c :: t)).size := by rw [hS]; simp
        have hi0 : ((txt (c :: t))[0]'hp) = c := rfl
        have hi1 : ¬ (((txt (c :: t))[0]'hp).toNat : Int) = 45 := by rw [hi0]; intro e; exact h45 (UInt8.toNat_inj.1 (by show c.toNat = 45; omega))
        clear hi0
        clear hpq HSp s20 s21
        go_wp2_with fail
        refine (HR0.out _).mono ?_
        rintro e _ ⟨rfl, rfl⟩
        have HV := Lib.hid (show tellF (candL l) l = (0, 0, false) by rw [HCD.out]; rfl)
        have k20 := HF20.out w1 hb
        have k21 := HF21.out w1 hb
        have s20 := HC20.out w1 hb
        have s21 := HC21.out w1 hb
        have hm1 : ¬ w.heap.size = gr := by omega
        have hm2 : ¬ w.heap.size = w1.heap.size := by omega
        have hm3 : ¬ gr = w.heap.size := by omega
        have hm4 : ¬ w1.heap.size = w.heap.size := by omega
        have hm5 : w.heap.size < w1.heap.size := by omega
        have xw := HW.out _ hb
        clear hg1 hb
        go_wp2
        refine bodyPost_ret (v := .tuple #[.agg #[.int .i64 0, .int .i64 0], .bool false]) (by simp [results, Tryd.results55, go_sem, s20, s21, k20, k21, hm1, hm2, hm3, hm4, hm5]) rfl ⟨by rw [HV.out], (by repeat (first | exact Ext.refl _ | assumption | apply Ext.alloc | apply Ext.drew | apply Ext.drewN | (refine Ext.trans ?_ (by assumption)) | (refine Ext.setCell ?_ (by (try simp) <;> omega) _)))⟩
end Go.Proofs.YtgoaedhgkkbajaaDoor
