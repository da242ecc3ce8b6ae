/-
  Directions by their angles: what the program's and the reference's comparisons answer.
-/
import Derived.Test.YtaloegjcdllgoaaAngP
import Derived.BigQuiet
import Derived.Lib.AppendIntMem
import Derived.Shelf.SlSortCmp.QuietGrown
namespace Go.Proofs.Ytaloegjcdllgoaa
open Go.RowKit

def Gr (w w' : World) : Prop := ∃ q os, w' = Sort.grow (w.drewN q) os
theorem Gr.refl (w : World) : Gr w w := ⟨0, #[], by rw [Sort.grow_empty]; rfl⟩
theorem Gr.alloc {w w' : World} (h : Gr w w') (o : Obj) : Gr w (w'.alloc o) := by
  obtain ⟨q, os, rfl⟩ := h
  exact ⟨q, os ++ #[o], by rw [Sort.alloc_eq_grow, Sort.grow_grow]⟩
theorem drewN_more (w : World) (a b : Nat) : (w.drewN a).drewN b = w.drewN (a + b) := by
  simp [World.drewN, Nat.add_comm, Nat.add_left_comm]
theorem Gr.trans {a b c : World} (h : Gr a b) (k : Gr b c) : Gr a c := by
  obtain ⟨q, os, rfl⟩ := h
  obtain ⟨q', os', rfl⟩ := k
  refine ⟨q + q', os ++ os', ?_⟩
  rw [show (Sort.grow (a.drewN q) os).drewN q' = Sort.grow ((a.drewN q).drewN q') os from rfl, Sort.grow_grow, drewN_more]
theorem Gr.ext {w w' : World} (h : Gr w w') : Ext w w' := by
  obtain ⟨q, os, rfl⟩ := h
  exact Lib.below_grow _ w (Nat.le_refl _) q os
theorem upper_grown (x : Int × Int) (w : World) :
    Calls Try.prog 62 #[.agg #[.int .i64 x.1, .int .i64 x.2]] w fun e w' => e = .returned (.bool (upB x)) ∧ Gr w w' := by
  obtain ⟨a, b⟩ := x
  go_enter Try.func62, Try.ntmps62
  go_wp2
  all_goals (
    go_ret
    exact ⟨ret_bool (by unfold upB; rw [Bool.eq_iff_iff]; simp; omega), (Gr.refl w).alloc _⟩)
theorem cross_grown (x y : Int × Int) (hx : QA x) (hy : QA y) (w : World) :
    Calls Try.prog 63 #[.agg #[.int .i64 x.1, .int .i64 x.2], .agg #[.int .i64 y.1, .int .i64 y.2]] w fun e w' => e = .returned (.int .i64 (crI x y)) ∧ Gr w w' := by
  obtain ⟨a, b⟩ := x
  obtain ⟨c, d⟩ := y
  have hG := ((Gr.refl w).alloc (.cells #[.int .i64 a, .int .i64 b] 49)).alloc (.cells #[.int .i64 c, .int .i64 d] 49)
  have b1 := mul_bd (a := a) (d := d) (A := 1000) (D := 1000) hx.2.1.1 hx.2.1.2 hy.2.2.1 hy.2.2.2
  have b2 := mul_bd (a := b) (d := c) (A := 1000) (D := 1000) hx.2.2.1 hx.2.2.2 hy.2.1.1 hy.2.1.2
  show Calls _ _ _ _ fun e w' => e = .returned (.int .i64 (a * d - b * c)) ∧ Gr w w'
  clear hx hy
  go_enter Try.func63, Try.ntmps63
  go_wp2
  go_ret
  exact ⟨rfl, hG⟩
theorem stHalf_any (x y : Int) (w : World) :
    Calls Try.prog 86 #[.int .i64 x, .int .i64 y] w fun e w' => e = .returned (.int .i64 (if upB (x, y) = true then 0 else 1)) ∧ Ext w w' := by
  obtain ⟨v, hv⟩ : ∃ v : Int, v = (if upB (x, y) = true then 0 else 1) := ⟨_, rfl⟩
  rw [← hv]
  have HV := Lib.hid hv
  clear hv
  go_enter Try.func86, Try.ntmps86
  go_wp2
  all_goals (
    go_ret
    refine ⟨ret_int ?_, (by repeat (first | exact Ext.refl _ | assumption | apply Ext.alloc | apply Ext.drew | apply Ext.drewN | (refine Ext.trans ?_ (by assumption)) | (refine Ext.setCell ?_ (by (try simp) <;> omega) _)))⟩
    rw [HV.out]
    split <;> rename_i hb <;> first | rfl | (exfalso; simp [upB] at hb <;> omega))
theorem stAngle_any (a b c d : Int) (hx : QA (a, b)) (hy : QA (c, d)) (w : World) :
    Calls Try.prog 70 #[.int .i64 a, .int .i64 b, .int .i64 c, .int .i64 d] w fun e w' => e = .returned (.bool (decide (angI (a, b) (c, d) < 0))) ∧ Ext w w' := by
  have b1 := mul_bd (a := a) (d := d) (A := 1000) (D := 1000) hx.2.1.1 hx.2.1.2 hy.2.2.1 hy.2.2.2
  have b2 := mul_bd (a := b) (d := c) (A := 1000) (D := 1000) hx.2.2.1 hx.2.2.2 hy.2.1.1 hy.2.1.2
  have HP := Lib.hid (fun w => stHalf_any a b w)
  have HQ := Lib.hid (fun w => stHalf_any c d w)
  have HA := Lib.hid (show decide (angI (a, b) (c, d) < 0) = if upB (a, b) = upB (c, d) then decide (0 < a * d - b * c) else upB (a, b) by
    unfold angI crI
    cases upB (a, b) <;> cases upB (c, d) <;> simp <;> omega)
  rw [HA.out]
  clear hx hy
  generalize upB (a, b) = p at *
  generalize upB (c, d) = q at *
  cases p <;> cases q
  all_goals (
    simp only [if_true, if_false, Bool.false_eq_true] at HP HQ ⊢
    clear HA
    have hE : Ext w w := Ext.refl _
    go_enter Try.func70, Try.ntmps70
    go_wp2_with (first | (go_at_call 86; (with_reducible refine (HP.out _).mono ?_); rintro e w' ⟨rfl, hb⟩; replace hE := Ext.trans hE hb) | (go_at_call 86; (with_reducible refine (HQ.out _).mono ?_); rintro e w' ⟨rfl, hb⟩; replace hE := Ext.trans hE hb))
    go_ret
    exact ⟨ret_bool (by first | (with_reducible rfl) | (rw [Bool.eq_iff_iff]; simp only [decide_eq_true_eq]; omega) | (rw [Bool.eq_iff_iff]; simp only [decide_eq_true_eq]; constructor <;> intro h <;> omega)), (by repeat (first | exact Ext.refl _ | assumption | apply Ext.alloc | apply Ext.drew | apply Ext.drewN | (refine Ext.trans ?_ (by assumption)) | (refine Ext.setCell ?_ (by (try simp) <;> omega) _)))⟩)
theorem compareAngles_grown (x y : Int × Int) (hx : QA x) (hy : QA y) (w : World) :
    Calls Try.prog 33 #[.agg #[.int .i64 x.1, .int .i64 x.2], .agg #[.int .i64 y.1, .int .i64 y.2]] w fun e w' => e = .returned (.int .i64 (angI x y)) ∧ Gr w w' := by
  obtain ⟨a, b⟩ := x
  obtain ⟨c, d⟩ := y
  have HP := Lib.hid (fun w => upper_grown (a, b) w)
  have HQ := Lib.hid (fun w => upper_grown (c, d) w)
  have HC := Lib.hid (fun w => cross_grown (a, b) (c, d) hx hy w)
  have HA := Lib.hid (show angI (a, b) (c, d) = if upB (a, b) = upB (c, d) then -crI (a, b) (c, d) else if upB (a, b) = true then -1 else 1 from rfl)
  have b1 := mul_bd (a := a) (d := d) (A := 1000) (D := 1000) hx.2.1.1 hx.2.1.2 hy.2.2.1 hy.2.2.2
  have b2 := mul_bd (a := b) (d := c) (A := 1000) (D := 1000) hx.2.2.1 hx.2.2.2 hy.2.1.1 hy.2.1.2
  have b3 : -2000000 ≤ crI (a, b) (c, d) ∧ crI (a, b) (c, d) ≤ 2000000 := by unfold crI; simp only; omega
  rw [HA.out]
  clear hx hy b1 b2 HA
  simp only at HP HQ HC ⊢
  generalize crI (a, b) (c, d) = z at *
  generalize upB (a, b) = p at *
  generalize upB (c, d) = q at *
  have hmx : Try.prog.follows .mixedOrders = true := by kernel_rfl
  cases p <;> cases q
  all_goals (
    simp only [if_true, if_false, Bool.false_eq_true, reduceCtorEq]
    go_enter Try.func33, Try.ntmps33
    go_wp2
    obtain ⟨V, hV⟩ : ∃ V, V = (w.alloc (.cells #[.int .i64 a, .int .i64 b] 49)).alloc (.cells #[.int .i64 c, .int .i64 d] 49) := ⟨_, rfl⟩
    have A0 := fun (k : Nat) (os : Array Obj) => cell_grown (w := V) (a := ⟨w.heap.size, 0, none⟩) (v := .int .i64 a) (by rw [hV]; simp; omega) (by rw [hV]; simp) k os
    have A1 := fun (k : Nat) (os : Array Obj) => cell_grown (w := V) (a := ⟨w.heap.size, 1, none⟩) (v := .int .i64 b) (by rw [hV]; simp; omega) (by rw [hV]; simp) k os
    have B0 := fun (k : Nat) (os : Array Obj) => cell_grown (w := V) (a := ⟨w.heap.size + 1, 0, none⟩) (v := .int .i64 c) (by rw [hV]; simp) (by rw [hV]; simp) k os
    have B1 := fun (k : Nat) (os : Array Obj) => cell_grown (w := V) (a := ⟨w.heap.size + 1, 1, none⟩) (v := .int .i64 d) (by rw [hV]; simp) (by rw [hV]; simp) k os
    have HG := Lib.hid (show Gr w V by rw [hV]; exact ((Gr.refl w).alloc _).alloc _)
    rw [← hV]
    clear hV
    go_quiet_grown ((first | (go_at_call 62; with_reducible exact Calls.grown_of (HP.out _)) | (go_at_call 62; with_reducible exact Calls.grown_of (HQ.out _))))
    have a0 := A0 nq osq
    have a1 := A1 nq osq
    have b0 := B0 nq osq
    have b1 := B1 nq osq
    have HG2 := Lib.hid (show Gr w (Sort.grow (V.drewN nq) osq) from HG.out.trans ⟨nq, osq, rfl⟩)
    clear A0 A1 B0 B1 HG
    generalize Sort.grow (V.drewN nq) osq = W at *)
  · go_wp2_with fail
    refine (HC.out _).mono ?_
    rintro e w3 ⟨rfl, h3⟩
    go_wp2
    go_ret
    exact ⟨rfl, HG2.out.trans h3⟩
  · go_wp2_with fail
    refine (HP.out _).mono ?_
    rintro e w3 ⟨rfl, h3⟩
    go_wp2
    go_ret
    exact ⟨rfl, HG2.out.trans h3⟩
  · go_wp2_with fail
    refine (HP.out _).mono ?_
    rintro e w3 ⟨rfl, h3⟩
    go_wp2
    go_ret
    exact ⟨rfl, HG2.out.trans h3⟩
  · go_wp2_with fail
    refine (HC.out _).mono ?_
    rintro e w3 ⟨rfl, h3⟩
    go_wp2
    go_ret
    exact ⟨rfl, HG2.out.trans h3⟩
end Go.Proofs.Ytaloegjcdllgoaa
