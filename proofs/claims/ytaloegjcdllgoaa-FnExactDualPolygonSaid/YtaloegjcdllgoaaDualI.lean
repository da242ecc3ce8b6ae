/-
  The library's Index at points.
-/
import Derived.Test.YtaloegjcdllgoaaAngW
import Derived.Test.YtaloegjcdllgoaaCat
import Derived.BigQuiet
namespace Go.Proofs.Ytaloegjcdllgoaa
open Go.RowKit

set_option maxHeartbeats 1000000 in
theorem indexP_any (a : Option Addr) (n c : Nat) (zs : List (Int × Int)) (x y : Int) (hn : n ≤ 1000) (k : Nat) (hk : k < n) (hat : pat zs k = (x, y)) (hne : ∀ j, j < k → pat zs j ≠ (x, y)) (w : World) (h : Reads w a 2 n (pv zs)) :
    Calls Try.prog 37 #[.slice a n c, .agg #[.int .i64 x, .int .i64 y]] w fun r w' => r = .returned (.int .i64 k) ∧ Ext w w' := by
  have HA := Lib.hid hat
  have HN := Lib.hid hne
  clear hat hne
  have HH := Lib.hid (Reads.ext ((Ext.refl w).alloc (.cells #[.int .i64 x, .int .i64 y] 49)) h)
  clear h
  go_enter Try.func37, Try.ntmps37
  go_wp2
  obtain ⟨W, hW⟩ : ∃ W, W = w.alloc (.cells #[.int .i64 x, .int .i64 y] 49) := ⟨_, rfl⟩
  have Vc0 := Ext.keeps (w := W) (b := w.heap.size) (o := 0) (v := .int .i64 x) (by rw [hW]; simp)
  have Vc1 := Ext.keeps (w := W) (b := w.heap.size) (o := 1) (v := .int .i64 y) (by rw [hW]; simp)
  have HE := Lib.hid (show Ext w W by rw [hW]; exact (Ext.refl w).alloc _)
  rw [← hW] at HH ⊢
  clear hW
  go_loopw [8] (fun t wr => ∃ j : Nat, j ≤ k ∧ t = .int .i64 j ∧ Ext W wr) (fun t _ => n - (intOf t).toNat)
  case atStart => exact ⟨0, Nat.zero_le _, rfl, Ext.refl _⟩
  case round =>
    obtain ⟨j, hj, rfl, hE⟩ := hrel
    obtain ⟨b, off, rfl, x0, x1⟩ := (Reads.ext hE HH.out).pair (k := j) (by omega)
    have v0 := Vc0 _ hE
    have v1 := Vc1 _ hE
    have hjn : (j : Int) < (n : Int) := by omega
    have HEr := Lib.hid (HE.out.trans hE)
    have HE2 := Lib.hid hE
    clear hE HH Vc0 Vc1
    by_cases hjk : j = k
    · rw [hjk, HA.out] at x0 x1
      simp only at x0 x1
      subst hjk
      clear HN HA HE2
      go_wp2
      go_quiet (fail)
      go_wp2
      go_ret
      exact ⟨rfl, HEr.out.drewN _⟩
    · have hp := HN.out j (by omega)
      generalize pat zs j = p at *
      obtain ⟨p1, p2⟩ := p
      simp only at x0 x1
      by_cases hx : x = p1
      · have hy : y ≠ p2 := fun e => hp (by rw [hx, e])
        have hy1 : (y == p2) = false := by simpa using hy
        have hy2 : decide (y = p2) = false := by simpa using hy
        subst hx
        have HJ := Lib.hid hjk
        clear hp hy HN HA hjk
        go_wp2
        go_quiet (fail)
        go_wp2
        go_roundw
        case rel => exact ⟨j + 1, by have := HJ.out; omega, by go_num, HE2.out.drewN _⟩
        case measure => simp [intOf]; omega
      · have hx1 : (x == p1) = false := by simpa using hx
        have hx2 : decide (x = p1) = false := by simpa using hx
        have HJ := Lib.hid hjk
        clear hp HN HA hjk hx
        go_wp2
        go_quiet (fail)
        go_wp2
        go_roundw
        case rel => exact ⟨j + 1, by have := HJ.out; omega, by go_num, HE2.out.drewN _⟩
        case measure => simp [intOf]; omega
/-- The first least corner among the first k. -/
def firstT (zs : List (Int × Int)) : Nat → Nat
  | 0 => 0
  | k + 1 => if cmpI (pat zs k).1 (pat zs k).2 (pat zs (firstT zs k)).1 (pat zs (firstT zs k)).2 < 0 then k else firstT zs k
theorem firstT_lt (zs : List (Int × Int)) : ∀ k, 0 < k → firstT zs k < k
  | 0, h => by omega
  | 1, _ => by simp [firstT, cmpI]
  | k + 2, _ => by
    have := firstT_lt zs (k + 1) (by omega)
    rw [firstT]
    split <;> omega
theorem firstT_one (zs : List (Int × Int)) : firstT zs 1 = 0 := by have := firstT_lt zs 1 (by omega); omega
set_option maxHeartbeats 1000000 in
theorem minP_any (a : Option Addr) (n c : Nat) (zs : List (Int × Int)) (hn1 : 1 ≤ n) (hn : n ≤ 1000) (hb : ∀ j, j < n → PB (pat zs j)) (w : World) (h : Reads w a 2 n (pv zs)) :
    Calls Try.prog 38 #[.slice a n c, .func (.func 39) #[] #[]] w fun r w' => r = .returned (.agg #[.int .i64 (pat zs (firstT zs n)).1, .int .i64 (pat zs (firstT zs n)).2]) ∧ Ext w w' := by
  have HB := Lib.hid hb
  clear hb
  obtain ⟨V, hV⟩ : ∃ V, V = w.alloc (.cells #[.int .i64 0, .int .i64 0] 49) := ⟨_, rfl⟩
  have HEV := Lib.hid (show Ext w V by rw [hV]; exact (Ext.refl w).alloc _)
  have hsV : V.heap.size = w.heap.size + 1 := by rw [hV]; simp
  have r0 : V.cell? ⟨w.heap.size, 0, none⟩ = some (.int .i64 0) := by rw [hV]; simp
  have r1 : V.cell? ⟨w.heap.size, 1, none⟩ = some (.int .i64 0) := by rw [hV]; simp
  have g0 : V.frozen? ⟨w.heap.size, 0, none⟩ = false := by rw [hV]; simp
  have g1 : V.frozen? ⟨w.heap.size, 1, none⟩ = false := by rw [hV]; simp
  have Rc0 := Ext.keeps r0
  have Rc1 := Ext.keeps r1
  have Rf0 := Ext.thaws r0 g0
  have Rf1 := Ext.thaws r1 g1
  have HR := Lib.hid (Reads.ext HEV.out h)
  obtain ⟨ab, ao, rfl, x0, x1⟩ := HR.out.pair (k := 0) (by omega)
  obtain ⟨P, hP⟩ : ∃ P, P = pat zs (firstT zs n) := ⟨_, rfl⟩
  rw [← hP]
  have HP := Lib.hid hP
  have hn2 : ¬ (n : Int) < 1 := by omega
  have HF := Lib.hid (show pat zs (firstT zs 1) = pat zs 0 by rw [firstT_one])
  have HV := Lib.hid hV
  clear h hP r0 r1 g0 g1 hV
  generalize hq : pat zs 0 = q at *
  obtain ⟨qx, qy⟩ := q
  simp only at x0 x1
  clear hq
  go_enter Try.func38, Try.ntmps38
  simp only [Nat.zero_mul, Nat.add_zero] at x0 x1
  rw [HV.out] at x0 x1
  go_wp2
  rw [← HV.out]
  have HM := Lib.hid (show Box2 (V.alloc (.cells #[.int .i64 qx, .int .i64 qy] 49)) V.heap.size (pat zs (firstT zs 1)).1 (pat zs (firstT zs 1)).2 by rw [HF.out]; exact Box2.new V qx qy _)
  obtain ⟨B, hB⟩ : ∃ B, B = V.heap.size := ⟨_, rfl⟩
  have hBw : w.heap.size + 1 = B := by rw [hB, hsV]
  rw [hBw]
  rw [← hB] at HM
  have HBV := Lib.hid hB
  clear x0 x1 hB hsV
  go_loopw [6] (fun t wr => ∃ j : Nat, 1 ≤ j ∧ j ≤ n ∧ t = .int .i64 j ∧ Box2 wr B (pat zs (firstT zs j)).1 (pat zs (firstT zs j)).2 ∧ Ext V wr) (fun t _ => n - (intOf t).toNat)
  case atStart => exact ⟨1, Nat.le_refl _, hn1, rfl, HM.out, (Ext.refl V).alloc _⟩
  case round =>
    clear HM
    obtain ⟨j, hj1, hj, rfl, hM, hE⟩ := hrel
    by_cases hlt : j < n
    rotate_left
    · have hjn : j = n := by omega
      rw [hjn, ← HP.out] at hM
      obtain ⟨px, py⟩ := P
      have m0 := hM.1 0 _ rfl
      have m1 := hM.1 1 _ rfl
      have r0 := Rc0 _ hE
      have r1 := Rc1 _ hE
      have g0 := Rf0 _ hE
      have g1 := Rf1 _ hE
      have HE := Lib.hid (HEV.out.trans hE)
      have hsE := HE.out.size
      have hbl : w.heap.size < wr.heap.size := by have h1 := hE.size; have h2 := HBV.out; omega
      clear hM Rc0 Rc1 Rf0 Rf1 hE HR HB HF HP HEV
      go_wp2
      refine bodyPost_ret (v := .agg #[.int .i64 px, .int .i64 py]) (by simp [results, Try.results38, go_sem, *]) rfl ⟨rfl, ?_⟩
      have hE := HE.out
      exact Ext.setCell (Ext.setCell hE (by simp) _) (by simp) _
    · have hjn : (j : Int) < (n : Int) := by omega
      obtain ⟨_, _, e0, x0, x1⟩ := (Reads.ext hE HR.out).pair hlt
      cases e0
      have hpb := HB.out j hlt
      have hfl := firstT_lt zs j (by omega)
      have hpm := HB.out (firstT zs j) (by omega)
      have HS := Lib.hid (show firstT zs (j + 1) = if cmpI (pat zs j).1 (pat zs j).2 (pat zs (firstT zs j)).1 (pat zs (firstT zs j)).2 < 0 then j else firstT zs j from rfl)
      have HPJ := Lib.hid (show pat zs j = pat zs j from rfl)
      obtain ⟨m, hm⟩ : ∃ m, m = pat zs (firstT zs j) := ⟨_, rfl⟩
      obtain ⟨q, hq⟩ : ∃ q, q = pat zs j := ⟨_, rfl⟩
      rw [← hm] at hpm hM HS
      rw [← hq] at hpb x0 x1 HS
      have HMM := Lib.hid hm
      have HQQ := Lib.hid hq
      clear hm hq hfl
      obtain ⟨mx, my⟩ := m
      obtain ⟨qx, qy⟩ := q
      unfold PB at hpb hpm
      simp only at hpb hpm x0 x1 hM HS
      have HC := Lib.hid (fun w => comparePoints_any qx qy mx my (by omega) (by omega) (by omega) (by omega) (by omega) (by omega) (by omega) (by omega) w)
      have hcb : -2000000 ≤ cmpI qx qy mx my ∧ cmpI qx qy mx my ≤ 2000000 := by unfold cmpI; split <;> omega
      generalize hz : cmpI qx qy mx my = z at *
      clear hz
      have HM := Lib.hid hM
      have m0 := hM.1 0 _ rfl
      have m1 := hM.1 1 _ rfl
      have HEr := Lib.hid hE
      clear hM hE hpb hpm HB HF HP HR
      have hE : Ext wr wr := Ext.refl _
      have Kc0 := Ext.keeps x0
      have Kc1 := Ext.keeps x1
      have Mc0 := Ext.keeps m0
      have Mc1 := Ext.keeps m1
      have HC2 := Lib.hid (fun s : Past wr => HC.out s.w)
      by_cases hlt0 : z < 0
      · go_wp2
        have qK0 := fun s : Past wr => Kc0 s.w s.ext
        have qK1 := fun s : Past wr => Kc1 s.w s.ext
        have qM0 := fun s : Past wr => Mc0 s.w s.ext
        have qM1 := fun s : Past wr => Mc1 s.w s.ext
        refine wp_region_past wr (by first | exact hE | exact Ext.alloc hE _ | exact Ext.drew hE | exact Ext.drewN hE _) (by kernel_rfl) (by kernel_rfl) ?_
        repeat (go_big_quiet_step (((go_at_call 39; with_reducible exact past_ext (HC2.out _)))))
        refine wpQuiet_nil ?_
        intro w2 hw'
        obtain ⟨⟨_, hE⟩, hw''⟩ := hw'
        subst hw''
        clear qK0 qK1 qM0 qM1
        have HM2 := Lib.hid (Box2.ext hE HM.out)
        have k0 := Kc0 _ hE
        have k1 := Kc1 _ hE
        have f0 := HM2.out.2 0
        have f1 := HM2.out.2 1
        have c0 := HM2.out.1 0 _ rfl
        have c1 := HM2.out.1 1 _ rfl
        have HE3 := Lib.hid (HEr.out.trans hE)
        clear Kc0 Kc1 Mc0 Mc1 hE
        go_wp2
        go_roundw
        case rel => exact ⟨j + 1, by omega, by omega, by go_num, by rw [HS.out, if_pos hlt0, ← HQQ.out]; exact HM2.out.set qx qy, Ext.setCell (Ext.setCell HE3.out (by rw [HBV.out]; simp) _) (by rw [HBV.out]; simp) _⟩
        case measure => simp [intOf]; omega
      · go_wp2
        have qK0 := fun s : Past wr => Kc0 s.w s.ext
        have qK1 := fun s : Past wr => Kc1 s.w s.ext
        have qM0 := fun s : Past wr => Mc0 s.w s.ext
        have qM1 := fun s : Past wr => Mc1 s.w s.ext
        refine wp_region_past wr (by first | exact hE | exact Ext.alloc hE _ | exact Ext.drew hE | exact Ext.drewN hE _) (by kernel_rfl) (by kernel_rfl) ?_
        repeat (go_big_quiet_step (((go_at_call 39; with_reducible exact past_ext (HC2.out _)))))
        refine wpQuiet_nil ?_
        intro w2 hw'
        obtain ⟨⟨_, hE⟩, hw''⟩ := hw'
        subst hw''
        clear qK0 qK1 qM0 qM1
        have HM2 := Lib.hid (Box2.ext hE HM.out)
        have HE3 := Lib.hid (HEr.out.trans hE)
        clear Kc0 Kc1 Mc0 Mc1 hE
        go_wp2
        go_roundw
        case rel => exact ⟨j + 1, by omega, by omega, by go_num, by rw [HS.out, if_neg (by omega), ← HMM.out]; exact HM2.out, HE3.out⟩
        case measure => simp [intOf]; omega
end Go.Proofs.Ytaloegjcdllgoaa
