/-
  The vertex that a cell is dual to, as the reference makes it.
-/
import Derived.Test.YtngbdopgdcjdeaaGreatVerP
import Derived.Test.YtngbdopgdcjdeaaGreatBa4
import Derived.BigQuiet
namespace Go.Proofs.YtngbdopgdcjdeaaGreat
open Go.RowKit

theorem frMake_ok (n d : Int) (n1 : -1000000000 ≤ n) (n2 : n ≤ 1000000000) (d1 : 0 < d) (d2 : d ≤ 1000000000) (w : World) :
    Calls Tryz.prog 83 #[.int .i64 n, .int .i64 d] w fun r w' => r = .returned (.tuple #[.agg #[.int .i64 (lowN n d), .int .i64 (lowD n d)], .bool true]) ∧ Ext w w' := by
  have h := frMake_any n d (by omega) (by omega) (by omega) (by omega) w
  rw [okM_of d1 ⟨n1, n2⟩ d2] at h
  exact h
theorem vY_comm (B C A : Int × Int) (a b c : Int) : vY B C A a b c = (B.1 - A.1) * (a - c) - (C.1 - A.1) * (a - b) := by unfold vY; rw [Int.mul_comm (a - c), Int.mul_comm (a - b)]
theorem ext_new {w w' : World} {cs : Array Value} {t : TypeId} (h : Ext (w.alloc (.cells cs t)) w') {i : Nat} {v : Value} (hi : cs[i]? = some v) : w'.cell? ⟨w.heap.size, i, none⟩ = some v ∧ w'.frozen? ⟨w.heap.size, i, none⟩ = false :=
  ⟨h.keep (Has.new w cs t i v (by simpa using hi)), by rw [h.frozen _ _ (by simp)]; simp⟩
set_option maxHeartbeats 4000000 in
set_option maxRecDepth 100000 in
theorem cuVertex_any (a ax : Option Addr) (n c nx cx : Nat) (zs : List (Int × Int × Int)) (hZ : PZ zs) (x : List Int) (hx : IsCell zs x) (w : World) (h : Reads w a 3 n (tv zs)) (hxr : Reads w ax 1 nx (iv x)) :
    Calls Tryz.prog 53 #[.slice a n c, .slice ax nx cx] w fun r w' => r = .returned (.agg #[.int .i64 (lowN (verX zs x) (verD zs x)), .int .i64 (lowD (verX zs x) (verD zs x)), .int .i64 (lowN (verY zs x) (verD zs x)), .int .i64 (lowD (verY zs x) (verD zs x))]) ∧ Ext w w' := by
  have hl : zs.length = n := by have := h.1; rw [tv_len] at this; omega
  have hlx : x.length = nx := by have := hxr.1; rw [iv_len] at this; omega
  obtain ⟨hm3, hcn, hD⟩ := corn_three hZ hx
  rw [cornC_len] at hm3
  have hvb := ver_bd hZ hx
  have hn12 : n ≤ 12 := by rw [← hl]; exact hZ.1
  obtain ⟨i2, _, hi⟩ := hcn 0 (by omega)
  obtain ⟨j2, _, hj⟩ := hcn 1 (by omega)
  obtain ⟨k2, _, hk⟩ := hcn 2 (by omega)
  obtain ⟨ad, off, rfl, hc⟩ := term_cells h (by omega)
  have fA := hc _ (show corN zs x 0 < n by omega)
  have fB := hc _ (show corN zs x 1 < n by omega)
  have fC := hc _ (show corN zs x 2 < n by omega)
  have bA := hZ.2.1 _ i2
  have bB := hZ.2.1 _ j2
  have bC := hZ.2.1 _ k2
  have pA := bA.PB
  have pB := bB.PB
  have pC := bC.PB
  unfold TermB at bA bB bC
  have HF := Lib.hid (fun t (ht : t < n) w' (e : Reads w' (some ⟨ad, off, none⟩) 3 n (tv zs)) => ceFind_any (some ⟨ad, off, none⟩) n c zs hn12 hZ.2.2 t ht w' e)
  have HF0 := Lib.hid (HF.out _ (show corN zs x 0 < n by omega))
  have HF1 := Lib.hid (HF.out _ (show corN zs x 1 < n by omega))
  have HF2 := Lib.hid (HF.out _ (show corN zs x 2 < n by omega))
  have HZ := Lib.hid hZ
  have HX := Lib.hid hx
  have HP := Lib.hid hxr
  have HR := Lib.hid h
  have HVX := Lib.hid (show verX zs x = vX _ _ _ _ _ _ from rfl)
  have HVY := Lib.hid (show verY zs x = vY _ _ _ _ _ _ from rfl)
  have HVD := Lib.hid (show verD zs x = turnI _ _ _ from rfl)
  have hi3 : (corN zs x 0 : Int) < (n : Int) := by omega
  have hj3 : (corN zs x 1 : Int) < (n : Int) := by omega
  have hk3 : (corN zs x 2 : Int) < (n : Int) := by omega
  clear hc hcn hx hZ h hxr HF hD hl
  obtain ⟨N1, hN1⟩ : ∃ z, z = lowN (verX zs x) (verD zs x) := ⟨_, rfl⟩
  obtain ⟨D1, hD1⟩ : ∃ z, z = lowD (verX zs x) (verD zs x) := ⟨_, rfl⟩
  obtain ⟨N2, hN2⟩ : ∃ z, z = lowN (verY zs x) (verD zs x) := ⟨_, rfl⟩
  obtain ⟨D2, hD2⟩ : ∃ z, z = lowD (verY zs x) (verD zs x) := ⟨_, rfl⟩
  rw [← hN1, ← hD1, ← hN2, ← hD2]
  rw [HVX.out, HVD.out] at hN1 hD1
  rw [HVY.out, HVD.out] at hN2 hD2
  rw [HVX.out, HVY.out, HVD.out] at hvb
  unfold vX at hN1 hD1 hvb
  rw [vY_comm] at hN2 hD2 hvb
  have HN1 := Lib.hid hN1
  have HD1 := Lib.hid hD1
  have HN2 := Lib.hid hN2
  have HD2 := Lib.hid hD2
  clear hN1 hD1 hN2 hD2
  have HS := (Has.new w #[.int .i64 0, .int .i64 0, .int .i64 0, .int .i64 0] 37)
  have Sc0 := Ext.keeps (HS 0 _ rfl)
  have Sc1 := Ext.keeps (HS 1 _ rfl)
  have Sc2 := Ext.keeps (HS 2 _ rfl)
  have Sc3 := Ext.keeps (HS 3 _ rfl)
  have Sf0 := Ext.thaws (w := (w.alloc (.cells #[.int .i64 0, .int .i64 0, .int .i64 0, .int .i64 0] 37))) (HS 0 _ rfl) (by simp)
  have Sf1 := Ext.thaws (w := (w.alloc (.cells #[.int .i64 0, .int .i64 0, .int .i64 0, .int .i64 0] 37))) (HS 1 _ rfl) (by simp)
  have Sf2 := Ext.thaws (w := (w.alloc (.cells #[.int .i64 0, .int .i64 0, .int .i64 0, .int .i64 0] 37))) (HS 2 _ rfl) (by simp)
  have Sf3 := Ext.thaws (w := (w.alloc (.cells #[.int .i64 0, .int .i64 0, .int .i64 0, .int .i64 0] 37))) (HS 3 _ rfl) (by simp)
  clear HS
  have hE : Ext (w.alloc (.cells #[.int .i64 0, .int .i64 0, .int .i64 0, .int .i64 0] 37)) (w.alloc (.cells #[.int .i64 0, .int .i64 0, .int .i64 0, .int .i64 0] 37)) := Ext.refl _
  go_enter Tryz.func53, Tryz.ntmps53
  go_wp2_with fail
  refine (cePolygon_any (some ⟨ad, off, none⟩) ax n c nx cx zs HZ.out x HX.out (w.alloc (.cells #[.int .i64 0, .int .i64 0, .int .i64 0, .int .i64 0] 37)) (Reads.ext (by repeat (first | exact Ext.refl _ | assumption | apply Ext.alloc | apply Ext.drew | apply Ext.drewN | (refine Ext.trans ?_ (by assumption)) | (refine Ext.setCell ?_ (by (try simp) <;> omega) _))) HR.out) (Reads.ext (by repeat (first | exact Ext.refl _ | assumption | apply Ext.alloc | apply Ext.drew | apply Ext.drewN | (refine Ext.trans ?_ (by assumption)) | (refine Ext.setCell ?_ (by (try simp) <;> omega) _))) HP.out)).mono ?_
  rintro e w1 ⟨a1, c1, rfl, ho1, hE1⟩
  obtain ⟨cb, rfl, hcb, _⟩ := own_head ho1 (by omega)
  have k00 : w1.cell? ⟨cb, 0, none⟩ = some (.int .i64 (pI zs (corN zs x 0)).1) := by rw [← hi]; exact (ho1.cellAt 0 (by omega)).trans (pv_at (zs := hullC zs x) (k := 0) (by omega)).1
  have k01 : w1.cell? ⟨cb, 1, none⟩ = some (.int .i64 (pI zs (corN zs x 0)).2) := by rw [← hi]; exact (ho1.cellAt 1 (by omega)).trans (pv_at (zs := hullC zs x) (k := 0) (by omega)).2
  have k10 : w1.cell? ⟨cb, 2, none⟩ = some (.int .i64 (pI zs (corN zs x 1)).1) := by rw [← hj]; exact (ho1.cellAt 2 (by omega)).trans (pv_at (zs := hullC zs x) (k := 1) (by omega)).1
  have k11 : w1.cell? ⟨cb, 3, none⟩ = some (.int .i64 (pI zs (corN zs x 1)).2) := by rw [← hj]; exact (ho1.cellAt 3 (by omega)).trans (pv_at (zs := hullC zs x) (k := 1) (by omega)).2
  have k20 : w1.cell? ⟨cb, 4, none⟩ = some (.int .i64 (pI zs (corN zs x 2)).1) := by rw [← hk]; exact (ho1.cellAt 4 (by omega)).trans (pv_at (zs := hullC zs x) (k := 2) (by omega)).1
  have k21 : w1.cell? ⟨cb, 5, none⟩ = some (.int .i64 (pI zs (corN zs x 2)).2) := by rw [← hk]; exact (ho1.cellAt 5 (by omega)).trans (pv_at (zs := hullC zs x) (k := 2) (by omega)).2
  have hEw : Ext w w1 := Ext.trans (by repeat (first | exact Ext.refl _ | assumption | apply Ext.alloc | apply Ext.drew | apply Ext.drewN | (refine Ext.trans ?_ (by assumption)) | (refine Ext.setCell ?_ (by (try simp) <;> omega) _))) hE1
  replace Sc0 := Ext.rebase hE1 Sc0
  replace Sf0 := Ext.rebase hE1 Sf0
  replace Sc1 := Ext.rebase hE1 Sc1
  replace Sf1 := Ext.rebase hE1 Sf1
  replace Sc2 := Ext.rebase hE1 Sc2
  replace Sf2 := Ext.rebase hE1 Sf2
  replace Sc3 := Ext.rebase hE1 Sc3
  replace Sf3 := Ext.rebase hE1 Sf3
  have K0c0 := Ext.keeps k00
  have K0c1 := Ext.keeps k01
  have K1c0 := Ext.keeps k10
  have K1c1 := Ext.keeps k11
  have K2c0 := Ext.keeps k20
  have K2c1 := Ext.keeps k21
  have HEw := Lib.hid hEw
  have HR1 := Lib.hid (Reads.ext hEw HR.out)
  have hM0 : 0 < (hullC zs x).length := by omega
  have hM1 : (1 : Int) < ((hullC zs x).length : Int) := by omega
  have hM2 : (2 : Int) < ((hullC zs x).length : Int) := by omega
  obtain ⟨fA0, fA1, fA2⟩ := fA
  obtain ⟨fB0, fB1, fB2⟩ := fB
  obtain ⟨fC0, fC1, fC2⟩ := fC
  have Ac0 := Ext.keeps (hEw.keep fA0)
  have Ac1 := Ext.keeps (hEw.keep fA1)
  have Ac2 := Ext.keeps (hEw.keep fA2)
  have Bc0 := Ext.keeps (hEw.keep fB0)
  have Bc1 := Ext.keeps (hEw.keep fB1)
  have Bc2 := Ext.keeps (hEw.keep fB2)
  have Cc0 := Ext.keeps (hEw.keep fC0)
  have Cc1 := Ext.keeps (hEw.keep fC1)
  have Cc2 := Ext.keeps (hEw.keep fC2)
  have HG0 := Lib.hid (fun w' (e : Ext w1 w') => HF0.out w' (Reads.ext e HR1.out))
  have HG1 := Lib.hid (fun w' (e : Ext w1 w') => HF1.out w' (Reads.ext e HR1.out))
  have HG2 := Lib.hid (fun w' (e : Ext w1 w') => HF2.out w' (Reads.ext e HR1.out))
  clear hE ho1 hE1 hEw k00 k01 k10 k11 k20 k21 fA0 fA1 fA2 fB0 fB1 fB2 fC0 fC1 fC2 hi hj hk HX HZ hcb HVX HVY HVD HF0 HF1 HF2 HP HR HR1 i2 j2 k2 hm3 hlx hn12
  generalize pI zs (corN zs x 0) = A at *
  generalize pI zs (corN zs x 1) = B at *
  generalize pI zs (corN zs x 2) = C at *
  generalize cI zs (corN zs x 0) = a at *
  generalize cI zs (corN zs x 1) = b at *
  generalize cI zs (corN zs x 2) = c' at *
  generalize corN zs x 0 = i at *
  generalize corN zs x 1 = j at *
  generalize corN zs x 2 = l at *
  generalize (hullC zs x).length = M at *
  have hAB : (-6 ≤ B.1 - A.1 ∧ B.1 - A.1 ≤ 6) ∧ (-6 ≤ B.2 - A.2 ∧ B.2 - A.2 ≤ 6) := by omega
  have hAC : (-6 ≤ C.1 - A.1 ∧ C.1 - A.1 ≤ 6) ∧ (-6 ≤ C.2 - A.2 ∧ C.2 - A.2 ≤ 6) := by omega
  go_wp2
  refine wp_region_order 24 [(6, .cells #[.int .i64 0, .int .i64 0, .int .i64 0] 62), (7, .cells #[.int .i64 0, .int .i64 0, .int .i64 0] 62), (8, .cells #[.int .i64 0, .int .i64 0, .int .i64 0] 62)] 3 (fun m => ⟨m - 21, if m = 27 then 24 else if m = 28 then 32 else 40, .cells #[.int .i64 0, .int .i64 0, .int .i64 0] 62, ok3, cellsOf 62⟩) w1 (Ext.refl _) (by kernel_rfl) (by kernel_rfl) rfl ?_ ?_
  · simp only [List.drop_succ_cons, List.drop_zero]
    exact ⟨⟨rfl, rfl, fun a w => by simp [go_sem]⟩, ⟨rfl, rfl, fun a w => by simp [go_sem]⟩, ⟨rfl, rfl, fun a w => by simp [go_sem]⟩, trivial⟩
  · simp only [List.take_succ_cons, List.take_zero]
    refine walkE_read (v := .slice (some ⟨ad, off, none⟩) n c) rfl (fun w' hw' => by simp [go_sem]) ?_
    simp only [Act.put, List.setIfInBounds_toArray, List.set_cons_succ, List.set_cons_zero]
    refine walkE_read (v := .slice (some ⟨ad, off, none⟩) n c) rfl (fun w' hw' => by simp [go_sem]) ?_
    simp only [Act.put, List.setIfInBounds_toArray, List.set_cons_succ, List.set_cons_zero]
    refine walkE_read (v := .slice (some ⟨cb, 0, none⟩) M c1) rfl (fun w' hw' => by simp [go_sem]) ?_
    simp only [Act.put, List.setIfInBounds_toArray, List.set_cons_succ, List.set_cons_zero]
    refine walkE_read (v := .pointer (some ⟨cb, 0, none⟩)) rfl (fun w' hw' => by simp [go_sem, hM0]) ?_
    simp only [Act.put, List.setIfInBounds_toArray, List.set_cons_succ, List.set_cons_zero]
    refine walkE_read (v := .agg #[.int .i64 A.1, .int .i64 A.2]) rfl (fun w' hw' => by have g0 := K0c0 w' hw'; have g1 := K0c1 w' hw'; simp [go_sem, g0, g1]) ?_
    simp only [Act.put, List.setIfInBounds_toArray, List.set_cons_succ, List.set_cons_zero]
    refine ⟨.int .i64 (i : Int), .inl ⟨rfl, fun w' hw' => by
      have hc := HG0.out w' hw'
      unfold Oper.quietAt
      simp [go_sem, Oper.quietUpon]
      exact hc⟩, ?_⟩
    simp only [Act.put, List.setIfInBounds_toArray, List.set_cons_succ, List.set_cons_zero]
    refine walkE_read (v := .pointer (some ⟨ad, off + i * 3, none⟩)) rfl (fun w' hw' => by simp [go_sem, hi3]) ?_
    simp only [Act.put, List.setIfInBounds_toArray, List.set_cons_succ, List.set_cons_zero]
    refine walkE_read (v := .agg #[.int .i64 A.1, .int .i64 A.2, .int .i64 a]) rfl (fun w' hw' => by have g0 := Ac0 w' hw'; have g1 := Ac1 w' hw'; have g2 := Ac2 w' hw'; simp [go_sem, g0, g1, g2]) ?_
    simp only [Act.put, List.setIfInBounds_toArray, List.set_cons_succ, List.set_cons_zero]
    refine walkE_read (v := .slice (some ⟨ad, off, none⟩) n c) rfl (fun w' hw' => by simp [go_sem]) ?_
    simp only [Act.put, List.setIfInBounds_toArray, List.set_cons_succ, List.set_cons_zero]
    refine walkE_read (v := .slice (some ⟨ad, off, none⟩) n c) rfl (fun w' hw' => by simp [go_sem]) ?_
    simp only [Act.put, List.setIfInBounds_toArray, List.set_cons_succ, List.set_cons_zero]
    refine walkE_read (v := .slice (some ⟨cb, 0, none⟩) M c1) rfl (fun w' hw' => by simp [go_sem]) ?_
    simp only [Act.put, List.setIfInBounds_toArray, List.set_cons_succ, List.set_cons_zero]
    refine walkE_read (v := .pointer (some ⟨cb, 2, none⟩)) rfl (fun w' hw' => by simp [go_sem, hM1]) ?_
    simp only [Act.put, List.setIfInBounds_toArray, List.set_cons_succ, List.set_cons_zero]
    refine walkE_read (v := .agg #[.int .i64 B.1, .int .i64 B.2]) rfl (fun w' hw' => by have g0 := K1c0 w' hw'; have g1 := K1c1 w' hw'; simp [go_sem, g0, g1]) ?_
    simp only [Act.put, List.setIfInBounds_toArray, List.set_cons_succ, List.set_cons_zero]
    refine ⟨.int .i64 (j : Int), .inl ⟨rfl, fun w' hw' => by
      have hc := HG1.out w' hw'
      unfold Oper.quietAt
      simp [go_sem, Oper.quietUpon]
      exact hc⟩, ?_⟩
    simp only [Act.put, List.setIfInBounds_toArray, List.set_cons_succ, List.set_cons_zero]
    refine walkE_read (v := .pointer (some ⟨ad, off + j * 3, none⟩)) rfl (fun w' hw' => by simp [go_sem, hj3]) ?_
    simp only [Act.put, List.setIfInBounds_toArray, List.set_cons_succ, List.set_cons_zero]
    refine walkE_read (v := .agg #[.int .i64 B.1, .int .i64 B.2, .int .i64 b]) rfl (fun w' hw' => by have g0 := Bc0 w' hw'; have g1 := Bc1 w' hw'; have g2 := Bc2 w' hw'; simp [go_sem, g0, g1, g2]) ?_
    simp only [Act.put, List.setIfInBounds_toArray, List.set_cons_succ, List.set_cons_zero]
    refine walkE_read (v := .slice (some ⟨ad, off, none⟩) n c) rfl (fun w' hw' => by simp [go_sem]) ?_
    simp only [Act.put, List.setIfInBounds_toArray, List.set_cons_succ, List.set_cons_zero]
    refine walkE_read (v := .slice (some ⟨ad, off, none⟩) n c) rfl (fun w' hw' => by simp [go_sem]) ?_
    simp only [Act.put, List.setIfInBounds_toArray, List.set_cons_succ, List.set_cons_zero]
    refine walkE_read (v := .slice (some ⟨cb, 0, none⟩) M c1) rfl (fun w' hw' => by simp [go_sem]) ?_
    simp only [Act.put, List.setIfInBounds_toArray, List.set_cons_succ, List.set_cons_zero]
    refine walkE_read (v := .pointer (some ⟨cb, 4, none⟩)) rfl (fun w' hw' => by simp [go_sem, hM2]) ?_
    simp only [Act.put, List.setIfInBounds_toArray, List.set_cons_succ, List.set_cons_zero]
    refine walkE_read (v := .agg #[.int .i64 C.1, .int .i64 C.2]) rfl (fun w' hw' => by have g0 := K2c0 w' hw'; have g1 := K2c1 w' hw'; simp [go_sem, g0, g1]) ?_
    simp only [Act.put, List.setIfInBounds_toArray, List.set_cons_succ, List.set_cons_zero]
    refine ⟨.int .i64 (l : Int), .inl ⟨rfl, fun w' hw' => by
      have hc := HG2.out w' hw'
      unfold Oper.quietAt
      simp [go_sem, Oper.quietUpon]
      exact hc⟩, ?_⟩
    simp only [Act.put, List.setIfInBounds_toArray, List.set_cons_succ, List.set_cons_zero]
    refine walkE_read (v := .pointer (some ⟨ad, off + l * 3, none⟩)) rfl (fun w' hw' => by simp [go_sem, hk3]) ?_
    simp only [Act.put, List.setIfInBounds_toArray, List.set_cons_succ, List.set_cons_zero]
    refine walkE_read (v := .agg #[.int .i64 C.1, .int .i64 C.2, .int .i64 c']) rfl (fun w' hw' => by have g0 := Cc0 w' hw'; have g1 := Cc1 w' hw'; have g2 := Cc2 w' hw'; simp [go_sem, g0, g1, g2]) ?_
    simp only [Act.put, List.setIfInBounds_toArray, List.set_cons_succ, List.set_cons_zero]
    simp only [walkE, tailB, storesE, List.length_cons, List.length_nil, Nat.reduceAdd, List.map_nil, List.map_cons]
    intro x0 n0 m0 x1 n1 m1 x2 n2 m2
    simp only [List.mem_cons, List.not_mem_nil, not_or, or_false] at m1 m2
    refine ⟨x0, .cells #[.int .i64 A.1, .int .i64 A.2, .int .i64 a] 62, ⟨_, rfl, store_term _ _ _ _ _ _, n0, rfl, by simp, ⟨_, _, _, rfl⟩, rfl⟩, fun j' b' h1 h2 h3 => by
      have h5 : j' < 30 := h2
      have h4 : j' = 28 ∨ j' = 29 := by omega
      rcases h4 with rfl | rfl
      · have h6 := ptr_inj (show ptr x1 = ptr b' from h3)
        omega
      · have h6 := ptr_inj (show ptr x2 = ptr b' from h3)
        omega, ?_⟩
    refine ⟨x1, .cells #[.int .i64 B.1, .int .i64 B.2, .int .i64 b] 62, ⟨_, rfl, store_term _ _ _ _ _ _, n1, rfl, by simp [upd, *], ⟨_, _, _, rfl⟩, rfl⟩, fun j' b' h1 h2 h3 => by
      have h5 : j' < 30 := h2
      have h4 : j' = 29 := by omega
      rcases h4 with rfl
      · have h6 := ptr_inj (show ptr x2 = ptr b' from h3)
        omega, ?_⟩
    refine ⟨x2, .cells #[.int .i64 C.1, .int .i64 C.2, .int .i64 c'] 62, ⟨_, rfl, store_term _ _ _ _ _ _, n2, rfl, by simp [upd, *], ⟨_, _, _, rfl⟩, rfl⟩, fun j' b' h1 h2 h3 => by
      have h5 : j' < 30 := h2
      omega, ?_⟩
    intro v hE1 hB1
    simp only [Act.put, List.setIfInBounds_toArray, List.set_cons_succ, List.set_cons_zero]
    simp only [ptr]
    have d1 := Ne.symm m1
    have d2 := Ne.symm m2.1
    have d3 := Ne.symm m2.2
    have h0 := boxed_has hB1 (b := x0) (cs := #[.int .i64 A.1, .int .i64 A.2, .int .i64 a]) (t := 62) (by simp [upd, *])
    have X0c0 := Ext.keeps (h0 0 _ rfl)
    have X0c1 := Ext.keeps (h0 1 _ rfl)
    have X0c2 := Ext.keeps (h0 2 _ rfl)
    clear h0
    have h1 := boxed_has hB1 (b := x1) (cs := #[.int .i64 B.1, .int .i64 B.2, .int .i64 b]) (t := 62) (by simp [upd, *])
    have X1c0 := Ext.keeps (h1 0 _ rfl)
    have X1c1 := Ext.keeps (h1 1 _ rfl)
    have X1c2 := Ext.keeps (h1 2 _ rfl)
    clear h1
    have h2 := boxed_has hB1 (b := x2) (cs := #[.int .i64 C.1, .int .i64 C.2, .int .i64 c']) (t := 62) (by simp [upd, *])
    have X2c0 := Ext.keeps (h2 0 _ rfl)
    have X2c1 := Ext.keeps (h2 1 _ rfl)
    have X2c2 := Ext.keeps (h2 2 _ rfl)
    clear h2
    replace Sc0 := Ext.rebase hE1 Sc0
    replace Sf0 := Ext.rebase hE1 Sf0
    replace Sc1 := Ext.rebase hE1 Sc1
    replace Sf1 := Ext.rebase hE1 Sf1
    replace Sc2 := Ext.rebase hE1 Sc2
    replace Sf2 := Ext.rebase hE1 Sf2
    replace Sc3 := Ext.rebase hE1 Sc3
    replace Sf3 := Ext.rebase hE1 Sf3
    replace K0c0 := Ext.rebase hE1 K0c0
    replace K0c1 := Ext.rebase hE1 K0c1
    replace K1c0 := Ext.rebase hE1 K1c0
    replace K1c1 := Ext.rebase hE1 K1c1
    replace K2c0 := Ext.rebase hE1 K2c0
    replace K2c1 := Ext.rebase hE1 K2c1
    have HEV := Lib.hid (HEw.out.trans hE1)
    clear hB1 n0 n1 n2 m0 m1 m2 d1 d2 d3 hE1 HEw Ac0 Ac1 Ac2 Bc0 Bc1 Bc2 Cc0 Cc1 Cc2 HG0 HG1 HG2
    have hE : Ext v v := Ext.refl _
    go_wp2
    have qK00 := fun s : Past v => K0c0 s.w s.ext
    have qK01 := fun s : Past v => K0c1 s.w s.ext
    have qK10 := fun s : Past v => K1c0 s.w s.ext
    have qK11 := fun s : Past v => K1c1 s.w s.ext
    have qK20 := fun s : Past v => K2c0 s.w s.ext
    have qK21 := fun s : Past v => K2c1 s.w s.ext
    refine wp_region_past v (by first | exact hE | exact Ext.alloc hE _ | exact Ext.drew hE | exact Ext.drewN hE _) (by kernel_rfl) (by kernel_rfl) ?_
    repeat (go_big_quiet_step (((go_at_call 75; exact past_ext (pyTurn_any A B C pA pB pC _)))))
    refine wpQuiet_nil ?_
    intro w3 hw'
    obtain ⟨⟨_, hE⟩, hw''⟩ := hw'
    subst hw''
    clear qK00 qK01 qK10 qK11 qK20 qK21
    replace X0c0 := Ext.rebase hE X0c0
    replace X0c1 := Ext.rebase hE X0c1
    replace X0c2 := Ext.rebase hE X0c2
    replace X1c0 := Ext.rebase hE X1c0
    replace X1c1 := Ext.rebase hE X1c1
    replace X1c2 := Ext.rebase hE X1c2
    replace X2c0 := Ext.rebase hE X2c0
    replace X2c1 := Ext.rebase hE X2c1
    replace X2c2 := Ext.rebase hE X2c2
    replace Sc0 := Ext.rebase hE Sc0
    replace Sf0 := Ext.rebase hE Sf0
    replace Sc1 := Ext.rebase hE Sc1
    replace Sf1 := Ext.rebase hE Sf1
    replace Sc2 := Ext.rebase hE Sc2
    replace Sf2 := Ext.rebase hE Sf2
    replace Sc3 := Ext.rebase hE Sc3
    replace Sf3 := Ext.rebase hE Sf3
    have HE3 := Lib.hid (HEV.out.trans hE)
    clear hE HEV K0c0 K0c1 K1c0 K1c1 K2c0 K2c1
    have HMX2 := Lib.hid (frMake_ok ((a - b) * (C.2 - A.2) - (a - c') * (B.2 - A.2)) (turnI A B C) (by omega) (by omega) (by omega) (by omega))
    have HMY2 := Lib.hid (frMake_ok ((B.1 - A.1) * (a - c') - (C.1 - A.1) * (a - b)) (turnI A B C) (by omega) (by omega) (by omega) (by omega))
    have p1 := mul_bd (A := 2000000) (D := 6) (a := a - b) (d := C.2 - A.2) (by omega) (by omega) (by omega) (by omega)
    have p2 := mul_bd (A := 2000000) (D := 6) (a := a - c') (d := B.2 - A.2) (by omega) (by omega) (by omega) (by omega)
    have p3 := mul_bd (A := 6) (D := 2000000) (a := B.1 - A.1) (d := a - c') (by omega) (by omega) (by omega) (by omega)
    have p4 := mul_bd (A := 6) (D := 2000000) (a := C.1 - A.1) (d := a - b) (by omega) (by omega) (by omega) (by omega)
    clear hvb
    generalize turnI A B C = D at *
    have l00 := X0c0 _ (Ext.refl w3)
    have l01 := X0c1 _ (Ext.refl w3)
    have l02 := X0c2 _ (Ext.refl w3)
    have l10 := X1c0 _ (Ext.refl w3)
    have l11 := X1c1 _ (Ext.refl w3)
    have l12 := X1c2 _ (Ext.refl w3)
    have l20 := X2c0 _ (Ext.refl w3)
    have l21 := X2c1 _ (Ext.refl w3)
    have l22 := X2c2 _ (Ext.refl w3)
    go_wp2_with fail
    refine (HMX2.out _).mono ?_
    rintro e w4 ⟨rfl, hE4⟩
    rw [← HN1.out, ← HD1.out]
    have hE5 : Ext w3 (w4.alloc (.cells #[.int .i64 N1, .int .i64 D1] 35)) := Ext.alloc hE4 _
    replace l00 := X0c0 _ hE5
    replace l01 := X0c1 _ hE5
    replace l02 := X0c2 _ hE5
    replace l10 := X1c0 _ hE5
    replace l11 := X1c1 _ hE5
    replace l12 := X1c2 _ hE5
    replace l20 := X2c0 _ hE5
    replace l21 := X2c1 _ hE5
    replace l22 := X2c2 _ hE5
    go_wp2_with fail
    refine (HMY2.out _).mono ?_
    rintro e w6 ⟨rfl, hE6⟩
    rw [← HN2.out, ← HD2.out]
    have G0 := (ext_new (cs := #[.int .i64 N1, .int .i64 D1]) (t := 35) hE6 (i := 0) (v := .int .i64 N1) rfl).1
    have G1 := (ext_new (cs := #[.int .i64 N1, .int .i64 D1]) (t := 35) hE6 (i := 1) (v := .int .i64 D1) rfl).1
    have hE7 := hE5.trans hE6
    have e0 := Sc0 _ hE7
    have g0 := Sf0 _ hE7
    have e1 := Sc1 _ hE7
    have g1 := Sf1 _ hE7
    have e2 := Sc2 _ hE7
    have g2 := Sf2 _ hE7
    have e3 := Sc3 _ hE7
    have g3 := Sf3 _ hE7
    have hs8 := lt_of_cell e0
    have hs9 := lt_of_cell G0
    have HE7 := Lib.hid (HE3.out.trans hE7)
    have hs6 := HE7.out.size
    have hs7 := hE6.size
    simp at hs7
    clear l00 X0c0 l01 X0c1 l02 X0c2 l10 X1c0 l11 X1c1 l12 X1c2 l20 X2c0 l21 X2c1 l22 X2c2 Sc0 Sf0 Sc1 Sf1 Sc2 Sf2 Sc3 Sf3 hE4 hE5 hE6 hE7 HMX2 HMY2 p1 p2 p3 p4
    go_wp2
    refine bodyPost_ret (v := .agg #[.int .i64 N1, .int .i64 D1, .int .i64 N2, .int .i64 D2]) (by simp [results, Tryz.results53, go_sem, *]) rfl ⟨rfl, ?_⟩
    have hE := HE7.out
    exact (by repeat (first | exact Ext.refl _ | assumption | apply Ext.alloc | apply Ext.drew | apply Ext.drewN | (refine Ext.trans ?_ (by assumption)) | (refine Ext.setCell ?_ (by (try simp) <;> omega) _)))
end Go.Proofs.YtngbdopgdcjdeaaGreat
