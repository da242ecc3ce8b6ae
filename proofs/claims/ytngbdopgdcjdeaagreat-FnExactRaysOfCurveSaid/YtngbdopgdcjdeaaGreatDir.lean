/-
  The direction of an end, as the program makes it.
-/
import Derived.Test.YtngbdopgdcjdeaaGreatEndP
import Derived.Test.YtngbdopgdcjdeaaGreatSubE
import Derived.BigQuiet
namespace Go.Proofs.YtngbdopgdcjdeaaGreat
open Go.RowKit

set_option maxHeartbeats 4000000 in
set_option maxRecDepth 100000 in
theorem direction_any (B0 g : Nat) (a0 ax : Option Addr) (n c cx k : Nat) (zs : List (Int × Int × Int)) (hZ : PZ zs) (hk : k < (cellsL zs).length) (i j : Nat) (hi : i < n) (hj : j < n) (hne : pI zs i ≠ pI zs j) (w : World) (h : SubD w B0 g a0 n c zs) (hx : Reads w ax 1 2 (iv [(i : Int), (j : Int)])) :
    Calls Tryz.prog 46 #[.pointer (some ⟨g, 0, none⟩), .int .i64 k, .slice ax 2 cx] w fun r w' => r = .returned (.agg #[.int .i64 (eX zs ((cellsL zs).getD k []) i j), .int .i64 (eY zs ((cellsL zs).getD k []) i j)]) ∧ Ext w w' := by
  have hl := subD_len h
  have hxc := cell_at hk
  obtain ⟨pa, pc, s, e, b, m, B1, ps, qs, h1, h2, h3, h4, h5, h6, h7, h8, h9⟩ := h
  have hc1 := h1.c1
  have hc2 := h1.c2
  have hgl := h1.lt
  obtain ⟨sa, sc, rfl⟩ := h5.form
  have hps : ps.length = (cellsL zs).length := by rw [← h6, List.length_map]
  have hva := h5.va
  rw [h6] at hva
  obtain ⟨ak, ck, hvk, hrk⟩ := hva.at k hk
  obtain ⟨gc, rfl, _, hgc2⟩ := own_head h5.1 (by omega)
  have hck := (h5.1.cellAt k (by omega)).trans hvk
  rw [hps] at hc2
  have hxn := cell_len hxc
  have hn12 : n ≤ 12 := by rw [← hl]; exact hZ.1
  have hx12 : ((cellsL zs).getD k []).length ≤ 12 := by omega
  clear hxn
  obtain ⟨bx, ox, rfl, hcx⟩ := hx.2 (by omega)
  have k0 : w.cell? ⟨bx, ox, none⟩ = some (.int .i64 (i : Int)) := hcx 0 _ rfl
  have k1 : w.cell? ⟨bx, ox + 1, none⟩ = some (.int .i64 (j : Int)) := hcx 1 _ rfl
  obtain ⟨bp, op, rfl, p0, p1⟩ := h4.pair hi
  obtain ⟨bp', op', e', q0, q1⟩ := h4.pair hj
  cases e'
  have HPT := Lib.hid (fun (t : Nat) (ht : t < n) => show w.cell? ⟨bp, op + t * 2, none⟩ = some (.int .i64 (pI zs t).1) ∧ w.cell? ⟨bp, op + t * 2 + 1, none⟩ = some (.int .i64 (pI zs t).2) by
    obtain ⟨b', o', e', r0, r1⟩ := h4.pair ht
    cases e'
    rw [ptsL_pI (by omega)] at r0 r1
    exact ⟨r0, r1⟩)
  rw [ptsL_pI (by omega)] at p0 p1 q0 q1
  have t1 := (hZ.2.1 i (by omega)).1
  have t2 := (hZ.2.1 j (by omega)).1
  have HTB := Lib.hid (fun (t : Nat) (ht : t < n) => (hZ.2.1 t (by omega)).1)
  have hkN : (k : Int) < ((cellsL zs).length : Int) := by omega
  obtain ⟨N, hN⟩ : ∃ N, N = (cellsL zs).length := ⟨_, rfl⟩
  rw [← hN] at hc2 hkN
  have HRK := Lib.hid hrk
  have HCM := Lib.hid (fun q (hq : q < ((cellsL zs).getD k []).length) => cell_get hxc hq)
  have hi3 : (i : Int) < (n : Int) := by omega
  have hj3 : (j : Int) < (n : Int) := by omega
  have HL := Lib.hid hl
  have hdx := dX_le hZ (show i < zs.length by omega) (show j < zs.length by omega)
  have hdy := dY_le hZ (show i < zs.length by omega) (show j < zs.length by omega)
  have hg := sideI_pos hne
  have HNE := Lib.hid hne
  have HNY := Lib.hid (fun (t : Nat) (ht : (t : Int) ∈ (cellsL zs).getD k []) (hn' : turnI (pI zs i) (pI zs j) (pI zs t) < 0) => negE_yes ht hn')
  have HNN := Lib.hid (@negE_no zs ((cellsL zs).getD k []) i j)
  have HDX := Lib.hid (show dX zs i j = ((pI zs i).2 - (pI zs j).2).tdiv (sideI zs i j) from rfl)
  have HDY := Lib.hid (show dY zs i j = ((pI zs j).1 - (pI zs i).1).tdiv (sideI zs i j) from rfl)
  have HSI := Lib.hid (show sideI zs i j = gcdI ((pI zs j).1 - (pI zs i).1) ((pI zs j).2 - (pI zs i).2) from (gcdI_swap _ _ _ _).symm)
  have HPN := Lib.hid (fun p => prod_neg hne p)
  have HPE := Lib.hid (fun p => show prodI zs i j p = (p.1 - (pI zs i).1) * dX zs i j + (p.2 - (pI zs i).2) * dY zs i j from rfl)
  have HEX := Lib.hid (show eX zs ((cellsL zs).getD k []) i j = sgE (negE zs ((cellsL zs).getD k []) i j) (dX zs i j) from rfl)
  have HEY := Lib.hid (show eY zs ((cellsL zs).getD k []) i j = sgE (negE zs ((cellsL zs).getD k []) i j) (dY zs i j) from rfl)
  rw [HEX.out, HEY.out]
  clear HEX HEY hN h1 h2 h3 h4 h5 h6 h7 h8 h9 hps hva hvk hrk hk hZ hcx hx hne hl hxc
  generalize (cellsL zs).getD k [] = x at *
  generalize pI zs i = P at *
  generalize pI zs j = Q at *
  generalize dX zs i j = dx at *
  generalize dY zs i j = dy at *
  generalize sideI zs i j = D at *
  obtain ⟨x1, y1⟩ := P
  obtain ⟨x2, y2⟩ := Q
  simp only at p0 p1 q0 q1 t1 t2 HDX HDY HSI HPE HPN HNY HNN
  have HS := (Has.new w #[.int .i64 0, .int .i64 0] 70)
  have Sc0 := Ext.keeps (HS 0 _ rfl)
  have Sc1 := Ext.keeps (HS 1 _ rfl)
  have Sf0 := Ext.thaws (w := (w.alloc (.cells #[.int .i64 0, .int .i64 0] 70))) (HS 0 _ rfl) (by simp)
  have Sf1 := Ext.thaws (w := (w.alloc (.cells #[.int .i64 0, .int .i64 0] 70))) (HS 1 _ rfl) (by simp)
  clear HS
  have hE : Ext (w.alloc (.cells #[.int .i64 0, .int .i64 0] 70)) (w.alloc (.cells #[.int .i64 0, .int .i64 0] 70)) := Ext.refl _
  have hEw : Ext w (w.alloc (.cells #[.int .i64 0, .int .i64 0] 70)) := (by repeat (first | exact Ext.refl _ | assumption | apply Ext.alloc | apply Ext.drew | apply Ext.drewN | (refine Ext.trans ?_ (by assumption)) | (refine Ext.setCell ?_ (by (try simp) <;> omega) _)))
  have Gc0 := Ext.keeps (hEw.keep hc1)
  have Gd0 := Ext.keeps (hEw.keep hc2)
  have Kc0 := Ext.keeps (hEw.keep k0)
  have Kc1 := Ext.keeps (hEw.keep k1)
  have Pc0 := Ext.keeps (hEw.keep p0)
  have Pc1 := Ext.keeps (hEw.keep p1)
  have Qc0 := Ext.keeps (hEw.keep q0)
  have Qc1 := Ext.keeps (hEw.keep q1)
  have Rc0 := Ext.keeps (hEw.keep hck)
  have hxl : (0 : Int) ≤ (i : Int) := by omega
  have hyl : (0 : Int) ≤ (j : Int) := by omega
  go_enter Tryz.func46, Tryz.ntmps46
  go_wp2
  generalize hW0 : (w.alloc (.cells #[.int .i64 0, .int .i64 0] 70)) = W at *
  have hsw : w.heap.size < W.heap.size := by rw [← hW0]; simp
  have HEW := Lib.hid hEw
  clear hE hEw hW0 hc1 hc2 k0 k1 p0 p1 q0 q1 hck
  refine wp_region_order 9 [(7, .cells #[.int .i64 0, .int .i64 0] 70)] 1 (fun m => ⟨7, 22, .cells #[.int .i64 0, .int .i64 0] 70, ok2, cellsOf 70⟩) W (Ext.refl _) (by kernel_rfl) (by kernel_rfl) rfl ?_ ?_
  · simp only [List.drop_succ_cons, List.drop_zero]
    exact ⟨⟨rfl, rfl, fun a w => by simp [go_sem]⟩, trivial⟩
  · simp only [List.take_succ_cons, List.take_zero]
    refine walkE_read (v := .pointer (some ⟨g, 0, none⟩)) rfl (fun w' hw' => by simp [go_sem]) ?_
    simp only [Act.put, List.setIfInBounds_toArray, List.set_cons_succ, List.set_cons_zero]
    refine walkE_read (v := .pointer (some ⟨g, 0, none⟩)) rfl (fun w' hw' => by simp [go_sem]) ?_
    simp only [Act.put, List.setIfInBounds_toArray, List.set_cons_succ, List.set_cons_zero]
    refine walkE_read (v := .pointer (some ⟨g, 1, none⟩)) rfl (fun w' hw' => by simp [go_sem]) ?_
    simp only [Act.put, List.setIfInBounds_toArray, List.set_cons_succ, List.set_cons_zero]
    refine walkE_read (v := .slice (some ⟨bp, op, none⟩) n pc) rfl (fun w' hw' => by have g0 := Gc0 w' hw'; simp [go_sem, g0]) ?_
    simp only [Act.put, List.setIfInBounds_toArray, List.set_cons_succ, List.set_cons_zero]
    refine walkE_read (v := .slice (some ⟨bx, ox, none⟩) 2 cx) rfl (fun w' hw' => by simp [go_sem]) ?_
    simp only [Act.put, List.setIfInBounds_toArray, List.set_cons_succ, List.set_cons_zero]
    refine walkE_read (v := .pointer (some ⟨bx, ox, none⟩)) rfl (fun w' hw' => by simp [go_sem]) ?_
    simp only [Act.put, List.setIfInBounds_toArray, List.set_cons_succ, List.set_cons_zero]
    refine walkE_read (v := .int .i64 i) rfl (fun w' hw' => by have g0 := Kc0 w' hw'; simp [go_sem, g0]) ?_
    simp only [Act.put, List.setIfInBounds_toArray, List.set_cons_succ, List.set_cons_zero]
    refine walkE_read (v := .pointer (some ⟨bp, op + i * 2, none⟩)) rfl (fun w' hw' => by simp [go_sem, hi3]) ?_
    simp only [Act.put, List.setIfInBounds_toArray, List.set_cons_succ, List.set_cons_zero]
    refine walkE_read (v := .agg #[.int .i64 x1, .int .i64 y1]) rfl (fun w' hw' => by have g0 := Pc0 w' hw'; have g1 := Pc1 w' hw'; simp [go_sem, g0, g1]) ?_
    simp only [Act.put, List.setIfInBounds_toArray, List.set_cons_succ, List.set_cons_zero]
    simp only [walkE, tailB, storesE, List.length_cons, List.length_nil, Nat.reduceAdd, List.map_nil]
    intro u0 n0 m0
    refine ⟨u0, .cells #[.int .i64 (x1), .int .i64 (y1)] 70, ⟨_, rfl, store_point _ _ _ _ _ _, n0, rfl, by simp, ⟨_, _, rfl⟩, rfl⟩, fun j' b' h1 h2 h3 => by
      have h5 : j' < 11 := h2
      omega, ?_⟩
    intro v0 hE1 hB1
    simp only [Act.put, List.setIfInBounds_toArray, List.set_cons_succ, List.set_cons_zero]
    simp only [ptr]
    have h0 := boxed_has hB1 (b := u0) (cs := #[.int .i64 (x1), .int .i64 (y1)]) (t := 70) (by simp [upd, *])
    have X0c0 := Ext.keeps (h0 0 _ rfl)
    have X0c1 := Ext.keeps (h0 1 _ rfl)
    clear h0
    replace Gc0 := Ext.rebase hE1 Gc0
    replace Gd0 := Ext.rebase hE1 Gd0
    replace Kc0 := Ext.rebase hE1 Kc0
    replace Kc1 := Ext.rebase hE1 Kc1
    replace Pc0 := Ext.rebase hE1 Pc0
    replace Pc1 := Ext.rebase hE1 Pc1
    replace Qc0 := Ext.rebase hE1 Qc0
    replace Qc1 := Ext.rebase hE1 Qc1
    replace Rc0 := Ext.rebase hE1 Rc0
    replace Sc0 := Ext.rebase hE1 Sc0
    replace Sc1 := Ext.rebase hE1 Sc1
    replace Sf0 := Ext.rebase hE1 Sf0
    replace Sf1 := Ext.rebase hE1 Sf1
    clear hB1 n0 m0
    have HE1 := Lib.hid hE1
    clear hE1
    go_wp2
    refine wp_region_order 11 [(8, .cells #[.int .i64 0, .int .i64 0] 70)] 1 (fun m => ⟨8, 33, .cells #[.int .i64 0, .int .i64 0] 70, ok2, cellsOf 70⟩) v0 (Ext.refl _) (by kernel_rfl) (by kernel_rfl) rfl ?_ ?_
    · simp only [List.drop_succ_cons, List.drop_zero]
      exact ⟨⟨rfl, rfl, fun a w => by simp [go_sem]⟩, trivial⟩
    · simp only [List.take_succ_cons, List.take_zero]
      refine walkE_read (v := .pointer (some ⟨g, 0, none⟩)) rfl (fun w' hw' => by simp [go_sem]) ?_
      simp only [Act.put, List.setIfInBounds_toArray, List.set_cons_succ, List.set_cons_zero]
      refine walkE_read (v := .pointer (some ⟨g, 0, none⟩)) rfl (fun w' hw' => by simp [go_sem]) ?_
      simp only [Act.put, List.setIfInBounds_toArray, List.set_cons_succ, List.set_cons_zero]
      refine walkE_read (v := .pointer (some ⟨g, 1, none⟩)) rfl (fun w' hw' => by simp [go_sem]) ?_
      simp only [Act.put, List.setIfInBounds_toArray, List.set_cons_succ, List.set_cons_zero]
      refine walkE_read (v := .slice (some ⟨bp, op, none⟩) n pc) rfl (fun w' hw' => by have g0 := Gc0 w' hw'; simp [go_sem, g0]) ?_
      simp only [Act.put, List.setIfInBounds_toArray, List.set_cons_succ, List.set_cons_zero]
      refine walkE_read (v := .slice (some ⟨bx, ox, none⟩) 2 cx) rfl (fun w' hw' => by simp [go_sem]) ?_
      simp only [Act.put, List.setIfInBounds_toArray, List.set_cons_succ, List.set_cons_zero]
      refine walkE_read (v := .pointer (some ⟨bx, ox + 1, none⟩)) rfl (fun w' hw' => by simp [go_sem]) ?_
      simp only [Act.put, List.setIfInBounds_toArray, List.set_cons_succ, List.set_cons_zero]
      refine walkE_read (v := .int .i64 j) rfl (fun w' hw' => by have g0 := Kc1 w' hw'; simp [go_sem, g0]) ?_
      simp only [Act.put, List.setIfInBounds_toArray, List.set_cons_succ, List.set_cons_zero]
      refine walkE_read (v := .pointer (some ⟨bp, op + j * 2, none⟩)) rfl (fun w' hw' => by simp [go_sem, hj3]) ?_
      simp only [Act.put, List.setIfInBounds_toArray, List.set_cons_succ, List.set_cons_zero]
      refine walkE_read (v := .agg #[.int .i64 x2, .int .i64 y2]) rfl (fun w' hw' => by have g0 := Qc0 w' hw'; have g1 := Qc1 w' hw'; simp [go_sem, g0, g1]) ?_
      simp only [Act.put, List.setIfInBounds_toArray, List.set_cons_succ, List.set_cons_zero]
      refine walkE_read (v := .agg #[.int .i64 x1, .int .i64 y1]) rfl (fun w' hw' => by have g0 := X0c0 w' hw'; have g1 := X0c1 w' hw'; simp [go_sem, g0, g1]) ?_
      simp only [Act.put, List.setIfInBounds_toArray, List.set_cons_succ, List.set_cons_zero]
      refine ⟨.agg #[.int .i64 (x2 - x1), .int .i64 (y2 - y1)], .inl ⟨rfl, fun w' hw' => by
        have hc := minus_any x2 y2 x1 y1 (by omega) (by omega) (by omega) (by omega) w'
        unfold Oper.quietAt
        simp [go_sem, Oper.quietUpon]
        exact hc⟩, ?_⟩
      simp only [Act.put, List.setIfInBounds_toArray, List.set_cons_succ, List.set_cons_zero]
      simp only [walkE, tailB, storesE, List.length_cons, List.length_nil, Nat.reduceAdd, List.map_nil]
      intro u1 n0 m0
      refine ⟨u1, .cells #[.int .i64 (x2 - x1), .int .i64 (y2 - y1)] 70, ⟨_, rfl, store_point _ _ _ _ _ _, n0, rfl, by simp, ⟨_, _, rfl⟩, rfl⟩, fun j' b' h1 h2 h3 => by
        have h5 : j' < 13 := h2
        omega, ?_⟩
      intro v1 hE1 hB1
      simp only [Act.put, List.setIfInBounds_toArray, List.set_cons_succ, List.set_cons_zero]
      simp only [ptr]
      have h0 := boxed_has hB1 (b := u1) (cs := #[.int .i64 (x2 - x1), .int .i64 (y2 - y1)]) (t := 70) (by simp [upd, *])
      have X1c0 := Ext.keeps (h0 0 _ rfl)
      have X1c1 := Ext.keeps (h0 1 _ rfl)
      clear h0
      replace Gc0 := Ext.rebase hE1 Gc0
      replace Gd0 := Ext.rebase hE1 Gd0
      replace Kc0 := Ext.rebase hE1 Kc0
      replace Kc1 := Ext.rebase hE1 Kc1
      replace Pc0 := Ext.rebase hE1 Pc0
      replace Pc1 := Ext.rebase hE1 Pc1
      replace Qc0 := Ext.rebase hE1 Qc0
      replace Qc1 := Ext.rebase hE1 Qc1
      replace Rc0 := Ext.rebase hE1 Rc0
      replace Sc0 := Ext.rebase hE1 Sc0
      replace Sc1 := Ext.rebase hE1 Sc1
      replace Sf0 := Ext.rebase hE1 Sf0
      replace Sf1 := Ext.rebase hE1 Sf1
      replace X0c0 := Ext.rebase hE1 X0c0
      replace X0c1 := Ext.rebase hE1 X0c1
      clear hB1 n0 m0
      have HE2 := Lib.hid (HE1.out.trans hE1)
      clear hE1 HE1 Qc0 Qc1 Kc0 Kc1
      have l0 := X1c0 _ (Ext.refl v1)
      have l1 := X1c1 _ (Ext.refl v1)
      go_wp2_with fail
      refine (gcd_extF (x2 - x1) (y2 - y1) (by omega) (by omega) (by omega) (by omega) _).mono ?_
      rintro e v2 ⟨rfl, hE3⟩
      rw [show gcdI (x2 - x1) (y2 - y1) = D from HSI.out.symm]
      replace Gc0 := Ext.rebase hE3 Gc0
      replace Gd0 := Ext.rebase hE3 Gd0
      replace Pc0 := Ext.rebase hE3 Pc0
      replace Pc1 := Ext.rebase hE3 Pc1
      replace Rc0 := Ext.rebase hE3 Rc0
      replace Sc0 := Ext.rebase hE3 Sc0
      replace Sc1 := Ext.rebase hE3 Sc1
      replace Sf0 := Ext.rebase hE3 Sf0
      replace Sf1 := Ext.rebase hE3 Sf1
      replace X0c0 := Ext.rebase hE3 X0c0
      replace X0c1 := Ext.rebase hE3 X0c1
      replace X1c0 := Ext.rebase hE3 X1c0
      replace X1c1 := Ext.rebase hE3 X1c1
      have HE3 := Lib.hid (HE2.out.trans hE3)
      clear hE3 HE2 l0 l1
      obtain ⟨yp, hyp⟩ : ∃ z, z = y1 - y2 := ⟨_, rfl⟩
      have hyn : -(y2 - y1) = yp := by omega
      rw [← hyp] at HDX
      have hD0 : ¬ D = 0 := by omega
      have HYN := Lib.hid hyn
      have HYP := Lib.hid hyp
      have hyb : -6 ≤ yp ∧ yp ≤ 6 := by omega
      clear hyn hyp
      go_wp2
      refine wp_region_order 10 [(10, .cells #[.int .i64 0, .int .i64 0] 70)] 1 (fun m => ⟨10, 48, .cells #[.int .i64 0, .int .i64 0] 70, ok2, cellsOf 70⟩) v2 (Ext.refl _) (by kernel_rfl) (by kernel_rfl) rfl ?_ ?_
      · simp only [List.drop_succ_cons, List.drop_zero]
        exact ⟨⟨rfl, rfl, fun a w => by simp [go_sem]⟩, trivial⟩
      · simp only [List.take_succ_cons, List.take_zero]
        refine walkE_read (v := .pointer (some ⟨u1, 1, none⟩)) rfl (fun w' hw' => by simp [go_sem]) ?_
        simp only [Act.put, List.setIfInBounds_toArray, List.set_cons_succ, List.set_cons_zero]
        refine walkE_read (v := .int .i64 (y2 - y1)) rfl (fun w' hw' => by have g0 := X1c1 w' hw'; simp [go_sem, g0]) ?_
        simp only [Act.put, List.setIfInBounds_toArray, List.set_cons_succ, List.set_cons_zero]
        refine walkE_read (v := .int .i64 yp) rfl (fun w' hw' => by simp [go_sem]; rw [wrap_i64 (by omega) (by omega)]; have := HYN.out; omega) ?_
        simp only [Act.put, List.setIfInBounds_toArray, List.set_cons_succ, List.set_cons_zero]
        refine walkE_read (v := .int .i64 D) rfl (fun w' hw' => by simp [go_sem]) ?_
        simp only [Act.put, List.setIfInBounds_toArray, List.set_cons_succ, List.set_cons_zero]
        refine walkE_read (v := .int .i64 dx) rfl (fun w' hw' => by simp [go_sem, hD0]; rw [← HDX.out]; exact wrap_i64 (by omega) (by omega)) ?_
        simp only [Act.put, List.setIfInBounds_toArray, List.set_cons_succ, List.set_cons_zero]
        refine walkE_read (v := .pointer (some ⟨u1, 0, none⟩)) rfl (fun w' hw' => by simp [go_sem]) ?_
        simp only [Act.put, List.setIfInBounds_toArray, List.set_cons_succ, List.set_cons_zero]
        refine walkE_read (v := .int .i64 (x2 - x1)) rfl (fun w' hw' => by have g0 := X1c0 w' hw'; simp [go_sem, g0]) ?_
        simp only [Act.put, List.setIfInBounds_toArray, List.set_cons_succ, List.set_cons_zero]
        refine walkE_read (v := .int .i64 D) rfl (fun w' hw' => by simp [go_sem]) ?_
        simp only [Act.put, List.setIfInBounds_toArray, List.set_cons_succ, List.set_cons_zero]
        refine walkE_read (v := .int .i64 dy) rfl (fun w' hw' => by simp [go_sem, hD0]; rw [← HDY.out]; exact wrap_i64 (by omega) (by omega)) ?_
        simp only [Act.put, List.setIfInBounds_toArray, List.set_cons_succ, List.set_cons_zero]
        refine walkE_read (v := .agg #[.int .i64 dx, .int .i64 dy]) rfl (fun w' hw' => by simp [go_sem]) ?_
        simp only [Act.put, List.setIfInBounds_toArray, List.set_cons_succ, List.set_cons_zero]
        simp only [walkE, tailB, storesE, List.length_cons, List.length_nil, Nat.reduceAdd, List.map_nil]
        intro u3 n0 m0
        refine ⟨u3, .cells #[.int .i64 (dx), .int .i64 (dy)] 70, ⟨_, rfl, store_point _ _ _ _ _ _, n0, rfl, by simp, ⟨_, _, rfl⟩, rfl⟩, fun j' b' h1 h2 h3 => by
          have h5 : j' < 12 := h2
          omega, ?_⟩
        intro v3 hE1 hB1
        simp only [Act.put, List.setIfInBounds_toArray, List.set_cons_succ, List.set_cons_zero]
        simp only [ptr]
        have h0 := boxed_has hB1 (b := u3) (cs := #[.int .i64 (dx), .int .i64 (dy)]) (t := 70) (by simp [upd, *])
        have X3c0 := Ext.keeps (h0 0 _ rfl)
        have X3c1 := Ext.keeps (h0 1 _ rfl)
        clear h0
        replace Gc0 := Ext.rebase hE1 Gc0
        replace Gd0 := Ext.rebase hE1 Gd0
        replace Pc0 := Ext.rebase hE1 Pc0
        replace Pc1 := Ext.rebase hE1 Pc1
        replace Rc0 := Ext.rebase hE1 Rc0
        replace Sc0 := Ext.rebase hE1 Sc0
        replace Sc1 := Ext.rebase hE1 Sc1
        replace Sf0 := Ext.rebase hE1 Sf0
        replace Sf1 := Ext.rebase hE1 Sf1
        replace X0c0 := Ext.rebase hE1 X0c0
        replace X0c1 := Ext.rebase hE1 X0c1
        clear hB1 n0 m0
        have HE4 := Lib.hid (HE3.out.trans hE1)
        clear hE1 HE3 X1c0 X1c1 Pc0 Pc1 HSI HDX HDY HYN HYP
        have HEz := Lib.hid (HEW.out.trans HE4.out)
        have HR := Lib.hid (Reads.ext HEz.out HRK.out)
        have HPV := Lib.hid (fun (t : Nat) (ht : t < n) => show v3.cell? ⟨bp, op + t * 2, none⟩ = some (.int .i64 (pI zs t).1) ∧ v3.cell? ⟨bp, op + t * 2 + 1, none⟩ = some (.int .i64 (pI zs t).2) from ⟨HEz.out.keep (HPT.out t ht).1, HEz.out.keep (HPT.out t ht).2⟩)
        have hs3 := HE4.out.size
        clear HRK HPT HEz
        have l0 := Gd0 _ (Ext.refl v3)
        have l1 := Rc0 _ (Ext.refl v3)
        go_wp2
        clear l0 l1
        go_loopw [57] (fun t wr => ∃ q : Nat, q ≤ x.length ∧ t = .int .i64 q ∧ Hid (∀ m, m < q → 0 ≤ turnI (x1, y1) (x2, y2) (pI zs (x.getD m 0).toNat)) ∧ Ext v3 wr) (fun t _ => x.length - (intOf t).toNat)
        case atStart => exact ⟨0, Nat.zero_le _, rfl, Lib.hid (fun m hm => absurd hm (by omega)), Ext.refl _⟩
        case round =>
          obtain ⟨q, hq, rfl, HT, hE⟩ := hrel
          replace Gc0 := Ext.rebase hE Gc0
          replace Sc0 := Ext.rebase hE Sc0
          replace Sc1 := Ext.rebase hE Sc1
          replace Sf0 := Ext.rebase hE Sf0
          replace Sf1 := Ext.rebase hE Sf1
          replace X0c0 := Ext.rebase hE X0c0
          replace X0c1 := Ext.rebase hE X0c1
          replace X3c0 := Ext.rebase hE X3c0
          replace X3c1 := Ext.rebase hE X3c1
          have HEr := Lib.hid hE
          clear Gd0 Rc0
          by_cases hlt : q < x.length
          · obtain ⟨t, ht, hxt⟩ := HCM.out q hlt
            have htn : t < n := by have := HL.out; omega
            obtain ⟨bk, ok, rfl, hcx⟩ := HR.out.2 (by omega)
            have hck := hE.keep (hcx q _ (iv_at hlt))
            rw [hxt] at hck
            obtain ⟨r0, r1⟩ := HPV.out t htn
            have Tc0 := Ext.keeps (hE.keep r0)
            have Tc1 := Ext.keeps (hE.keep r1)
            have htb := HTB.out t htn
            have HTM := Lib.hid (show (t : Int) ∈ x by rw [← hxt, show x.getD q 0 = x[q] by simp [List.getD, hlt]]; exact List.getElem_mem hlt)
            have HST := Lib.hid (fun e : 0 ≤ turnI (x1, y1) (x2, y2) (pI zs t) => show ∀ m, m < q + 1 → 0 ≤ turnI (x1, y1) (x2, y2) (pI zs (x.getD m 0).toNat) by
              intro m hm
              rcases Nat.lt_or_ge m q with h1 | h1
              · exact HT.out m h1
              · obtain rfl : m = q := by omega
                rw [hxt, Int.toNat_natCast]; exact e)
            have HNt := Lib.hid (HNY.out t HTM.out)
            have HPNt := Lib.hid (HPN.out (pI zs t))
            have HPEt := Lib.hid (HPE.out (pI zs t))
            have ht3 : (t : Int) < (n : Int) := by omega
            have hql : (q : Int) < (x.length : Int) := by omega
            clear hcx hxt r0 r1 HR HPV HCM HT HTM hE
            generalize turnI (x1, y1) (x2, y2) (pI zs t) = T at *
            generalize prodI zs i j (pI zs t) = pr at *
            generalize pI zs t = R at *
            obtain ⟨z1, z2⟩ := R
            simp only at Tc0 Tc1 htb HPEt
            go_wp2
            refine wp_region_order 9 [(13, .cells #[.int .i64 0, .int .i64 0] 70)] 1 (fun m => ⟨13, 69, .cells #[.int .i64 0, .int .i64 0] 70, ok2, cellsOf 70⟩) wr (Ext.refl _) (by kernel_rfl) (by kernel_rfl) rfl ?_ ?_
            · simp only [List.drop_succ_cons, List.drop_zero]
              exact ⟨⟨rfl, rfl, fun a w => by simp [go_sem]⟩, trivial⟩
            · simp only [List.take_succ_cons, List.take_zero]
              refine walkE_read (v := .pointer (some ⟨g, 0, none⟩)) rfl (fun w' hw' => by simp [go_sem]) ?_
              simp only [Act.put, List.setIfInBounds_toArray, List.set_cons_succ, List.set_cons_zero]
              refine walkE_read (v := .pointer (some ⟨g, 0, none⟩)) rfl (fun w' hw' => by simp [go_sem]) ?_
              simp only [Act.put, List.setIfInBounds_toArray, List.set_cons_succ, List.set_cons_zero]
              refine walkE_read (v := .pointer (some ⟨g, 1, none⟩)) rfl (fun w' hw' => by simp [go_sem]) ?_
              simp only [Act.put, List.setIfInBounds_toArray, List.set_cons_succ, List.set_cons_zero]
              refine walkE_read (v := .slice (some ⟨bp, op, none⟩) n pc) rfl (fun w' hw' => by have g0 := Gc0 w' hw'; simp [go_sem, g0]) ?_
              simp only [Act.put, List.setIfInBounds_toArray, List.set_cons_succ, List.set_cons_zero]
              refine walkE_read (v := .int .i64 t) rfl (fun w' hw' => by simp [go_sem]) ?_
              simp only [Act.put, List.setIfInBounds_toArray, List.set_cons_succ, List.set_cons_zero]
              refine walkE_read (v := .pointer (some ⟨bp, op + t * 2, none⟩)) rfl (fun w' hw' => by simp [go_sem, ht3]) ?_
              simp only [Act.put, List.setIfInBounds_toArray, List.set_cons_succ, List.set_cons_zero]
              refine walkE_read (v := .agg #[.int .i64 z1, .int .i64 z2]) rfl (fun w' hw' => by have g0 := Tc0 w' hw'; have g1 := Tc1 w' hw'; simp [go_sem, g0, g1]) ?_
              simp only [Act.put, List.setIfInBounds_toArray, List.set_cons_succ, List.set_cons_zero]
              refine walkE_read (v := .agg #[.int .i64 x1, .int .i64 y1]) rfl (fun w' hw' => by have g0 := X0c0 w' hw'; have g1 := X0c1 w' hw'; simp [go_sem, g0, g1]) ?_
              simp only [Act.put, List.setIfInBounds_toArray, List.set_cons_succ, List.set_cons_zero]
              refine ⟨.agg #[.int .i64 (z1 - x1), .int .i64 (z2 - y1)], .inl ⟨rfl, fun w' hw' => by
                have hc := minus_any z1 z2 x1 y1 (by omega) (by omega) (by omega) (by omega) w'
                unfold Oper.quietAt
                simp [go_sem, Oper.quietUpon]
                exact hc⟩, ?_⟩
              simp only [Act.put, List.setIfInBounds_toArray, List.set_cons_succ, List.set_cons_zero]
              simp only [walkE, tailB, storesE, List.length_cons, List.length_nil, Nat.reduceAdd, List.map_nil]
              intro u4 n0 m0
              refine ⟨u4, .cells #[.int .i64 (z1 - x1), .int .i64 (z2 - y1)] 70, ⟨_, rfl, store_point _ _ _ _ _ _, n0, rfl, by simp, ⟨_, _, rfl⟩, rfl⟩, fun j' b' h1 h2 h3 => by
                have h5 : j' < 11 := h2
                omega, ?_⟩
              intro v4 hE1 hB1
              simp only [Act.put, List.setIfInBounds_toArray, List.set_cons_succ, List.set_cons_zero]
              simp only [ptr]
              have h0 := boxed_has hB1 (b := u4) (cs := #[.int .i64 (z1 - x1), .int .i64 (z2 - y1)]) (t := 70) (by simp [upd, *])
              have X4c0 := Ext.keeps (h0 0 _ rfl)
              have X4c1 := Ext.keeps (h0 1 _ rfl)
              clear h0
              replace Sc0 := Ext.rebase hE1 Sc0
              replace Sc1 := Ext.rebase hE1 Sc1
              replace Sf0 := Ext.rebase hE1 Sf0
              replace Sf1 := Ext.rebase hE1 Sf1
              replace X3c0 := Ext.rebase hE1 X3c0
              replace X3c1 := Ext.rebase hE1 X3c1
              clear hB1 n0 m0
              have HE5 := Lib.hid (HEr.out.trans hE1)
              clear hE1 Gc0 X0c0 X0c1 Tc0 Tc1 hck HEr
              have l0 := X4c0 _ (Ext.refl v4)
              have l1 := X4c1 _ (Ext.refl v4)
              have l2 := X3c0 _ (Ext.refl v4)
              have l3 := X3c1 _ (Ext.refl v4)
              have m1 := mul_bd (A := 6) (D := 6) (a := z1 - x1) (d := dx) (by omega) (by omega) (by omega) (by omega)
              have m2 := mul_bd (A := 6) (D := 6) (a := z2 - y1) (d := dy) (by omega) (by omega) (by omega) (by omega)
              by_cases hp : pr < 0
              · have hp2 : (z1 - x1) * dx + (z2 - y1) * dy < 0 := by have := HPEt.out; omega
                have HNG := Lib.hid (HNt.out (HPNt.out.1 hp))
                have e0 := Sc0 _ (Ext.refl v4)
                have e1 := Sc1 _ (Ext.refl v4)
                have g0 := Sf0 _ (Ext.refl v4)
                have g1 := Sf1 _ (Ext.refl v4)
                have HEF := Lib.hid (HEW.out.trans (HE4.out.trans HE5.out))
                have hs5 := HE5.out.size
                clear Sc0 Sc1 Sf0 Sf1 X3c0 X3c1 X4c0 X4c1 HPEt HPNt HNt hp HST
                go_wp2
                refine bodyPost_ret (v := .agg #[.int .i64 (-dx), .int .i64 (-dy)]) (by simp [results, Tryz.results46, go_sem, *]) rfl ⟨by rw [HNG.out] <;> rfl, ?_⟩
                have hE := HEF.out
                exact (by repeat (first | exact Ext.refl _ | assumption | apply Ext.alloc | apply Ext.drew | apply Ext.drewN | (refine Ext.trans ?_ (by assumption)) | (refine Ext.setCell ?_ (by (try simp) <;> omega) _)))
              · have hp2 : ¬ (z1 - x1) * dx + (z2 - y1) * dy < 0 := by have := HPEt.out; omega
                have HTn := Lib.hid (HST.out (by have h7 := HPNt.out; omega))
                clear HPEt HPNt HNt hp HST
                go_wp2
                go_roundw
                case rel => exact ⟨q + 1, by omega, by go_num, HTn, HE5.out⟩
                case measure => simp [intOf]; omega
          · obtain rfl : q = x.length := by omega
            have HNG := Lib.hid (HNN.out (fun k hk => by have := HT.out k hk; omega))
            have e0 := Sc0 _ (Ext.refl wr)
            have e1 := Sc1 _ (Ext.refl wr)
            have g0 := Sf0 _ (Ext.refl wr)
            have g1 := Sf1 _ (Ext.refl wr)
            have l2 := X3c0 _ (Ext.refl wr)
            have l3 := X3c1 _ (Ext.refl wr)
            have HEF := Lib.hid (HEW.out.trans (HE4.out.trans HEr.out))
            have hs5 := hE.size
            clear Sc0 Sc1 Sf0 Sf1 X3c0 X3c1 X0c0 X0c1 Gc0 HT HR HPV hE HNN HNY HPN HPE
            go_wp2
            refine bodyPost_ret (v := .agg #[.int .i64 dx, .int .i64 dy]) (by simp [results, Tryz.results46, go_sem, *]) rfl ⟨by rw [HNG.out] <;> rfl, ?_⟩
            have hE := HEF.out
            exact (by repeat (first | exact Ext.refl _ | assumption | apply Ext.alloc | apply Ext.drew | apply Ext.drewN | (refine Ext.trans ?_ (by assumption)) | (refine Ext.setCell ?_ (by (try simp) <;> omega) _)))
end Go.Proofs.YtngbdopgdcjdeaaGreat
