/-
  The reference's ends: the cells of a side, one end.
-/
import Derived.Test.YtngbdopgdcjdeaaGreatEndP
import Derived.Test.YtngbdopgdcjdeaaGreatBa4
import Derived.BigQuiet
namespace Go.Proofs.YtngbdopgdcjdeaaGreat
open Go.RowKit

theorem Reads.grownE {w w' : World} {row : Option Nat} {a : Option Addr} {size n : Nat} {xs : List Value} (h : Reads w a size n xs) (hg : w.grownBy w' row) (hne : ∀ x, a = some x → row ≠ some x.block) : Reads w' a size n xs := by
  refine ⟨h.1, fun hn => ?_⟩
  obtain ⟨b, off, rfl, hc⟩ := h.2 hn
  exact ⟨b, off, rfl, fun j u hu => grown_keep hg (hc j u hu) (fun e => hne _ rfl e.symm)⟩
theorem VA.grown {w w' : World} {row : Option Nat} (hg : w.grownBy w' row) : ∀ {vs : List Value} {xs : List (List Int)}, VA w vs xs → (∀ v ∈ vs, ∀ q, v.ownBlock = some q → row ≠ some q) → VA w' vs xs
  | [], [], _, _ => trivial
  | v :: vs, x :: xs, ⟨⟨a, c, h1, h2⟩, h3⟩, h => ⟨⟨a, c, h1, Reads.grownE h2 hg fun y hy => h v (by simp) y.block (by rw [h1, hy]; rfl)⟩, VA.grown hg h3 fun u hu => h u (by simp [hu])⟩
  | [], _ :: _, h, _ => h.elim
  | _ :: _, [], h, _ => h.elim
theorem atE_len (zs : List (Int × Int × Int)) (e : List Int) (k : Nat) : (atE zs e k).length ≤ k := by
  unfold atE
  rw [List.length_map]
  exact Nat.le_trans (List.length_filter_le _ _) (by simp)
theorem own_lit (w : World) (B : Nat) (l : List Int) (h : B ≤ w.heap.size) (hl : l.length ≤ 1000) : (w.alloc (.cells (iv l).toArray 3)).ownsRow B 3 1 (.slice (some ⟨w.heap.size, 0, none⟩) l.length l.length) l.length (iv l) := by
  have := World.ownsRow_lit (base := B) (e := 3) (size := 1) w (iv l).toArray l.length h (by unfold maxLen; omega) (by simp [iv_len])
  simpa using this
theorem iv_oneE : ∀ (zs : List Int) (u : Value), u ∈ iv zs → u.oneCell' = true := by
  intro zs u hu
  obtain ⟨z, _, rfl⟩ := List.mem_map.1 hu
  rfl
theorem one_intE {w : World} {g : Nat} {x : Int} (h0 : w.cell? ⟨g, 0, none⟩ = some (.int .i64 x)) : Reads w (some ⟨g, 0, none⟩) 1 1 (iv [x]) :=
  ⟨rfl, fun _ => ⟨g, 0, rfl, fun j u hj => by
    match j, hj with
    | 0, hj => simp [iv] at hj; subst hj; simpa using h0⟩⟩
theorem reads_lt {w : World} {a : Option Addr} {n : Nat} {l : List Int} (h : Reads w a 1 n (iv l)) (hn : 0 < n) : ∃ b off, a = some ⟨b, off, none⟩ ∧ b < w.heap.size := by
  obtain ⟨b, off, rfl, hc⟩ := h.2 hn
  have hl := h.1
  rw [iv_len] at hl
  refine ⟨b, off, rfl, ?_⟩
  rcases Nat.lt_or_ge b w.heap.size with h1 | h1
  · exact h1
  · have := hc 0 _ (iv_at (zs := l) (k := 0) (by omega))
    exfalso
    simp [World.cell?, Array.getElem?_eq_none h1] at this
set_option maxHeartbeats 4000000 in
theorem cuAt_any (a ay : Option Addr) (n c m cs : Nat) (zs : List (Int × Int × Int)) (hZ : PZ zs) (sd : List Int) (hsd : m ≤ 100) (w : World) (h : Reads w a 3 n (tv zs)) (hs : Reads w ay 1 m (iv sd)) :
    Calls Tryz.prog 38 #[.slice a n c, .slice ay m cs] w (OwnsInts w.heap.size (sidesAt zs sd) w) := by
  have hl : zs.length = n := by have := h.1; rw [tv_len] at this; omega
  subst hl
  have hN := cells_most hZ
  have HSD := Lib.hid hsd
  have HT := Lib.hid (fun k => show atE zs sd (k + 1) = (atE zs sd k ++ if sd ∈ sidesL zs ((cellsL zs).getD k []) then [(k : Int)] else []) by
    rw [atE_succ]
    by_cases hm : sd ∈ pairsL zs ((cellsL zs).getD k [])
    · rw [if_pos hm, if_pos (mem_sidesL.2 hm)]
    · rw [if_neg hm, if_neg (fun e => hm (mem_sidesL.1 e)), List.append_nil])
  have HAL := Lib.hid (fun k => atE_len zs sd k)
  have HC := Lib.hid (fun k (hk : k < (cellsL zs).length) => cell_at hk)
  have HZ := Lib.hid hZ
  clear hZ hsd
  go_enter Tryz.func38, Tryz.ntmps38
  go_wp2_with fail
  refine (ceOf_any _ _ _ zs HZ.out.1 HZ.out.2.1 w h).mono ?_
  rintro e w2 ⟨a2, c2, us, rfl, ho2, hv2, hE2⟩
  have HE2 := Lib.hid hE2
  have HH := Lib.hid (Reads.ext hE2 h)
  have HO2 := Lib.hid ho2
  have HV2 := Lib.hid hv2
  have HSI := Lib.hid hs
  clear ho2 hv2 hE2 h hs
  go_wp2
  go_loopw [5, 13] (fun s t wr => ∃ (k : Nat) (a1 : Option Addr) (c1 : Nat), k ≤ (cellsL zs).length ∧ t = .int .i64 k ∧ s = .slice a1 (atE zs sd k).length c1 ∧ wr.ownsRow w2.heap.size 3 1 (.slice a1 (atE zs sd k).length c1) (atE zs sd k).length (iv (atE zs sd k)) ∧ Ext w2 wr) (fun _ t _ => (cellsL zs).length - (intOf t).toNat)
  case atStart => exact ⟨0, none, 0, Nat.zero_le _, rfl, rfl, own_none1 _ _, Ext.refl _⟩
  case round =>
    obtain ⟨k, a1, c1, hk, rfl, rfl, hown, hEo⟩ := hrel
    obtain ⟨wo, hwo⟩ : ∃ wo, wo = wr := ⟨_, rfl⟩
    subst hwo
    by_cases hlt : k < (cellsL zs).length
    · have HT1 := Lib.hid (HT.out k)
      have HCk := Lib.hid (HC.out k hlt)
      have hAk := HAL.out k
      have HEo := Lib.hid hEo
      obtain ⟨ak, ck, hvk, hrk⟩ := VA.at k (HV2.out.ext hEo) hlt
      obtain ⟨g, rfl, hg1, hg2⟩ := own_head HO2.out (by omega)
      have hck : wo.cell? ⟨g, k, none⟩ = some (.slice ak ((cellsL zs).getD k []).length ck) := ((own_ext hEo HO2.out).cellAt k (by omega)).trans hvk
      have HRk := Lib.hid hrk
      have HHk := Lib.hid (Reads.ext hEo HH.out)
      clear hvk hrk hEo
      have hSM := sidesL_most HZ.out HCk.out
      have HND := Lib.hid ((sort_sidesL zs ((cellsL zs).getD k [])).nodup)
      have HA3 := Lib.hid (fun y (hy : y ∈ sidesL zs ((cellsL zs).getD k [])) => pair_len (mem_sidesL.1 hy))
      generalize (cellsL zs).getD k [] = x at *
      generalize atE zs sd k = A at *
      obtain ⟨R0, hR0⟩ : ∃ r, r = (Value.slice a1 A.length c1).ownBlock := ⟨_, rfl⟩
      have HR0 := Lib.hid (fun q (hq : R0 = some q) => show w2.heap.size ≤ q ∧ q < wo.heap.size from hown.lt q (by rw [← hR0]; exact hq))
      have HOW := Lib.hid hown
      have HRR := Lib.hid hR0
      clear hown hR0
      go_wp2_with fail
      refine (ceSidesM_any _ _ _ _ _ _ zs HZ.out x HCk.out wo HHk.out HRk.out).mono ?_
      rintro e w3 ⟨a3, c3, us3, rfl, ho3, hv3, hm3, hE3⟩
      generalize sidesL zs x = S at *
      have HO3 := Lib.hid ho3
      have HV3 := Lib.hid hv3
      have HM3 := Lib.hid hm3
      have hs1 := own_ext hE3 HOW.out
      have HE3 := Lib.hid hE3
      clear ho3 hv3 hm3 hck hE3
      go_wp2
      go_loopw [5, 22] (fun s t wr => ∃ (m : Nat) (a4 : Option Addr) (c4 : Nat) (L : List Int), m ≤ S.length ∧ t = .int .i64 m ∧ Hid (L = (A ++ if sd ∈ S.take m then [(k : Int)] else [])) ∧ s = .slice a4 L.length c4 ∧ wr.ownsRow w2.heap.size 3 1 (.slice a4 L.length c4) L.length (iv L) ∧ w3.grownBy wr R0 ∧ (∀ q, (Value.slice a4 L.length c4).ownBlock = some q → w3.heap.size ≤ q ∨ R0 = some q)) (fun _ t _ => S.length - (intOf t).toNat)
      case atStart => exact ⟨0, a1, c1, A, Nat.zero_le _, rfl, Lib.hid (by simp), rfl, hs1, World.grownBy.refl _ _, fun q hq => .inr (by rw [HRR.out]; exact hq)⟩
      case round =>
        clear hs1
        obtain ⟨m, a4, c4, L, hm, rfl, HLM, rfl, hown, hgr, hrow⟩ := hrel
        have hE : Ext w2 wr := Ext.grown (HEo.out.trans HE3.out) hgr (fun q hq => (HR0.out q hq).1)
        by_cases hlm : m < S.length
        · have HST := Lib.hid (show S.take (m + 1) = S.take m ++ [S.getD m []] by
            rw [List.take_succ_eq_append_getElem hlm]
            simp [List.getD, hlm])
          have HSE := Lib.hid (HA3.out (S.getD m []) (by rw [show S.getD m [] = S[m] by simp [List.getD, hlm]]; exact List.getElem_mem _))
          have HNM := Lib.hid (show S.getD m [] ∉ S.take m by
            have h1 := List.Nodup.sublist (List.take_sublist (m + 1) S) HND.out
            rw [HST.out, List.nodup_append] at h1
            intro h2
            exact h1.2.2 _ h2 _ (by simp) rfl)
          obtain ⟨am, cm, hvm, hrm⟩ := VA.at m (VA.grown hgr HV3.out (fun v hv q hq e => by have h1 := HM3.out v hv q hq; have h2 := (HR0.out q e).2; omega)) hlm
          obtain ⟨g3, rfl, hg3, hg4⟩ := own_head HO3.out (by omega)
          have hcm : wr.cell? ⟨g3, m, none⟩ = some (.slice am (S.getD m []).length cm) := ((own_apartQ HO3.out hgr (fun q hq e => by have h1 := (HO3.out.lt q hq).1; have h2 := (HR0.out q e).2; omega)).cellAt m (by omega)).trans hvm
          have HRm := Lib.hid hrm
          have HSm := Lib.hid (HSI.out.ext (HE2.out.trans hE))
          generalize S.getD m [] = z at *
          have HOm := Lib.hid hown
          have HGm := Lib.hid hgr
          have HRW := Lib.hid hrow
          have HEr := Lib.hid hE
          clear hvm hrm hown hgr hrow hE
          go_wp2_with fail
          refine (l1Same_any _ _ _ _ _ _ z sd (by have := HSE.out; omega) (by have := HSD.out; omega) _ HRm.out HSm.out).mono ?_
          rintro e w6 ⟨rfl, hE6⟩
          have HE6 := Lib.hid (HEr.out.trans hE6)
          have HG6 := Lib.hid (World.grownBy.andThen HGm.out (Ext.grownBy hE6 none) (fun j hj => by cases hj))
          have HO6 := Lib.hid (own_ext hE6 HOm.out)
          have hz6 := HE6.out.size
          have hzg := HG6.out.size
          clear hE6 hcm HOm
          by_cases hzs : z = sd
          · have HLE := Lib.hid (show L = A by rw [HLM.out, if_neg (by rw [← hzs]; exact HNM.out), List.append_nil])
            clear HLM
            obtain rfl : L = A := HLE.out
            clear HLE
            have HLN := Lib.hid (show L ++ [(k : Int)] = (L ++ if sd ∈ S.take (m + 1) then [(k : Int)] else []) by rw [HST.out, if_pos (by simp [hzs])])
            have hdec : decide (z = sd) = true := decide_eq_true hzs
            clear hzs
            rw [hdec]
            clear hdec
            obtain ⟨i0, hz1, hz2, hz3, hz4⟩ := info_parts int_info
            go_wp2_with (at_builtin; go_must (refine wpList_app_any _ rfl _ _ 56 rfl w2.heap.size 3 i0 _ 1 8 Tryz.underlying56 hz1 hz2 hz3 hz4 rfl (by decide) _ L.length (iv L) rfl (own_ext ((Ext.refl w6).alloc _) HO6.out) _ 1 1 (iv [(k : Int)]) rfl (one_intE (by simp)) (iv_oneE _) (by unfold maxLen; omega) (by omega) (by simp; omega) ?_))
            intro a5 c5 w5 hown5 hg5 hl5
            have HG5 := Lib.hid (World.grownBy.andThen (World.grownBy.andThen HG6.out (Ext.grownBy ((Ext.refl w6).alloc _) none) (fun j hj => by cases hj)) hg5 (fun j hj => HRW.out j hj))
            have HR5 := Lib.hid (fun q (hq : (Value.slice a5 (L.length + 1) c5).ownBlock = some q) => show w3.heap.size ≤ q ∨ R0 = some q from by
              rcases hl5 with h1 | h1
              · exact HRW.out q (h1 ▸ hq)
              · rw [h1] at hq; simp at hq; left; omega)
            have HO5 := Lib.hid hown5
            clear hown5 hg5 hl5
            go_wp2
            go_roundw
            case rel => exact ⟨m + 1, a5, c5, L ++ [(k : Int)], by omega, by go_num, HLN, by simp, by simpa [iv] using HO5.out, HG5.out, by simpa using HR5.out⟩
            case measure => simp [intOf]; omega
          · have HLN := Lib.hid (show L = (A ++ if sd ∈ S.take (m + 1) then [(k : Int)] else []) by rw [HLM.out, HST.out]; simp only [List.mem_append, List.mem_singleton, Ne.symm hzs, or_false])
            have hdec : decide (z = sd) = false := decide_eq_false hzs
            rw [hdec]
            clear hdec hzs
            go_wp2
            go_roundw
            case rel => exact ⟨m + 1, a4, c4, L, by omega, by go_num, HLN, rfl, HO6.out, HG6.out, HRW.out⟩
            case measure => simp [intOf]; omega
        · have HM := Lib.hid (show atE zs sd (k + 1) = L by rw [HT1.out, HLM.out, List.take_of_length_le (by omega)])
          have HOm := Lib.hid hown
          have HEr := Lib.hid hE
          clear hown hgr hrow hE
          go_wp2
          go_roundw
          case rel => exact ⟨k + 1, a4, c4, by omega, by go_num, by rw [HM.out], by rw [HM.out]; exact HOm.out, HEr.out⟩
          case measure => simp [intOf]; omega
    · obtain rfl : k = (cellsL zs).length := by omega
      have HO := Lib.hid (own_mono HE2.out.size hown)
      have HE := Lib.hid (HE2.out.trans hEo)
      clear hown hEo
      go_wp2
      go_ret
      exact ⟨a1, c1, rfl, HO.out, HE.out⟩
set_option maxHeartbeats 4000000 in
set_option maxRecDepth 100000 in
theorem cuEnd_any (a ax ay : Option Addr) (n c nx cx cs : Nat) (zs : List (Int × Int × Int)) (hZ : PZ zs) (x : List Int) (hx : IsCell zs x) (i j : Nat) (he : [(i : Int), (j : Int)] ∈ pairsL zs x) (w : World) (h : Reads w a 3 n (tv zs)) (hxr : Reads w ax 1 nx (iv x)) (hs : Reads w ay 1 2 (iv [(i : Int), (j : Int)])) :
    Calls Tryz.prog 40 #[.slice a n c, .slice ax nx cx, .slice ay 2 cs] w (OwnsInts w.heap.size [eX zs x i j, eY zs x i j, sideI zs i j] w) := by
  have hl : zs.length = n := by have := h.1; rw [tv_len] at this; omega
  have hlx : x.length = nx := by have := hxr.1; rw [iv_len] at this; omega
  obtain ⟨hij, hj, hne⟩ := side_ne hZ.2.2 hx he
  have hi : i < zs.length := by omega
  have hm24 := corn_most hZ hx
  have hdx := dX_le hZ hi hj
  have hdy := dY_le hZ hi hj
  have hg := sideI_pos hne
  have HNC := Lib.hid (fun q (hq : q < (hullC zs x).length) => negE_corner hZ.2.2 hx he hq)
  have HNN := Lib.hid (negE_none hZ.2.2 hx he)
  have HPB := Lib.hid (fun q (hq : q < (hullC zs x).length) => show ((0 ≤ (pat (hullC zs x) q).1 ∧ (pat (hullC zs x) q).1 ≤ 6) ∧ (0 ≤ (pat (hullC zs x) q).2 ∧ (pat (hullC zs x) q).2 ≤ 6)) by
    obtain ⟨t, h1, _, h3, _⟩ := corn_term hZ.2.2 hx (k := q) (by rw [cornC_len]; exact hq)
    rw [show pat (hullC zs x) q = pI zs t from h3]
    exact (hZ.2.1 t h1).1)
  have t1 := (hZ.2.1 i hi).1
  have t2 := (hZ.2.1 j hj).1
  obtain ⟨ad, off, rfl, hc⟩ := term_cells h (by omega)
  obtain ⟨p0, p1, p2⟩ := hc i (by omega)
  obtain ⟨q0, q1, q2⟩ := hc j (by omega)
  obtain ⟨bx, ox, rfl, hcx⟩ := hs.2 (by omega)
  have k0 : w.cell? ⟨bx, ox, none⟩ = some (.int .i64 (i : Int)) := hcx 0 _ rfl
  have k1 : w.cell? ⟨bx, ox + 1, none⟩ = some (.int .i64 (j : Int)) := hcx 1 _ rfl
  have hi3 : (i : Int) < (n : Int) := by omega
  have hj3 : (j : Int) < (n : Int) := by omega
  have HDX := Lib.hid (show dX zs i j = ((pI zs i).2 - (pI zs j).2).tdiv (sideI zs i j) from rfl)
  have HDY := Lib.hid (show dY zs i j = ((pI zs j).1 - (pI zs i).1).tdiv (sideI zs i j) from rfl)
  have HSI := Lib.hid (show gcdI ((pI zs i).2 - (pI zs j).2) ((pI zs j).1 - (pI zs i).1) = sideI zs i j by unfold sideI; rw [gcdI_comm, ← gcdI_absI, ← gcdI_absI ((pI zs i).1 - (pI zs j).1)]; congr 1; unfold absI; omega)
  have HPN := Lib.hid (fun p => prod_neg hne p)
  have HPE := Lib.hid (fun p => show prodI zs i j p = (p.1 - (pI zs i).1) * dX zs i j + (p.2 - (pI zs i).2) * dY zs i j from rfl)
  have HEX := Lib.hid (show eX zs x i j = sgE (negE zs x i j) (dX zs i j) from rfl)
  have HEY := Lib.hid (show eY zs x i j = sgE (negE zs x i j) (dY zs i j) from rfl)
  rw [HEX.out, HEY.out]
  have HX := Lib.hid hx
  have HZ := Lib.hid hZ
  have HH := Lib.hid h
  have HHX := Lib.hid hxr
  clear HEX HEY hne hc hcx hs he hx hZ h hxr hij hi hj
  generalize pI zs i = P at *
  generalize pI zs j = Q at *
  generalize dX zs i j = dx at *
  generalize dY zs i j = dy at *
  generalize sideI zs i j = D at *
  generalize cI zs i = zi at *
  generalize cI zs j = zj at *
  obtain ⟨x1, y1⟩ := P
  obtain ⟨x2, y2⟩ := Q
  simp only at p0 p1 q0 q1 t1 t2 HDX HDY HSI HPE HPN HNC HNN
  have Kc0 := Ext.keeps k0
  have Kc1 := Ext.keeps k1
  have Pc0 := Ext.keeps p0
  have Pc1 := Ext.keeps p1
  have Pc2 := Ext.keeps p2
  have Qc0 := Ext.keeps q0
  have Qc1 := Ext.keeps q1
  have Qc2 := Ext.keeps q2
  clear k0 k1 p0 p1 p2 q0 q1 q2
  go_enter Tryz.func40, Tryz.ntmps40
  go_wp2
  refine wp_region_order 14 [(7, .cells #[.int .i64 0, .int .i64 0] 70), (8, .cells #[.int .i64 0, .int .i64 0] 70)] 2 (fun m => ⟨m - 9, if m = 16 then 20 else 27, .cells #[.int .i64 0, .int .i64 0] 70, ok2, cellsOf 70⟩) w (Ext.refl _) (by kernel_rfl) (by kernel_rfl) rfl ?_ ?_
  · simp only [List.drop_succ_cons, List.drop_zero]
    exact ⟨⟨rfl, rfl, fun a w => by simp [go_sem]⟩, ⟨rfl, rfl, fun a w => by simp [go_sem]⟩, trivial⟩
  · simp only [List.take_succ_cons, List.take_zero]
    refine walkE_read (v := .slice (some ⟨ad, off, none⟩) n c) rfl (fun w' hw' => by simp [go_sem]) ?_
    simp only [Act.put, List.setIfInBounds_toArray, List.set_cons_succ, List.set_cons_zero]
    refine walkE_read (v := .slice (some ⟨bx, ox, none⟩) 2 cs) rfl (fun w' hw' => by simp [go_sem]) ?_
    simp only [Act.put, List.setIfInBounds_toArray, List.set_cons_succ, List.set_cons_zero]
    refine walkE_read (v := .pointer (some ⟨bx, ox, none⟩)) rfl (fun w' hw' => by simp [go_sem]) ?_
    simp only [Act.put, List.setIfInBounds_toArray, List.set_cons_succ, List.set_cons_zero]
    refine walkE_read (v := .int .i64 i) rfl (fun w' hw' => by have g0 := Kc0 w' hw'; simp [go_sem, g0]) ?_
    simp only [Act.put, List.setIfInBounds_toArray, List.set_cons_succ, List.set_cons_zero]
    refine walkE_read (v := .pointer (some ⟨ad, off + i * 3, none⟩)) rfl (fun w' hw' => by simp [go_sem, hi3]) ?_
    simp only [Act.put, List.setIfInBounds_toArray, List.set_cons_succ, List.set_cons_zero]
    refine walkE_read (v := .agg #[.int .i64 x1, .int .i64 y1, .int .i64 zi]) rfl (fun w' hw' => by have g0 := Pc0 w' hw'; have g1 := Pc1 w' hw'; have g2 := Pc2 w' hw'; simp [go_sem, g0, g1, g2]) ?_
    simp only [Act.put, List.setIfInBounds_toArray, List.set_cons_succ, List.set_cons_zero]
    refine ⟨.agg #[.int .i64 x1, .int .i64 y1], .inl ⟨rfl, fun w' hw' => by
      have hc := cePoint_any x1 y1 zi w'
      unfold Oper.quietAt
      simp [go_sem, Oper.quietUpon]
      exact hc⟩, ?_⟩
    simp only [Act.put, List.setIfInBounds_toArray, List.set_cons_succ, List.set_cons_zero]
    refine walkE_read (v := .slice (some ⟨ad, off, none⟩) n c) rfl (fun w' hw' => by simp [go_sem]) ?_
    simp only [Act.put, List.setIfInBounds_toArray, List.set_cons_succ, List.set_cons_zero]
    refine walkE_read (v := .slice (some ⟨bx, ox, none⟩) 2 cs) rfl (fun w' hw' => by simp [go_sem]) ?_
    simp only [Act.put, List.setIfInBounds_toArray, List.set_cons_succ, List.set_cons_zero]
    refine walkE_read (v := .pointer (some ⟨bx, ox + 1, none⟩)) rfl (fun w' hw' => by simp [go_sem]) ?_
    simp only [Act.put, List.setIfInBounds_toArray, List.set_cons_succ, List.set_cons_zero]
    refine walkE_read (v := .int .i64 j) rfl (fun w' hw' => by have g0 := Kc1 w' hw'; simp [go_sem, g0]) ?_
    simp only [Act.put, List.setIfInBounds_toArray, List.set_cons_succ, List.set_cons_zero]
    refine walkE_read (v := .pointer (some ⟨ad, off + j * 3, none⟩)) rfl (fun w' hw' => by simp [go_sem, hj3]) ?_
    simp only [Act.put, List.setIfInBounds_toArray, List.set_cons_succ, List.set_cons_zero]
    refine walkE_read (v := .agg #[.int .i64 x2, .int .i64 y2, .int .i64 zj]) rfl (fun w' hw' => by have g0 := Qc0 w' hw'; have g1 := Qc1 w' hw'; have g2 := Qc2 w' hw'; simp [go_sem, g0, g1, g2]) ?_
    simp only [Act.put, List.setIfInBounds_toArray, List.set_cons_succ, List.set_cons_zero]
    refine ⟨.agg #[.int .i64 x2, .int .i64 y2], .inl ⟨rfl, fun w' hw' => by
      have hc := cePoint_any x2 y2 zj w'
      unfold Oper.quietAt
      simp [go_sem, Oper.quietUpon]
      exact hc⟩, ?_⟩
    simp only [Act.put, List.setIfInBounds_toArray, List.set_cons_succ, List.set_cons_zero]
    simp only [walkE, tailB, storesE, List.length_cons, List.length_nil, Nat.reduceAdd, List.map_nil, List.map_cons]
    intro u0 n0 m0 u1 n1 m1
    simp only [List.mem_cons, List.not_mem_nil, or_false] at m1
    refine ⟨u0, .cells #[.int .i64 x1, .int .i64 y1] 70, ⟨_, rfl, store_point _ _ _ _ _ _, n0, rfl, by simp, ⟨_, _, rfl⟩, rfl⟩, fun j' b' h1 h2 h3 => by
      have h5 : j' < 18 := h2
      have h4 : j' = 17 := by omega
      rcases h4 with rfl
      · have h6 := ptr_inj (show ptr u1 = ptr b' from h3)
        omega, ?_⟩
    refine ⟨u1, .cells #[.int .i64 x2, .int .i64 y2] 70, ⟨_, rfl, store_point _ _ _ _ _ _, n1, rfl, by simp [upd, *], ⟨_, _, rfl⟩, rfl⟩, fun j' b' h1 h2 h3 => by
      have h5 : j' < 18 := h2
      omega, ?_⟩
    intro v hE1 hB1
    simp only [Act.put, List.setIfInBounds_toArray, List.set_cons_succ, List.set_cons_zero]
    simp only [ptr]
    have d1 := Ne.symm m1
    have h0 := boxed_has hB1 (b := u0) (cs := #[.int .i64 x1, .int .i64 y1]) (t := 70) (by simp [upd, *])
    have U0c0 := Ext.keeps (h0 0 _ rfl)
    have U0c1 := Ext.keeps (h0 1 _ rfl)
    clear h0
    have h1 := boxed_has hB1 (b := u1) (cs := #[.int .i64 x2, .int .i64 y2]) (t := 70) (by simp [upd, *])
    have U1c0 := Ext.keeps (h1 0 _ rfl)
    have U1c1 := Ext.keeps (h1 1 _ rfl)
    clear h1
    have HE1 := Lib.hid hE1
    have hzv := hE1.size
    clear hB1 n0 n1 m0 m1 d1 hE1 Kc0 Kc1 Pc0 Pc1 Pc2 Qc0 Qc1 Qc2
    have hE : Ext v v := Ext.refl _
    go_wp2
    have qU00 := fun s : Past v => U0c0 s.w s.ext
    have qU01 := fun s : Past v => U0c1 s.w s.ext
    have qU10 := fun s : Past v => U1c0 s.w s.ext
    have qU11 := fun s : Past v => U1c1 s.w s.ext
    refine wp_region_past v (by first | exact hE | exact Ext.alloc hE _ | exact Ext.drew hE | exact Ext.drewN hE _) (by kernel_rfl) (by kernel_rfl) ?_
    repeat (go_big_quiet_step ((fail)))
    refine wpQuiet_nil ?_
    intro v2 hw'
    obtain ⟨⟨_, hE⟩, hw''⟩ := hw'
    subst hw''
    clear qU00 qU01 qU10 qU11
    replace U0c0 := Ext.rebase hE U0c0
    replace U0c1 := Ext.rebase hE U0c1
    have HE2 := Lib.hid (HE1.out.trans hE)
    clear hE HE1 U1c0 U1c1
    have g1 := tdiv_bd (a := y1 - y2) (b := D) (k := 6) (by omega)
    have g2 := tdiv_bd (a := x2 - x1) (b := D) (k := 6) (by omega)
    obtain ⟨yp, hyp⟩ : ∃ z, z = y1 - y2 := ⟨_, rfl⟩
    obtain ⟨xp, hxp⟩ : ∃ z, z = x2 - x1 := ⟨_, rfl⟩
    have b1 : -6 ≤ yp ∧ yp ≤ 6 := by omega
    have b2 : -6 ≤ xp ∧ xp ≤ 6 := by omega
    have HYP := Lib.hid hyp
    have HXP := Lib.hid hxp
    rw [← hyp] at HDX HSI g1
    rw [← hxp] at HDY HSI g2
    rw [← hyp, ← hxp]
    clear hyp hxp
    go_wp2_with fail
    refine (frGcd_any yp xp (by omega) (by omega) (by omega) (by omega) _).mono ?_
    rintro e _ ⟨rfl, rfl⟩
    rw [HSI.out]
    have hD0 : ¬ D = 0 := by omega
    rw [← HDX.out] at g1
    rw [← HDY.out] at g2
    have HR2 := Lib.hid (Reads.ext HE2.out HH.out)
    have HX2 := Lib.hid (Reads.ext HE2.out HHX.out)
    have HQX := Lib.hid HDX.out.symm
    have HQY := Lib.hid HDY.out.symm
    have wx : IntKind.i64.wrap (yp.tdiv D) = dx := by rw [HQX.out]; exact wrap_i64 (by omega) (by omega)
    have wy : IntKind.i64.wrap (xp.tdiv D) = dy := by rw [HQY.out]; exact wrap_i64 (by omega) (by omega)
    go_wp2_with fail
    refine (cePolygon_any _ _ _ _ _ _ zs HZ.out x HX.out _ HR2.out HX2.out).mono ?_
    rintro e v3 ⟨a3, c3, rfl, ho3, hE3⟩
    clear wx wy
    replace U0c0 := Ext.rebase hE3 U0c0
    replace U0c1 := Ext.rebase hE3 U0c1
    have HO3 := Lib.hid ho3
    have HE3 := Lib.hid (HE2.out.trans hE3)
    have hz3 := HE3.out.size
    clear ho3 hE3 HH HHX HR2 HX2 HE2 HDX HDY HSI HYP HXP HQX HQY g1 g2 b1 b2 hD0
    go_wp2
    go_loopw [51] (fun t wr => ∃ q : Nat, q ≤ (hullC zs x).length ∧ t = .int .i64 q ∧ Hid (∀ m, m < q → ¬ turnI (x1, y1) (x2, y2) (pat (hullC zs x) m) < 0) ∧ Ext v3 wr) (fun t _ => (hullC zs x).length - (intOf t).toNat)
    case atStart => exact ⟨0, Nat.zero_le _, rfl, Lib.hid (fun m hm => absurd hm (by omega)), Ext.refl _⟩
    case round =>
      obtain ⟨q, hq, rfl, HT, hE⟩ := hrel
      replace U0c0 := Ext.rebase hE U0c0
      replace U0c1 := Ext.rebase hE U0c1
      have HEr := Lib.hid hE
      by_cases hlt : q < (hullC zs x).length
      · obtain ⟨bh, oh, rfl, r0, r1⟩ := (own_reads (own_ext hE HO3.out)).pair hlt
        have htb := HPB.out q hlt
        have HST := Lib.hid (fun e : ¬ turnI (x1, y1) (x2, y2) (pat (hullC zs x) q) < 0 => show ∀ m, m < q + 1 → ¬ turnI (x1, y1) (x2, y2) (pat (hullC zs x) m) < 0 by
          intro m hm
          rcases Nat.lt_or_ge m q with h1 | h1
          · exact HT.out m h1
          · obtain rfl : m = q := by omega
            exact e)
        have HNt := Lib.hid (HNC.out q hlt)
        have HPNt := Lib.hid (HPN.out (pat (hullC zs x) q))
        have HPEt := Lib.hid (HPE.out (pat (hullC zs x) q))
        have hql : (q : Int) < ((hullC zs x).length : Int) := by omega
        clear HT hE HPB HNC
        generalize turnI (x1, y1) (x2, y2) (pat (hullC zs x) q) = T at *
        generalize prodI zs i j (pat (hullC zs x) q) = pr at *
        generalize pat (hullC zs x) q = R at *
        obtain ⟨z1, z2⟩ := R
        simp only at r0 r1 htb HPEt
        have l0 := U0c0 _ (Ext.alloc (Ext.refl wr) (.cells #[.int .i64 z1, .int .i64 z2] 70))
        have l1 := U0c1 _ (Ext.alloc (Ext.refl wr) (.cells #[.int .i64 z1, .int .i64 z2] 70))
        have m1 := mul_bd (A := 6) (D := 6) (a := z1 - x1) (d := dx) (by omega) (by omega) (by omega) (by omega)
        have m2 := mul_bd (A := 6) (D := 6) (a := z2 - y1) (d := dy) (by omega) (by omega) (by omega) (by omega)
        by_cases hp : pr < 0
        · have hp2 : (z1 - x1) * dx + (z2 - y1) * dy < 0 := by have := HPEt.out; omega
          have HNG := Lib.hid (HNt.out (HPNt.out.1 hp))
          have HEF := Lib.hid (HE3.out.trans HEr.out)
          clear HPEt HPNt HNt hp HST U0c0 U0c1
          go_wp2
          go_ret
          refine ⟨some ⟨wr.heap.size + 1, 0, none⟩, 3, rfl, ?_, (HEF.out.alloc _).alloc _⟩
          rw [HNG.out]
          have := own_lit (wr.alloc (.cells #[.int .i64 z1, .int .i64 z2] 70)) w.heap.size [-dx, -dy, D] (by have := HEF.out.size; simp; omega) (by simp)
          simpa [iv, sgE] using this
        · have hp2 : ¬ (z1 - x1) * dx + (z2 - y1) * dy < 0 := by have := HPEt.out; omega
          have HTn := Lib.hid (HST.out (fun e => hp (HPNt.out.2 e)))
          clear HPEt HPNt HNt hp HST
          go_wp2
          go_roundw
          case rel => exact ⟨q + 1, by omega, by go_num, HTn, HEr.out.alloc _⟩
          case measure => simp [intOf]; omega
      · obtain rfl : q = (hullC zs x).length := by omega
        have HNG := Lib.hid (HNN.out (fun k hk => by have := HT.out k hk; omega))
        have HEF := Lib.hid (HE3.out.trans HEr.out)
        clear hE HT U0c0 U0c1
        go_wp2
        go_ret
        refine ⟨some ⟨wr.heap.size, 0, none⟩, 3, rfl, ?_, HEF.out.alloc _⟩
        rw [HNG.out]
        have := own_lit wr w.heap.size [dx, dy, D] HEF.out.size (by simp)
        simpa [iv, sgE] using this
end Go.Proofs.YtngbdopgdcjdeaaGreat
