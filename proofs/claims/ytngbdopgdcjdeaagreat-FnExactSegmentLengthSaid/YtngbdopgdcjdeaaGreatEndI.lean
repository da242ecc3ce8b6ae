/-
  The ends at a vertex, as the program makes them.
-/
import Derived.Test.YtngbdopgdcjdeaaGreatCuN
import Derived.Test.YtngbdopgdcjdeaaGreatDir
import Derived.Test.YtngbdopgdcjdeaaGreatCont
import Derived.BigQuiet
namespace Go.Proofs.YtngbdopgdcjdeaaGreat
open Go.RowKit

set_option maxHeartbeats 4000000 in
set_option maxRecDepth 100000 in
theorem ends_at_any (B g : Nat) (a : Option Addr) (n c m : Nat) (zs : List (Int × Int × Int)) (hZ : PZ zs) (hm : m < (cellsL zs).length) (w : World) (h : SubD w B g a n c zs) :
    Calls Tryz.prog 57 #[.pointer (some ⟨g, 0, none⟩), .int .i64 m] w (OwnsL w.heap.size (endsC zs ((cellsL zs).getD m [])) w) := by
  obtain ⟨f, hf⟩ : ∃ f : List Int → Bool, f = fun e => decide ((m : Int) ∈ sidesAt zs e) := ⟨_, rfl⟩
  have HFd := Lib.hid hf
  have HD := Lib.hid h
  have hl := subD_len h
  have hn12 : n ≤ 12 := by rw [← hl]; exact hZ.1
  have HEN := Lib.hid (show endsC zs ((cellsL zs).getD m []) = ((onceL zs).filter f).map (endR zs ((cellsL zs).getD m [])) by rw [hf, ← sides_filter hZ.2.2 hm]; rfl)
  rw [HEN.out]
  obtain ⟨pa, pc, s, e, b, mm, B1, ps, qs, hsg, hBg, _, _, _, _, hol, hqs, hgm⟩ := h
  have HQS := Lib.hid hqs
  have HSG := Lib.hid hsg
  have HOL := Lib.hid hol
  have hql : qs.length ≤ 48000 := by rw [← List.length_map (f := (·.2)), hqs]; exact onceL_len hZ
  have HZ := Lib.hid hZ
  have HM := Lib.hid hm
  have HLZ := Lib.hid hl
  obtain ⟨ea, ec, rfl⟩ := hol.form
  have hc3 := hsg.c3
  have hgl := hsg.lt
  have hm64 : B64 (m : Int) := by have := cells_most hZ; unfold B64; omega
  clear hqs hsg hol hgm hZ hf hm hl HEN
  obtain ⟨x, hx⟩ : ∃ x, x = (cellsL zs).getD m [] := ⟨_, rfl⟩
  rw [← hx]
  have HXX := Lib.hid hx
  clear hx
  go_enter Tryz.func57, Tryz.ntmps57
  go_wp2
  go_loopw [5, 15] (fun s t wr => ∃ (k : Nat) (ts : List (Value × List Int)), k ≤ qs.length ∧ t = .int .i64 k ∧ OwnL wr w.heap.size s ts ∧ ts.map (·.2) = (((onceL zs).take k).filter f).map (endR zs x) ∧ ts.length ≤ k ∧ Ext w wr) (fun _ t _ => qs.length - (intOf t).toNat)
  case atStart => exact ⟨0, [], Nat.zero_le _, rfl, ownL_empty w _ (Nat.le_refl _), by simp, Nat.le_refl _, Ext.alloc (Ext.refl _) _⟩
  case round =>
    obtain ⟨k, ts, hk, rfl, hot, hts, htk, hE⟩ := hrel
    by_cases hlk : k < qs.length
    · have hko : k < (onceL zs).length := by rw [← HQS.out, List.length_map]; exact hlk
      obtain ⟨i, j, hij, hjn, hij2⟩ := once_form HZ.out.2.2 (show (onceL zs).getD k [] ∈ onceL zs by rw [show (onceL zs).getD k [] = (onceL zs)[k] by simp [List.getD, hko]]; exact List.getElem_mem _)
      have HTK := Lib.hid (once_take (f := f) hko)
      rw [hij2] at HTK
      have hol := HOL.out.ext hE
      have hva := hol.va
      rw [HQS.out] at hva
      obtain ⟨ak, ck, hvk, hrk⟩ := hva.at k hko
      obtain ⟨gc, rfl, _, hgc2⟩ := own_head hol.1 (by omega)
      have hck := (hol.1.cellAt k (by omega)).trans hvk
      rw [hij2] at hck hrk
      simp only [List.length_cons, List.length_nil, Nat.zero_add, Nat.reduceAdd] at hck hrk
      have HAK := Lib.hid (show ∀ bk ok, ak = some ⟨bk, ok, none⟩ → bk < w.heap.size from fun bk ok e => by
        obtain ⟨ak', ck', hvk', hrk'⟩ := (show VA w (qs.map (·.1)) (onceL zs) by rw [← HQS.out]; exact HOL.out.va).at k hko
        rw [hvk'] at hvk
        simp only [Option.some.injEq, Value.slice.injEq] at hvk
        obtain ⟨rfl, _, rfl⟩ := hvk
        obtain ⟨b2, o2, h1, h2⟩ := reads_lt hrk' (by rw [hij2]; simp)
        rw [e] at h1
        cases h1
        exact h2)
      have HDr := Lib.hid (HD.out.ext hE)
      have HRK := Lib.hid hrk
      have hkn : (k : Int) < (qs.length : Int) := by omega
      have HTS := Lib.hid hts
      have HOT := Lib.hid hot
      have HE := Lib.hid hE
      have hbi : B64 (i : Int) := by have := HZ.out.1; unfold B64; omega
      have hbj : B64 (j : Int) := by have := HZ.out.1; unfold B64; omega
      have HFI := Lib.hid (show f [(i : Int), (j : Int)] = decide ((m : Int) ∈ sidesAt zs [(i : Int), (j : Int)]) by rw [HFd.out])
      have hS2 := sidesAt_two HZ.out.2.2 [(i : Int), (j : Int)]
      have HNE := Lib.hid (show pI zs i ≠ pI zs j from fun e => by have := HZ.out.2.2.inj (show i < zs.length by omega) hjn e; omega)
      have hin : i < n := by have := HLZ.out; omega
      have hjn2 : j < n := by have := HLZ.out; omega
      clear hol hva hvk hrk hts hot hE hko hij2 hjn
      go_wp2_with fail
      refine (cellsAt_any B g a ak n c ck zs i j hbi hbj wr HDr.out HRK.out).mono ?_
      rintro e w2 ⟨a2, c2, rfl, hr2, hE2⟩
      have HE2 := Lib.hid (HE.out.trans hE2)
      have HOT2 := Lib.hid (HOT.out.ext hE2)
      have HRK2 := Lib.hid (Reads.ext hE2 HRK.out)
      have HDr2 := Lib.hid (HDr.out.ext hE2)
      have HR2 := Lib.hid hr2
      clear hE2 hr2 hck hgc2 HDr HRK HOT HE
      generalize hSS : sidesAt zs [(i : Int), (j : Int)] = S at *
      go_wp2_with fail
      refine (containsN_any _ _ _ S (m : Int) (by omega) _ HR2.out).mono ?_
      rintro e _ ⟨rfl, rfl⟩
      by_cases hmS : (m : Int) ∈ S
      · have HV := Lib.hid (HTK.out.trans (by rw [HFI.out, if_pos (by simpa using hmS)]))
        have hd : decide ((m : Int) ∈ S) = true := decide_eq_true hmS
        rw [hd]
        clear HTK HFI hmS hd
        go_wp2_with fail
        refine (direction_any B g a ak n c ck m zs HZ.out HM.out i j hin hjn2 HNE.out w2 HDr2.out HRK2.out).mono ?_
        rintro e w3 ⟨rfl, hE3⟩
        rw [← HXX.out]
        have HV2 := Lib.hid (show (((onceL zs).take (k + 1)).filter f).map (endR zs x) = (((onceL zs).take k).filter f).map (endR zs x) ++ [[(i : Int), (j : Int), eX zs x i j, eY zs x i j, sideI zs i j]] by rw [HV.out, List.map_append, List.map_cons, List.map_nil, endR_at])
        clear HV
        have HE3 := Lib.hid hE3
        have hz3 := hE3.size
        clear hE3
        generalize eX zs x i j = ex at *
        generalize eY zs x i j = ey at *
        obtain ⟨V, hV⟩ : ∃ V, V = w3.alloc (.cells #[.int .i64 ex, .int .i64 ey] 70) := ⟨_, rfl⟩
        have hEV : Ext w2 V := by rw [hV]; exact HE3.out.alloc _
        have u0 : V.cell? ⟨w3.heap.size, 0, none⟩ = some (.int .i64 ex) := by rw [hV]; simp
        have u1 : V.cell? ⟨w3.heap.size, 1, none⟩ = some (.int .i64 ey) := by rw [hV]; simp
        have HOT3 := Lib.hid (HOT2.out.ext hEV)
        have HD3 := Lib.hid (HDr2.out.ext hEV)
        have HRK3 := Lib.hid (Reads.ext hEV HRK2.out)
        have HE4 := Lib.hid (HE2.out.trans hEV)
        obtain ⟨bk, ok, rfl, hcells⟩ := HRK3.out.2 (by omega)
        have HBK := Lib.hid (HAK.out bk ok rfl)
        clear HAK
        have k0 : V.cell? ⟨bk, ok, none⟩ = some (.int .i64 (i : Int)) := hcells 0 _ rfl
        have k1 : V.cell? ⟨bk, ok + 1, none⟩ = some (.int .i64 (j : Int)) := hcells 1 _ rfl
        have HFU := Lib.hid ((HOT2.out.fresh hz3).1)
        go_wp2
        rw [← hV]
        clear hV hcells
        obtain ⟨sa, sc, rfl⟩ := HOT3.out.form
        have HFK := Lib.hid (show (Value.slice sa ts.length sc).ownBlock ≠ some bk from fun e => by
          have h1 := (HOT2.out.1.lt bk e).1
          have h2 := HBK.out
          omega)
        obtain ⟨us, hus⟩ : ∃ us, us = w3.heap.size := ⟨_, rfl⟩
        rw [← hus] at u0 u1 HFU ⊢
        have hul := lt_of_cell u0
        have hkl := lt_of_cell k0
        clear hus HRK2 HDr2 HE3 hz3 hEV HOT2
        have HEV := HE4
        have hzw := HE4.out.size
        obtain ⟨S, hSd⟩ : ∃ S : World → Prop, S = fun w' => w'.cell? ⟨bk, ok, none⟩ = some (.int .i64 (i : Int)) ∧ w'.cell? ⟨bk, ok + 1, none⟩ = some (.int .i64 (j : Int)) ∧ w'.cell? ⟨us, 0, none⟩ = some (.int .i64 ex) ∧ w'.cell? ⟨us, 1, none⟩ = some (.int .i64 ey) := ⟨_, rfl⟩
        have hS0 : S V.drew := by rw [hSd]; exact ⟨k0, k1, u0, u1⟩
        have hEk : ∀ w', Ext V w' → S w' := fun w' e => by rw [hSd]; exact ⟨e.keep k0, e.keep k1, e.keep u0, e.keep u1⟩
        refine wp_region_T S 17 (by kernel_rfl) ?_
        simp only [List.length_cons, List.length_nil, Nat.reduceAdd]
        refine wpAnyT_take (i := 0) (v := .slice sa ts.length sc) rfl (by kernel_rfl) (by kernel_rfl) (by kernel_rfl) (by kernel_rfl) (fun _ _ _ h => h) (.inl ⟨by rfl, fun _ _ => by
          simp [go_sem]⟩) hS0 ?_
        simp only [Act.put, List.setIfInBounds_toArray]
        refine wpAnyT_take (i := 1) (v := .slice (some ⟨bk, ok, none⟩) 2 ck) rfl (by kernel_rfl) (by kernel_rfl) (by kernel_rfl) (by kernel_rfl) (fun _ _ _ h => h) (.inl ⟨by rfl, fun _ _ => by
          simp [go_sem]⟩) hS0 ?_
        simp only [Act.put]
        refine wpAnyT_take (i := 2) (v := .pointer (some ⟨bk, ok, none⟩)) rfl (by kernel_rfl) (by kernel_rfl) (by kernel_rfl) (by kernel_rfl) (fun _ _ _ h => h) (.inl ⟨by rfl, fun _ _ => by
          simp [go_sem]⟩) hS0 ?_
        simp only [Act.put]
        refine wpAnyT_take (i := 3) (v := .int .i64 (i : Int)) rfl (by kernel_rfl) (by kernel_rfl) (by kernel_rfl) (by kernel_rfl) (fun _ _ _ h => h) (.inl ⟨by rfl, fun w' hw' => by
          rw [hSd] at hw'
          have t0 := hw'.1
          simp [go_sem, t0]⟩) hS0 ?_
        simp only [Act.put]
        refine wpAnyT_take (i := 4) (v := .slice (some ⟨bk, ok, none⟩) 2 ck) rfl (by kernel_rfl) (by kernel_rfl) (by kernel_rfl) (by kernel_rfl) (fun _ _ _ h => h) (.inl ⟨by rfl, fun _ _ => by
          simp [go_sem]⟩) hS0 ?_
        simp only [Act.put]
        refine wpAnyT_take (i := 5) (v := .pointer (some ⟨bk, ok + 1, none⟩)) rfl (by kernel_rfl) (by kernel_rfl) (by kernel_rfl) (by kernel_rfl) (fun _ _ _ h => h) (.inl ⟨by rfl, fun _ _ => by
          simp [go_sem]⟩) hS0 ?_
        simp only [Act.put]
        refine wpAnyT_take (i := 6) (v := .int .i64 (j : Int)) rfl (by kernel_rfl) (by kernel_rfl) (by kernel_rfl) (by kernel_rfl) (fun _ _ _ h => h) (.inl ⟨by rfl, fun w' hw' => by
          rw [hSd] at hw'
          have t0 := hw'.2.1
          simp [go_sem, t0]⟩) hS0 ?_
        simp only [Act.put]
        refine wpAnyT_take (i := 7) (v := .pointer (some ⟨us, 0, none⟩)) rfl (by kernel_rfl) (by kernel_rfl) (by kernel_rfl) (by kernel_rfl) (fun _ _ _ h => h) (.inl ⟨by rfl, fun _ _ => by
          simp [go_sem]⟩) hS0 ?_
        simp only [Act.put]
        refine wpAnyT_take (i := 8) (v := .int .i64 ex) rfl (by kernel_rfl) (by kernel_rfl) (by kernel_rfl) (by kernel_rfl) (fun _ _ _ h => h) (.inl ⟨by rfl, fun w' hw' => by
          rw [hSd] at hw'
          have t0 := hw'.2.2.1
          simp [go_sem, t0]⟩) hS0 ?_
        simp only [Act.put]
        refine wpAnyT_take (i := 9) (v := .pointer (some ⟨us, 1, none⟩)) rfl (by kernel_rfl) (by kernel_rfl) (by kernel_rfl) (by kernel_rfl) (fun _ _ _ h => h) (.inl ⟨by rfl, fun _ _ => by
          simp [go_sem]⟩) hS0 ?_
        simp only [Act.put]
        refine wpAnyT_take (i := 10) (v := .int .i64 ey) rfl (by kernel_rfl) (by kernel_rfl) (by kernel_rfl) (by kernel_rfl) (fun _ _ _ h => h) (.inl ⟨by rfl, fun w' hw' => by
          rw [hSd] at hw'
          have t0 := hw'.2.2.2
          simp [go_sem, t0]⟩) hS0 ?_
        simp only [Act.put]
        refine wpAnyT_take (i := 11) (v := .pointer (some ⟨g, 0, none⟩)) rfl (by kernel_rfl) (by kernel_rfl) (by kernel_rfl) (by kernel_rfl) (fun _ _ _ h => h) (.inl ⟨by rfl, fun _ _ => by
          simp [go_sem]⟩) hS0 ?_
        simp only [Act.put]
        refine wpAnyT_take (i := 12) (v := .slice (some ⟨bk, ok, none⟩) 2 ck) rfl (by kernel_rfl) (by kernel_rfl) (by kernel_rfl) (by kernel_rfl) (fun _ _ _ h => h) (.inl ⟨by rfl, fun _ _ => by
          simp [go_sem]⟩) hS0 ?_
        simp only [Act.put]
        refine wpAnyT_step (i := 13) rfl (by kernel_rfl) (fun K' hK => ?_)
        go_simp
        refine (length_any B g a (some ⟨bk, ok, none⟩) n c ck zs HZ.out i j hin hjn2 V.drew (HD3.out.ext (Ext.drew (Ext.refl V))) (Reads.ext (Ext.drew (Ext.refl V)) HRK3.out)).mono ?_
        rintro e w4 ⟨rfl, hb4⟩
        have hE4 : Ext V w4 := Ext.trans (Ext.drew (Ext.refl _)) hb4
        refine hK.out _ _ (.inr (hEk _ hE4)) ?_
        clear hK K' hb4
        refine wpAnyT_step (i := 14) rfl (by kernel_rfl) (fun K' hK => ?_)
        go_simp
        refine hK.out _ _ (.inr (hEk _ (hE4.alloc _))) ?_
        clear hK K'
        have hv5 : (w4.alloc (.cells #[.int .i64 (i : Int), .int .i64 (j : Int), .int .i64 ex, .int .i64 ey, .int .i64 (sideI zs i j)] 3)).ownsRow w.heap.size 3 1 (.slice (some ⟨w4.heap.size, 0, none⟩) 5 5) 5 (iv [(i : Int), (j : Int), ex, ey, (sideI zs i j)]) := own_lit w4 w.heap.size [(i : Int), (j : Int), ex, ey, (sideI zs i j)] (Nat.le_trans hzw hE4.size) (by simp)
        obtain ⟨w5, hw5⟩ : ∃ w5, w5 = w4.alloc (.cells #[.int .i64 (i : Int), .int .i64 (j : Int), .int .i64 ex, .int .i64 ey, .int .i64 (sideI zs i j)] 3) := ⟨_, rfl⟩
        have hE5 : Ext w4 w5 := by rw [hw5]; exact Ext.alloc (Ext.refl _) _
        rw [← hw5] at hv5 ⊢
        clear hw5
        refine wpAnyT_step (i := 15) rfl (by kernel_rfl) (fun K' hK => ?_)
        go_simp
        refine hK.out _ _ (.inr (hEk _ ((hE4.trans hE5).alloc _))) ?_
        clear hK K'
        obtain ⟨v5, hv5e⟩ : ∃ v5, v5 = Value.slice (some ⟨w4.heap.size, 0, none⟩) 5 5 := ⟨_, rfl⟩
        have hq5 : v5.ownBlock = some w4.heap.size := by rw [hv5e]; rfl
        have hone5 : v5.oneCell' = true := by rw [hv5e]; rfl
        rw [← hv5e] at hv5 ⊢
        clear hv5e
        have hcl : (w5.alloc (.cells #[v5] 56)).cell? ⟨w5.heap.size, 0, none⟩ = some v5 := by simp
        obtain ⟨w6, hw6⟩ : ∃ w6, w6 = w5.alloc (.cells #[v5] 56) := ⟨_, rfl⟩
        have hE6 : Ext V w6 := by rw [hw6]; exact (hE4.trans hE5).alloc _
        have hv6 : w6.ownsRow w.heap.size 3 1 v5 5 (iv [(i : Int), (j : Int), ex, ey, (sideI zs i j)]) := by rw [hw6]; exact own_ext (Ext.alloc (Ext.refl _) _) hv5
        rw [← hw6] at hcl ⊢
        clear hw6 hv5 hE5
        have HOT6 := Lib.hid (HOT3.out.ext hE6)
        have HF6 := Lib.hid ((HOT3.out.ext hE4).fresh (Nat.le_refl w4.heap.size))
        obtain ⟨i0, hz1, hz2, hz3, hz4⟩ := info_parts ints_info2
        refine wpAnyT_step (i := 16) rfl (by kernel_rfl) (fun K' hK => ?_)
        refine step_app_any _ rfl _ _ 24 rfl w.heap.size 56 i0 _ 1 24 Tryz.underlying24 hz1 hz2 hz3 hz4 rfl (by decide) (.slice sa ts.length sc) ts.length (ts.map (·.1)) (by rfl) HOT6.out.1 (some ⟨w5.heap.size, 0, none⟩) 1 1 [v5] (by rfl) (one_val hcl) (by simpa using hone5) (by unfold maxLen; omega) (by omega) (Nat.le_trans hzw hE6.size) ?_
        intro a9 c9 w9 hown9 hg9 hl9
        have HOT9 := Lib.hid (HOT6.out.push (x := [(i : Int), (j : Int), ex, ey, (sideI zs i j)]) hv6 hq5 HF6.out.1 HF6.out.2 hg9 hown9 (hl9.imp id fun e => ⟨_, e, Nat.le_refl _⟩))
        have hS9 : S w9 := by rw [hSd]; exact ⟨grown_keep hg9 (hE6.keep k0) (fun e => HFK.out e.symm), grown_keep hg9 (hE6.keep k1) (fun e => HFK.out e.symm), grown_keep hg9 (hE6.keep u0) (fun e => HFU.out e.symm), grown_keep hg9 (hE6.keep u1) (fun e => HFU.out e.symm)⟩
        have HE9 := Lib.hid (Ext.grown (HEV.out.trans hE6) hg9 (fun k hk => (HOT6.out.1.lt k hk).1))
        refine hK.out _ _ (.inr hS9) ?_
        clear hK K' hown9 hg9 hl9 hcl hv6
        refine wpAnyT_step (i := 17) rfl (by kernel_rfl) (fun K' hK => ?_)
        go_simp
        refine hK.out _ _ (.inl rfl) ?_
        clear hK K'
        refine wpAnyT_done (by kernel_rfl) ?_ _
        clear hS0 hEk hSd hS9 k0 k1 u0 u1 hE4 hE6 HOT3 HFK HFU hz1 hz2 hz3 hz4
        go_wp2
        go_roundw
        case rel => exact ⟨k + 1, ts ++ [(v5, [(i : Int), (j : Int), ex, ey, sideI zs i j])], by omega, by go_num, HOT9.out, by rw [List.map_append, HTS.out, HV2.out]; rfl, by simp; omega, HE9.out⟩
        case measure => simp [intOf]; omega
      · have HV := Lib.hid (HTK.out.trans (by rw [HFI.out, if_neg (by simpa using hmS), List.append_nil]))
        have hd : decide ((m : Int) ∈ S) = false := decide_eq_false hmS
        rw [hd]
        clear HTK HFI hmS hd
        go_wp2
        go_roundw
        case rel => exact ⟨k + 1, ts, by omega, by go_num, HOT2.out, by rw [HV.out]; exact HTS.out, by omega, HE2.out⟩
        case measure => simp [intOf]; omega
    · obtain rfl : k = qs.length := by omega
      have HTS := Lib.hid (show ts.map (·.2) = ((onceL zs).filter f).map (endR zs x) by rw [hts, List.take_of_length_le (by rw [← HQS.out, List.length_map]; exact Nat.le_refl _)])
      have HOT := Lib.hid hot
      have HE := Lib.hid hE
      clear hts hot hE
      go_wp2
      go_ret
      exact ⟨_, ts, rfl, HOT.out, HTS.out, HE.out⟩
end Go.Proofs.YtngbdopgdcjdeaaGreat
