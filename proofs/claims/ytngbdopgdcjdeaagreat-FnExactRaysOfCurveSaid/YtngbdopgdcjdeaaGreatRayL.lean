/-
  RaysOfCurve: the program's side, the law's walk.
-/
import Derived.Test.YtngbdopgdcjdeaaGreatRayC
import Derived.Test.YtngbdopgdcjdeaaGreatDir
import Derived.Test.YtngbdopgdcjdeaaGreatSubE
import Derived.BigQuiet
namespace Go.Proofs.YtngbdopgdcjdeaaGreat
open Go.RowKit

theorem cellsAt1 (B g : Nat) (a ax : Option Addr) (n c cx : Nat) (zs : List (Int × Int × Int)) (i j : Int) (hi : B64 i) (hj : B64 j) {p : Int} (hp : sidesAt zs [i, j] = [p]) (w : World) (h : SubD w B g a n c zs) (hx : Reads w ax 1 2 (iv [i, j])) :
    Calls Tryz.prog 45 #[.pointer (some ⟨g, 0, none⟩), .slice ax 2 cx] w fun r w' => ∃ a1 c1, r = .returned (.slice a1 1 c1) ∧ Reads w' a1 1 1 (iv [p]) ∧ Ext w w' := by
  have h := cellsAt_any B g a ax n c cx zs i j hi hj w h hx
  rw [hp] at h
  exact h.mono fun _ _ ⟨a1, c1, h1, h2, h3⟩ => ⟨a1, c1, h1, h2, h3⟩
set_option maxHeartbeats 8000000 in
set_option maxRecDepth 100000 in
theorem impl_RaysOfCurve_any (a : Option Addr) (n c : Nat) (zs : List (Int × Int × Int)) (hn : n ≤ 1048576) (w : World) (h : Reads w a 3 n (tv zs)) :
    Calls Tryz.prog 13 #[.slice a n c] w (OwnsLB w.heap.size (gR (planeB zs) (raysL zs)) (planeB zs) w) := by
  cases hp : planeB zs
  · simp only [gR, Bool.false_eq_true, if_false]
    go_enter Tryz.func13, Tryz.ntmps13
    go_wp2_with fail
    refine (subdivided_no _ _ _ zs hn hp _ h).mono ?_
    rintro e w1 ⟨rfl, hb1⟩
    go_wp2
    go_ret2
    exact ⟨_, [], rfl, ownL_nil _ _, rfl, hb1⟩
  · simp only [gR, if_true]
    have HZ := Lib.hid (pz_of hp)
    go_enter Tryz.func13, Tryz.ntmps13
    go_wp2_with fail
    refine (subdivided_yes _ _ _ zs hn hp _ h).mono ?_
    rintro e w1 ⟨g, rfl, hs, hb1⟩
    have HD := Lib.hid hs
    have HE := Lib.hid hb1
    have hz1 := hb1.size
    have hl := subD_len hs
    have hn12 : n ≤ 12 := by rw [← hl]; exact HZ.out.1
    have HLZ := Lib.hid hl
    clear hs hb1 h hl
    have HS1 := Lib.hid (show Ext w1 (w1.alloc (.cells #[] 56)) from Ext.alloc (Ext.refl w1) _)
    go_wp2_with fail
    refine (chosenEdges_any _ _ _ _ _ 1 zs HZ.out (w1.alloc (.cells #[] 56)) (HD.out.ext HS1.out)).mono ?_
    rintro e w2 ⟨s2, es, rfl, ho2, hes, hE2⟩
    have HRL := Lib.hid (show raysL zs = ((onceL zs).filter fun e => decide ((sidesAt zs e).length = 1)).map (rayR zs) from rfl)
    have HON := Lib.hid (fun y (hy : y ∈ (onceL zs).filter fun e => decide ((sidesAt zs e).length = 1)) => one_form HZ.out (List.mem_filter.1 hy).1 (by simpa using (List.mem_filter.1 hy).2))
    have hS : ((onceL zs).filter fun e => decide ((sidesAt zs e).length = 1)).length ≤ 48000 := Nat.le_trans (List.length_filter_le _ _) (onceL_len HZ.out)
    obtain ⟨S0, hSS⟩ : ∃ S, S = (onceL zs).filter fun e => decide ((sidesAt zs e).length = 1) := ⟨_, rfl⟩
    rw [← hSS] at HRL HON hS hes
    clear hSS
    have hel : es.length = S0.length := by rw [← List.length_map (f := (·.2)), hes]
    have hw2 : Ext w1 w2 := HS1.out.trans hE2
    have hzW : (w1.alloc (.cells #[] 56)).heap.size = w1.heap.size + 1 := by simp
    rw [hzW] at ho2
    have HO0 := Lib.hid ((ownL_empty w1 w1.heap.size (Nat.le_refl _)).ext hE2)
    have HES := Lib.hid hes
    have HW2 := Lib.hid hw2
    have HEL := Lib.hid hel
    have HO2 := Lib.hid ho2
    have hz2 := hw2.size
    obtain ⟨sa2, sc2, rfl⟩ := ho2.form
    rw [hel]
    clear ho2 hes hE2 hw2 hzW hel
    go_wp2
    go_loopw [6, 22] (fun s t wr => ∃ (k : Nat) (ts : List (Value × List Int)), k ≤ S0.length ∧ t = .int .i64 k ∧ OwnL wr w1.heap.size s ts ∧ w2.grownBy wr (some w1.heap.size) ∧ (∀ q, s.ownBlock = some q → w2.heap.size ≤ q ∨ q = w1.heap.size) ∧ ts.map (·.2) = (S0.take k).map (rayR zs) ∧ ts.length ≤ k) (fun _ t _ => S0.length - (intOf t).toNat)
    case atStart => exact ⟨0, [], Nat.zero_le _, rfl, HO0.out, World.grownBy.refl _ _, fun q hq => .inr (by simpa [Value.ownBlock] using hq.symm), rfl, Nat.le_refl _⟩
    case round =>
      obtain ⟨k, ts, hk, rfl, hot, hgr, hrow, hts, htk⟩ := hrel
      have hE : Ext w1 wr := Ext.grown HW2.out hgr (fun q hq => by cases hq; exact Nat.le_refl _)
      by_cases hlk : k < S0.length
      · obtain ⟨i, j, p, hij, hj, hsd, hsp, hpN, _⟩ := HON.out (S0.getD k []) (by rw [show S0.getD k [] = S0[k] by simp [List.getD, hlk]]; exact List.getElem_mem _)
        rw [hsd] at hsp
        have HTK := Lib.hid ((map_take (f := rayR zs) hlk).trans (by rw [hsd, rayR_at hsp]))
        have hke : k < es.length := by rw [HEL.out]; exact hlk
        have he2 : es[k].2 = [(i : Int), (j : Int)] := by
          rw [← hsd, ← HES.out]
          simp [List.getD, hke]
        have hol : OwnL wr (w1.heap.size + 1) (.slice sa2 es.length sc2) es := HO2.out.kept hgr (fun q hq => by cases hq; omega)
        obtain ⟨gc, hgc, _, hgc2⟩ := own_head hol.1 (by omega)
        subst hgc
        have hck := (hol.1.cellAt k (by omega)).trans (show (es.map (·.1))[k]? = some es[k].1 by simp [hke])
        obtain ⟨_, hop, _⟩ := hol.2.1 es[k] (List.getElem_mem _)
        obtain ⟨_, hop2, _⟩ := HO2.out.2.1 es[k] (List.getElem_mem _)
        generalize es[k] = e0 at *
        obtain ⟨v, x0⟩ := e0
        simp only at he2 hop hop2 hck
        subst he2
        obtain ⟨ak, ck, rfl⟩ := own_form hop
        simp only [List.length_cons, List.length_nil, Nat.zero_add, Nat.reduceAdd] at hop hop2 hck
        obtain ⟨bk, rfl, hbk1, _⟩ := own_head hop (by omega)
        have hbk2 := (hop2.lt bk rfl).2
        have HRK := Lib.hid (own_reads hop)
        have HTS := Lib.hid hts
        have HOT := Lib.hid hot
        have HEr := Lib.hid hE
        have HGR := Lib.hid hgr
        have HROW := Lib.hid hrow
        have HSP := Lib.hid hsp
        have HPN := Lib.hid hpN
        have HDr := Lib.hid (HD.out.ext hE)
        have hkS : (k : Int) < (es.length : Int) := by omega
        have hkS2 : (k : Int) < (S0.length : Int) := by omega
        have hzr := hE.size
        have hgz := hgr.size
        have hbi : B64 (i : Int) := by have := HZ.out.1; unfold B64; omega
        have hbj : B64 (j : Int) := by have := HZ.out.1; unfold B64; omega
        have hin : i < n := by have := HLZ.out; omega
        have hjn : j < n := by have := HLZ.out; omega
        have HNE := Lib.hid (show pI zs i ≠ pI zs j from fun e => by have := HZ.out.2.2.inj (show i < zs.length by omega) hj e; omega)
        obtain ⟨x, hx⟩ : ∃ x, x = (cellsL zs).getD p [] := ⟨_, rfl⟩
        rw [← hx] at HTK
        have HXX := Lib.hid hx
        clear hx hop hop2 hts hot hE hgr hrow hsp hpN hsd hj hij hol
        go_wp2_with fail
        refine (cellsAt1 _ g a _ n c ck zs _ _ hbi hbj HSP.out wr HDr.out HRK.out).mono ?_
        rintro e w3 ⟨a3, c3, rfl, hr3, hE3⟩
        obtain ⟨ba, oa, rfl, hca⟩ := hr3.2 (by omega)
        have at0 : w3.cell? ⟨ba, oa, none⟩ = some (.int .i64 (p : Int)) := hca 0 _ rfl
        have HE3 := Lib.hid hE3
        have HRK3 := Lib.hid (Reads.ext hE3 HRK.out)
        have HD3 := Lib.hid (HDr.out.ext hE3)
        have hz3 := hE3.size
        clear hr3 hca hck HRK HDr hE3
        go_wp2_with fail
        refine (direction_any _ g a _ n c ck p zs HZ.out HPN.out i j hin hjn HNE.out w3 HD3.out HRK3.out).mono ?_
        rintro e w4 ⟨rfl, hE4⟩
        rw [← HXX.out]
        generalize eX zs x i j = ex at *
        generalize eY zs x i j = ey at *
        clear at0
        obtain ⟨V, hV⟩ : ∃ V, V = w4.alloc (.cells #[.int .i64 ex, .int .i64 ey] 70) := ⟨_, rfl⟩
        have hEV : Ext w3 V := by rw [hV]; exact hE4.alloc _
        have hz4 := hE4.size
        have u0 : V.cell? ⟨w4.heap.size, 0, none⟩ = some (.int .i64 ex) := by rw [hV]; simp
        have u1 : V.cell? ⟨w4.heap.size, 1, none⟩ = some (.int .i64 ey) := by rw [hV]; simp
        have hVr := HE3.out.trans hEV
        have hzVr := hVr.size
        have HOT3 := Lib.hid (HOT.out.ext hVr)
        have HD4 := Lib.hid (HD3.out.ext hEV)
        have HRK4 := Lib.hid (Reads.ext hEV HRK3.out)
        have HEV := Lib.hid (HEr.out.trans hVr)
        have HGV := Lib.hid (World.grownBy.andThen HGR.out (Ext.grownBy hVr none) (fun j hj => by cases hj))
        have k0 : V.cell? ⟨bk, 0, none⟩ = some (.int .i64 (i : Int)) := by have := HRK4.out.cells 0 (.int .i64 (i : Int)) rfl; simpa using this
        have k1 : V.cell? ⟨bk, 0 + 1, none⟩ = some (.int .i64 (j : Int)) := by have := HRK4.out.cells 1 (.int .i64 (j : Int)) rfl; simpa using this
        have HFU := Lib.hid ((HOT.out.fresh (show wr.heap.size ≤ w4.heap.size by omega)).1)
        go_wp2
        rw [← hV]
        clear hV
        obtain ⟨sa, sc, rfl⟩ := HOT3.out.form
        have HFK := Lib.hid (show (Value.slice sa ts.length sc).ownBlock ≠ some bk from fun e => by
          rcases HROW.out bk e with h1 | h1 <;> omega)
        obtain ⟨us, hus⟩ : ∃ us, us = w4.heap.size := ⟨_, rfl⟩
        rw [← hus] at u0 u1 HFU ⊢
        have hul := lt_of_cell u0
        have hkl := lt_of_cell k0
        clear hus HRK3 HD3 HE3 hEV hVr hE4 HOT
        have hzw := HEV.out.size
        obtain ⟨S, hSd⟩ : ∃ S : World → Prop, S = fun w' => w'.cell? ⟨bk, 0, none⟩ = some (.int .i64 (i : Int)) ∧ w'.cell? ⟨bk, 0 + 1, none⟩ = some (.int .i64 (j : Int)) ∧ w'.cell? ⟨us, 0, none⟩ = some (.int .i64 ex) ∧ w'.cell? ⟨us, 1, none⟩ = some (.int .i64 ey) := ⟨_, rfl⟩
        have hS0 : S V.drew := by rw [hSd]; exact ⟨k0, k1, u0, u1⟩
        have hEk : ∀ w', Ext V w' → S w' := fun w' e => by rw [hSd]; exact ⟨e.keep k0, e.keep k1, e.keep u0, e.keep u1⟩
        refine wp_region_T S 18 (by kernel_rfl) ?_
        simp only [List.length_cons, List.length_nil, Nat.reduceAdd]
        refine wpAnyT_take (i := 0) (v := .slice sa ts.length sc) rfl (by kernel_rfl) (by kernel_rfl) (by kernel_rfl) (by kernel_rfl) (fun _ _ _ h => h) (.inl ⟨by rfl, fun _ _ => by
          simp [go_sem]⟩) hS0 ?_
        simp only [Act.put, List.setIfInBounds_toArray]
        refine wpAnyT_take (i := 1) (v := .slice (some ⟨bk, 0, none⟩) 2 ck) rfl (by kernel_rfl) (by kernel_rfl) (by kernel_rfl) (by kernel_rfl) (fun _ _ _ h => h) (.inl ⟨by rfl, fun _ _ => by
          simp [go_sem]⟩) hS0 ?_
        simp only [Act.put]
        refine wpAnyT_take (i := 2) (v := .pointer (some ⟨bk, 0, none⟩)) rfl (by kernel_rfl) (by kernel_rfl) (by kernel_rfl) (by kernel_rfl) (fun _ _ _ h => h) (.inl ⟨by rfl, fun _ _ => by
          simp [go_sem]⟩) hS0 ?_
        simp only [Act.put]
        refine wpAnyT_take (i := 3) (v := .int .i64 (i : Int)) rfl (by kernel_rfl) (by kernel_rfl) (by kernel_rfl) (by kernel_rfl) (fun _ _ _ h => h) (.inl ⟨by rfl, fun w' hw' => by
          rw [hSd] at hw'
          have t0 := hw'.1
          simp [go_sem, t0]⟩) hS0 ?_
        simp only [Act.put]
        refine wpAnyT_take (i := 4) (v := .slice (some ⟨bk, 0, none⟩) 2 ck) rfl (by kernel_rfl) (by kernel_rfl) (by kernel_rfl) (by kernel_rfl) (fun _ _ _ h => h) (.inl ⟨by rfl, fun _ _ => by
          simp [go_sem]⟩) hS0 ?_
        simp only [Act.put]
        refine wpAnyT_take (i := 5) (v := .pointer (some ⟨bk, 0 + 1, none⟩)) rfl (by kernel_rfl) (by kernel_rfl) (by kernel_rfl) (by kernel_rfl) (fun _ _ _ h => h) (.inl ⟨by rfl, fun _ _ => by
          simp [go_sem]⟩) hS0 ?_
        simp only [Act.put]
        refine wpAnyT_take (i := 6) (v := .int .i64 (j : Int)) rfl (by kernel_rfl) (by kernel_rfl) (by kernel_rfl) (by kernel_rfl) (fun _ _ _ h => h) (.inl ⟨by rfl, fun w' hw' => by
          rw [hSd] at hw'
          have t0 := hw'.2.1
          simp [go_sem, t0]⟩) hS0 ?_
        simp only [Act.put]
        refine wpAnyT_take (i := 7) (v := .int .i64 (p : Int)) rfl (by kernel_rfl) (by kernel_rfl) (by kernel_rfl) (by kernel_rfl) (fun _ _ _ h => h) (.inl ⟨by rfl, fun _ _ => by
          simp [go_sem]⟩) hS0 ?_
        simp only [Act.put]
        refine wpAnyT_take (i := 8) (v := .pointer (some ⟨us, 0, none⟩)) rfl (by kernel_rfl) (by kernel_rfl) (by kernel_rfl) (by kernel_rfl) (fun _ _ _ h => h) (.inl ⟨by rfl, fun _ _ => by
          simp [go_sem]⟩) hS0 ?_
        simp only [Act.put]
        refine wpAnyT_take (i := 9) (v := .int .i64 ex) rfl (by kernel_rfl) (by kernel_rfl) (by kernel_rfl) (by kernel_rfl) (fun _ _ _ h => h) (.inl ⟨by rfl, fun w' hw' => by
          rw [hSd] at hw'
          have t0 := hw'.2.2.1
          simp [go_sem, t0]⟩) hS0 ?_
        simp only [Act.put]
        refine wpAnyT_take (i := 10) (v := .pointer (some ⟨us, 1, none⟩)) rfl (by kernel_rfl) (by kernel_rfl) (by kernel_rfl) (by kernel_rfl) (fun _ _ _ h => h) (.inl ⟨by rfl, fun _ _ => by
          simp [go_sem]⟩) hS0 ?_
        simp only [Act.put]
        refine wpAnyT_take (i := 11) (v := .int .i64 ey) rfl (by kernel_rfl) (by kernel_rfl) (by kernel_rfl) (by kernel_rfl) (fun _ _ _ h => h) (.inl ⟨by rfl, fun w' hw' => by
          rw [hSd] at hw'
          have t0 := hw'.2.2.2
          simp [go_sem, t0]⟩) hS0 ?_
        simp only [Act.put]
        refine wpAnyT_take (i := 12) (v := .pointer (some ⟨g, 0, none⟩)) rfl (by kernel_rfl) (by kernel_rfl) (by kernel_rfl) (by kernel_rfl) (fun _ _ _ h => h) (.inl ⟨by rfl, fun _ _ => by
          simp [go_sem]⟩) hS0 ?_
        simp only [Act.put]
        refine wpAnyT_take (i := 13) (v := .slice (some ⟨bk, 0, none⟩) 2 ck) rfl (by kernel_rfl) (by kernel_rfl) (by kernel_rfl) (by kernel_rfl) (fun _ _ _ h => h) (.inl ⟨by rfl, fun _ _ => by
          simp [go_sem]⟩) hS0 ?_
        simp only [Act.put]
        refine wpAnyT_step (i := 14) rfl (by kernel_rfl) (fun K' hK => ?_)
        go_simp
        refine (length_any _ g a (some ⟨bk, 0, none⟩) n c ck zs HZ.out i j hin hjn V.drew (HD4.out.ext (Ext.drew (Ext.refl V))) (Reads.ext (Ext.drew (Ext.refl V)) HRK4.out)).mono ?_
        rintro e w4 ⟨rfl, hb4⟩
        have hE4 : Ext V w4 := Ext.trans (Ext.drew (Ext.refl _)) hb4
        refine hK.out _ _ (.inr (hEk _ hE4)) ?_
        clear hK K' hb4
        refine wpAnyT_step (i := 15) rfl (by kernel_rfl) (fun K' hK => ?_)
        go_simp
        refine hK.out _ _ (.inr (hEk _ (hE4.alloc _))) ?_
        clear hK K'
        have hv5 : (w4.alloc (.cells #[.int .i64 (i : Int), .int .i64 (j : Int), .int .i64 (p : Int), .int .i64 ex, .int .i64 ey, .int .i64 (sideI zs i j)] 3)).ownsRow w1.heap.size 3 1 (.slice (some ⟨w4.heap.size, 0, none⟩) 6 6) 6 (iv [(i : Int), (j : Int), (p : Int), ex, ey, (sideI zs i j)]) := own_lit w4 w1.heap.size [(i : Int), (j : Int), (p : Int), ex, ey, (sideI zs i j)] (Nat.le_trans hzw hE4.size) (by simp)
        obtain ⟨w5, hw5⟩ : ∃ w5, w5 = w4.alloc (.cells #[.int .i64 (i : Int), .int .i64 (j : Int), .int .i64 (p : Int), .int .i64 ex, .int .i64 ey, .int .i64 (sideI zs i j)] 3) := ⟨_, rfl⟩
        have hE5 : Ext w4 w5 := by rw [hw5]; exact Ext.alloc (Ext.refl _) _
        rw [← hw5] at hv5 ⊢
        clear hw5
        refine wpAnyT_step (i := 16) rfl (by kernel_rfl) (fun K' hK => ?_)
        go_simp
        refine hK.out _ _ (.inr (hEk _ ((hE4.trans hE5).alloc _))) ?_
        clear hK K'
        obtain ⟨v5, hv5e⟩ : ∃ v5, v5 = Value.slice (some ⟨w4.heap.size, 0, none⟩) 6 6 := ⟨_, rfl⟩
        have hq5 : v5.ownBlock = some w4.heap.size := by rw [hv5e]; rfl
        have hone5 : v5.oneCell' = true := by rw [hv5e]; rfl
        rw [← hv5e] at hv5 ⊢
        clear hv5e
        have hcl : (w5.alloc (.cells #[v5] 56)).cell? ⟨w5.heap.size, 0, none⟩ = some v5 := by simp
        obtain ⟨w6, hw6⟩ : ∃ w6, w6 = w5.alloc (.cells #[v5] 56) := ⟨_, rfl⟩
        have hE6 : Ext V w6 := by rw [hw6]; exact (hE4.trans hE5).alloc _
        have hv6 : w6.ownsRow w1.heap.size 3 1 v5 6 (iv [(i : Int), (j : Int), (p : Int), ex, ey, (sideI zs i j)]) := by rw [hw6]; exact own_ext (Ext.alloc (Ext.refl _) _) hv5
        rw [← hw6] at hcl ⊢
        clear hw6 hv5 hE5
        have HOT6 := Lib.hid (HOT3.out.ext hE6)
        have HF6 := Lib.hid ((HOT3.out.ext hE4).fresh (Nat.le_refl w4.heap.size))
        obtain ⟨i0, hz1, hz2, hz3, hz4⟩ := info_parts ints_info2
        refine wpAnyT_step (i := 17) rfl (by kernel_rfl) (fun K' hK => ?_)
        refine step_app_any _ rfl _ _ 24 rfl w1.heap.size 56 i0 _ 1 24 Tryz.underlying24 hz1 hz2 hz3 hz4 rfl (by decide) (.slice sa ts.length sc) ts.length (ts.map (·.1)) (by rfl) HOT6.out.1 (some ⟨w5.heap.size, 0, none⟩) 1 1 [v5] (by rfl) (one_val hcl) (by simpa using hone5) (by unfold maxLen; omega) (by omega) (Nat.le_trans hzw hE6.size) ?_
        intro a9 c9 w9 hown9 hg9 hl9
        have HOT9 := Lib.hid (HOT6.out.push (x := [(i : Int), (j : Int), (p : Int), ex, ey, (sideI zs i j)]) hv6 hq5 HF6.out.1 HF6.out.2 hg9 hown9 (hl9.imp id fun e => ⟨_, e, Nat.le_refl _⟩))
        have hS9 : S w9 := by rw [hSd]; exact ⟨grown_keep hg9 (hE6.keep k0) (fun e => HFK.out e.symm), grown_keep hg9 (hE6.keep k1) (fun e => HFK.out e.symm), grown_keep hg9 (hE6.keep u0) (fun e => HFU.out e.symm), grown_keep hg9 (hE6.keep u1) (fun e => HFU.out e.symm)⟩
        have HE9 := Lib.hid (Ext.grown (HEV.out.trans hE6) hg9 (fun k hk => (HOT6.out.1.lt k hk).1))
        have HG9 := Lib.hid (grown_trans (Ext.grownBy hE6 (Value.slice sa ts.length sc).ownBlock) hg9)
        have HL9 := Lib.hid hl9
        have hz6 := hE6.size
        refine hK.out _ _ (.inr hS9) ?_
        clear hK K' hown9 hg9 hl9 hcl hv6
        refine wpAnyT_step (i := 18) rfl (by kernel_rfl) (fun K' hK => ?_)
        go_simp
        refine hK.out _ _ (.inl rfl) ?_
        clear hK K'
        refine wpAnyT_done (by kernel_rfl) ?_ _
        clear hS0 hEk hSd hS9 k0 k1 u0 u1 hE4 hE6 HOT3 HFK HFU hz1 hz2 hz3 hz4
        have HGN := Lib.hid (World.grownBy.andThen HGV.out HG9.out (fun j hj => (HROW.out j hj).imp id fun e => by rw [e]))
        have HRN := Lib.hid (show ∀ q, (Value.slice a9 (ts.length + 1) c9).ownBlock = some q → w2.heap.size ≤ q ∨ q = w1.heap.size from fun q hq => by
          rcases HL9.out with h1 | h1
          · exact HROW.out q (h1 ▸ hq)
          · rw [h1] at hq; simp at hq; left; omega)
        go_wp2
        go_roundw
        case rel => exact ⟨k + 1, ts ++ [(v5, [(i : Int), (j : Int), (p : Int), ex, ey, sideI zs i j])], by omega, by go_num, HOT9.out, HGN.out, HRN.out, by rw [List.map_append, HTS.out, HTK.out]; rfl, by simp; omega⟩
        case measure => simp [intOf]; omega
      · obtain rfl : k = S0.length := by omega
        obtain ⟨sa, sc, rfl⟩ := hot.form
        have HTS := Lib.hid (show ts.map (·.2) = raysL zs by rw [hts, List.take_length, HRL.out])
        have HO := Lib.hid (hot.base hz1)
        have HEF := Lib.hid (HE.out.trans hE)
        clear hts hot hE hgr hrow
        go_wp2
        go_ret2
        exact ⟨.slice sa ts.length sc, ts, rfl, HO.out, HTS.out, HEF.out⟩
set_option maxHeartbeats 2000000 in
set_option maxRecDepth 100000 in
theorem law_RaysOfCurve (a0 : Option Addr) (n0 c0 : Nat) (zs : List (Int × Int × Int)) (w : World) (hr0 : IsTri w a0 n0 c0 zs) :
    Calls Tryz.prog 3 #[.slice a0 n0 c0] w fun r w' => r = .returned (.bool true) ∧ Ext w w' := by
  have h0 : Reads w a0 3 n0 (tv zs) := hr0.1
  have hc01 := hr0.2.1
  have hc02 := hr0.2.2.1
  unfold maxLen at hc02
  clear hr0
  have hl0 : zs.length = n0 := by have := h0.1; rw [tv_len] at this; omega
  by_cases hg0 : n0 ≤ 1048576
  rotate_left
  · go_enter Tryz.func3, Tryz.ntmps3
    go_wp2_with fail
    refine (szTermS_no _ _ _ _ (by omega) (by omega) (by omega) (by omega) _).mono ?_
    rintro e _ ⟨rfl, rfl⟩
    go_wp2
    go_ret
    exact ⟨rfl, (by repeat (first | exact Ext.refl _ | assumption | apply Ext.alloc | apply Ext.drew | apply Ext.drewN | (refine Ext.trans ?_ (by assumption)) | (refine Ext.setCell ?_ (by (try simp) <;> omega) _)))⟩
  obtain ⟨L, eL⟩ : ∃ L : List (List Int), L = (gR (planeB zs) (raysL zs)) := ⟨_, rfl⟩
  obtain ⟨ok, eok⟩ : ∃ ok : Bool, ok = (planeB zs) := ⟨_, rfl⟩
  have hlen : L.length ≤ 50000 := by rw [eL]; exact gR_len (fun h => Nat.le_trans (rays_len (pz_of h)) (by omega))
  have hlenk : ∀ y ∈ L, y.length ≤ 12 := by rw [eL]; exact gR_mem (fun h => rays_rows (pz_of h))
  have HLK := Lib.hid (fun k (hk : k < L.length) => show (L.getD k []).length ≤ 1048576 by
    have := hlenk (L.getD k []) (by rw [show L.getD k [] = L[k] by simp [List.getD, hk]]; exact List.getElem_mem _)
    omega)
  have HLM := Lib.hid hlenk
  have HS := Lib.hid (show ∀ (b0 : Nat) w, Reads w (some ⟨b0, 0, none⟩) 3 n0 (tv zs) → Calls Tryz.prog 11 #[.slice (some ⟨b0, 0, none⟩) n0 n0] w (RdLB L ok w) by rw [eL, eok]; intro b0 w h0; exact spec_RaysOfCurve_any _ _ _ zs  (by omega) _ h0)
  have HI := Lib.hid (show ∀ (b0 : Nat) w, Reads w (some ⟨b0, 0, none⟩) 3 n0 (tv zs) → Calls Tryz.prog 13 #[.slice (some ⟨b0, 0, none⟩) n0 n0] w (OwnsLB w.heap.size L ok w) by rw [eL, eok]; intro b0 w h0; exact impl_RaysOfCurve_any _ _ _ zs  (by omega) _ h0)
  clear eL eok hlenk
  go_enter Tryz.func3, Tryz.ntmps3
  go_wp2_with fail
  refine (szTermS_yes _ _ _ _ (by omega) (by omega) _).mono ?_
  rintro e _ ⟨rfl, rfl⟩
  -- the reference
  go_wp2_with fail
  refine (toTermS_any _ _ _ zs hg0 _ h0).mono ?_
  rintro e w1 ⟨g1, rfl, x1, hb1⟩
  go_wp2_with fail
  refine (HS.out _ _ (own_reads x1)).mono ?_
  rintro e w2 ⟨s2, rfl, hr2, hb2⟩
  have HR2 := Lib.hid hr2
  have HE2 := Lib.hid (hb1.trans hb2)
  have H02 := Lib.hid (h0.ext (hb1.trans hb2))
  clear x1 hb1 hb2 hr2 h0
  -- the program
  go_wp2_with fail
  refine (toTermS_any _ _ _ zs hg0 _ H02.out).mono ?_
  rintro e w3 ⟨g3, rfl, x3, hb3⟩
  have hz3 := hb3.size
  have X3 := Lib.hid x3
  go_wp2_with fail
  refine (HI.out _ _ (own_reads x3)).mono ?_
  rintro e w4 ⟨s4, ps, rfl, ho4, hps, hb4⟩
  have hz4 := hb4.size
  have HPS := Lib.hid hps
  have hpl : ps.length ≤ 50000 := by rw [← List.length_map (f := (·.2)), hps]; exact hlen
  have htot : totL ps ≤ 600000 := by
    have := totL_le (ps := ps) (m := 12) (fun p hp => HLM.out p.2 (by rw [← hps]; exact List.mem_map_of_mem hp))
    omega
  have hrd := ho4.rd
  rw [hps] at hrd
  have HO4 := Lib.hid ho4
  have HE4 := Lib.hid (hb3.trans hb4)
  have HX4 := Lib.hid (own_ext hb4 x3)
  clear x3 hb3 hb4 ho4 hps
  go_wp2_with fail
  refine (eqIntSS_same s4 s2 L (by omega) HLK.out w4 hrd (HR2.out.ext HE4.out)).mono ?_
  rintro e w5 ⟨rfl, hb5⟩
  have HE5 := Lib.hid (HE4.out.trans hb5)
  have HO5 := Lib.hid (HO4.out.ext hb5)
  have HX5 := Lib.hid (own_ext hb5 HX4.out)
  clear hb5 hrd
  go_wp2_with fail
  refine (toTermS_any _ _ _ zs hg0 _ (H02.out.ext HE5.out)).mono ?_
  rintro e w6 ⟨g6, rfl, x6, hb6⟩
  go_wp2_with fail
  refine (eqTermS_same _ _ _ _ _ zs (by omega) _ (own_reads (own_ext hb6 HX5.out)) (own_reads x6)).mono ?_
  rintro e w7 ⟨rfl, hb7⟩
  have HE7 := Lib.hid ((HE5.out.trans hb6).trans hb7)
  have HO7 := Lib.hid (HO5.out.ext (hb6.trans hb7))
  have HX7 := Lib.hid (own_ext hb7 (own_ext hb6 HX5.out))
  clear hb6 hb7 x6
  -- the arguments are marked
  go_wp2_with fail
  refine (markTermS_any _ _ _ _ zs _ (by omega) (by omega) (by omega) _ HX7.out).mono ?_
  rintro e w8 ⟨rfl, hm8, hgr8⟩
  have HE8 := Lib.hid (Ext.grown HE7.out hgr8 (fun k hk => (X3.out.lt k hk).1))
  have HO8 := Lib.hid (HO7.out.kept hgr8 (fun q hq => (X3.out.lt q hq).2))
  clear hm8 hgr8
  have hrd := HO8.out.rd
  rw [HPS.out] at hrd
  go_wp2_with fail
  refine (eqIntSS_same s4 s2 L (by omega) HLK.out w8 hrd (HR2.out.ext HE8.out)).mono ?_
  rintro e w9 ⟨rfl, hb9⟩
  have HE9 := Lib.hid (HE8.out.trans hb9)
  have HO9 := Lib.hid (HO8.out.ext hb9)
  clear hb9 hrd
  -- the result is marked
  go_wp2_with fail
  refine (markIntSS_any _ s4 ps 1 (by omega) (by omega) (by omega) (by omega) w2 (by omega) w9 HE9.out HO9.out).mono ?_
  rintro e w10 ⟨rfl, ho10, hE10⟩
  have HO10 := Lib.hid ho10
  have HE10 := Lib.hid hE10
  clear ho10 hE10
  go_wp2_with fail
  refine (heldIntSS_any _ s4 ps 1 (by omega) (by omega) (by omega) (by omega) w10 HO10.out).mono ?_
  rintro e _ ⟨rfl, rfl⟩
  go_wp2_with fail
  refine (toTermS_any _ _ _ zs hg0 _ (H02.out.ext HE10.out)).mono ?_
  rintro e w11 ⟨g11, rfl, x11, hb11⟩
  go_wp2_with fail
  refine (HI.out _ _ (own_reads x11)).mono ?_
  rintro e w12 ⟨s12, ts, rfl, ho12, hts, hb12⟩
  have hrd := ho12.rd
  rw [hts] at hrd
  have HE12 := Lib.hid ((HE10.out.trans hb11).trans hb12)
  have HO12 := Lib.hid (HO10.out.ext (hb11.trans hb12))
  clear x11 hb11 hb12 ho12 hts
  go_wp2_with fail
  refine (eqIntSS_same s12 s2 L (by omega) HLK.out w12 hrd (HR2.out.ext HE12.out)).mono ?_
  rintro e w13 ⟨rfl, hb13⟩
  have HE13 := Lib.hid (HE12.out.trans hb13)
  have HO13 := Lib.hid (HO12.out.ext hb13)
  clear hb13 hrd
  go_wp2_with fail
  refine (heldIntSS_any _ s4 ps 1 (by omega) (by omega) (by omega) (by omega) w13 HO13.out).mono ?_
  rintro e _ ⟨rfl, rfl⟩
  go_wp2
  go_ret
  exact ⟨rfl, HE2.out.trans HE13.out⟩

end Go.Proofs.YtngbdopgdcjdeaaGreat
