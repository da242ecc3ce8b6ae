/-
  ValueByRoots: the program's walk.
-/
import Derived.Test.YtjaaohgknakpnaaValW
namespace Go.Proofs.Ytjaaohgknakpnaa
open Go.RowKit

set_option maxHeartbeats 4000000 in
set_option maxRecDepth 100000 in
theorem impl_ValueByRoots_any (a : Option Addr) (n c : Nat) (zs : List Int) (x : Int) (hn : n ≤ 1073741824) (w : World) (h : Reads w a 1 n (iv zs)) :
    Calls Try.prog 33 #[.slice a n c, .int .i64 x] w fun r w' => r = .returned (.tuple #[.agg #[.int .i64 (gI (polyB zs && finB x) (valR zs x)), .int .i64 (gI (polyB zs && finB x) 1)], .bool (polyB zs && finB x)]) ∧ Ext w w' := by
  have hl : zs.length = n := by have := h.1; rw [iv_len] at this; omega
  have HR := (Has.new w #[.int .i64 0, .int .i64 0] 35)
  have Rc0 := Ext.keeps (HR 0 _ rfl)
  have Rc1 := Ext.keeps (HR 1 _ rfl)
  have Rf0 := Ext.thaws (w := (w.alloc (.cells #[.int .i64 0, .int .i64 0] 35))) (HR 0 _ rfl) (by simp)
  have Rf1 := Ext.thaws (w := (w.alloc (.cells #[.int .i64 0, .int .i64 0] 35))) (HR 1 _ rfl) (by simp)
  clear HR
  have hE : Ext (w.alloc (.cells #[.int .i64 0, .int .i64 0] 35)) (w.alloc (.cells #[.int .i64 0, .int .i64 0] 35)) := Ext.refl _
  have hEw : Ext w (w.alloc (.cells #[.int .i64 0, .int .i64 0] 35)) := (by repeat (first | exact Ext.refl _ | assumption | apply Ext.alloc | apply Ext.drew | apply Ext.drewN | (refine Ext.trans ?_ (by assumption)) | (refine Ext.setCell ?_ (by (try simp) <;> omega) _)))
  cases hz : polyB zs
  · go_enter Try.func33, Try.ntmps33
    go_wp2_with fail
    refine (isPoly_any _ _ _ zs hn _ (h.ext (by repeat (first | exact Ext.refl _ | assumption | apply Ext.alloc | apply Ext.drew | apply Ext.drewN | (refine Ext.trans ?_ (by assumption)) | (refine Ext.setCell ?_ (by (try simp) <;> omega) _))))).mono ?_
    rw [hz]
    rintro e _ ⟨rfl, rfl⟩
    go_wp2
    refine bodyPost_ret (v := (.tuple #[.agg #[.int .i64 0, .int .i64 0], .bool false])) (by simp [results, Try.results33, go_sem, hE, Rc0, Rc1]) rfl ⟨rfl, (by repeat (first | exact Ext.refl _ | assumption | apply Ext.alloc | apply Ext.drew | apply Ext.drewN | (refine Ext.trans ?_ (by assumption)) | (refine Ext.setCell ?_ (by (try simp) <;> omega) _)))⟩
  · cases hf : finB x
    · go_enter Try.func33, Try.ntmps33
      go_wp2_with fail
      refine (isPoly_any _ _ _ zs hn _ (h.ext (by repeat (first | exact Ext.refl _ | assumption | apply Ext.alloc | apply Ext.drew | apply Ext.drewN | (refine Ext.trans ?_ (by assumption)) | (refine Ext.setCell ?_ (by (try simp) <;> omega) _))))).mono ?_
      rw [hz]
      rintro e _ ⟨rfl, rfl⟩
      go_wp2_with fail
      refine (isFinite_any _ _).mono ?_
      rw [hf]
      rintro e _ ⟨rfl, rfl⟩
      go_wp2
      refine bodyPost_ret (v := (.tuple #[.agg #[.int .i64 0, .int .i64 0], .bool false])) (by simp [results, Try.results33, go_sem, hE, Rc0, Rc1]) rfl ⟨rfl, (by repeat (first | exact Ext.refl _ | assumption | apply Ext.alloc | apply Ext.drew | apply Ext.drewN | (refine Ext.trans ?_ (by assumption)) | (refine Ext.setCell ?_ (by (try simp) <;> omega) _)))⟩
    · subst hl
      have pz := polyB_pol hz
      have hx := finB_true.1 hf
      have hV : valR zs x = baseV zs x + partsI x (rts zs) (rts zs).length := rfl
      have hrt := fun k hk => rt_isRt pz.1 (by omega) (k := k) hk
      have hpb := parts_bd hrt hx
      have hL13 := rts_len zs
      obtain ⟨C, hC⟩ : ∃ C, C = (cornR zs zs.length).reverse := ⟨_, rfl⟩
      have hI : IsCorn zs C := by rw [hC]; exact isCorn zs
      have hpos : 1 ≤ C.length := by
        obtain ⟨t, ht⟩ := corn_head pz.1
        rw [hC, ht]; simp
      obtain ⟨j0, hj0⟩ := hI.get 0 (by omega)
      obtain ⟨m, hm⟩ := hI.get (C.length - 1) (by omega)
      have hj0m := hI.mem 0 j0 hj0
      have hmm := hI.mem (C.length - 1) m hm
      have hB : baseV zs x = cf zs m + (j0 : Int) * x := by
        unfold baseV
        rw [← hC, List.getD_eq_getElem?_getD, List.getD_eq_getElem?_getD, hj0, hm]; rfl
      have bm := num_bd (pz.1.num m hmm.1) hmm.2
      have hHm := cf_at hmm.1
      have hml := hmm.1
      have hj13 : j0 ≤ 13 := by have := hj0m.1; omega
      have hjx := mul_bd (A := 13) (D := 1000000) (a := (j0 : Int)) (d := x) (by omega) (by omega) hx.1 hx.2
      have HCon := Lib.hid (fun w h => corners_any a zs.length c zs (by omega) pz.1.num w h)
      have HRt := Lib.hid (fun w h => roots_any a zs.length c zs (by omega) pz.1 w h)
      rw [← hC] at HCon
      have hlen := hI.len
      obtain ⟨L, hLd⟩ : ∃ L, L = rts zs := ⟨_, rfl⟩
      rw [← hLd] at HRt hV hrt hpb hL13
      clear hLd hI hj0m hmm hC
      rw [hV, hB]
      clear hV hB
      generalize cf zs m = zm at *
      go_enter Try.func33, Try.ntmps33
      go_wp2_with fail
      refine (isPoly_any _ _ _ zs hn _ (h.ext (by repeat (first | exact Ext.refl _ | assumption | apply Ext.alloc | apply Ext.drew | apply Ext.drewN | (refine Ext.trans ?_ (by assumption)) | (refine Ext.setCell ?_ (by (try simp) <;> omega) _))))).mono ?_
      rw [hz]
      rintro e _ ⟨rfl, rfl⟩
      go_wp2_with fail
      refine (isFinite_any _ _).mono ?_
      rw [hf]
      rintro e _ ⟨rfl, rfl⟩
      go_wp2_with fail
      refine (HCon.out _ (h.ext (by repeat (first | exact Ext.refl _ | assumption | apply Ext.alloc | apply Ext.drew | apply Ext.drewN | (refine Ext.trans ?_ (by assumption)) | (refine Ext.setCell ?_ (by (try simp) <;> omega) _))))).mono ?_
      rintro e w1 ⟨ca, cc, rfl, hC1, hE1⟩
      obtain ⟨cb, rfl, _, _⟩ := own_head hC1 (by omega)
      have hcx : w1.cell? ⟨cb, 0, none⟩ = some (.int .i64 j0) := by have := hC1.cellAt 0 (by omega); rw [this]; simp [iv, hj0]
      have hcy : w1.cell? ⟨cb, C.length - 1, none⟩ = some (.int .i64 m) := by rw [hC1.cellAt (C.length - 1) (by omega)]; simp [iv, hm]
      have e1 : IntKind.i64.wrap ((C.length : Int) - 1) = ((C.length - 1 : Nat) : Int) := by rw [wrap_i64 (by omega) (by omega)]; omega
      have e2 : IntKind.i64.wrap ((j0 : Int) * x) = (j0 : Int) * x := wrap_i64 (by omega) (by omega)
      have e3 : IntKind.i64.wrap (zm + (j0 : Int) * x) = zm + (j0 : Int) * x := wrap_i64 (by omega) (by omega)
      have hck := h.ext (Ext.trans hEw hE1)
      obtain ⟨b, off, rfl, _⟩ := hck.2 (by omega)
      have Pc0 := Ext.keeps (hck.cells m _ hHm)
      have HRd := Lib.hid (fun w' (z : Ext w1 w') => hck.ext z)
      have Pc1 := Ext.keeps hcx
      have Pc2 := Ext.keeps hcy
      clear e1
      obtain ⟨cl, hcl⟩ : ∃ cl, C.length = cl + 1 := ⟨C.length - 1, by omega⟩
      rw [hcl, Nat.add_sub_cancel] at Pc2
      rw [hcl]
      have e1 : IntKind.i64.wrap (cl : Int) = cl := wrap_i64 (by omega) (by omega)
      have e4 : (0 : Int) < (cl : Int) + 1 := by omega
      have e5 : (cl : Int) < (cl : Int) + 1 := by omega
      have e6 : (0 : Int) ≤ (cl : Int) := by omega
      clear hck hcx hcy hm hj0 hHm h
      go_wp2
      go_region_held3 (fun w' => Ext w1 w') ((repeat (first | exact Ext.refl _ | assumption | apply Ext.alloc | apply Ext.drew | apply Ext.drewN | (refine Ext.trans ?_ (by assumption)) | (refine Ext.setCell ?_ (by (try simp) <;> omega) _)))) (first | (go_at_call 84; refine (whole_any _ _).mono ?_; rintro e w' ⟨rfl, hb⟩; have hbw : Ext w1 w' := Ext.trans (by repeat (first | exact Ext.refl _ | assumption | apply Ext.alloc | apply Ext.drew | apply Ext.drewN | (refine Ext.trans ?_ (by assumption)) | (refine Ext.setCell ?_ (by (try simp) <;> omega) _))) hb; have hsz2 := hb.size; simp at hsz2; (try have hbn : Ext (w1.alloc (.cells #[.int .i64 0, .int .i64 0] 35)) w' := Ext.trans (Ext.drew (Ext.refl _)) hb); (try have hk0 : w'.cell? ⟨w1.heap.size, 0, none⟩ = some (.int .i64 0) := (Ext.newCell (cs := #[.int .i64 0, .int .i64 0]) hbn (i := 0) (v := .int .i64 0) rfl).1); (try have hk1 : w'.cell? ⟨w1.heap.size, 1, none⟩ = some (.int .i64 0) := (Ext.newCell (cs := #[.int .i64 0, .int .i64 0]) hbn (i := 1) (v := .int .i64 0) rfl).1); (try have hf0 : w'.frozen? ⟨w1.heap.size, 0, none⟩ = false := (Ext.newCell (cs := #[.int .i64 0, .int .i64 0]) hbn (i := 0) (v := .int .i64 0) rfl).2); (try have hf1 : w'.frozen? ⟨w1.heap.size, 1, none⟩ = false := (Ext.newCell (cs := #[.int .i64 0, .int .i64 0]) hbn (i := 1) (v := .int .i64 0) rfl).2)))
      all_goals (
        first
        | (have hF : (((w'.setCell ⟨w1.heap.size, 0, none⟩ (.int .i64 (zm + (j0 : Int) * x))).setCell ⟨w1.heap.size, 1, none⟩ (.int .i64 1))).cell? ⟨w1.heap.size, 0, none⟩ = some (.int .i64 (zm + (j0 : Int) * x)) ∧ (((w'.setCell ⟨w1.heap.size, 0, none⟩ (.int .i64 (zm + (j0 : Int) * x))).setCell ⟨w1.heap.size, 1, none⟩ (.int .i64 1))).cell? ⟨w1.heap.size, 1, none⟩ = some (.int .i64 1) ∧ (((w'.setCell ⟨w1.heap.size, 0, none⟩ (.int .i64 (zm + (j0 : Int) * x))).setCell ⟨w1.heap.size, 1, none⟩ (.int .i64 1))).frozen? ⟨w1.heap.size, 0, none⟩ = false ∧ (((w'.setCell ⟨w1.heap.size, 0, none⟩ (.int .i64 (zm + (j0 : Int) * x))).setCell ⟨w1.heap.size, 1, none⟩ (.int .i64 1))).frozen? ⟨w1.heap.size, 1, none⟩ = false ∧ w1.heap.size ≤ w1.heap.size ∧ w1.heap.size < (((w'.setCell ⟨w1.heap.size, 0, none⟩ (.int .i64 (zm + (j0 : Int) * x))).setCell ⟨w1.heap.size, 1, none⟩ (.int .i64 1))).heap.size ∧ Ext w1 ((w'.setCell ⟨w1.heap.size, 0, none⟩ (.int .i64 (zm + (j0 : Int) * x))).setCell ⟨w1.heap.size, 1, none⟩ (.int .i64 1)) := by refine ⟨?_, ?_, ?_, ?_, ?_, ?_, ?_⟩ <;> first | (simp [go_sem, hk0, hk1, hf0, hf1]; done) | (simp; omega) | omega | exact (by repeat (first | exact Ext.refl _ | assumption | apply Ext.alloc | apply Ext.drew | apply Ext.drewN | (refine Ext.trans ?_ (by assumption)) | (refine Ext.setCell ?_ (by (try simp) <;> omega) _)))
           generalize ((w'.setCell ⟨w1.heap.size, 0, none⟩ (.int .i64 (zm + (j0 : Int) * x))).setCell ⟨w1.heap.size, 1, none⟩ (.int .i64 1)) = w3 at hF ⊢
           obtain ⟨bb, hbb⟩ : ∃ bb, bb = w1.heap.size := ⟨_, rfl⟩
           have hbge : w1.heap.size ≤ bb := by omega
           rw [← hbb] at hF ⊢
           clear hbb)
        | (have hF : ((w'.alloc (.cells #[.int .i64 (zm + (j0 : Int) * x), .int .i64 1] 35))).cell? ⟨w'.heap.size, 0, none⟩ = some (.int .i64 (zm + (j0 : Int) * x)) ∧ ((w'.alloc (.cells #[.int .i64 (zm + (j0 : Int) * x), .int .i64 1] 35))).cell? ⟨w'.heap.size, 1, none⟩ = some (.int .i64 1) ∧ ((w'.alloc (.cells #[.int .i64 (zm + (j0 : Int) * x), .int .i64 1] 35))).frozen? ⟨w'.heap.size, 0, none⟩ = false ∧ ((w'.alloc (.cells #[.int .i64 (zm + (j0 : Int) * x), .int .i64 1] 35))).frozen? ⟨w'.heap.size, 1, none⟩ = false ∧ w1.heap.size ≤ w'.heap.size ∧ w'.heap.size < ((w'.alloc (.cells #[.int .i64 (zm + (j0 : Int) * x), .int .i64 1] 35))).heap.size ∧ Ext w1 (w'.alloc (.cells #[.int .i64 (zm + (j0 : Int) * x), .int .i64 1] 35)) := by refine ⟨?_, ?_, ?_, ?_, ?_, ?_, ?_⟩ <;> first | (simp [go_sem]; done) | (simp; omega) | omega | exact (by repeat (first | exact Ext.refl _ | assumption | apply Ext.alloc | apply Ext.drew | apply Ext.drewN | (refine Ext.trans ?_ (by assumption)) | (refine Ext.setCell ?_ (by (try simp) <;> omega) _)))
           generalize (w'.alloc (.cells #[.int .i64 (zm + (j0 : Int) * x), .int .i64 1] 35)) = w3 at hF ⊢
           obtain ⟨bb, hbb⟩ : ∃ bb, bb = w'.heap.size := ⟨_, rfl⟩
           have hbge : w1.heap.size ≤ bb := by omega
           rw [← hbb] at hF ⊢
           clear hbb))
      all_goals (
        obtain ⟨f0, f1, f2, f3, _, hbl, hE3⟩ := hF
        try clear hk0 hk1 hf0 hf1 hbn
        clear hb hbw hsz2 Pc0 Pc1 Pc2 e1 e2 e3 e4 e5 e6
        have hbs : -14000000 ≤ zm + (j0 : Int) * x ∧ zm + (j0 : Int) * x ≤ 14000000 := by omega
        generalize hbsq : zm + (j0 : Int) * x = bs at *
        have HBS := Lib.hid hbsq
        clear hbsq
        go_wp2_with fail
        refine (HRt.out _ (HRd.out _ hE3)).mono ?_
        rintro e w4 ⟨ra, rc, rfl, hr, hE4⟩
        have g0 := hE4.keep f0
        have g1 := hE4.keep f1
        have g2 : w4.frozen? ⟨bb, 0, none⟩ = false := by rw [hE4.frozen _ _ hbl]; exact f2
        have g3 : w4.frozen? ⟨bb, 1, none⟩ = false := by rw [hE4.frozen _ _ hbl]; exact f3
        have HE4 := Lib.hid (Ext.trans (Ext.trans hEw hE1) (Ext.trans hE3 hE4))
        have HE40 := Lib.hid (Ext.trans hE1 (Ext.trans hE3 hE4))
        clear f0 f1 f2 f3 HRd HRt hE3 hE4
        go_wp2
        go_loopw [43] (fun t wr => ∃ k : Nat, k ≤ L.length ∧ t = .int .i64 k ∧ wr.cell? ⟨bb, 0, none⟩ = some (.int .i64 (bs + partsI x L k)) ∧ wr.cell? ⟨bb, 1, none⟩ = some (.int .i64 1) ∧ wr.frozen? ⟨bb, 0, none⟩ = false ∧ wr.frozen? ⟨bb, 1, none⟩ = false ∧ w4.grownBy wr (some bb)) (fun t _ => L.length - (intOf t).toNat)
        case atStart => exact ⟨0, Nat.zero_le _, rfl, by rw [g0]; simp [partsI], g1, g2, g3, World.grownBy.refl _ _⟩
        case round =>
          clear g0 g1 g2 g3
          obtain ⟨k, hk, rfl, g0, g1, g2, g3, hgr⟩ := hrel
          have HEr := Lib.hid (Ext.grown HE4.out hgr (fun q hq => by cases hq; have := (Ext.trans hEw hE1).size; omega))
          have HEr0 := Lib.hid (Ext.grown HE40.out hgr (fun q hq => by cases hq; have := hE1.size; omega))
          by_cases hlt : k < L.length
          · obtain ⟨b2, off2, rfl, hp0, hp1, hp2⟩ := (own_reads (own_apart hr hgr (fun q hq e => by have := (hr.lt q hq).1; cases e; omega))).tri hlt
            have hpk := hpb (k + 1) hlt
            have hpk0 := hpb k hk
            have HIR := Lib.hid (hrt k hlt)
            have HP := Lib.hid (show partsI x L (k + 1) = partsI x L k + partI x (tat L k) from rfl)
            obtain ⟨N, D, T, hNDT⟩ : ∃ N D T, tat L k = (N, D, T) := ⟨_, _, _, rfl⟩
            rw [hNDT] at hp0 hp1 hp2 HIR HP
            rw [HP.out] at hpk
            generalize partsI x L k = S at *
            clear hNDT
            have hT := HIR.out.times
            have hD := HIR.out.den
            have hN := HIR.out.num
            simp only at hT hD hN
            obtain ⟨Q, hQ⟩ : ∃ Q, Q = partI x (N, D, T) := ⟨_, rfl⟩
            rw [← hQ] at HP hpk
            have hQb := part_bd HIR.out hx
            rw [← hQ] at hQb
            have hok := HIR.out.ok
            simp only at hok
            have fW := fun (z : Int) (hz : -1000000000 ≤ z ∧ z ≤ 1000000000) => fracB_whole hz
            have HPQ : ∃ p1 q1 : Int, Hid (∀ w, Calls Try.prog 86 #[.agg #[.int .i64 N, .int .i64 D], .agg #[.int .i64 x, .int .i64 1]] w fun r w' => r = .returned (.agg #[.int .i64 p1, .int .i64 q1]) ∧ Ext w w') ∧ Hid (∀ w, Calls Try.prog 85 #[.agg #[.int .i64 T, .int .i64 1], .agg #[.int .i64 p1, .int .i64 q1]] w fun r w' => r = .returned (.tuple #[.agg #[.int .i64 Q, .int .i64 1], .bool true]) ∧ Ext w w') := by
              by_cases hlx : x * D < N
              · have hw := low_wholes (q := T * x) (n := T * x) (d := 1 * 1) (by omega) (by simp)
                have hQx : Q = T * x := by rw [hQ]; unfold partI; rw [if_pos hlx]
                refine ⟨x, 1, Lib.hid fun w => ?_, Lib.hid fun w => ?_⟩
                · have h1 := lesser_any N D x (by omega) (by omega) (by omega) w
                  rw [if_pos hlx] at h1
                  exact h1
                · exact MulFracs_any T 1 x 1 Q 1 (fW _ (by omega)) (fW _ (by omega)) (by rw [hQx]; exact hw.1) hw.2 (fW _ (by omega)) w
              · obtain ⟨q, hq, hq1, hq2⟩ := HIR.out.whole
                simp only at hq
                have hQx : Q = q := by
                  rw [hQ]; unfold partI; rw [if_neg hlx]
                  show T * N / D = q
                  rw [hq, Int.mul_ediv_cancel _ (by omega)]
                have hw := low_wholes (q := q) (n := T * N) (d := 1 * D) (by omega) (by rw [hq]; simp)
                refine ⟨N, D, Lib.hid fun w => ?_, Lib.hid fun w => ?_⟩
                · have h1 := lesser_any N D x (by omega) (by omega) (by omega) w
                  rw [if_neg hlx] at h1
                  exact h1
                · exact MulFracs_any T 1 N D Q 1 (fW _ (by omega)) hok (by rw [hQx]; exact hw.1) hw.2 (fW _ (by omega)) w
            obtain ⟨p1, q1, HL, HM⟩ := HPQ
            have HA := Lib.hid (fun w => AddFracs_any (bs + S) 1 Q 1 (bs + S + Q) 1 (fW _ (by omega)) (fW _ (by omega)) (low_wholes (q := bs + S + Q) (n := (bs + S) * 1 + Q * 1) (d := 1 * 1) (by omega) (by omega)).1 (low_wholes (q := bs + S + Q) (n := (bs + S) * 1 + Q * 1) (d := 1 * 1) (by omega) (by omega)).2 (fW _ (by omega)) w)
            have e7 : IntKind.i64.wrap ((k : Int) + 1) = (k : Int) + 1 := wrap_i64 (by omega) (by omega)
            clear hQ hok fW
            go_wp2
            obtain ⟨V1, hV1⟩ : ∃ V, V = wr.alloc (.cells #[.int .i64 N, .int .i64 D, .int .i64 T] 87) := ⟨_, rfl⟩
            have EV : Ext wr V1 := by rw [hV1]; exact (Ext.refl _).alloc _
            have X0 := Ext.keeps (show V1.cell? ⟨wr.heap.size, 0, none⟩ = some (.int .i64 N) by rw [hV1]; exact cell_at_new rfl rfl)
            have X1 := Ext.keeps (show V1.cell? ⟨wr.heap.size, 1, none⟩ = some (.int .i64 D) by rw [hV1]; exact cell_at_new rfl rfl)
            have X2 := Ext.keeps (show V1.cell? ⟨wr.heap.size, 2, none⟩ = some (.int .i64 T) by rw [hV1]; exact cell_at_new rfl rfl)
            have hbw4 : bb < wr.heap.size := World.block_lt_of_cell? wr ⟨bb, 0, none⟩ g0
            have G0 := Ext.keeps (EV.keep g0)
            have G1 := Ext.keeps (EV.keep g1)
            have G2 := Ext.thaws (EV.keep g0) (by rw [EV.frozen _ _ hbw4]; exact g2)
            have G3 := Ext.thaws (EV.keep g1) (by rw [EV.frozen _ _ hbw4]; exact g3)
            rw [← hV1]
            clear hV1 hp0 hp1 hp2 g0 g1 g2 g3
            go_region_held3 (fun w' => Ext V1 w') ((repeat (first | exact Ext.refl _ | assumption | apply Ext.alloc | apply Ext.drew | apply Ext.drewN | (refine Ext.trans ?_ (by assumption)) | (refine Ext.setCell ?_ (by (try simp) <;> omega) _)))) (first | (go_at_call 84; refine (whole_any T _).mono ?_; rintro e waT ⟨rfl, hT1⟩; have eT : Ext V1 waT := Ext.trans (by repeat (first | exact Ext.refl _ | assumption | apply Ext.alloc | apply Ext.drew | apply Ext.drewN | (refine Ext.trans ?_ (by assumption)) | (refine Ext.setCell ?_ (by (try simp) <;> omega) _))) hT1; have sT := Ext.size eT; (try have k0 := Ext.newBox (Ext.trans (Ext.drew (Ext.refl (V1.alloc (.cells #[.int .i64 0, .int .i64 0] 35)))) hT1))) | (go_at_call 84; refine (whole_any x _).mono ?_; rintro e waX ⟨rfl, hX1⟩; have eX : Ext V1 waX := Ext.trans (by repeat (first | exact Ext.refl _ | assumption | apply Ext.alloc | apply Ext.drew | apply Ext.drewN | (refine Ext.trans ?_ (by assumption)) | (refine Ext.setCell ?_ (by (try simp) <;> omega) _))) hX1; have sX := Ext.size eX; (try have k1 := Ext.newBox hX1); (try have k0x := Ext.rebase hX1 k0)) | (go_at_call 86; refine (HL.out _).mono ?_; rintro e waL ⟨rfl, hL1⟩; have eL : Ext V1 waL := Ext.trans (by repeat (first | exact Ext.refl _ | assumption | apply Ext.alloc | apply Ext.drew | apply Ext.drewN | (refine Ext.trans ?_ (by assumption)) | (refine Ext.setCell ?_ (by (try simp) <;> omega) _))) hL1; have sL := Ext.size eL; (try have k2 := Ext.newBox hL1); (try have k1l := Ext.rebase hL1 k1); (try have k0l := Ext.rebase hL1 k0x)) | (go_at_call 85; refine (HM.out _).mono ?_; rintro e wb ⟨rfl, hM1⟩; have eM : Ext V1 wb := Ext.trans (by repeat (first | exact Ext.refl _ | assumption | apply Ext.alloc | apply Ext.drew | apply Ext.drewN | (refine Ext.trans ?_ (by assumption)) | (refine Ext.setCell ?_ (by (try simp) <;> omega) _))) hM1; have sM := Ext.size eM; (try have jj3 := Ext.newBox hM1 _ (Ext.refl _)); (try have jj0 := Ext.rebase hM1 k0l _ (Ext.refl _)); (try have jj1 := Ext.rebase hM1 k1l _ (Ext.refl _)); (try have jj2 := Ext.rebase hM1 k2 _ (Ext.refl _))))
            all_goals (
              first
              | (have tA := jj0
                 have hF : (((wb.setCell ⟨V1.heap.size, 0, none⟩ (.int .i64 Q)).setCell ⟨V1.heap.size, 1, none⟩ (.int .i64 1))).cell? ⟨V1.heap.size, 0, none⟩ = some (.int .i64 Q) ∧ (((wb.setCell ⟨V1.heap.size, 0, none⟩ (.int .i64 Q)).setCell ⟨V1.heap.size, 1, none⟩ (.int .i64 1))).cell? ⟨V1.heap.size, 1, none⟩ = some (.int .i64 1) ∧ Ext V1 ((wb.setCell ⟨V1.heap.size, 0, none⟩ (.int .i64 Q)).setCell ⟨V1.heap.size, 1, none⟩ (.int .i64 1)) := by refine ⟨?_, ?_, ?_⟩ <;> first | (simp [go_sem, tA.1, tA.2.1]; done) | exact (by repeat (first | exact Ext.refl _ | assumption | apply Ext.alloc | apply Ext.drew | apply Ext.drewN | (refine Ext.trans ?_ (by assumption)) | (refine Ext.setCell ?_ (by (try simp) <;> omega) _)))
                 generalize ((wb.setCell ⟨V1.heap.size, 0, none⟩ (.int .i64 Q)).setCell ⟨V1.heap.size, 1, none⟩ (.int .i64 1)) = w6x at hF ⊢
                 generalize V1.heap.size = pb at hF ⊢)
              | (have tA := jj1
                 have hF : (((wb.setCell ⟨waT.heap.size, 0, none⟩ (.int .i64 Q)).setCell ⟨waT.heap.size, 1, none⟩ (.int .i64 1))).cell? ⟨waT.heap.size, 0, none⟩ = some (.int .i64 Q) ∧ (((wb.setCell ⟨waT.heap.size, 0, none⟩ (.int .i64 Q)).setCell ⟨waT.heap.size, 1, none⟩ (.int .i64 1))).cell? ⟨waT.heap.size, 1, none⟩ = some (.int .i64 1) ∧ Ext V1 ((wb.setCell ⟨waT.heap.size, 0, none⟩ (.int .i64 Q)).setCell ⟨waT.heap.size, 1, none⟩ (.int .i64 1)) := by refine ⟨?_, ?_, ?_⟩ <;> first | (simp [go_sem, tA.1, tA.2.1]; done) | exact (by repeat (first | exact Ext.refl _ | assumption | apply Ext.alloc | apply Ext.drew | apply Ext.drewN | (refine Ext.trans ?_ (by assumption)) | (refine Ext.setCell ?_ (by (try simp) <;> omega) _)))
                 generalize ((wb.setCell ⟨waT.heap.size, 0, none⟩ (.int .i64 Q)).setCell ⟨waT.heap.size, 1, none⟩ (.int .i64 1)) = w6x at hF ⊢
                 generalize waT.heap.size = pb at hF ⊢)
              | (have tA := jj2
                 have hF : (((wb.setCell ⟨waX.heap.size, 0, none⟩ (.int .i64 Q)).setCell ⟨waX.heap.size, 1, none⟩ (.int .i64 1))).cell? ⟨waX.heap.size, 0, none⟩ = some (.int .i64 Q) ∧ (((wb.setCell ⟨waX.heap.size, 0, none⟩ (.int .i64 Q)).setCell ⟨waX.heap.size, 1, none⟩ (.int .i64 1))).cell? ⟨waX.heap.size, 1, none⟩ = some (.int .i64 1) ∧ Ext V1 ((wb.setCell ⟨waX.heap.size, 0, none⟩ (.int .i64 Q)).setCell ⟨waX.heap.size, 1, none⟩ (.int .i64 1)) := by refine ⟨?_, ?_, ?_⟩ <;> first | (simp [go_sem, tA.1, tA.2.1]; done) | exact (by repeat (first | exact Ext.refl _ | assumption | apply Ext.alloc | apply Ext.drew | apply Ext.drewN | (refine Ext.trans ?_ (by assumption)) | (refine Ext.setCell ?_ (by (try simp) <;> omega) _)))
                 generalize ((wb.setCell ⟨waX.heap.size, 0, none⟩ (.int .i64 Q)).setCell ⟨waX.heap.size, 1, none⟩ (.int .i64 1)) = w6x at hF ⊢
                 generalize waX.heap.size = pb at hF ⊢)
              | (have tA := jj3
                 have hF : (((wb.setCell ⟨waL.heap.size, 0, none⟩ (.int .i64 Q)).setCell ⟨waL.heap.size, 1, none⟩ (.int .i64 1))).cell? ⟨waL.heap.size, 0, none⟩ = some (.int .i64 Q) ∧ (((wb.setCell ⟨waL.heap.size, 0, none⟩ (.int .i64 Q)).setCell ⟨waL.heap.size, 1, none⟩ (.int .i64 1))).cell? ⟨waL.heap.size, 1, none⟩ = some (.int .i64 1) ∧ Ext V1 ((wb.setCell ⟨waL.heap.size, 0, none⟩ (.int .i64 Q)).setCell ⟨waL.heap.size, 1, none⟩ (.int .i64 1)) := by refine ⟨?_, ?_, ?_⟩ <;> first | (simp [go_sem, tA.1, tA.2.1]; done) | exact (by repeat (first | exact Ext.refl _ | assumption | apply Ext.alloc | apply Ext.drew | apply Ext.drewN | (refine Ext.trans ?_ (by assumption)) | (refine Ext.setCell ?_ (by (try simp) <;> omega) _)))
                 generalize ((wb.setCell ⟨waL.heap.size, 0, none⟩ (.int .i64 Q)).setCell ⟨waL.heap.size, 1, none⟩ (.int .i64 1)) = w6x at hF ⊢
                 generalize waL.heap.size = pb at hF ⊢)
              | (have hF : ((wb.alloc (.cells #[.int .i64 Q, .int .i64 1] 35))).cell? ⟨wb.heap.size, 0, none⟩ = some (.int .i64 Q) ∧ ((wb.alloc (.cells #[.int .i64 Q, .int .i64 1] 35))).cell? ⟨wb.heap.size, 1, none⟩ = some (.int .i64 1) ∧ Ext V1 (wb.alloc (.cells #[.int .i64 Q, .int .i64 1] 35)) := by refine ⟨?_, ?_, ?_⟩ <;> first | (simp [go_sem]; done) | exact (by repeat (first | exact Ext.refl _ | assumption | apply Ext.alloc | apply Ext.drew | apply Ext.drewN | (refine Ext.trans ?_ (by assumption)) | (refine Ext.setCell ?_ (by (try simp) <;> omega) _)))
                 generalize (wb.alloc (.cells #[.int .i64 Q, .int .i64 1] 35)) = w6x at hF ⊢
                 generalize wb.heap.size = pb at hF ⊢))
            all_goals (
              obtain ⟨z0, z1, EV7⟩ := hF
              have q0 := G0 _ EV7
              have q1 := G1 _ EV7
              clear sT sX sL sM eT eX eL eM hL1 hX1 hT1 hM1
              go_wp2_with fail
              refine (HA.out _).mono ?_
              rintro e w7 ⟨rfl, hb7⟩
              have EV8 := EV7.trans hb7
              have m0 := G0 _ EV8
              have m1 := G1 _ EV8
              have m2 := G2 _ EV8
              have m3 := G3 _ EV8
              have HGR := Lib.hid (grown_set (i := 1) (grown_set (i := 0) (World.grownBy.trans hgr (Ext.grownBy (EV.trans EV8) (some bb))) (.int .i64 (bs + S + Q))) (.int .i64 1))
              go_wp2
              go_roundw
              case rel => exact ⟨k + 1, by omega, by go_num, by rw [HP.out, ← Int.add_assoc]; simp [go_sem, m0], by simp [go_sem, m1], by simp [m2], by simp [m3], HGR.out⟩
              case measure => simp [intOf]; omega)
          · obtain rfl : k = L.length := by omega
            have hEr := HEr.out
            have r0 := Rc0 _ HEr0.out
            have r1 := Rc1 _ HEr0.out
            have r2 := Rf0 _ HEr0.out
            have r3 := Rf1 _ HEr0.out
            generalize hvq : bs + partsI x L L.length = v at *
            have HVQ := Lib.hid hvq
            clear hvq
            go_wp2
            refine bodyPost_ret (v := (.tuple #[.agg #[.int .i64 v, .int .i64 1], .bool true])) (by simp [results, Try.results33, go_sem, r0, r1]) rfl ⟨by rw [← HVQ.out, ← HBS.out]; rfl, (by repeat (first | exact Ext.refl _ | assumption | apply Ext.alloc | apply Ext.drew | apply Ext.drewN | (refine Ext.trans ?_ (by assumption)) | (refine Ext.setCell ?_ (by (try simp) <;> omega) _)))⟩)
end Go.Proofs.Ytjaaohgknakpnaa
