/-
  ValueByRoots: both sides' walks.
-/
import Derived.Test.YtjaaohgknakpnaaVal
namespace Go.Proofs.Ytjaaohgknakpnaa
open Go.RowKit

def baseV (zs : List Int) (x : Int) : Int := cf zs ((cornR zs zs.length).reverse.getD ((cornR zs zs.length).reverse.length - 1) 0) + (cornR zs zs.length).reverse.getD 0 0 * x
def valR (zs : List Int) (x : Int) : Int := baseV zs x + partsI x (rts zs) (rts zs).length
theorem grown_set {w wr : World} {b i : Nat} (h : w.grownBy wr (some b)) (u : Value) : w.grownBy (wr.setCell ⟨b, i, none⟩ u) (some b) :=
  ⟨h.os, h.tape, h.output, by simpa using h.size, fun k hk hne => by rw [Go.Deep.blk_setCell_other wr ⟨b, i, none⟩ u k (fun e => hne (by simp [e]))]; exact h.block k hk hne⟩
theorem okM_whole {q n d : Int} (hd : 0 < d) (h : n = q * d) (hq : -1000000000 ≤ q ∧ q ≤ 1000000000) : okM n d = true ∧ lowN n d = q ∧ lowD n d = 1 := by
  have h1 := low_wholes hd h
  refine ⟨?_, h1⟩
  unfold okM
  rw [h1.1, h1.2, fracB_whole hq]
  simp; omega

theorem frMul_whole (a b c d q : Int) (ha : -1000000000 ≤ a ∧ a ≤ 1000000000) (hb : 1 ≤ b ∧ b ≤ 1000000000) (hc : -1000000000 ≤ c ∧ c ≤ 1000000000) (hd : 1 ≤ d ∧ d ≤ 1000000000) (hq : -1000000000 ≤ q ∧ q ≤ 1000000000) (hbd : 0 < b * d) (h : a * c = q * (b * d)) (w : World) :
    Calls Try.prog 81 #[.agg #[.int .i64 a, .int .i64 b], .agg #[.int .i64 c, .int .i64 d]] w fun r w' => r = .returned (.tuple #[.agg #[.int .i64 q, .int .i64 1], .bool true]) ∧ Ext w w' := by
  have h1 := okM_whole hbd h hq
  have h2 := frMul_any a b c d ha (by omega) hc (by omega) w
  rw [h1.1, h1.2.1, h1.2.2] at h2
  exact h2

theorem frAdd_whole (a c : Int) (ha : -1000000000 ≤ a ∧ a ≤ 1000000000) (hc : -1000000000 ≤ c ∧ c ≤ 1000000000) (hs : -1000000000 ≤ a + c ∧ a + c ≤ 1000000000) (w : World) :
    Calls Try.prog 82 #[.agg #[.int .i64 a, .int .i64 1], .agg #[.int .i64 c, .int .i64 1]] w fun r w' => r = .returned (.tuple #[.agg #[.int .i64 (a + c), .int .i64 1], .bool true]) ∧ Ext w w' := by
  have h1 := okM_whole (q := a + c) (n := a * 1 + c * 1) (d := 1 * 1) (by omega) (by omega) hs
  have h2 := frAdd_any a 1 c 1 ha (by omega) hc (by omega) w
  rw [h1.1, h1.2.1, h1.2.2] at h2
  exact h2

theorem Ext.newBox {w w' : World} {u v : Value} {t : TypeId} (h : Ext (w.alloc (.cells #[u, v] t)) w') : ∀ w'', Ext w' w'' → w''.cell? ⟨w.heap.size, 0, none⟩ = some u ∧ w''.cell? ⟨w.heap.size, 1, none⟩ = some v ∧ w''.frozen? ⟨w.heap.size, 0, none⟩ = false ∧ w''.frozen? ⟨w.heap.size, 1, none⟩ = false := fun _ k =>
  have h0 := Ext.newCell (Ext.trans h k) (i := 0) (v := u) rfl
  have h1 := Ext.newCell (Ext.trans h k) (i := 1) (v := v) rfl
  ⟨h0.1, h1.1, h0.2, h1.2⟩

set_option maxHeartbeats 4000000 in
set_option maxRecDepth 100000 in
theorem spec_ValueByRoots_any (a : Option Addr) (n c : Nat) (zs : List Int) (x : Int) (hn : n ≤ 1073741824) (w : World) (h : Reads w a 1 n (iv zs)) :
    Calls Try.prog 32 #[.slice a n c, .int .i64 x] w fun r w' => r = .returned (.tuple #[.agg #[.int .i64 (gI (polyB zs && finB x) (valR zs x)), .int .i64 (gI (polyB zs && finB x) 1)], .bool (polyB zs && finB x)]) ∧ Ext w w' := by
  have hl : zs.length = n := by have := h.1; rw [iv_len] at this; omega
  have HR := (Has.new w #[.int .i64 0, .int .i64 0] 35)
  have Rc0 := Ext.keeps (HR 0 _ rfl)
  have Rc1 := Ext.keeps (HR 1 _ rfl)
  have Rf0 := Ext.thaws (w := (w.alloc (.cells #[.int .i64 0, .int .i64 0] 35))) (HR 0 _ rfl) (by simp)
  have Rf1 := Ext.thaws (w := (w.alloc (.cells #[.int .i64 0, .int .i64 0] 35))) (HR 1 _ rfl) (by simp)
  clear HR
  have hE : Ext (w.alloc (.cells #[.int .i64 0, .int .i64 0] 35)) (w.alloc (.cells #[.int .i64 0, .int .i64 0] 35)) := Ext.refl _
  have hEw : Ext w (w.alloc (.cells #[.int .i64 0, .int .i64 0] 35)) := (by repeat (first | exact Ext.refl _ | assumption | apply Ext.alloc | apply Ext.drew | apply Ext.drewN | (refine Ext.trans ?_ (by assumption)) | (refine Ext.setCell ?_ (by (try simp) <;> omega) _)))
  cases hz : polyB zs
  · go_enter Try.func32, Try.ntmps32
    go_wp2_with fail
    refine (poGood_any _ _ _ zs hn _ (h.ext (by repeat (first | exact Ext.refl _ | assumption | apply Ext.alloc | apply Ext.drew | apply Ext.drewN | (refine Ext.trans ?_ (by assumption)) | (refine Ext.setCell ?_ (by (try simp) <;> omega) _))))).mono ?_
    rw [hz]
    rintro e _ ⟨rfl, rfl⟩
    go_wp2
    refine bodyPost_ret (v := (.tuple #[.agg #[.int .i64 0, .int .i64 0], .bool false])) (by simp [results, Try.results32, go_sem, hE, Rc0, Rc1]) rfl ⟨rfl, (by repeat (first | exact Ext.refl _ | assumption | apply Ext.alloc | apply Ext.drew | apply Ext.drewN | (refine Ext.trans ?_ (by assumption)) | (refine Ext.setCell ?_ (by (try simp) <;> omega) _)))⟩
  · cases hf : finB x
    · go_enter Try.func32, Try.ntmps32
      go_wp2_with fail
      refine (poGood_any _ _ _ zs hn _ (h.ext (by repeat (first | exact Ext.refl _ | assumption | apply Ext.alloc | apply Ext.drew | apply Ext.drewN | (refine Ext.trans ?_ (by assumption)) | (refine Ext.setCell ?_ (by (try simp) <;> omega) _))))).mono ?_
      rw [hz]
      rintro e _ ⟨rfl, rfl⟩
      go_wp2_with fail
      refine (poFinite_any _ _).mono ?_
      rw [hf]
      rintro e _ ⟨rfl, rfl⟩
      go_wp2
      refine bodyPost_ret (v := (.tuple #[.agg #[.int .i64 0, .int .i64 0], .bool false])) (by simp [results, Try.results32, go_sem, hE, Rc0, Rc1]) rfl ⟨rfl, (by repeat (first | exact Ext.refl _ | assumption | apply Ext.alloc | apply Ext.drew | apply Ext.drewN | (refine Ext.trans ?_ (by assumption)) | (refine Ext.setCell ?_ (by (try simp) <;> omega) _)))⟩
    · subst hl
      have pz := polyB_pol hz
      have hx := finB_true.1 hf
      have hV : valR zs x = baseV zs x + partsI x (rts zs) (rts zs).length := rfl
      have hrt := fun k hk => rt_isRt pz.1 (by omega) (k := k) hk
      have hpb := parts_bd hrt hx
      have hL13 := rts_len zs
      obtain ⟨C, hC⟩ : ∃ C, C = (cornR zs zs.length).reverse := ⟨_, rfl⟩
      have hI : IsCorn zs C := by rw [hC]; exact isCorn zs
      have hpos : 1 ≤ C.length := by
        obtain ⟨t, ht⟩ := corn_head pz.1
        rw [hC, ht]; simp
      obtain ⟨j0, hj0⟩ := hI.get 0 (by omega)
      obtain ⟨m, hm⟩ := hI.get (C.length - 1) (by omega)
      have hj0m := hI.mem 0 j0 hj0
      have hmm := hI.mem (C.length - 1) m hm
      have hB : baseV zs x = cf zs m + (j0 : Int) * x := by
        unfold baseV
        rw [← hC, List.getD_eq_getElem?_getD, List.getD_eq_getElem?_getD, hj0, hm]; rfl
      have bm := num_bd (pz.1.num m hmm.1) hmm.2
      have hHm := cf_at hmm.1
      have hml := hmm.1
      have hj13 : j0 ≤ 13 := by have := hj0m.1; omega
      have hjx := mul_bd (A := 13) (D := 1000000) (a := (j0 : Int)) (d := x) (by omega) (by omega) hx.1 hx.2
      have HCon := Lib.hid (fun w h => rtCorners_any a zs.length c zs (by omega) pz.1.num w h)
      have HRt := Lib.hid (fun w h => rtRoots_any a zs.length c zs (by omega) pz.1 w h)
      rw [← hC] at HCon
      have hlen := hI.len
      obtain ⟨L, hLd⟩ : ∃ L, L = rts zs := ⟨_, rfl⟩
      rw [← hLd] at HRt hV hrt hpb hL13
      clear hLd hI hj0m hmm hC
      rw [hV, hB]
      clear hV hB
      generalize cf zs m = zm at *
      go_enter Try.func32, Try.ntmps32
      go_wp2_with fail
      refine (poGood_any _ _ _ zs hn _ (h.ext (by repeat (first | exact Ext.refl _ | assumption | apply Ext.alloc | apply Ext.drew | apply Ext.drewN | (refine Ext.trans ?_ (by assumption)) | (refine Ext.setCell ?_ (by (try simp) <;> omega) _))))).mono ?_
      rw [hz]
      rintro e _ ⟨rfl, rfl⟩
      go_wp2_with fail
      refine (poFinite_any _ _).mono ?_
      rw [hf]
      rintro e _ ⟨rfl, rfl⟩
      go_wp2_with fail
      refine (HCon.out _ (h.ext (by repeat (first | exact Ext.refl _ | assumption | apply Ext.alloc | apply Ext.drew | apply Ext.drewN | (refine Ext.trans ?_ (by assumption)) | (refine Ext.setCell ?_ (by (try simp) <;> omega) _))))).mono ?_
      rintro e w1 ⟨ca, cc, rfl, hC1, hE1⟩
      obtain ⟨cb, rfl, _, _⟩ := own_head hC1 (by omega)
      have hcx : w1.cell? ⟨cb, 0, none⟩ = some (.int .i64 j0) := by have := hC1.cellAt 0 (by omega); rw [this]; simp [iv, hj0]
      have hcy : w1.cell? ⟨cb, C.length - 1, none⟩ = some (.int .i64 m) := by rw [hC1.cellAt (C.length - 1) (by omega)]; simp [iv, hm]
      have e1 : IntKind.i64.wrap ((C.length : Int) - 1) = ((C.length - 1 : Nat) : Int) := by rw [wrap_i64 (by omega) (by omega)]; omega
      have e2 : IntKind.i64.wrap ((j0 : Int) * x) = (j0 : Int) * x := wrap_i64 (by omega) (by omega)
      have e3 : IntKind.i64.wrap (zm + (j0 : Int) * x) = zm + (j0 : Int) * x := wrap_i64 (by omega) (by omega)
      have hck := h.ext (Ext.trans hEw hE1)
      obtain ⟨b, off, rfl, _⟩ := hck.2 (by omega)
      have Pc0 := Ext.keeps (hck.cells m _ hHm)
      have HRd := Lib.hid (fun w' (z : Ext w1 w') => hck.ext z)
      have Pc1 := Ext.keeps hcx
      have Pc2 := Ext.keeps hcy
      clear e1
      obtain ⟨cl, hcl⟩ : ∃ cl, C.length = cl + 1 := ⟨C.length - 1, by omega⟩
      rw [hcl, Nat.add_sub_cancel] at Pc2
      rw [hcl]
      have e1 : IntKind.i64.wrap (cl : Int) = cl := wrap_i64 (by omega) (by omega)
      have e4 : (0 : Int) < (cl : Int) + 1 := by omega
      have e5 : (cl : Int) < (cl : Int) + 1 := by omega
      have e6 : (0 : Int) ≤ (cl : Int) := by omega
      clear hck hcx hcy hm hj0 hHm h
      go_wp2
      go_region_held3 (fun w' => Ext w1 w') ((repeat (first | exact Ext.refl _ | assumption | apply Ext.alloc | apply Ext.drew | apply Ext.drewN | (refine Ext.trans ?_ (by assumption)) | (refine Ext.setCell ?_ (by (try simp) <;> omega) _)))) (first | (go_at_call 79; refine (frInt_any _ _).mono ?_; rintro e w' ⟨rfl, hb⟩; have hbw : Ext w1 w' := Ext.trans (by repeat (first | exact Ext.refl _ | assumption | apply Ext.alloc | apply Ext.drew | apply Ext.drewN | (refine Ext.trans ?_ (by assumption)) | (refine Ext.setCell ?_ (by (try simp) <;> omega) _))) hb; have hsz2 := hb.size; simp at hsz2; (try have hbn : Ext (w1.alloc (.cells #[.int .i64 0, .int .i64 0] 35)) w' := Ext.trans (Ext.drew (Ext.refl _)) hb); (try have hk0 : w'.cell? ⟨w1.heap.size, 0, none⟩ = some (.int .i64 0) := (Ext.newCell (cs := #[.int .i64 0, .int .i64 0]) hbn (i := 0) (v := .int .i64 0) rfl).1); (try have hk1 : w'.cell? ⟨w1.heap.size, 1, none⟩ = some (.int .i64 0) := (Ext.newCell (cs := #[.int .i64 0, .int .i64 0]) hbn (i := 1) (v := .int .i64 0) rfl).1); (try have hf0 : w'.frozen? ⟨w1.heap.size, 0, none⟩ = false := (Ext.newCell (cs := #[.int .i64 0, .int .i64 0]) hbn (i := 0) (v := .int .i64 0) rfl).2); (try have hf1 : w'.frozen? ⟨w1.heap.size, 1, none⟩ = false := (Ext.newCell (cs := #[.int .i64 0, .int .i64 0]) hbn (i := 1) (v := .int .i64 0) rfl).2)))
      all_goals (
        first
        | (have hF : (((w'.setCell ⟨w1.heap.size, 0, none⟩ (.int .i64 (zm + (j0 : Int) * x))).setCell ⟨w1.heap.size, 1, none⟩ (.int .i64 1))).cell? ⟨w1.heap.size, 0, none⟩ = some (.int .i64 (zm + (j0 : Int) * x)) ∧ (((w'.setCell ⟨w1.heap.size, 0, none⟩ (.int .i64 (zm + (j0 : Int) * x))).setCell ⟨w1.heap.size, 1, none⟩ (.int .i64 1))).cell? ⟨w1.heap.size, 1, none⟩ = some (.int .i64 1) ∧ (((w'.setCell ⟨w1.heap.size, 0, none⟩ (.int .i64 (zm + (j0 : Int) * x))).setCell ⟨w1.heap.size, 1, none⟩ (.int .i64 1))).frozen? ⟨w1.heap.size, 0, none⟩ = false ∧ (((w'.setCell ⟨w1.heap.size, 0, none⟩ (.int .i64 (zm + (j0 : Int) * x))).setCell ⟨w1.heap.size, 1, none⟩ (.int .i64 1))).frozen? ⟨w1.heap.size, 1, none⟩ = false ∧ w1.heap.size ≤ w1.heap.size ∧ w1.heap.size < (((w'.setCell ⟨w1.heap.size, 0, none⟩ (.int .i64 (zm + (j0 : Int) * x))).setCell ⟨w1.heap.size, 1, none⟩ (.int .i64 1))).heap.size ∧ Ext w1 ((w'.setCell ⟨w1.heap.size, 0, none⟩ (.int .i64 (zm + (j0 : Int) * x))).setCell ⟨w1.heap.size, 1, none⟩ (.int .i64 1)) := by refine ⟨?_, ?_, ?_, ?_, ?_, ?_, ?_⟩ <;> first | (simp [go_sem, hk0, hk1, hf0, hf1]; done) | (simp; omega) | omega | exact (by repeat (first | exact Ext.refl _ | assumption | apply Ext.alloc | apply Ext.drew | apply Ext.drewN | (refine Ext.trans ?_ (by assumption)) | (refine Ext.setCell ?_ (by (try simp) <;> omega) _)))
           generalize ((w'.setCell ⟨w1.heap.size, 0, none⟩ (.int .i64 (zm + (j0 : Int) * x))).setCell ⟨w1.heap.size, 1, none⟩ (.int .i64 1)) = w3 at hF ⊢
           obtain ⟨bb, hbb⟩ : ∃ bb, bb = w1.heap.size := ⟨_, rfl⟩
           have hbge : w1.heap.size ≤ bb := by omega
           rw [← hbb] at hF ⊢
           clear hbb)
        | (have hF : ((w'.alloc (.cells #[.int .i64 (zm + (j0 : Int) * x), .int .i64 1] 35))).cell? ⟨w'.heap.size, 0, none⟩ = some (.int .i64 (zm + (j0 : Int) * x)) ∧ ((w'.alloc (.cells #[.int .i64 (zm + (j0 : Int) * x), .int .i64 1] 35))).cell? ⟨w'.heap.size, 1, none⟩ = some (.int .i64 1) ∧ ((w'.alloc (.cells #[.int .i64 (zm + (j0 : Int) * x), .int .i64 1] 35))).frozen? ⟨w'.heap.size, 0, none⟩ = false ∧ ((w'.alloc (.cells #[.int .i64 (zm + (j0 : Int) * x), .int .i64 1] 35))).frozen? ⟨w'.heap.size, 1, none⟩ = false ∧ w1.heap.size ≤ w'.heap.size ∧ w'.heap.size < ((w'.alloc (.cells #[.int .i64 (zm + (j0 : Int) * x), .int .i64 1] 35))).heap.size ∧ Ext w1 (w'.alloc (.cells #[.int .i64 (zm + (j0 : Int) * x), .int .i64 1] 35)) := by refine ⟨?_, ?_, ?_, ?_, ?_, ?_, ?_⟩ <;> first | (simp [go_sem]; done) | (simp; omega) | omega | exact (by repeat (first | exact Ext.refl _ | assumption | apply Ext.alloc | apply Ext.drew | apply Ext.drewN | (refine Ext.trans ?_ (by assumption)) | (refine Ext.setCell ?_ (by (try simp) <;> omega) _)))
           generalize (w'.alloc (.cells #[.int .i64 (zm + (j0 : Int) * x), .int .i64 1] 35)) = w3 at hF ⊢
           obtain ⟨bb, hbb⟩ : ∃ bb, bb = w'.heap.size := ⟨_, rfl⟩
           have hbge : w1.heap.size ≤ bb := by omega
           rw [← hbb] at hF ⊢
           clear hbb))
      all_goals (
        obtain ⟨f0, f1, f2, f3, _, hbl, hE3⟩ := hF
        try clear hk0 hk1 hf0 hf1 hbn
        clear hb hbw hsz2 Pc0 Pc1 Pc2 e1 e2 e3 e4 e5 e6
        have hbs : -14000000 ≤ zm + (j0 : Int) * x ∧ zm + (j0 : Int) * x ≤ 14000000 := by omega
        generalize hbsq : zm + (j0 : Int) * x = bs at *
        have HBS := Lib.hid hbsq
        clear hbsq
        go_wp2_with fail
        refine (HRt.out _ (HRd.out _ hE3)).mono ?_
        rintro e w4 ⟨ra, rc, rfl, hr, hE4⟩
        have g0 := hE4.keep f0
        have g1 := hE4.keep f1
        have g2 : w4.frozen? ⟨bb, 0, none⟩ = false := by rw [hE4.frozen _ _ hbl]; exact f2
        have g3 : w4.frozen? ⟨bb, 1, none⟩ = false := by rw [hE4.frozen _ _ hbl]; exact f3
        have HE4 := Lib.hid (Ext.trans (Ext.trans hEw hE1) (Ext.trans hE3 hE4))
        have HE40 := Lib.hid (Ext.trans hE1 (Ext.trans hE3 hE4))
        clear f0 f1 f2 f3 HRd HRt hE3 hE4
        go_wp2
        go_loopw [45] (fun t wr => ∃ k : Nat, k ≤ L.length ∧ t = .int .i64 k ∧ wr.cell? ⟨bb, 0, none⟩ = some (.int .i64 (bs + partsI x L k)) ∧ wr.cell? ⟨bb, 1, none⟩ = some (.int .i64 1) ∧ wr.frozen? ⟨bb, 0, none⟩ = false ∧ wr.frozen? ⟨bb, 1, none⟩ = false ∧ w4.grownBy wr (some bb)) (fun t _ => L.length - (intOf t).toNat)
        case atStart => exact ⟨0, Nat.zero_le _, rfl, by rw [g0]; simp [partsI], g1, g2, g3, World.grownBy.refl _ _⟩
        case round =>
          clear g0 g1 g2 g3
          obtain ⟨k, hk, rfl, g0, g1, g2, g3, hgr⟩ := hrel
          have HEr := Lib.hid (Ext.grown HE4.out hgr (fun q hq => by cases hq; have := (Ext.trans hEw hE1).size; omega))
          have HEr0 := Lib.hid (Ext.grown HE40.out hgr (fun q hq => by cases hq; have := hE1.size; omega))
          by_cases hlt : k < L.length
          · obtain ⟨b2, off2, rfl, hp0, hp1, hp2⟩ := (own_reads (own_apart hr hgr (fun q hq e => by have := (hr.lt q hq).1; cases e; omega))).tri hlt
            have hpk := hpb (k + 1) hlt
            have hpk0 := hpb k hk
            have HIR := Lib.hid (hrt k hlt)
            have HP := Lib.hid (show partsI x L (k + 1) = partsI x L k + partI x (tat L k) from rfl)
            obtain ⟨N, D, T, hNDT⟩ : ∃ N D T, tat L k = (N, D, T) := ⟨_, _, _, rfl⟩
            rw [hNDT] at hp0 hp1 hp2 HIR HP
            rw [HP.out] at hpk
            generalize partsI x L k = S at *
            clear hNDT
            have hT := HIR.out.times
            have hD := HIR.out.den
            have hN := HIR.out.num
            simp only at hT hD hN
            obtain ⟨Q, hQ⟩ : ∃ Q, Q = partI x (N, D, T) := ⟨_, rfl⟩
            rw [← hQ] at HP hpk
            have hQb := part_bd HIR.out hx
            rw [← hQ] at hQb
            have HQ := Lib.hid hQ
            clear hQ
            have HC := Lib.hid (fun w => frCmp_any x 1 N D (by omega) (by omega) (by omega) (by omega) w)
            obtain ⟨s0, hs0⟩ : ∃ s0, s0 = sgnI (x * D - N * 1) := ⟨_, rfl⟩
            rw [← hs0] at HC
            have HS0 := Lib.hid hs0
            clear hs0
            have HA := Lib.hid (fun w => frAdd_whole (bs + S) Q (by omega) (by omega) (by omega) w)
            have e7 : IntKind.i64.wrap ((k : Int) + 1) = (k : Int) + 1 := wrap_i64 (by omega) (by omega)
            have hS9 : bs + partsI x L k = bs + partsI x L k := rfl
            clear hS9
            go_wp2
            obtain ⟨V1, hV1⟩ : ∃ V, V = wr.alloc (.cells #[.int .i64 N, .int .i64 D, .int .i64 T] 87) := ⟨_, rfl⟩
            have hV1s : V1.heap.size = wr.heap.size + 1 := by rw [hV1]; simp
            have EV : Ext wr V1 := by rw [hV1]; exact (Ext.refl _).alloc _
            have X2 := Ext.keeps (show V1.cell? ⟨wr.heap.size, 2, none⟩ = some (.int .i64 T) by rw [hV1]; exact cell_at_new rfl rfl)
            have hbw4 : bb < wr.heap.size := World.block_lt_of_cell? wr ⟨bb, 0, none⟩ g0
            have G0 := Ext.keeps (EV.keep g0)
            have G1 := Ext.keeps (EV.keep g1)
            have G2 := Ext.thaws (EV.keep g0) (by rw [EV.frozen _ _ hbw4]; exact g2)
            have G3 := Ext.thaws (EV.keep g1) (by rw [EV.frozen _ _ hbw4]; exact g3)
            rw [← hV1]
            obtain ⟨W2, hW2⟩ : ∃ V, V = V1.alloc (.cells #[.int .i64 N, .int .i64 D] 35) := ⟨_, rfl⟩
            have EV2 : Ext V1 W2 := by rw [hW2]; exact (Ext.refl _).alloc _
            have Y0 := Ext.keeps (show W2.cell? ⟨wr.heap.size + 1, 0, none⟩ = some (.int .i64 N) by rw [hW2]; exact cell_at_new hV1s.symm rfl)
            have Y1 := Ext.keeps (show W2.cell? ⟨wr.heap.size + 1, 1, none⟩ = some (.int .i64 D) by rw [hW2]; exact cell_at_new hV1s.symm rfl)
            have Y2 := Ext.thaws (Y0 _ (Ext.refl _)) (by rw [hW2]; exact frozen_fresh hV1s.symm)
            have Y3 := Ext.thaws (Y1 _ (Ext.refl _)) (by rw [hW2]; exact frozen_fresh hV1s.symm)
            rw [← hW2]
            clear hW2 hV1 hp0 hp1 hp2 g0 g1 g2 g3
            have yq0 := fun s : Past W2 => Y0 s.w s.ext
            have yq1 := fun s : Past W2 => Y1 s.w s.ext
            refine wp_region_past W2 (Ext.refl _) (by kernel_rfl) (by kernel_rfl) ?_
            repeat (go_big_quiet_step ((first | (go_at_call 79; exact past_ext (frInt_any _ _)) | (go_at_call 80; exact past_ext (HC.out _)))))
            refine wpQuiet_nil ?_
            intro w5 hw'
            have E5 : Ext W2 w5 := by obtain ⟨s, hs⟩ := hw'; subst hs; exact s.ext
            clear hw'
            clear yq0 yq1
            have EV5 : Ext V1 w5 := EV2.trans E5
            clear HC
            by_cases hlx : x * D < N
            · have hQx : Q = T * x := by rw [HQ.out]; unfold partI; rw [if_pos hlx]
              have hneg : s0 = -1 := by rw [HS0.out]; unfold sgnI; repeat' split <;> omega
              clear HS0 HQ
              subst hneg
              have HM := Lib.hid (fun w => frMul_whole T 1 x 1 Q (by omega) (by omega) (by omega) (by omega) (by omega) (by omega) (by rw [hQx]; simp) w)
              clear hQx
              go_wp2_with fail
              refine (frInt_any _ _).mono ?_
              rintro e w6 ⟨rfl, hb6⟩
              have y0 := Y0 _ (E5.trans hb6)
              have y1 := Y1 _ (E5.trans hb6)
              have y2 := Y2 _ (E5.trans hb6)
              have y3 := Y3 _ (E5.trans hb6)
              go_wp2
              obtain ⟨W3, hW3⟩ : ∃ V, V = ((w6.setCell ⟨wr.heap.size + 1, 0, none⟩ (.int .i64 x)).setCell ⟨wr.heap.size + 1, 1, none⟩ (.int .i64 1)) := ⟨_, rfl⟩
              have EV3 : Ext V1 W3 := by rw [hW3]; exact Ext.setCell (Ext.setCell (EV5.trans hb6) (by simp; omega) _) (by simp; omega) _
              have Z0 := Ext.keeps (show W3.cell? ⟨wr.heap.size + 1, 0, none⟩ = some (.int .i64 x) by rw [hW3]; simp [go_sem, y0])
              have Z1 := Ext.keeps (show W3.cell? ⟨wr.heap.size + 1, 1, none⟩ = some (.int .i64 1) by rw [hW3]; simp [go_sem, y1])
              rw [← hW3]
              clear hW3 y0 y1 y2 y3 Y0 Y1 Y2 Y3 hb6 E5 EV5
              have X3 := Ext.rebase EV3 X2
              go_region_held3 (fun w' => Ext W3 w') ((repeat (first | exact Ext.refl _ | assumption | apply Ext.alloc | apply Ext.drew | apply Ext.drewN | (refine Ext.trans ?_ (by assumption)) | (refine Ext.setCell ?_ (by (try simp) <;> omega) _)))) (first | (go_at_call 79; refine (frInt_any _ _).mono ?_; rintro e wa ⟨rfl, hba⟩; have hba2 : Ext W3 wa := Ext.trans (by repeat (first | exact Ext.refl _ | assumption | apply Ext.alloc | apply Ext.drew | apply Ext.drewN | (refine Ext.trans ?_ (by assumption)) | (refine Ext.setCell ?_ (by (try simp) <;> omega) _))) hba; have hsa := Ext.size hba2; (try have hbn : Ext (W3.alloc (.cells #[.int .i64 0, .int .i64 0] 35)) wa := Ext.trans (Ext.drew (Ext.refl _)) hba); (try have kA0 := Ext.keeps (Ext.newCell (cs := #[.int .i64 0, .int .i64 0]) hbn (i := 0) (v := .int .i64 0) rfl).1); (try have kF0 := Ext.thaws (Ext.newCell (cs := #[.int .i64 0, .int .i64 0]) hbn (i := 0) (v := .int .i64 0) rfl).1 (Ext.newCell (cs := #[.int .i64 0, .int .i64 0]) hbn (i := 0) (v := .int .i64 0) rfl).2); (try have kA1 := Ext.keeps (Ext.newCell (cs := #[.int .i64 0, .int .i64 0]) hbn (i := 1) (v := .int .i64 0) rfl).1); (try have kF1 := Ext.thaws (Ext.newCell (cs := #[.int .i64 0, .int .i64 0]) hbn (i := 1) (v := .int .i64 0) rfl).1 (Ext.newCell (cs := #[.int .i64 0, .int .i64 0]) hbn (i := 1) (v := .int .i64 0) rfl).2)) | (go_at_call 81; refine (HM.out _).mono ?_; rintro e wb ⟨rfl, hbb⟩; have hbb2 : Ext W3 wb := Ext.trans (by repeat (first | exact Ext.refl _ | assumption | apply Ext.alloc | apply Ext.drew | apply Ext.drewN | (refine Ext.trans ?_ (by assumption)) | (refine Ext.setCell ?_ (by (try simp) <;> omega) _))) hbb; (try have hbm : Ext (wa.alloc (.cells #[.int .i64 0, .int .i64 0] 35)) wb := hbb); (try have jA0 := kA0 _ hbb); (try have jF0 := kF0 _ hbb); (try have jB0 := (Ext.newCell (cs := #[.int .i64 0, .int .i64 0]) hbm (i := 0) (v := .int .i64 0) rfl).1); (try have jG0 := (Ext.newCell (cs := #[.int .i64 0, .int .i64 0]) hbm (i := 0) (v := .int .i64 0) rfl).2); (try have jA1 := kA1 _ hbb); (try have jF1 := kF1 _ hbb); (try have jB1 := (Ext.newCell (cs := #[.int .i64 0, .int .i64 0]) hbm (i := 1) (v := .int .i64 0) rfl).1); (try have jG1 := (Ext.newCell (cs := #[.int .i64 0, .int .i64 0]) hbm (i := 1) (v := .int .i64 0) rfl).2)))
              all_goals (
                first
                | (have tA := jA0
                   have hF : (((wb.setCell ⟨W3.heap.size, 0, none⟩ (.int .i64 Q)).setCell ⟨W3.heap.size, 1, none⟩ (.int .i64 1))).cell? ⟨W3.heap.size, 0, none⟩ = some (.int .i64 Q) ∧ (((wb.setCell ⟨W3.heap.size, 0, none⟩ (.int .i64 Q)).setCell ⟨W3.heap.size, 1, none⟩ (.int .i64 1))).cell? ⟨W3.heap.size, 1, none⟩ = some (.int .i64 1) ∧ Ext W3 ((wb.setCell ⟨W3.heap.size, 0, none⟩ (.int .i64 Q)).setCell ⟨W3.heap.size, 1, none⟩ (.int .i64 1)) := by refine ⟨?_, ?_, ?_⟩ <;> first | (simp [go_sem, jA0, jA1]; done) | exact (by repeat (first | exact Ext.refl _ | assumption | apply Ext.alloc | apply Ext.drew | apply Ext.drewN | (refine Ext.trans ?_ (by assumption)) | (refine Ext.setCell ?_ (by (try simp) <;> omega) _)))
                   generalize ((wb.setCell ⟨W3.heap.size, 0, none⟩ (.int .i64 Q)).setCell ⟨W3.heap.size, 1, none⟩ (.int .i64 1)) = w6x at hF ⊢
                   generalize W3.heap.size = pb at hF ⊢)
                | (have tB := jB0
                   have hF : (((wb.setCell ⟨wa.heap.size, 0, none⟩ (.int .i64 Q)).setCell ⟨wa.heap.size, 1, none⟩ (.int .i64 1))).cell? ⟨wa.heap.size, 0, none⟩ = some (.int .i64 Q) ∧ (((wb.setCell ⟨wa.heap.size, 0, none⟩ (.int .i64 Q)).setCell ⟨wa.heap.size, 1, none⟩ (.int .i64 1))).cell? ⟨wa.heap.size, 1, none⟩ = some (.int .i64 1) ∧ Ext W3 ((wb.setCell ⟨wa.heap.size, 0, none⟩ (.int .i64 Q)).setCell ⟨wa.heap.size, 1, none⟩ (.int .i64 1)) := by refine ⟨?_, ?_, ?_⟩ <;> first | (simp [go_sem, jB0, jB1]; done) | exact (by repeat (first | exact Ext.refl _ | assumption | apply Ext.alloc | apply Ext.drew | apply Ext.drewN | (refine Ext.trans ?_ (by assumption)) | (refine Ext.setCell ?_ (by (try simp) <;> omega) _)))
                   generalize ((wb.setCell ⟨wa.heap.size, 0, none⟩ (.int .i64 Q)).setCell ⟨wa.heap.size, 1, none⟩ (.int .i64 1)) = w6x at hF ⊢
                   generalize wa.heap.size = pb at hF ⊢)
                | (have hF : ((wb.alloc (.cells #[.int .i64 Q, .int .i64 1] 35))).cell? ⟨wb.heap.size, 0, none⟩ = some (.int .i64 Q) ∧ ((wb.alloc (.cells #[.int .i64 Q, .int .i64 1] 35))).cell? ⟨wb.heap.size, 1, none⟩ = some (.int .i64 1) ∧ Ext W3 (wb.alloc (.cells #[.int .i64 Q, .int .i64 1] 35)) := by refine ⟨?_, ?_, ?_⟩ <;> first | (simp [go_sem]; done) | exact (by repeat (first | exact Ext.refl _ | assumption | apply Ext.alloc | apply Ext.drew | apply Ext.drewN | (refine Ext.trans ?_ (by assumption)) | (refine Ext.setCell ?_ (by (try simp) <;> omega) _)))
                   generalize (wb.alloc (.cells #[.int .i64 Q, .int .i64 1] 35)) = w6x at hF ⊢
                   generalize wb.heap.size = pb at hF ⊢))
              all_goals (
                obtain ⟨z0, z1, E35⟩ := hF
                clear hba hba2 hsa hbb2 X3
                try clear hbb
                have EV7 := EV3.trans E35
                have q0 := G0 _ EV7
                have q1 := G1 _ EV7
                go_wp2_with fail
                refine (HA.out _).mono ?_
                rintro e w7 ⟨rfl, hb7⟩
                have EV8 := EV7.trans hb7
                have m0 : (w7.alloc (.cells #[.int .i64 (bs + S + Q), .int .i64 1] 35)).cell? ⟨bb, 0, none⟩ = some (.int .i64 (bs + S)) := G0 _ (Ext.alloc EV8 _)
                have m1 : (w7.alloc (.cells #[.int .i64 (bs + S + Q), .int .i64 1] 35)).cell? ⟨bb, 1, none⟩ = some (.int .i64 1) := G1 _ (Ext.alloc EV8 _)
                have m2 : (w7.alloc (.cells #[.int .i64 (bs + S + Q), .int .i64 1] 35)).frozen? ⟨bb, 0, none⟩ = false := G2 _ (Ext.alloc EV8 _)
                have m3 : (w7.alloc (.cells #[.int .i64 (bs + S + Q), .int .i64 1] 35)).frozen? ⟨bb, 1, none⟩ = false := G3 _ (Ext.alloc EV8 _)
                have HGR := Lib.hid (grown_set (i := 1) (grown_set (i := 0) (World.grownBy.trans hgr (Ext.grownBy (EV.trans (Ext.alloc EV8 (.cells #[.int .i64 (bs + S + Q), .int .i64 1] 35))) (some bb))) (.int .i64 (bs + S + Q))) (.int .i64 1))
                go_wp2
                go_roundw
                case rel => exact ⟨k + 1, by omega, by go_num, by rw [HP.out, ← Int.add_assoc]; simp [go_sem, m0], by simp [go_sem, m1], by simp [m2], by simp [m3], HGR.out⟩
                case measure => simp [intOf]; omega)
            · have h0s : 0 ≤ s0 := by rw [HS0.out]; unfold sgnI; repeat' split <;> omega
              obtain ⟨q, hq, hq1, hq2⟩ := HIR.out.whole
              simp only at hq
              have hQx : Q = q := by
                rw [HQ.out]; unfold partI; rw [if_neg hlx]
                show T * N / D = q
                rw [hq, Int.mul_ediv_cancel _ (by omega)]
              clear HS0 HQ
              have HM := Lib.hid (fun w => frMul_whole T 1 N D Q (by omega) (by omega) (by omega) (by omega) (by omega) (by omega) (by rw [hQx, hq]; simp) w)
              clear hq hQx
              have Z0 := Ext.rebase E5 Y0
              have Z1 := Ext.rebase E5 Y1
              have EV3 := EV5
              clear Y0 Y1 Y2 Y3 EV5
              go_wp2
              have X3 := Ext.rebase EV3 X2
              go_region_held3 (fun w' => Ext w5 w') ((repeat (first | exact Ext.refl _ | assumption | apply Ext.alloc | apply Ext.drew | apply Ext.drewN | (refine Ext.trans ?_ (by assumption)) | (refine Ext.setCell ?_ (by (try simp) <;> omega) _)))) (first | (go_at_call 79; refine (frInt_any _ _).mono ?_; rintro e wa ⟨rfl, hba⟩; have hba2 : Ext w5 wa := Ext.trans (by repeat (first | exact Ext.refl _ | assumption | apply Ext.alloc | apply Ext.drew | apply Ext.drewN | (refine Ext.trans ?_ (by assumption)) | (refine Ext.setCell ?_ (by (try simp) <;> omega) _))) hba; have hsa := Ext.size hba2; (try have hbn : Ext (w5.alloc (.cells #[.int .i64 0, .int .i64 0] 35)) wa := Ext.trans (Ext.drew (Ext.refl _)) hba); (try have kA0 := Ext.keeps (Ext.newCell (cs := #[.int .i64 0, .int .i64 0]) hbn (i := 0) (v := .int .i64 0) rfl).1); (try have kF0 := Ext.thaws (Ext.newCell (cs := #[.int .i64 0, .int .i64 0]) hbn (i := 0) (v := .int .i64 0) rfl).1 (Ext.newCell (cs := #[.int .i64 0, .int .i64 0]) hbn (i := 0) (v := .int .i64 0) rfl).2); (try have kA1 := Ext.keeps (Ext.newCell (cs := #[.int .i64 0, .int .i64 0]) hbn (i := 1) (v := .int .i64 0) rfl).1); (try have kF1 := Ext.thaws (Ext.newCell (cs := #[.int .i64 0, .int .i64 0]) hbn (i := 1) (v := .int .i64 0) rfl).1 (Ext.newCell (cs := #[.int .i64 0, .int .i64 0]) hbn (i := 1) (v := .int .i64 0) rfl).2)) | (go_at_call 81; refine (HM.out _).mono ?_; rintro e wb ⟨rfl, hbb⟩; have hbb2 : Ext w5 wb := Ext.trans (by repeat (first | exact Ext.refl _ | assumption | apply Ext.alloc | apply Ext.drew | apply Ext.drewN | (refine Ext.trans ?_ (by assumption)) | (refine Ext.setCell ?_ (by (try simp) <;> omega) _))) hbb; (try have hbm : Ext (wa.alloc (.cells #[.int .i64 0, .int .i64 0] 35)) wb := hbb); (try have jA0 := kA0 _ hbb); (try have jF0 := kF0 _ hbb); (try have jB0 := (Ext.newCell (cs := #[.int .i64 0, .int .i64 0]) hbm (i := 0) (v := .int .i64 0) rfl).1); (try have jG0 := (Ext.newCell (cs := #[.int .i64 0, .int .i64 0]) hbm (i := 0) (v := .int .i64 0) rfl).2); (try have jA1 := kA1 _ hbb); (try have jF1 := kF1 _ hbb); (try have jB1 := (Ext.newCell (cs := #[.int .i64 0, .int .i64 0]) hbm (i := 1) (v := .int .i64 0) rfl).1); (try have jG1 := (Ext.newCell (cs := #[.int .i64 0, .int .i64 0]) hbm (i := 1) (v := .int .i64 0) rfl).2)))
              all_goals (
                first
                | (have tA := jA0
                   have hF : (((wb.setCell ⟨w5.heap.size, 0, none⟩ (.int .i64 Q)).setCell ⟨w5.heap.size, 1, none⟩ (.int .i64 1))).cell? ⟨w5.heap.size, 0, none⟩ = some (.int .i64 Q) ∧ (((wb.setCell ⟨w5.heap.size, 0, none⟩ (.int .i64 Q)).setCell ⟨w5.heap.size, 1, none⟩ (.int .i64 1))).cell? ⟨w5.heap.size, 1, none⟩ = some (.int .i64 1) ∧ Ext w5 ((wb.setCell ⟨w5.heap.size, 0, none⟩ (.int .i64 Q)).setCell ⟨w5.heap.size, 1, none⟩ (.int .i64 1)) := by refine ⟨?_, ?_, ?_⟩ <;> first | (simp [go_sem, jA0, jA1]; done) | exact (by repeat (first | exact Ext.refl _ | assumption | apply Ext.alloc | apply Ext.drew | apply Ext.drewN | (refine Ext.trans ?_ (by assumption)) | (refine Ext.setCell ?_ (by (try simp) <;> omega) _)))
                   generalize ((wb.setCell ⟨w5.heap.size, 0, none⟩ (.int .i64 Q)).setCell ⟨w5.heap.size, 1, none⟩ (.int .i64 1)) = w6x at hF ⊢
                   generalize w5.heap.size = pb at hF ⊢)
                | (have tB := jB0
                   have hF : (((wb.setCell ⟨wa.heap.size, 0, none⟩ (.int .i64 Q)).setCell ⟨wa.heap.size, 1, none⟩ (.int .i64 1))).cell? ⟨wa.heap.size, 0, none⟩ = some (.int .i64 Q) ∧ (((wb.setCell ⟨wa.heap.size, 0, none⟩ (.int .i64 Q)).setCell ⟨wa.heap.size, 1, none⟩ (.int .i64 1))).cell? ⟨wa.heap.size, 1, none⟩ = some (.int .i64 1) ∧ Ext w5 ((wb.setCell ⟨wa.heap.size, 0, none⟩ (.int .i64 Q)).setCell ⟨wa.heap.size, 1, none⟩ (.int .i64 1)) := by refine ⟨?_, ?_, ?_⟩ <;> first | (simp [go_sem, jB0, jB1]; done) | exact (by repeat (first | exact Ext.refl _ | assumption | apply Ext.alloc | apply Ext.drew | apply Ext.drewN | (refine Ext.trans ?_ (by assumption)) | (refine Ext.setCell ?_ (by (try simp) <;> omega) _)))
                   generalize ((wb.setCell ⟨wa.heap.size, 0, none⟩ (.int .i64 Q)).setCell ⟨wa.heap.size, 1, none⟩ (.int .i64 1)) = w6x at hF ⊢
                   generalize wa.heap.size = pb at hF ⊢)
                | (have hF : ((wb.alloc (.cells #[.int .i64 Q, .int .i64 1] 35))).cell? ⟨wb.heap.size, 0, none⟩ = some (.int .i64 Q) ∧ ((wb.alloc (.cells #[.int .i64 Q, .int .i64 1] 35))).cell? ⟨wb.heap.size, 1, none⟩ = some (.int .i64 1) ∧ Ext w5 (wb.alloc (.cells #[.int .i64 Q, .int .i64 1] 35)) := by refine ⟨?_, ?_, ?_⟩ <;> first | (simp [go_sem]; done) | exact (by repeat (first | exact Ext.refl _ | assumption | apply Ext.alloc | apply Ext.drew | apply Ext.drewN | (refine Ext.trans ?_ (by assumption)) | (refine Ext.setCell ?_ (by (try simp) <;> omega) _)))
                   generalize (wb.alloc (.cells #[.int .i64 Q, .int .i64 1] 35)) = w6x at hF ⊢
                   generalize wb.heap.size = pb at hF ⊢))
              all_goals (
                obtain ⟨z0, z1, E35⟩ := hF
                clear hba hba2 hsa hbb2 X3
                try clear hbb
                have EV7 := EV3.trans E35
                have q0 := G0 _ EV7
                have q1 := G1 _ EV7
                go_wp2_with fail
                refine (HA.out _).mono ?_
                rintro e w7 ⟨rfl, hb7⟩
                have EV8 := EV7.trans hb7
                have m0 : (w7.alloc (.cells #[.int .i64 (bs + S + Q), .int .i64 1] 35)).cell? ⟨bb, 0, none⟩ = some (.int .i64 (bs + S)) := G0 _ (Ext.alloc EV8 _)
                have m1 : (w7.alloc (.cells #[.int .i64 (bs + S + Q), .int .i64 1] 35)).cell? ⟨bb, 1, none⟩ = some (.int .i64 1) := G1 _ (Ext.alloc EV8 _)
                have m2 : (w7.alloc (.cells #[.int .i64 (bs + S + Q), .int .i64 1] 35)).frozen? ⟨bb, 0, none⟩ = false := G2 _ (Ext.alloc EV8 _)
                have m3 : (w7.alloc (.cells #[.int .i64 (bs + S + Q), .int .i64 1] 35)).frozen? ⟨bb, 1, none⟩ = false := G3 _ (Ext.alloc EV8 _)
                have HGR := Lib.hid (grown_set (i := 1) (grown_set (i := 0) (World.grownBy.trans hgr (Ext.grownBy (EV.trans (Ext.alloc EV8 (.cells #[.int .i64 (bs + S + Q), .int .i64 1] 35))) (some bb))) (.int .i64 (bs + S + Q))) (.int .i64 1))
                go_wp2
                go_roundw
                case rel => exact ⟨k + 1, by omega, by go_num, by rw [HP.out, ← Int.add_assoc]; simp [go_sem, m0], by simp [go_sem, m1], by simp [m2], by simp [m3], HGR.out⟩
                case measure => simp [intOf]; omega)
          · obtain rfl : k = L.length := by omega
            have hEr := HEr.out
            have r0 := Rc0 _ HEr0.out
            have r1 := Rc1 _ HEr0.out
            have r2 := Rf0 _ HEr0.out
            have r3 := Rf1 _ HEr0.out
            generalize hvq : bs + partsI x L L.length = v at *
            have HVQ := Lib.hid hvq
            clear hvq
            go_wp2
            refine bodyPost_ret (v := (.tuple #[.agg #[.int .i64 v, .int .i64 1], .bool true])) (by simp [results, Try.results32, go_sem, r0, r1]) rfl ⟨by rw [← HVQ.out, ← HBS.out]; rfl, (by repeat (first | exact Ext.refl _ | assumption | apply Ext.alloc | apply Ext.drew | apply Ext.drewN | (refine Ext.trans ?_ (by assumption)) | (refine Ext.setCell ?_ (by (try simp) <;> omega) _)))⟩)
end Go.Proofs.Ytjaaohgknakpnaa
