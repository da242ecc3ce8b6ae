/-
  The hull of points that stand in order: the reference's walk.
-/
import Derived.Test.YtogbfhhioicbmaaHalf
import Derived.Test.YtogbfhhioicbmaaApp
import Derived.Deep.RegionHeld3
namespace Go.Proofs.Ytogbfhhioicbmaa
open Go.RowKit

theorem own_emptyH {w' : World} (w : World) {base g : Nat} {e : TypeId} {size : Nat} {v : Value} (hw : w'.heap = (w.alloc (.cells #[] e)).heap) (hv : v = .slice (some ⟨g, 0, none⟩) 0 0) (hg : g = w.heap.size) (h : base ≤ w.heap.size) : w'.ownsRow base e size v 0 [] := by
  subst hv hg
  have := own_empty w base e size h
  unfold World.ownsRow at this ⊢
  rw [hw]; exact this
theorem ones_reads2 {w : World} {g : Nat} {x y : Value} (h0 : w.cell? ⟨g, 0, none⟩ = some x) (h1 : w.cell? ⟨g, 1, none⟩ = some y) : Reads w (some ⟨g, 0, none⟩) 2 1 [x, y] :=
  ⟨rfl, fun _ => ⟨g, 0, rfl, fun j u hj => by
    match j, hj with
    | 0, hj => simp at hj; subst hj; simpa using h0
    | 1, hj => simp at hj; subst hj; simpa using h1⟩⟩
set_option maxHeartbeats 4000000 in
theorem pySorted_any (a : Option Addr) (n c : Nat) (zs : List (Int × Int)) (hn : n ≤ 1000) (hs : zs.Pairwise lexP) (w : World) (h : Reads w a 2 n (pv zs)) :
    Calls Try.prog 116 #[.slice a n c] w (OwnsPts w.heap.size zs w) := by
  have hl : zs.length = n := by have := h.1; rw [pv_len] at this; omega
  subst hl
  have HS := Lib.hid hs
  clear hs
  obtain ⟨i0, hz1, hz2, hz3, hz4⟩ := info_parts point_info
  have HZI := Lib.hid (And.intro hz1 (And.intro hz2 (And.intro hz3 hz4)))
  clear hz1 hz2 hz3 hz4
  go_enter Try.func116, Try.ntmps116
  go_wp2
  go_loopw [3, 9] (fun s t wr => ∃ (j : Nat) (a1 : Option Addr) (c1 : Nat), j ≤ zs.length ∧ t = .int .i64 j ∧ s = .slice a1 j c1 ∧ wr.ownsRow w.heap.size 99 2 (.slice a1 j c1) j (pv (zs.take j)) ∧ Hid (0 < j ∨ a1 = none ∧ c1 = 0) ∧ Ext w wr) (fun _ t _ => zs.length - (intOf t).toNat)
  case atStart => exact ⟨0, none, 0, Nat.zero_le _, rfl, rfl, own_nonePt _ _, Lib.hid (.inr ⟨rfl, rfl⟩), Ext.refl _⟩
  case round =>
    obtain ⟨j, a1, c1, hj, rfl, rfl, hown, HN, hE⟩ := hrel
    by_cases hlt : j < zs.length
    · obtain ⟨b, off, rfl, hp0, hp1⟩ := (Reads.ext hE h).pair hlt
      have HB := Lib.hid (fun (i : Nat) (hi : i < j) => show lexP (pat zs i) (pat zs j) by
        rw [pat_eq hlt, pat_eq (by omega)]
        exact (List.pairwise_iff_getElem.1 HS.out) i j (by omega) hlt hi)
      have HP := Lib.hid (show pv (zs.take (j + 1)) = pv (zs.take j) ++ [.int .i64 (pat zs j).1, .int .i64 (pat zs j).2] by rw [List.take_succ_eq_append_getElem hlt, pv_append, pat_eq hlt]; rfl)
      generalize pat zs j = p at *
      obtain ⟨p1, p2⟩ := p
      simp only at hp0 hp1 HP
      have HO0 := Lib.hid hown
      have HE0 := Lib.hid hE
      obtain ⟨wo, hwo⟩ : ∃ wo, wo = wr := ⟨_, rfl⟩
      subst hwo
      clear hown hE
      go_wp2
      obtain ⟨V, hV0⟩ : ∃ V, V = wo.alloc (.cells #[.int .i64 p1, .int .i64 p2] 99) := ⟨_, rfl⟩
      obtain ⟨bb, hbb⟩ : ∃ bb, bb = wo.heap.size := ⟨_, rfl⟩
      have g0 : V.cell? ⟨bb, 0, none⟩ = some (.int .i64 p1) := by rw [hV0, hbb]; exact cell_at_newQ rfl rfl
      have g1 : V.cell? ⟨bb, 1, none⟩ = some (.int .i64 p2) := by rw [hV0, hbb]; exact cell_at_newQ rfl rfl
      have HOV := Lib.hid (own_ext (show Ext wo V by rw [hV0]; exact Ext.alloc (Ext.refl _) _) HO0.out)
      have HEV := Lib.hid (show Ext w V by rw [hV0]; exact Ext.alloc HE0.out _)
      rw [← hV0, ← hbb]
      clear hV0 hbb hp0 hp1 HO0 HE0
      go_loopw [6] (fun s wr => ∃ (i : Nat), i ≤ j ∧ s = .int .i64 i ∧ Ext V wr) (fun s _ => j - (intOf s).toNat)
      case atStart => exact ⟨0, Nat.zero_le _, rfl, Ext.refl _⟩
      case round =>
        obtain ⟨i, hi, rfl, hE⟩ := hrel
        have Pc0 := Ext.rebase hE (Ext.keeps g0)
        have Pc1 := Ext.rebase hE (Ext.keeps g1)
        have hEw := HEV.out.trans hE
        by_cases hij : i < j
        · obtain ⟨g, rfl, hg1, hg2⟩ := own_head HOV.out (by omega)
          obtain ⟨_, _, e1, y0, y1⟩ := (own_reads (own_ext hE HOV.out)).pair hij
          simp only [Option.some.injEq, Addr.mk.injEq, and_true] at e1
          obtain ⟨rfl, rfl⟩ := e1
          have HT := Lib.hid (fun w => pyBefore_any (pat zs i) (p1, p2) true (by simp [HB.out i hij]) w)
          have ei : pat (zs.take j) i = pat zs i := by simp [pat, List.getD, hij]
          rw [ei] at y0 y1
          clear ei
          generalize pat zs i = y at *
          obtain ⟨y1', y2'⟩ := y
          simp only [Nat.zero_add] at y0 y1 HT
          have Yc0 := Ext.keeps y0
          have Yc1 := Ext.keeps y1
          have hE0 := hE
          clear hE y0 y1 g0 g1
          have hE : Ext wr wr := Ext.refl _
          go_wp2
          have qY0 := fun s : Past wr => Yc0 s.w s.ext
          have qY1 := fun s : Past wr => Yc1 s.w s.ext
          have qP0 := fun s : Past wr => Pc0 s.w s.ext
          have qP1 := fun s : Past wr => Pc1 s.w s.ext
          refine wp_region_past wr (by first | exact hE | exact Ext.alloc hE _ | exact Ext.drew hE | exact Ext.drewN hE _) (by kernel_rfl) (by kernel_rfl) ?_
          repeat (go_big_quiet_step (((go_at_call 150; exact past_ext (HT.out _)))))
          refine wpQuiet_nil ?_
          intro _ hw'
          obtain ⟨⟨w1, hE⟩, hw''⟩ := hw'
          subst hw''
          clear qY0 qY1 qP0 qP1
          go_wp2
          go_roundw
          case rel => exact ⟨i + 1, by omega, by go_num, hE0.trans hE⟩
          case measure => simp [intOf]; omega
        · obtain rfl : i = j := by omega
          have hE0 := hE
          clear hE
          have hE : Ext wr wr := Ext.refl _
          clear g0 g1
          go_wp2
          have qP0 := fun s : Past wr => Pc0 s.w s.ext
          have qP1 := fun s : Past wr => Pc1 s.w s.ext
          refine wp_region_past wr (by first | exact hE | exact Ext.alloc hE _ | exact Ext.drew hE | exact Ext.drewN hE _) (by kernel_rfl) (by kernel_rfl) ?_
          repeat (go_big_quiet_step ((fail)))
          refine wpQuiet_nil ?_
          intro w1 hw'
          obtain ⟨⟨_, hE⟩, hw''⟩ := hw'
          subst hw''
          clear qP0 qP1
          have HO1 := Lib.hid (own_ext (hE0.trans hE) HOV.out)
          have hEw1 := hEw.trans hE
          replace Pc0 := Ext.rebase hE Pc0
          replace Pc1 := Ext.rebase hE Pc1
          clear hE hE0 hEw HOV HEV HB
          have hE : Ext w1 w1 := Ext.refl _
          go_wp2
          have qP0 := fun s : Past w1 => Pc0 s.w s.ext
          have qP1 := fun s : Past w1 => Pc1 s.w s.ext
          refine wp_region_past w1 (by first | exact hE | exact Ext.alloc hE _ | exact Ext.drew hE | exact Ext.drewN hE _) (by kernel_rfl) (by kernel_rfl) ?_
          repeat (go_big_quiet_step ((fail)))
          refine wpQuiet_nil ?_
          intro w2' hw'
          obtain ⟨⟨_, hE⟩, hw''⟩ := hw'
          subst hw''
          clear qP0 qP1
          have HO2 := Lib.hid (own_ext hE HO1.out)
          have HE2' := Lib.hid (hEw1.trans hE)
          replace Pc0 := Ext.rebase hE Pc0
          replace Pc1 := Ext.rebase hE Pc1
          clear hE hEw1 HO1
          have HR := Lib.hid (fun w' (z : Ext w2' w') => own_reads (own_ext z HO2.out))
          obtain ⟨wr, hwr⟩ : ∃ wr, wr = w2' := ⟨_, rfl⟩
          subst hwr
          rcases Nat.eq_zero_or_pos i with h0 | h0
          · subst h0
            obtain ⟨rfl, rfl⟩ : a1 = none ∧ c1 = 0 := by
              rcases HN.out with h | h
              · omega
              · exact h
            go_wp2
            go_region_held3 (fun w' => Ext wr w') (first | exact HE4.out | exact HE3.out | exact Ext.alloc HE2.out _ | exact HE2.out | (repeat (first | exact Ext.refl _ | assumption | apply Ext.alloc | apply Ext.drew | apply Ext.drewN | (refine Ext.trans ?_ (by assumption)) | (refine Ext.setCell ?_ (by (try simp) <;> omega) _)))) (first | (have t3 := H3; clear t3; refine step_app_N _ (by rfl) _ _ 56 (by rfl) wr.heap.size 99 i0 _ 2 16 Try.underlying56 HZI.out.1 HZI.out.2.1 HZI.out.2.2.1 HZI.out.2.2.2 rfl (by omega) (1) (.slice _ _ _) _ _ (by rfl) H3.out _ 0 _ ([]) (by rfl) (Reads.zero) (by simp) (by omega) (by unfold maxLen; omega) (by omega) (Ext.size HE3.out) ?_; intro a4 c4 w4 hown4 hg4; have H4 := Lib.hid hown4; have HE4 := Lib.hid (Ext.grown (a := wr) HE3.out hg4 (fun k hk => (H3.out.lt k hk).1)); clear hown4 hg4) | (have t2 := H2; clear t2; refine step_app_N _ (by rfl) _ _ 56 (by rfl) wr.heap.size 99 i0 _ 2 16 Try.underlying56 HZI.out.1 HZI.out.2.1 HZI.out.2.2.1 HZI.out.2.2.2 rfl (by omega) (1) (.slice _ _ _) _ _ (by rfl) (by first | (with_reducible exact H2.out) | exact own_ext (Ext.alloc (Ext.refl _) _) H2.out) _ 1 _ [.int .i64 p1, .int .i64 p2] (by rfl) (ones_reads2 (by first | (with_reducible assumption) | (simp; done)) (by first | (with_reducible assumption) | (simp; done))) (by simp [Value.oneCell']) (by omega) (by unfold maxLen; omega) (by omega) (Ext.size (w := wr) (by first | (with_reducible exact HE2.out) | exact Ext.alloc HE2.out _)) ?_; intro a3 c3 w3 hown3 hg3; have H3 := Lib.hid hown3; have HE3 := Lib.hid (Ext.grown (a := wr) (by first | (with_reducible exact HE2.out) | exact Ext.alloc HE2.out _) hg3 (fun k hk => (H2.out.lt k hk).1)); clear hown3 hg3) | (refine step_app_N _ (by rfl) _ _ 56 (by rfl) wr.heap.size 99 i0 _ 2 16 Try.underlying56 HZI.out.1 HZI.out.2.1 HZI.out.2.2.1 HZI.out.2.2.2 rfl (by omega) (0) (.slice (some ⟨_, 0, none⟩) 0 0) 0 [] (by rfl) (by first | exact own_emptyH wr rfl rfl rfl (Nat.le_refl _) | exact own_emptyH (wr.alloc (.cells #[.int .i64 p1, .int .i64 p2] 99)) rfl rfl (by simp) (by simp) | exact own_ext (show Ext (wr.alloc (.cells #[] 99)) _ from (by repeat (first | exact Ext.refl _ | assumption | apply Ext.alloc | apply Ext.drew | apply Ext.drewN | (refine Ext.trans ?_ (by assumption)) | (refine Ext.setCell ?_ (by (try simp) <;> omega) _)))) (own_emptyH wr rfl rfl rfl (Nat.le_refl _))) _ 0 _ (pv (zs.take 0)) (by rfl) (HR.out _ (by repeat (first | exact Ext.refl _ | assumption | apply Ext.alloc | apply Ext.drew | apply Ext.drewN | (refine Ext.trans ?_ (by assumption)) | (refine Ext.setCell ?_ (by (try simp) <;> omega) _)))) (pv_one _) (by omega) (by unfold maxLen; omega) (by omega) (Ext.size (w := wr) (by repeat (first | exact Ext.refl _ | assumption | apply Ext.alloc | apply Ext.drew | apply Ext.drewN | (refine Ext.trans ?_ (by assumption)) | (refine Ext.setCell ?_ (by (try simp) <;> omega) _)))) ?_; intro a2 c2 w2 hown2 hg2; simp only [List.nil_append] at hown2; have H2 := Lib.hid hown2; have HE2 := Lib.hid (Ext.grown (a := wr) (by repeat (first | exact Ext.refl _ | assumption | apply Ext.alloc | apply Ext.drew | apply Ext.drewN | (refine Ext.trans ?_ (by assumption)) | (refine Ext.setCell ?_ (by (try simp) <;> omega) _))) hg2 (fun k hk => by simp [Value.ownBlock] at hk; omega)); (try (have j0_0 := grown_keep (b := wr.heap.size) (o := 0) (v := .int .i64 p1) hg2; simp [Value.ownBlock] at j0_0)); (try (have j0_1 := grown_keep (b := wr.heap.size) (o := 1) (v := .int .i64 p2) hg2; simp [Value.ownBlock] at j0_1)); (try (have j1_0 := grown_keep (b := wr.heap.size + 1) (o := 0) (v := .int .i64 p1) hg2; simp [Value.ownBlock] at j1_0)); (try (have j1_1 := grown_keep (b := wr.heap.size + 1) (o := 1) (v := .int .i64 p2) hg2; simp [Value.ownBlock] at j1_1)); clear hown2 hg2))
            all_goals (
              go_wp2
              go_roundw
              case rel => exact ⟨1, a4, c4, by omega, by go_num, by simp, by rw [HP.out]; simpa using own_mono (Ext.size HE2'.out) H4.out, Lib.hid (.inl (by omega)), HE2'.out.trans HE4.out⟩
              case measure => simp [intOf]; omega)
          · obtain ⟨g, rfl, hg1, hg2⟩ := own_head HO2.out h0
            have hcap := (own_capQ HO2.out).1
            by_cases hcc : c1 = i
            all_goals (
              go_wp2
              go_region_held3 (fun w' => Ext wr w') (first | exact HE4.out | exact HE3.out | exact Ext.alloc HE2.out _ | exact HE2.out | (repeat (first | exact Ext.refl _ | assumption | apply Ext.alloc | apply Ext.drew | apply Ext.drewN | (refine Ext.trans ?_ (by assumption)) | (refine Ext.setCell ?_ (by (try simp) <;> omega) _)))) (first | (have t3 := H3; clear t3; refine step_app_N _ (by rfl) _ _ 56 (by rfl) wr.heap.size 99 i0 _ 2 16 Try.underlying56 HZI.out.1 HZI.out.2.1 HZI.out.2.2.1 HZI.out.2.2.2 rfl (by omega) (i + 1) (.slice _ _ _) _ _ (by rfl) H3.out _ 0 _ ([]) (by rfl) (Reads.zero) (by simp) (by omega) (by unfold maxLen; omega) (by omega) (Ext.size HE3.out) ?_; intro a4 c4 w4 hown4 hg4; have H4 := Lib.hid hown4; have HE4 := Lib.hid (Ext.grown (a := wr) HE3.out hg4 (fun k hk => (H3.out.lt k hk).1)); clear hown4 hg4) | (have t2 := H2; clear t2; refine step_app_N _ (by rfl) _ _ 56 (by rfl) wr.heap.size 99 i0 _ 2 16 Try.underlying56 HZI.out.1 HZI.out.2.1 HZI.out.2.2.1 HZI.out.2.2.2 rfl (by omega) (i + 1) (.slice _ _ _) _ _ (by rfl) (by first | (with_reducible exact H2.out) | exact own_ext (Ext.alloc (Ext.refl _) _) H2.out) _ 1 _ [.int .i64 p1, .int .i64 p2] (by rfl) (ones_reads2 (by first | (with_reducible assumption) | (simp; done)) (by first | (with_reducible assumption) | (simp; done))) (by simp [Value.oneCell']) (by omega) (by unfold maxLen; omega) (by omega) (Ext.size (w := wr) (by first | (with_reducible exact HE2.out) | exact Ext.alloc HE2.out _)) ?_; intro a3 c3 w3 hown3 hg3; have H3 := Lib.hid hown3; have HE3 := Lib.hid (Ext.grown (a := wr) (by first | (with_reducible exact HE2.out) | exact Ext.alloc HE2.out _) hg3 (fun k hk => (H2.out.lt k hk).1)); clear hown3 hg3) | (refine step_app_N _ (by rfl) _ _ 56 (by rfl) wr.heap.size 99 i0 _ 2 16 Try.underlying56 HZI.out.1 HZI.out.2.1 HZI.out.2.2.1 HZI.out.2.2.2 rfl (by omega) (i) (.slice (some ⟨_, 0, none⟩) 0 0) 0 [] (by rfl) (by first | exact own_emptyH wr rfl rfl rfl (Nat.le_refl _) | exact own_emptyH (wr.alloc (.cells #[.int .i64 p1, .int .i64 p2] 99)) rfl rfl (by simp) (by simp) | exact own_ext (show Ext (wr.alloc (.cells #[] 99)) _ from (by repeat (first | exact Ext.refl _ | assumption | apply Ext.alloc | apply Ext.drew | apply Ext.drewN | (refine Ext.trans ?_ (by assumption)) | (refine Ext.setCell ?_ (by (try simp) <;> omega) _)))) (own_emptyH wr rfl rfl rfl (Nat.le_refl _))) _ i _ (pv (zs.take i)) (by rfl) (HR.out _ (by repeat (first | exact Ext.refl _ | assumption | apply Ext.alloc | apply Ext.drew | apply Ext.drewN | (refine Ext.trans ?_ (by assumption)) | (refine Ext.setCell ?_ (by (try simp) <;> omega) _)))) (pv_one _) (by omega) (by unfold maxLen; omega) (by omega) (Ext.size (w := wr) (by repeat (first | exact Ext.refl _ | assumption | apply Ext.alloc | apply Ext.drew | apply Ext.drewN | (refine Ext.trans ?_ (by assumption)) | (refine Ext.setCell ?_ (by (try simp) <;> omega) _)))) ?_; intro a2 c2 w2 hown2 hg2; simp only [List.nil_append] at hown2; have H2 := Lib.hid hown2; have HE2 := Lib.hid (Ext.grown (a := wr) (by repeat (first | exact Ext.refl _ | assumption | apply Ext.alloc | apply Ext.drew | apply Ext.drewN | (refine Ext.trans ?_ (by assumption)) | (refine Ext.setCell ?_ (by (try simp) <;> omega) _))) hg2 (fun k hk => by simp [Value.ownBlock] at hk; omega)); (try (have j0_0 := grown_keep (b := wr.heap.size) (o := 0) (v := .int .i64 p1) hg2; simp [Value.ownBlock] at j0_0)); (try (have j0_1 := grown_keep (b := wr.heap.size) (o := 1) (v := .int .i64 p2) hg2; simp [Value.ownBlock] at j0_1)); (try (have j1_0 := grown_keep (b := wr.heap.size + 1) (o := 0) (v := .int .i64 p1) hg2; simp [Value.ownBlock] at j1_0)); (try (have j1_1 := grown_keep (b := wr.heap.size + 1) (o := 1) (v := .int .i64 p2) hg2; simp [Value.ownBlock] at j1_1)); clear hown2 hg2))
              all_goals (
                go_wp2
                go_roundw
                case rel => exact ⟨i + 1, a4, c4, by omega, by go_num, by simp, by rw [HP.out]; simpa using own_mono (Ext.size HE2'.out) H4.out, Lib.hid (.inl (by omega)), HE2'.out.trans HE4.out⟩
                case measure => simp [intOf]; omega))
    · obtain rfl : j = zs.length := by omega
      rw [List.take_length] at hown
      go_wp2
      go_ret
      exact ⟨a1, c1, rfl, hown, hE⟩

end Go.Proofs.Ytogbfhhioicbmaa
