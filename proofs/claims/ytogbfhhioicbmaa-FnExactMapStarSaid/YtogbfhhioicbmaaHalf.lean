/-
  The half of a hull: both sides' walks.
-/
import Derived.Test.YtogbfhhioicbmaaPts
import Derived.Test.YtogbfhhioicbmaaTail
import Derived.Lib.SliceRun
namespace Go.Proofs.Ytogbfhhioicbmaa
open Go.RowKit

theorem cell_at_newQ {w : World} {cs : Array Value} {t : TypeId} {b i : Nat} {v : Value} (hb : b = w.heap.size) (h : cs[i]? = some v) : (w.alloc (.cells cs t)).cell? ⟨b, i, none⟩ = some v := by
  subst hb; simp [h]
theorem own_capQ {w : World} {B : Nat} {E : TypeId} {size : Nat} {a : Option Addr} {n c : Nat} {xs : List Value} (k : w.ownsRow B E size (.slice a n c) n xs) : n ≤ c ∧ c ≤ maxLen := by
  rcases k.2 with ⟨h, h0⟩ | ⟨g, cap, cur, hv, hb, _, r1, r2, _⟩
  · simp only [Value.slice.injEq] at h; omega
  · simp only [Value.slice.injEq, true_and] at hv
    omega
/-- How many elements a slice value has. -/
def slLenQ : Value → Nat
  | .slice _ n _ => n
  | _ => 0
set_option maxHeartbeats 2000000 in
theorem pyHalf_any (a : Option Addr) (n c : Nat) (zs : List (Int × Int)) (hn : n ≤ 1000) (hz : ∀ z ∈ zs, PB z) (w : World) (h : Reads w a 2 n (pv zs)) :
    Calls Try.prog 117 #[.slice a n c] w (OwnsPts w.heap.size (chainR zs).reverse w) := by
  have hl : zs.length = n := by have := h.1; rw [pv_len] at this; omega
  subst hl
  have HZ := Lib.hid hz
  clear hz
  go_enter Try.func117, Try.ntmps117
  go_wp2
  go_loopw [3, 8] (fun s t wr => ∃ (k : Nat) (a1 : Option Addr) (c1 : Nat), k ≤ zs.length ∧ t = .int .i64 k ∧ s = .slice a1 (chainR (zs.take k)).length c1 ∧ wr.ownsRow w.heap.size 99 2 (.slice a1 (chainR (zs.take k)).length c1) (chainR (zs.take k)).length (pv (chainR (zs.take k)).reverse) ∧ Ext w wr) (fun _ t _ => zs.length - (intOf t).toNat)
  case atStart => exact ⟨0, none, 0, Nat.zero_le _, rfl, rfl, own_nonePt _ _, Ext.refl _⟩
  case round =>
    obtain ⟨k, a1, c1, hk, rfl, rfl, hown, hE⟩ := hrel
    have hlen : (chainR (zs.take k)).length ≤ 1000 := by have := chainR_len (zs.take k); simp at this; omega
    have HM := Lib.hid (fun x (hx : x ∈ chainR (zs.take k)) => HZ.out x (List.mem_of_mem_take (chainR_mem _ x hx)))
    by_cases hlt : k < zs.length
    · obtain ⟨b, off, rfl, hp0, hp1⟩ := (Reads.ext hE h).pair hlt
      have HC := Lib.hid (show chainR (zs.take (k + 1)) = pat zs k :: popT (pat zs k) (chainR (zs.take k)) by rw [List.take_succ_eq_append_getElem hlt, chainR_snoc, pat_eq hlt])
      have HPB := Lib.hid (show PB (pat zs k) by rw [pat_eq hlt]; exact HZ.out _ (List.getElem_mem hlt))
      generalize chainR (zs.take k) = S at *
      generalize pat zs k = p at *
      obtain ⟨p1, p2⟩ := p
      simp only at hp0 hp1
      obtain ⟨wo, hwo⟩ : ∃ wo, wo = wr := ⟨_, rfl⟩
      subst hwo
      clear h
      go_wp2
      obtain ⟨V, hV0⟩ : ∃ V, V = wo.alloc (.cells #[.int .i64 p1, .int .i64 p2] 99) := ⟨_, rfl⟩
      obtain ⟨bb, hbb⟩ : ∃ bb, bb = wo.heap.size := ⟨_, rfl⟩
      have g0 : V.cell? ⟨bb, 0, none⟩ = some (.int .i64 p1) := by rw [hV0, hbb]; exact cell_at_newQ rfl rfl
      have g1 : V.cell? ⟨bb, 1, none⟩ = some (.int .i64 p2) := by rw [hV0, hbb]; exact cell_at_newQ rfl rfl
      have hownV := own_ext (show Ext wo V by rw [hV0]; exact Ext.alloc (Ext.refl _) _) hown
      have hEV : Ext w V := by rw [hV0]; exact Ext.alloc hE _
      rw [← hV0, ← hbb]
      clear hV0 hbb hown hE hp0 hp1
      go_loopw [3] (fun s wr => ∃ (st : List (Int × Int)) (a2 : Option Addr) (c2 : Nat), s = .slice a2 st.length c2 ∧ (∀ x ∈ st, PB x) ∧ popT (p1, p2) st = popT (p1, p2) S ∧ st.length ≤ 1000 ∧ wr.ownsRow w.heap.size 99 2 (.slice a2 st.length c2) st.length (pv st.reverse) ∧ Ext V wr) (fun s _ => slLenQ s)
      case atStart => exact ⟨S, a1, c1, rfl, HM.out, rfl, hlen, hownV, Ext.refl _⟩
      case round =>
        clear hownV HM
        obtain ⟨st, a2, c2, rfl, hm, hpop, hsl, hown, hE⟩ := hrel
        have HO := Lib.hid hown
        have HP := Lib.hid hpop
        have HM := Lib.hid hm
        clear hpop hm
        have Pc0 := Ext.rebase hE (Ext.keeps g0)
        have Pc1 := Ext.rebase hE (Ext.keeps g1)
        have hEw := hEV.trans hE
        have h0 := Pc0 _ (Ext.refl _)
        have h0' := Pc1 _ (Ext.refl _)
        by_cases h1 : st.length ≤ 1
        · have HS : Hid (popT (p1, p2) S = st) := by
            show popT (p1, p2) S = st
            rw [← HP.out]
            match st, h1 with
            | [], _ => rfl
            | [_], _ => rfl
          clear hown HP HM g0 g1 h0 h0' hE
          have hg : decide (1 < (st.length : Int)) = false := by simp; omega
          have hE : Ext wr wr := Ext.refl _
          go_wp2
          have qP0 := fun s : Past wr => Pc0 s.w s.ext
          have qP1 := fun s : Past wr => Pc1 s.w s.ext
          refine wp_region_past wr (by first | exact hE | exact Ext.alloc hE _ | exact Ext.drew hE | exact Ext.drewN hE _) (by kernel_rfl) (by kernel_rfl) ?_
          repeat (go_big_quiet_step ((fail)))
          refine wpQuiet_nil ?_
          intro _ hw'
          obtain ⟨⟨w1, hE⟩, hw''⟩ := hw'
          subst hw''
          clear qP0 qP1
          have hEw1 := hEw.trans hE
          have h0 := Pc0 _ hE
          have h0' := Pc1 _ hE
          replace HO := Lib.hid (own_ext hE HO.out)
          clear hE Pc0 Pc1
          go_wp2_with (at_builtin; go_must (refine wpList_appQ rfl _ _ rfl w w.heap.size _ _ _ st.reverse rfl (own_ext (Ext.alloc (Ext.refl _) _) HO.out) ⟨_, 0, none⟩ 1 1 [(p1, p2)] rfl rfl (one_cells (by simp) (by simp)) (by omega) (by omega) (by have := hEw1.size; simp at this ⊢; omega) (hEw1.alloc _) (Nat.le_refl _) ?_))
          intro a3 c3 w3 hown3 hE3
          go_wp2
          go_roundw
          case rel => exact ⟨k + 1, a3, c3, by omega, by go_num, by rw [HC.out, HS.out]; simp, by rw [HC.out, HS.out]; simpa using hown3, hE3⟩
          case measure => simp [intOf]; omega
        · obtain ⟨y, x, r, rfl⟩ : ∃ y x r, st = y :: x :: r := by
            match st, h1 with
            | [], h1 => exact absurd (Nat.zero_le _) h1
            | [_], h1 => exact absurd (Nat.le_refl _) h1
            | y :: x :: r, _ => exact ⟨y, x, r, rfl⟩
          obtain ⟨g, rfl, hg1, hg2⟩ := own_head hown (by simp)
          obtain ⟨_, _, e1, y0, y1⟩ := (own_reads hown).pair (k := r.length + 1) (by simp)
          obtain ⟨_, _, e2, x0, x1⟩ := (own_reads hown).pair (k := r.length) (by simp; omega)
          simp only [Option.some.injEq, Addr.mk.injEq, and_true] at e1 e2
          obtain ⟨rfl, rfl⟩ := e1
          obtain ⟨rfl, rfl⟩ := e2
          rw [show r.length + 1 = (x :: r).length from rfl, pat_top] at y0 y1
          rw [pat_two] at x0 x1
          have HX := Lib.hid (fun e : turnI x y (p1, p2) ≤ 0 => show popT (p1, p2) (y :: x :: r) = popT (p1, p2) (x :: r) by simp only [popT]; rw [if_pos e])
          have HY := Lib.hid (fun e : ¬ turnI x y (p1, p2) ≤ 0 => show popT (p1, p2) (y :: x :: r) = y :: x :: r by simp only [popT]; rw [if_neg e])
          have HT := Lib.hid (fun w => pyTurn_any x y (p1, p2) (HM.out x (by simp)) (HM.out y (by simp)) HPB.out w)
          have HPo := Lib.hid (show wr.ownsRow w.heap.size 99 2 (.slice (some ⟨g, 0, none⟩) (r.length + 1) c2) (r.length + 1) (pv (x :: r).reverse) by
            have := own_shrink hown (m := (x :: r).length) (by simp) (by simp)
            rwa [pv_pop] at this)
          have hcap := (own_capQ HO.out).1
          simp only [List.length_cons] at hcap hsl x0 x1 y0 y1
          generalize turnI x y (p1, p2) = T at HX HY HT
          obtain ⟨x1', x2'⟩ := x
          obtain ⟨y1', y2'⟩ := y
          simp only [Nat.zero_add] at x0 x1 y0 y1 HT
          have Xc0 := Ext.keeps x0
          have Xc1 := Ext.keeps x1
          have Yc0 := Ext.keeps y0
          have Yc1 := Ext.keeps y1
          have hE0 := hE
          clear hown h0 h0' g0 g1 hE
          have hE : Ext wr wr := Ext.refl _
          have ml0 : (0 : Int) ≤ (r.length : Int) := by omega
          have hg : decide ((1 : Int) < (r.length : Int) + 1 + 1) = true := by simp; omega
          have w1' : IntKind.i64.wrap ((r.length : Int) + 1 + 1 - 2) = (r.length : Int) := by rw [wrap_i64] <;> omega
          have w2' : IntKind.i64.wrap ((r.length : Int) + 1 + 1 - 1) = (r.length : Int) + 1 := by rw [wrap_i64] <;> omega
          have w3' : ((r.length : Int) + 1).toNat = r.length + 1 := by omega
          have l1' : (r.length : Int) < (r.length : Int) + 1 + 1 := by omega
          have l2' : (r.length : Int) + 1 < (r.length : Int) + 1 + 1 := by omega
          have l3' : (0 : Int) ≤ (r.length : Int) + 1 := by omega
          simp only [List.length_cons]
          by_cases hT : T ≤ 0
          · have hT2 : decide (T ≤ 0) = true := decide_eq_true hT
            have HN : Hid (popT (p1, p2) ((x1', x2') :: r) = popT (p1, p2) S) := by
              show popT (p1, p2) ((x1', x2') :: r) = popT (p1, p2) S
              rw [← HP.out]
              exact (HX.out hT).symm
            have HM2 := Lib.hid (fun z (hz : z ∈ (x1', x2') :: r) => HM.out z (List.mem_cons_of_mem _ hz))
            clear HX HY HP HM HO hT
            go_wp2
            have qP0 := fun s : Past wr => Pc0 s.w s.ext
            have qP1 := fun s : Past wr => Pc1 s.w s.ext
            have qX0 := fun s : Past wr => Xc0 s.w s.ext
            have qX1 := fun s : Past wr => Xc1 s.w s.ext
            have qY0 := fun s : Past wr => Yc0 s.w s.ext
            have qY1 := fun s : Past wr => Yc1 s.w s.ext
            refine wp_region_past wr (by first | exact hE | exact Ext.alloc hE _ | exact Ext.drew hE | exact Ext.drewN hE _) (by kernel_rfl) (by kernel_rfl) ?_
            repeat (go_big_quiet_step (((go_at_call 151; exact past_ext (HT.out _)))))
            refine wpQuiet_nil ?_
            intro _ hw'
            obtain ⟨⟨w1, hE⟩, hw''⟩ := hw'
            subst hw''
            clear qP0 qP1 qX0 qX1 qY0 qY1
            have HR := Lib.hid (own_ext hE HPo.out)
            clear HPo
            go_wp2
            go_roundw
            case rel => exact ⟨(x1', x2') :: r, some ⟨g, 0, none⟩, c2, by simp, HM2.out, HN.out, by simp; omega, HR.out, hE0.trans hE⟩
            case measure => simp [slLenQ]
          · have hT2 : decide (T ≤ 0) = false := decide_eq_false hT
            have HS : Hid (popT (p1, p2) S = (y1', y2') :: (x1', x2') :: r) := by
              show popT (p1, p2) S = (y1', y2') :: (x1', x2') :: r
              rw [← HP.out]
              exact HY.out hT
            replace HO := Lib.hid (show wr.ownsRow w.heap.size 99 2 (.slice (some ⟨g, 0, none⟩) (r.length + 1 + 1) c2) (r.length + 1 + 1) (pv ((y1', y2') :: (x1', x2') :: r).reverse) from HO.out)
            clear HX HY HP HM HPo hT hE0
            go_wp2
            have qP0 := fun s : Past wr => Pc0 s.w s.ext
            have qP1 := fun s : Past wr => Pc1 s.w s.ext
            have qX0 := fun s : Past wr => Xc0 s.w s.ext
            have qX1 := fun s : Past wr => Xc1 s.w s.ext
            have qY0 := fun s : Past wr => Yc0 s.w s.ext
            have qY1 := fun s : Past wr => Yc1 s.w s.ext
            refine wp_region_past wr (by first | exact hE | exact Ext.alloc hE _ | exact Ext.drew hE | exact Ext.drewN hE _) (by kernel_rfl) (by kernel_rfl) ?_
            repeat (go_big_quiet_step (((go_at_call 151; exact past_ext (HT.out _)))))
            refine wpQuiet_nil ?_
            intro _ hw'
            obtain ⟨⟨w1, hE⟩, hw''⟩ := hw'
            subst hw''
            clear qP0 qP1 qX0 qX1 qY0 qY1
            have hEw1 := hEw.trans hE
            have h0 := Pc0 _ hE
            have h0' := Pc1 _ hE
            replace HO := Lib.hid (own_ext hE HO.out)
            clear hE Pc0 Pc1
            go_wp2_with (at_builtin; go_must (refine wpList_appQ rfl _ _ rfl w w.heap.size _ _ _ ((y1', y2') :: (x1', x2') :: r).reverse rfl (own_ext (Ext.alloc (Ext.refl _) _) HO.out) ⟨_, 0, none⟩ 1 1 [(p1, p2)] rfl rfl (one_cells (by simp) (by simp)) (by omega) (by omega) (by have := hEw1.size; simp at this ⊢; omega) (hEw1.alloc _) (Nat.le_refl _) ?_))
            intro a3 c3 w3 hown3 hE3
            go_wp2
            go_roundw
            case rel => exact ⟨k + 1, a3, c3, by omega, by go_num, by rw [HC.out, HS.out]; simp, by rw [HC.out, HS.out]; simpa using hown3, hE3⟩
            case measure => simp [intOf]; omega
    · have hkn : Hid (k = zs.length) := by show k = zs.length; omega
      have e : zs.take k = zs := by rw [hkn.out]; exact List.take_length
      rw [e] at hown ⊢
      go_wp2
      go_ret
      exact ⟨a1, c1, by simp, by simpa using hown, hE⟩


set_option maxHeartbeats 2000000 in
theorem half_any (a : Option Addr) (n c : Nat) (zs : List (Int × Int)) (hn : n ≤ 1000) (hne : zs ≠ []) (hz : ∀ z ∈ zs, PB z) (w : World) (h : Reads w a 2 n (pv zs)) :
    Calls Try.prog 120 #[.slice a n c] w (OwnsPts w.heap.size (chainR zs).tail.reverse w) := by
  have hl : zs.length = n := by have := h.1; rw [pv_len] at this; omega
  subst hl
  have HZ := Lib.hid hz
  clear hz
  go_enter Try.func120, Try.ntmps120
  go_wp2
  go_loopw [3, 9] (fun s t wr => ∃ (k : Nat) (a1 : Option Addr) (c1 : Nat), k ≤ zs.length ∧ t = .int .i64 k ∧ s = .slice a1 (chainR (zs.take k)).length c1 ∧ wr.ownsRow w.heap.size 99 2 (.slice a1 (chainR (zs.take k)).length c1) (chainR (zs.take k)).length (pv (chainR (zs.take k)).reverse) ∧ Ext w wr) (fun _ t _ => zs.length - (intOf t).toNat)
  case atStart => exact ⟨0, some ⟨w.heap.size, 0, none⟩, 0, Nat.zero_le _, rfl, rfl, World.ownsRow_lit w #[] 0 (Nat.le_refl _) (by unfold maxLen; omega) rfl, (by repeat (first | exact Ext.refl _ | assumption | apply Ext.alloc | apply Ext.drew | apply Ext.drewN | (refine Ext.trans ?_ (by assumption)) | (refine Ext.setCell ?_ (by (try simp) <;> omega) _)))⟩
  case round =>
    obtain ⟨k, a1, c1, hk, rfl, rfl, hown, hE⟩ := hrel
    have hlen : (chainR (zs.take k)).length ≤ 1000 := by have := chainR_len (zs.take k); simp at this; omega
    have HM := Lib.hid (fun x (hx : x ∈ chainR (zs.take k)) => HZ.out x (List.mem_of_mem_take (chainR_mem _ x hx)))
    by_cases hlt : k < zs.length
    · obtain ⟨b, off, rfl, hp0, hp1⟩ := (Reads.ext hE h).pair hlt
      have HC := Lib.hid (show chainR (zs.take (k + 1)) = pat zs k :: popT (pat zs k) (chainR (zs.take k)) by rw [List.take_succ_eq_append_getElem hlt, chainR_snoc, pat_eq hlt])
      have HPB := Lib.hid (show PB (pat zs k) by rw [pat_eq hlt]; exact HZ.out _ (List.getElem_mem hlt))
      generalize chainR (zs.take k) = S at *
      generalize pat zs k = p at *
      obtain ⟨p1, p2⟩ := p
      simp only at hp0 hp1
      obtain ⟨wo, hwo⟩ : ∃ wo, wo = wr := ⟨_, rfl⟩
      subst hwo
      clear h
      go_wp2
      obtain ⟨V, hV0⟩ : ∃ V, V = wo.alloc (.cells #[.int .i64 p1, .int .i64 p2] 99) := ⟨_, rfl⟩
      obtain ⟨bb, hbb⟩ : ∃ bb, bb = wo.heap.size := ⟨_, rfl⟩
      have g0 : V.cell? ⟨bb, 0, none⟩ = some (.int .i64 p1) := by rw [hV0, hbb]; exact cell_at_newQ rfl rfl
      have g1 : V.cell? ⟨bb, 1, none⟩ = some (.int .i64 p2) := by rw [hV0, hbb]; exact cell_at_newQ rfl rfl
      have hownV := own_ext (show Ext wo V by rw [hV0]; exact Ext.alloc (Ext.refl _) _) hown
      have hEV : Ext w V := by rw [hV0]; exact Ext.alloc hE _
      rw [← hV0, ← hbb]
      clear hV0 hbb hown hE hp0 hp1
      go_loopw [3] (fun s wr => ∃ (st : List (Int × Int)) (a2 : Option Addr) (c2 : Nat), s = .slice a2 st.length c2 ∧ (∀ x ∈ st, PB x) ∧ popT (p1, p2) st = popT (p1, p2) S ∧ st.length ≤ 1000 ∧ wr.ownsRow w.heap.size 99 2 (.slice a2 st.length c2) st.length (pv st.reverse) ∧ Ext V wr) (fun s _ => slLenQ s)
      case atStart => exact ⟨S, a1, c1, rfl, HM.out, rfl, hlen, hownV, Ext.refl _⟩
      case round =>
        clear hownV HM
        obtain ⟨st, a2, c2, rfl, hm, hpop, hsl, hown, hE⟩ := hrel
        have HO := Lib.hid hown
        have HP := Lib.hid hpop
        have HM := Lib.hid hm
        clear hpop hm
        have Pc0 := Ext.rebase hE (Ext.keeps g0)
        have Pc1 := Ext.rebase hE (Ext.keeps g1)
        have hEw := hEV.trans hE
        have h0 := Pc0 _ (Ext.refl _)
        have h0' := Pc1 _ (Ext.refl _)
        by_cases h1 : st.length ≤ 1
        · have HS : Hid (popT (p1, p2) S = st) := by
            show popT (p1, p2) S = st
            rw [← HP.out]
            match st, h1 with
            | [], _ => rfl
            | [_], _ => rfl
          clear hown HP HM g0 g1 h0 h0' hE
          have hg : decide (1 < (st.length : Int)) = false := by simp; omega
          have hE : Ext wr wr := Ext.refl _
          go_wp2
          have qP0 := fun s : Past wr => Pc0 s.w s.ext
          have qP1 := fun s : Past wr => Pc1 s.w s.ext
          refine wp_region_past wr (by first | exact hE | exact Ext.alloc hE _ | exact Ext.drew hE | exact Ext.drewN hE _) (by kernel_rfl) (by kernel_rfl) ?_
          repeat (go_big_quiet_step ((fail)))
          refine wpQuiet_nil ?_
          intro _ hw'
          obtain ⟨⟨w1, hE⟩, hw''⟩ := hw'
          subst hw''
          clear qP0 qP1
          have hEw1 := hEw.trans hE
          have h0 := Pc0 _ hE
          have h0' := Pc1 _ hE
          replace HO := Lib.hid (own_ext hE HO.out)
          clear hE Pc0 Pc1
          go_wp2_with (at_builtin; go_must (refine wpList_appQ rfl _ _ rfl w w.heap.size _ _ _ st.reverse rfl (own_ext (Ext.alloc (Ext.refl _) _) HO.out) ⟨_, 0, none⟩ 1 1 [(p1, p2)] rfl rfl (one_cells (by simp) (by simp)) (by omega) (by omega) (by have := hEw1.size; simp at this ⊢; omega) (hEw1.alloc _) (Nat.le_refl _) ?_))
          intro a3 c3 w3 hown3 hE3
          go_wp2
          go_roundw
          case rel => exact ⟨k + 1, a3, c3, by omega, by go_num, by rw [HC.out, HS.out]; simp, by rw [HC.out, HS.out]; simpa using hown3, hE3⟩
          case measure => simp [intOf]; omega
        · obtain ⟨y, x, r, rfl⟩ : ∃ y x r, st = y :: x :: r := by
            match st, h1 with
            | [], h1 => exact absurd (Nat.zero_le _) h1
            | [_], h1 => exact absurd (Nat.le_refl _) h1
            | y :: x :: r, _ => exact ⟨y, x, r, rfl⟩
          obtain ⟨g, rfl, hg1, hg2⟩ := own_head hown (by simp)
          obtain ⟨_, _, e1, y0, y1⟩ := (own_reads hown).pair (k := r.length + 1) (by simp)
          obtain ⟨_, _, e2, x0, x1⟩ := (own_reads hown).pair (k := r.length) (by simp; omega)
          simp only [Option.some.injEq, Addr.mk.injEq, and_true] at e1 e2
          obtain ⟨rfl, rfl⟩ := e1
          obtain ⟨rfl, rfl⟩ := e2
          rw [show r.length + 1 = (x :: r).length from rfl, pat_top] at y0 y1
          rw [pat_two] at x0 x1
          have HX := Lib.hid (fun e : turnI x y (p1, p2) ≤ 0 => show popT (p1, p2) (y :: x :: r) = popT (p1, p2) (x :: r) by simp only [popT]; rw [if_pos e])
          have HY := Lib.hid (fun e : ¬ turnI x y (p1, p2) ≤ 0 => show popT (p1, p2) (y :: x :: r) = y :: x :: r by simp only [popT]; rw [if_neg e])
          have HT := Lib.hid (fun w => turn_any x y (p1, p2) (HM.out x (by simp)) (HM.out y (by simp)) HPB.out w)
          have HPo := Lib.hid (show wr.ownsRow w.heap.size 99 2 (.slice (some ⟨g, 0, none⟩) (r.length + 1) c2) (r.length + 1) (pv (x :: r).reverse) by
            have := own_shrink hown (m := (x :: r).length) (by simp) (by simp)
            rwa [pv_pop] at this)
          have hcap := (own_capQ HO.out).1
          simp only [List.length_cons] at hcap hsl x0 x1 y0 y1
          generalize turnI x y (p1, p2) = T at HX HY HT
          obtain ⟨x1', x2'⟩ := x
          obtain ⟨y1', y2'⟩ := y
          simp only [Nat.zero_add] at x0 x1 y0 y1 HT
          have Xc0 := Ext.keeps x0
          have Xc1 := Ext.keeps x1
          have Yc0 := Ext.keeps y0
          have Yc1 := Ext.keeps y1
          have hE0 := hE
          clear hown h0 h0' g0 g1 hE
          have hE : Ext wr wr := Ext.refl _
          have ml0 : (0 : Int) ≤ (r.length : Int) := by omega
          have hg : decide ((1 : Int) < (r.length : Int) + 1 + 1) = true := by simp; omega
          have w1' : IntKind.i64.wrap ((r.length : Int) + 1 + 1 - 2) = (r.length : Int) := by rw [wrap_i64] <;> omega
          have w2' : IntKind.i64.wrap ((r.length : Int) + 1 + 1 - 1) = (r.length : Int) + 1 := by rw [wrap_i64] <;> omega
          have w3' : ((r.length : Int) + 1).toNat = r.length + 1 := by omega
          have l1' : (r.length : Int) < (r.length : Int) + 1 + 1 := by omega
          have l2' : (r.length : Int) + 1 < (r.length : Int) + 1 + 1 := by omega
          have l3' : (0 : Int) ≤ (r.length : Int) + 1 := by omega
          simp only [List.length_cons]
          by_cases hT : T ≤ 0
          · have hT2 : decide (T ≤ 0) = true := decide_eq_true hT
            have HN : Hid (popT (p1, p2) ((x1', x2') :: r) = popT (p1, p2) S) := by
              show popT (p1, p2) ((x1', x2') :: r) = popT (p1, p2) S
              rw [← HP.out]
              exact (HX.out hT).symm
            have HM2 := Lib.hid (fun z (hz : z ∈ (x1', x2') :: r) => HM.out z (List.mem_cons_of_mem _ hz))
            clear HX HY HP HM HO hT
            go_wp2
            have qP0 := fun s : Past wr => Pc0 s.w s.ext
            have qP1 := fun s : Past wr => Pc1 s.w s.ext
            have qX0 := fun s : Past wr => Xc0 s.w s.ext
            have qX1 := fun s : Past wr => Xc1 s.w s.ext
            have qY0 := fun s : Past wr => Yc0 s.w s.ext
            have qY1 := fun s : Past wr => Yc1 s.w s.ext
            refine wp_region_past wr (by first | exact hE | exact Ext.alloc hE _ | exact Ext.drew hE | exact Ext.drewN hE _) (by kernel_rfl) (by kernel_rfl) ?_
            repeat (go_big_quiet_step (((go_at_call 152; exact past_ext (HT.out _)))))
            refine wpQuiet_nil ?_
            intro _ hw'
            obtain ⟨⟨w1, hE⟩, hw''⟩ := hw'
            subst hw''
            clear qP0 qP1 qX0 qX1 qY0 qY1
            have HR := Lib.hid (own_ext hE HPo.out)
            clear HPo
            go_wp2
            go_roundw
            case rel => exact ⟨(x1', x2') :: r, some ⟨g, 0, none⟩, c2, by simp, HM2.out, HN.out, by simp; omega, HR.out, hE0.trans hE⟩
            case measure => simp [slLenQ]
          · have hT2 : decide (T ≤ 0) = false := decide_eq_false hT
            have HS : Hid (popT (p1, p2) S = (y1', y2') :: (x1', x2') :: r) := by
              show popT (p1, p2) S = (y1', y2') :: (x1', x2') :: r
              rw [← HP.out]
              exact HY.out hT
            replace HO := Lib.hid (show wr.ownsRow w.heap.size 99 2 (.slice (some ⟨g, 0, none⟩) (r.length + 1 + 1) c2) (r.length + 1 + 1) (pv ((y1', y2') :: (x1', x2') :: r).reverse) from HO.out)
            clear HX HY HP HM HPo hT hE0
            go_wp2
            have qP0 := fun s : Past wr => Pc0 s.w s.ext
            have qP1 := fun s : Past wr => Pc1 s.w s.ext
            have qX0 := fun s : Past wr => Xc0 s.w s.ext
            have qX1 := fun s : Past wr => Xc1 s.w s.ext
            have qY0 := fun s : Past wr => Yc0 s.w s.ext
            have qY1 := fun s : Past wr => Yc1 s.w s.ext
            refine wp_region_past wr (by first | exact hE | exact Ext.alloc hE _ | exact Ext.drew hE | exact Ext.drewN hE _) (by kernel_rfl) (by kernel_rfl) ?_
            repeat (go_big_quiet_step (((go_at_call 152; exact past_ext (HT.out _)))))
            refine wpQuiet_nil ?_
            intro _ hw'
            obtain ⟨⟨w1, hE⟩, hw''⟩ := hw'
            subst hw''
            clear qP0 qP1 qX0 qX1 qY0 qY1
            have hEw1 := hEw.trans hE
            have h0 := Pc0 _ hE
            have h0' := Pc1 _ hE
            replace HO := Lib.hid (own_ext hE HO.out)
            clear hE Pc0 Pc1
            go_wp2_with (at_builtin; go_must (refine wpList_appQ rfl _ _ rfl w w.heap.size _ _ _ ((y1', y2') :: (x1', x2') :: r).reverse rfl (own_ext (Ext.alloc (Ext.refl _) _) HO.out) ⟨_, 0, none⟩ 1 1 [(p1, p2)] rfl rfl (one_cells (by simp) (by simp)) (by omega) (by omega) (by have := hEw1.size; simp at this ⊢; omega) (hEw1.alloc _) (Nat.le_refl _) ?_))
            intro a3 c3 w3 hown3 hE3
            go_wp2
            go_roundw
            case rel => exact ⟨k + 1, a3, c3, by omega, by go_num, by rw [HC.out, HS.out]; simp, by rw [HC.out, HS.out]; simpa using hown3, hE3⟩
            case measure => simp [intOf]; omega
    · have hkn : Hid (k = zs.length) := by show k = zs.length; omega
      have e : zs.take k = zs := by rw [hkn.out]; exact List.take_length
      rw [e] at hown ⊢
      have hpos := chainR_pos hne
      have hlen' : (chainR zs).length ≤ 1000 := by have := chainR_len zs; omega
      generalize chainR zs = S at *
      obtain ⟨y, r, rfl⟩ : ∃ y r, S = y :: r := by
        match S, hpos with
        | y :: r, _ => exact ⟨y, r, rfl⟩
      obtain ⟨g, rfl, hg1, hg2⟩ := own_head hown (by simp)
      have hcap := (own_capQ hown).1
      have HPo := Lib.hid (show wr.ownsRow w.heap.size 99 2 (.slice (some ⟨g, 0, none⟩) r.length c1) r.length (pv r.reverse) by
        have := own_shrink hown (m := r.length) (by simp) (by simp)
        rwa [pv_pop] at this)
      simp only [List.length_cons] at hcap hlen' ⊢
      have hcap2 : (r.length : Int) ≤ c1 := by omega
      have ml0 : (0 : Int) ≤ (r.length : Int) := by omega
      have w2' : IntKind.i64.wrap ((r.length : Int) + 1 - 1) = (r.length : Int) := by rw [wrap_i64] <;> omega
      clear hown
      go_wp2
      go_ret
      exact ⟨some ⟨g, 0, none⟩, c1, by simp, by simpa using HPo.out, hE⟩


end Go.Proofs.Ytogbfhhioicbmaa
