/-
  The hull of points that stand in order: the reference's walk; the points of the terms.
-/
import Derived.Test.YtogbfhhioicbmaaHullS
import Derived.Test.YtogbfhhioicbmaaHullI
import Derived.Test.YtogbfhhioicbmaaPlane
import Derived.Test.YtogbfhhioicbmaaCellP
import Derived.Deep.RegionHeld3
namespace Go.Proofs.Ytogbfhhioicbmaa
open Go.RowKit

/-- The points of the terms. -/
def ptsL (zs : List (Int × Int × Int)) : List (Int × Int) := zs.map fun t => (t.1, t.2.1)
theorem ptsL_len (zs : List (Int × Int × Int)) : (ptsL zs).length = zs.length := by simp [ptsL]
theorem ptsL_pat {zs : List (Int × Int × Int)} {k : Nat} (h : k < zs.length) : pat (ptsL zs) k = ((tat zs k).1, (tat zs k).2.1) := by
  rw [pat_eq (by rw [ptsL_len]; exact h), show tat zs k = zs[k] by simp [tat, List.getD, h]]; simp [ptsL]
theorem ptsL_pI {zs : List (Int × Int × Int)} {k : Nat} (h : k < zs.length) : pat (ptsL zs) k = pI zs k := by
  rw [ptsL_pat h]; rfl
theorem ptsL_take {zs : List (Int × Int × Int)} {k : Nat} (h : k < zs.length) : ptsL (zs.take (k + 1)) = ptsL (zs.take k) ++ [((tat zs k).1, (tat zs k).2.1)] := by
  rw [List.take_succ_eq_append_getElem h, show tat zs k = zs[k] by simp [tat, List.getD, h]]; simp only [ptsL, List.map_append, List.map_cons, List.map_nil]
theorem pts_lex {zs : List (Int × Int × Int)} (h : planeB zs = true) {i j : Nat} (hij : i < j) (hj : j < zs.length) : lexP (pI zs i) (pI zs j) := by
  obtain ⟨_, _, hs⟩ := plane_step h
  have one : ∀ k, k + 1 < zs.length → lexP (pI zs k) (pI zs (k + 1)) := by
    intro k hk
    have := hs (k + 1) hk
    simp only [tstepB, Bool.and_eq_true, Bool.or_eq_true, Nat.add_sub_cancel] at this
    have h2 := this.2.resolve_left (by simp)
    unfold tbefB at h2
    simp only [Bool.or_eq_true, Bool.and_eq_true, decide_eq_true_eq] at h2
    unfold lexP lexV pI
    unfold tat at h2
    simp only
    omega
  obtain ⟨d, rfl⟩ : ∃ d, j = i + 1 + d := ⟨j - i - 1, by omega⟩
  clear hij
  induction d with
  | zero => exact one i hj
  | succ d ih => exact lexP_trans (ih (by omega)) (one (i + 1 + d) (by omega))
theorem pts_sorted {zs : List (Int × Int × Int)} (h : planeB zs = true) : (ptsL zs).Pairwise lexP := by
  rw [List.pairwise_iff_getElem]
  intro i j hi hj hij
  rw [ptsL_len] at hi hj
  rw [← pat_eq, ← pat_eq, ptsL_pI hi, ptsL_pI hj]
  exact pts_lex h hij hj
theorem pts_bd {zs : List (Int × Int × Int)} (h : planeB zs = true) {k : Nat} (hk : k < zs.length) : (0 ≤ (pI zs k).1 ∧ 0 ≤ (pI zs k).2 ∧ (pI zs k).1 + (pI zs k).2 ≤ 6) ∧ (-1000000 ≤ cI zs k ∧ cI zs k ≤ 1000000) := by
  have := termB_true.1 (plane_term h hk)
  have h3 := finB_true.1 this.2.2
  unfold tat at this h3
  unfold pI cI
  simp only
  omega
theorem pts_PB {zs : List (Int × Int × Int)} (h : planeB zs = true) : ∀ z ∈ ptsL zs, PB z := by
  intro z hz
  obtain ⟨k, hk, rfl⟩ := List.mem_iff_getElem.1 hz
  rw [ptsL_len] at hk
  rw [← pat_eq, ptsL_pI hk]
  have := (pts_bd h hk).1
  unfold PB
  omega
theorem hullL_len {l : List (Int × Int)} : (hullL l).length ≤ l.length + l.length := by
  unfold hullL
  split
  · omega
  · have h1 := chainR_len l
    have h2 := chainR_len l.reverse
    simp at h1 h2 ⊢; omega
def gP (t : Bool) (l : List (Int × Int)) : List (Int × Int) := if t then l else []
theorem gP_le {t : Bool} {l : List (Int × Int)} {k : Nat} (h : l.length ≤ k) : (gP t l).length ≤ k := by unfold gP; split <;> simp [h]
/-- A slice of points of the call's own, and a truth. -/
def OwnsPtsB (B : Nat) (zs : List (Int × Int)) (ok : Bool) (w : World) (r : Ending) (w' : World) : Prop :=
  ∃ a c, r = .returned (.tuple #[.slice a zs.length c, .bool ok]) ∧ w'.ownsRow B 99 2 (.slice a zs.length c) zs.length (pv zs) ∧ Ext w w'
set_option maxHeartbeats 4000000 in
theorem pyHull_any (a : Option Addr) (n c : Nat) (zs : List (Int × Int)) (hn : n ≤ 1000) (hs : zs.Pairwise lexP) (hz : ∀ z ∈ zs, PB z) (w : World) (h : Reads w a 2 n (pv zs)) :
    Calls Try.prog 69 #[.slice a n c] w (OwnsPts w.heap.size (hullL zs) w) := by
  have hl : zs.length = n := by have := h.1; rw [pv_len] at this; omega
  subst hl
  have HZ := Lib.hid hz
  have HC := Lib.hid (pySorted_any a zs.length c zs hn hs w h)
  obtain ⟨i0, hz1, hz2, hz3, hz4⟩ := info_parts point_info
  have HZI := Lib.hid (And.intro hz1 (And.intro hz2 (And.intro hz3 hz4)))
  clear hz1 hz2 hz3 hz4 hs hz h
  go_enter Try.func69, Try.ntmps69
  go_wp2_with fail
  refine HC.out.mono ?_
  rintro e w1 ⟨a1, c1, rfl, hown1, hE1⟩
  clear HC
  by_cases h2 : zs.length < 2
  · have HH := Lib.hid (show hullL zs = zs by unfold hullL; rw [if_pos h2])
    go_wp2
    go_ret
    exact ⟨a1, c1, by rw [HH.out] <;> rfl, by rw [HH.out]; exact hown1, hE1⟩
  · have HH := Lib.hid (show hullL zs = (chainR zs).tail.reverse ++ (chainR zs.reverse).tail.reverse by unfold hullL; rw [if_neg h2])
    obtain ⟨g, rfl, hg1, hg2⟩ := own_head hown1 (by omega)
    have hne : zs ≠ [] := by rintro rfl; simp at h2
    have hne2 : zs.reverse ≠ [] := by simpa using hne
    have HP1 := Lib.hid (chainR_pos hne)
    have HP2 := Lib.hid (chainR_pos hne2)
    have HL1 := Lib.hid (show (chainR zs).length ≤ 1000 by have := chainR_len zs; omega)
    have HL2 := Lib.hid (show (chainR zs.reverse).length ≤ 1000 by have := chainR_len zs.reverse; simp at this; omega)
    have HA := Lib.hid (fun w h => pyHalf_any (some ⟨g, 0, none⟩) zs.length c1 zs (by omega) HZ.out w h)
    have HB := Lib.hid (fun a c w h => pyHalf_any a zs.length c zs.reverse (by omega) (fun z hz => HZ.out z (List.mem_reverse.1 hz)) w h)
    clear hne hne2 HZ
    generalize chainR zs = A at *
    generalize chainR zs.reverse = D at *
    go_wp2_with fail
    refine (HA.out _ (own_reads hown1)).mono ?_
    rintro e w2 ⟨a2, c2, rfl, hownA, hb2⟩
    have hown2 := own_ext hb2 hown1
    have hE2 := hE1.trans hb2
    clear hb2 HA hown1
    have HOA := Lib.hid hownA
    have HO2 := Lib.hid hown2
    clear hownA hown2
    have wz : IntKind.i64.wrap ((zs.length : Int) - 1) = (zs.length : Int) - 1 := by rw [wrap_i64] <;> omega
    go_wp2
    go_loopw [5, 6] (fun s t wr => ∃ (k : Nat) (a3 : Option Addr) (c3 : Nat), k ≤ zs.length ∧ t = .int .i64 ((zs.length : Int) - 1 - k) ∧ s = .slice a3 k c3 ∧ wr.ownsRow w2.heap.size 99 2 (.slice a3 k c3) k (pv (zs.reverse.take k)) ∧ Ext w2 wr) (fun _ t _ => (intOf t + 1).toNat)
    case atStart => exact ⟨0, none, 0, Nat.zero_le _, by simp, rfl, own_nonePt _ _, Ext.refl _⟩
    case round =>
      obtain ⟨k, a3, c3, hk, rfl, rfl, hown, hE⟩ := hrel
      by_cases hlt : k < zs.length
      · obtain ⟨m, hm⟩ : ∃ m, m = zs.length - 1 - k := ⟨_, rfl⟩
        have hmi : (zs.length : Int) - 1 - k = (m : Int) := by omega
        rw [hmi]
        obtain ⟨_, _, e1, x0, x1⟩ := (own_reads (own_ext hE HO2.out)).pair (k := m) (by omega)
        simp only [Option.some.injEq, Addr.mk.injEq, and_true] at e1
        obtain ⟨rfl, rfl⟩ := e1
        have HT := Lib.hid (show zs.reverse.take (k + 1) = zs.reverse.take k ++ [pat zs m] by
          rw [List.take_succ_eq_append_getElem (by simpa using hlt), List.getElem_reverse, pat_eq (by omega)]
          simp only [hm])
        have hmz : m < zs.length := by omega
        have HM := Lib.hid hm
        generalize pat zs m = p at *
        obtain ⟨p1, p2⟩ := p
        simp only [Nat.zero_add] at x0 x1
        clear hm hmi
        go_wp2_with (at_builtin; go_must (refine wpList_appQ rfl _ _ rfl w2 w2.heap.size _ _ _ (zs.reverse.take k) rfl (own_ext (Ext.alloc (Ext.refl _) _) hown) ⟨_, 0, none⟩ 1 1 [(p1, p2)] rfl rfl (one_cells (by simp) (by simp)) (by omega) (by omega) (by have := hE.size; simp <;> omega) (Ext.alloc hE _) (Nat.le_refl _) ?_))
        intro a4 c4 w4 hown4 hE4
        go_wp2
        go_roundw
        case rel => exact ⟨k + 1, a4, c4, by omega, congrArg (Value.int .i64) (by have := HM.out; omega), by simp, by rw [HT.out]; exact hown4, hE4⟩
        case measure => simp [intOf] <;> omega
      · obtain rfl : k = zs.length := by omega
        have e : zs.reverse.take zs.length = zs.reverse := List.take_of_length_le (by simp)
        rw [e] at hown
        have hk0 : ¬ (0 : Int) ≤ (zs.length : Int) - 1 - zs.length := by omega
        have hk1 : decide ((0 : Int) ≤ (zs.length : Int) - 1 - zs.length) = false := by simp; omega
        rw [show (zs.length : Int) - 1 - zs.length = -1 by omega] at *
        go_wp2_with fail
        refine (HB.out a3 c3 _ (own_reads hown)).mono ?_
        rintro e w3 ⟨a5, c5, rfl, hownB, hb3⟩
        have hE3 := hE.trans hb3
        have hEw := hE2.trans hE3
        obtain ⟨x, A', rfl⟩ : ∃ x A', A = x :: A' := by
          match A, HP1.out with
          | x :: A', _ => exact ⟨x, A', rfl⟩
        obtain ⟨y, D', rfl⟩ : ∃ y D', D = y :: D' := by
          match D, HP2.out with
          | y :: D', _ => exact ⟨y, D', rfl⟩
        have l1 := HL1.out
        have l2 := HL2.out
        have hownA3 := own_ext hE3 HOA.out
        simp only [List.length_reverse, List.length_cons] at hownA3 hownB l1 l2 ⊢
        obtain ⟨ga, rfl, _, _⟩ := own_head hownA3 (by omega)
        obtain ⟨gb, rfl, _, _⟩ := own_head hownB (by omega)
        have capA := (own_capQ hownA3).1
        have capB := (own_capQ hownB).1
        have HRA := Lib.hid (fun w' (z : Ext w3 w') => show Reads w' (some ⟨ga, 0, none⟩) 2 A'.length (pv A'.reverse) by
          have := (own_reads (own_ext z hownA3)).take (k := A'.length) (by omega)
          rwa [pv_pop] at this)
        have HRB := Lib.hid (fun w' (z : Ext w3 w') => show Reads w' (some ⟨gb, 0, none⟩) 2 D'.length (pv D'.reverse) by
          have := (own_reads (own_ext z hownB)).take (k := D'.length) (by omega)
          rwa [pv_pop] at this)
        have wA : IntKind.i64.wrap (A'.length : Int) = (A'.length : Int) := by rw [wrap_i64] <;> omega
        have wB : IntKind.i64.wrap (D'.length : Int) = (D'.length : Int) := by rw [wrap_i64] <;> omega
        have zA : (0 : Int) ≤ (A'.length : Int) := by omega
        have zB : (0 : Int) ≤ (D'.length : Int) := by omega
        have cA : A'.length ≤ c2 := by omega
        have cA2 : (A'.length : Int) ≤ (c2 : Int) := by omega
        have cB2 : (D'.length : Int) ≤ (c5 : Int) := by omega
        have cB : D'.length ≤ c5 := by omega
        clear hownA3 hownB HOA HO2 hown hE hb3 hE3 hE2 HP1 HP2 HL1 HL2 capA capB HB
        go_wp2
        go_region_held3 (fun w' => Ext w3 w') (first | exact HE4.out | exact HE3.out | (repeat (first | exact Ext.refl _ | assumption | apply Ext.alloc | apply Ext.drew | apply Ext.drewN | (refine Ext.trans ?_ (by assumption)) | (refine Ext.setCell ?_ (by (try simp) <;> omega) _)))) (first | (have t3 := H3; clear t3; refine step_app_N _ (by rfl) _ _ 56 (by rfl) w3.heap.size 99 i0 _ 2 16 Try.underlying56 HZI.out.1 HZI.out.2.1 HZI.out.2.2.1 HZI.out.2.2.2 rfl (by omega) (A'.length + D'.length) (.slice _ _ _) _ _ (by rfl) H3.out _ _ _ _ (by rfl) (HRB.out _ HE3.out) (pv_one _) (by omega) (by unfold maxLen; omega) (by omega) (Ext.size HE3.out) ?_; intro a8 c8 w8 hown8 hg8; have H4 := Lib.hid hown8; have HE4 := Lib.hid (Ext.grown (a := w3) HE3.out hg8 (fun k hk => (H3.out.lt k hk).1)); clear hown8 hg8) | (refine step_app_N _ (by rfl) _ _ 56 (by rfl) w3.heap.size 99 i0 _ 2 16 Try.underlying56 HZI.out.1 HZI.out.2.1 HZI.out.2.2.1 HZI.out.2.2.2 rfl (by omega) (A'.length) (.slice (some ⟨_, 0, none⟩) 0 0) 0 [] (by rfl) (own_emptyH w3 rfl rfl rfl (Nat.le_refl _)) _ _ _ _ (by rfl) (HRA.out _ (by repeat (first | exact Ext.refl _ | assumption | apply Ext.alloc | apply Ext.drew | apply Ext.drewN | (refine Ext.trans ?_ (by assumption)) | (refine Ext.setCell ?_ (by (try simp) <;> omega) _)))) (pv_one _) (by omega) (by unfold maxLen; omega) (by omega) (Ext.size (w := w3) (by repeat (first | exact Ext.refl _ | assumption | apply Ext.alloc | apply Ext.drew | apply Ext.drewN | (refine Ext.trans ?_ (by assumption)) | (refine Ext.setCell ?_ (by (try simp) <;> omega) _)))) ?_; intro a7 c7 w7 hown7 hg7; have H3 := Lib.hid hown7; have HE3 := Lib.hid (Ext.grown (a := w3) (by repeat (first | exact Ext.refl _ | assumption | apply Ext.alloc | apply Ext.drew | apply Ext.drewN | (refine Ext.trans ?_ (by assumption)) | (refine Ext.setCell ?_ (by (try simp) <;> omega) _))) hg7 (fun k hk => by simp [Value.ownBlock] at hk; omega)); clear hown7 hg7))
        go_wp2
        go_ret
        exact ⟨a8, c8, by rw [HH.out]; simp, by rw [HH.out]; simpa [pv_append] using own_mono (Ext.size hEw) H4.out, hEw.trans HE4.out⟩
set_option maxHeartbeats 1000000 in
theorem plPoints_any (a : Option Addr) (n c : Nat) (zs : List (Int × Int × Int)) (hn : n ≤ 1000) (w : World) (h : Reads w a 3 n (tv zs)) :
    Calls Try.prog 70 #[.slice a n c] w (OwnsPts w.heap.size (ptsL zs) w) := by
  have hl : zs.length = n := by have := h.1; rw [tv_len] at this; omega
  subst hl
  go_enter Try.func70, Try.ntmps70
  go_wp2
  go_loopw [3, 8] (fun s t wr => ∃ (k : Nat) (a1 : Option Addr) (c1 : Nat), k ≤ zs.length ∧ t = .int .i64 k ∧ s = .slice a1 k c1 ∧ wr.ownsRow w.heap.size 99 2 (.slice a1 k c1) k (pv (ptsL (zs.take k))) ∧ Ext w wr) (fun _ t _ => zs.length - (intOf t).toNat)
  case atStart => exact ⟨0, none, 0, Nat.zero_le _, rfl, rfl, own_nonePt _ _, Ext.refl _⟩
  case round =>
    obtain ⟨k, a1, c1, hk, rfl, rfl, hown, hE⟩ := hrel
    by_cases hlt : k < zs.length
    · obtain ⟨b, off, rfl, hp0, hp1, hp2⟩ := (Reads.ext hE h).tri hlt
      have HT := Lib.hid (ptsL_take hlt)
      generalize (tat zs k).1 = x at *
      generalize (tat zs k).2.1 = y at *
      generalize (tat zs k).2.2 = z at *
      have hsz := hE.size
      go_wp2_with (at_builtin; go_must (refine wpList_appQ rfl _ _ rfl w w.heap.size _ _ _ (ptsL (zs.take k)) rfl (own_ext (Ext.alloc (Ext.alloc (Ext.refl _) _) _) hown) ⟨_, 0, none⟩ 1 1 [(x, y)] rfl rfl (one_cells (by simp) (by simp)) (by omega) (by omega) (by simp; omega) (Ext.alloc (Ext.alloc hE _) _) (Nat.le_refl _) ?_))
      intro a4 c4 w4 hown4 hE4
      go_wp2
      go_roundw
      case rel => exact ⟨k + 1, a4, c4, by omega, by go_num, by simp, by rw [HT.out]; exact hown4, hE4⟩
      case measure => simp [intOf]; omega
    · obtain rfl : k = zs.length := by omega
      rw [List.take_length] at hown
      go_wp2
      go_ret
      exact ⟨a1, c1, by rw [ptsL_len] <;> rfl, by rw [ptsL_len]; exact hown, hE⟩
set_option maxHeartbeats 1000000 in
theorem pointsOf_any (a : Option Addr) (n c : Nat) (zs : List (Int × Int × Int)) (hn : n ≤ 1000) (w : World) (h : Reads w a 3 n (tv zs)) :
    Calls Try.prog 72 #[.slice a n c] w (OwnsPts w.heap.size (ptsL zs) w) := by
  have hl : zs.length = n := by have := h.1; rw [tv_len] at this; omega
  subst hl
  go_enter Try.func72, Try.ntmps72
  go_wp2
  go_loopw [3, 9] (fun s t wr => ∃ (k : Nat) (a1 : Option Addr) (c1 : Nat), k ≤ zs.length ∧ t = .int .i64 k ∧ s = .slice a1 k c1 ∧ wr.ownsRow w.heap.size 99 2 (.slice a1 k c1) k (pv (ptsL (zs.take k))) ∧ Ext w wr) (fun _ t _ => zs.length - (intOf t).toNat)
  case atStart => exact ⟨0, some ⟨w.heap.size, 0, none⟩, 0, Nat.zero_le _, rfl, rfl, World.ownsRow_lit w #[] 0 (Nat.le_refl _) (by unfold maxLen; omega) rfl, (by repeat (first | exact Ext.refl _ | assumption | apply Ext.alloc | apply Ext.drew | apply Ext.drewN | (refine Ext.trans ?_ (by assumption)) | (refine Ext.setCell ?_ (by (try simp) <;> omega) _)))⟩
  case round =>
    obtain ⟨k, a1, c1, hk, rfl, rfl, hown, hE⟩ := hrel
    by_cases hlt : k < zs.length
    · obtain ⟨b, off, rfl, hp0, hp1, hp2⟩ := (Reads.ext hE h).tri hlt
      have HT := Lib.hid (ptsL_take hlt)
      generalize (tat zs k).1 = x at *
      generalize (tat zs k).2.1 = y at *
      generalize (tat zs k).2.2 = z at *
      have hsz := hE.size
      go_wp2_with (at_builtin; go_must (refine wpList_appQ rfl _ _ rfl w w.heap.size _ _ _ (ptsL (zs.take k)) rfl (own_ext (Ext.alloc (Ext.alloc (Ext.refl _) _) _) hown) ⟨_, 0, none⟩ 1 1 [(x, y)] rfl rfl (one_cells (by simp) (by simp)) (by omega) (by omega) (by simp; omega) (Ext.alloc (Ext.alloc hE _) _) (Nat.le_refl _) ?_))
      intro a4 c4 w4 hown4 hE4
      go_wp2
      go_roundw
      case rel => exact ⟨k + 1, a4, c4, by omega, by go_num, by simp, by rw [HT.out]; exact hown4, hE4⟩
      case measure => simp [intOf]; omega
    · obtain rfl : k = zs.length := by omega
      rw [List.take_length] at hown
      go_wp2
      go_ret
      exact ⟨a1, c1, by rw [ptsL_len] <;> rfl, by rw [ptsL_len]; exact hown, hE⟩
set_option maxHeartbeats 1000000 in
set_option maxRecDepth 100000 in
theorem spec_NewtonPolygon_any (a : Option Addr) (n c : Nat) (zs : List (Int × Int × Int)) (hn : n ≤ 1048576) (w : World) (h : Reads w a 3 n (tv zs)) :
    Calls Try.prog 30 #[.slice a n c] w (OwnsPtsB w.heap.size (gP (planeB zs) (hullL (ptsL zs))) (planeB zs) w) := by
  have hl : zs.length = n := by have := h.1; rw [tv_len] at this; omega
  subst hl
  cases hp : planeB zs
  · go_enter Try.func30, Try.ntmps30
    go_wp2_with fail
    refine (plGood_any _ _ _ zs (by omega) _ h).mono ?_
    rw [hp]
    rintro e w1 ⟨rfl, hb1⟩
    go_wp2
    go_ret2
    exact ⟨none, 0, rfl, own_nonePt _ _, hb1⟩
  · have hs := plane_step hp
    have HS := Lib.hid (pts_sorted hp)
    have HB := Lib.hid (pts_PB hp)
    have HL := Lib.hid (ptsL_len zs)
    go_enter Try.func30, Try.ntmps30
    go_wp2_with fail
    refine (plGood_any _ _ _ zs (by omega) _ h).mono ?_
    rw [hp]
    rintro e w1 ⟨rfl, hb1⟩
    go_wp2_with fail
    refine (plPoints_any _ _ _ zs (by omega) _ (h.ext hb1)).mono ?_
    rintro e w2 ⟨a2, c2, rfl, hown2, hE2⟩
    rw [HL.out] at hown2 ⊢
    obtain ⟨g, rfl, hg1, hg2⟩ := own_head hown2 (by omega)
    go_wp2_with fail
    have HQ := pyHull_any (some ⟨g, 0, none⟩) zs.length c2 (ptsL zs) (by omega) HS.out HB.out w2 (own_reads hown2)
    refine HQ.mono ?_
    rintro e w3 ⟨a3, c3, rfl, hown3, hE3⟩
    have hEz := (hb1.trans hE2)
    go_wp2
    go_ret2
    exact ⟨a3, c3, by rfl, by simpa [gP] using own_mono (Ext.size hEz) hown3, hEz.trans hE3⟩
set_option maxHeartbeats 1000000 in
set_option maxRecDepth 100000 in
theorem impl_NewtonPolygon_any (a : Option Addr) (n c : Nat) (zs : List (Int × Int × Int)) (hn : n ≤ 1048576) (w : World) (h : Reads w a 3 n (tv zs)) :
    Calls Try.prog 31 #[.slice a n c] w (OwnsPtsB w.heap.size (gP (planeB zs) (hullL (ptsL zs))) (planeB zs) w) := by
  have hl : zs.length = n := by have := h.1; rw [tv_len] at this; omega
  subst hl
  cases hp : planeB zs
  · go_enter Try.func31, Try.ntmps31
    go_wp2_with fail
    refine (isPlane_any _ _ _ zs (by omega) _ h).mono ?_
    rw [hp]
    rintro e w1 ⟨rfl, hb1⟩
    go_wp2
    go_ret2
    exact ⟨none, 0, rfl, own_nonePt _ _, hb1⟩
  · have hs := plane_step hp
    have HS := Lib.hid (pts_sorted hp)
    have HB := Lib.hid (pts_PB hp)
    have HL := Lib.hid (ptsL_len zs)
    go_enter Try.func31, Try.ntmps31
    go_wp2_with fail
    refine (isPlane_any _ _ _ zs (by omega) _ h).mono ?_
    rw [hp]
    rintro e w1 ⟨rfl, hb1⟩
    go_wp2_with fail
    refine (pointsOf_any _ _ _ zs (by omega) _ (h.ext hb1)).mono ?_
    rintro e w2 ⟨a2, c2, rfl, hown2, hE2⟩
    rw [HL.out] at hown2 ⊢
    obtain ⟨g, rfl, hg1, hg2⟩ := own_head hown2 (by omega)
    go_wp2_with fail
    have HQ := hull_any g 0 zs.length c2 (ptsL zs) (by omega) (by omega) HS.out HB.out w2 (own_reads hown2)
    refine HQ.mono ?_
    rintro e w3 ⟨a3, c3, rfl, hown3, hE3⟩
    have hEz := (hb1.trans hE2)
    go_wp2
    go_ret2
    exact ⟨a3, c3, by rfl, by simpa [gP] using own_mono (Ext.size hEz) hown3, hEz.trans hE3⟩
end Go.Proofs.Ytogbfhhioicbmaa
