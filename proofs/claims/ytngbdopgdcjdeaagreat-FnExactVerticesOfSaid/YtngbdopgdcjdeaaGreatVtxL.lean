/-
  VerticesOf: both sides, the law's walk.
-/
import Derived.Test.YtngbdopgdcjdeaaGreatVerL
import Derived.BigQuiet
namespace Go.Proofs.YtngbdopgdcjdeaaGreat
open Go.RowKit

/-- The vertices of the cells. -/
def verQ (zs : List (Int × Int × Int)) (x : List Int) : Int × Int × Int × Int := (lowN (verX zs x) (verD zs x), lowD (verX zs x) (verD zs x), lowN (verY zs x) (verD zs x), lowD (verY zs x) (verD zs x))
def versL (zs : List (Int × Int × Int)) : List (Int × Int × Int × Int) := (cellsL zs).map (verQ zs)
def gQ (t : Bool) (l : List (Int × Int × Int × Int)) : List (Int × Int × Int × Int) := if t then l else []
theorem gQ_le {t : Bool} {l : List (Int × Int × Int × Int)} {k : Nat} (h : t = true → l.length ≤ k) : (gQ t l).length ≤ k := by
  cases t
  · simp [gQ]
  · simpa [gQ] using h rfl
theorem vers_take {zs : List (Int × Int × Int)} {k : Nat} (h : k < (cellsL zs).length) : ((cellsL zs).take (k + 1)).map (verQ zs) = ((cellsL zs).take k).map (verQ zs) ++ [verQ zs ((cellsL zs).getD k [])] := by
  rw [List.take_succ_eq_append_getElem h, List.map_append]
  simp [List.getD, h]
/-- A slice of spots of the call's own; with a truth. -/
def OwnsSp (B : Nat) (zs : List (Int × Int × Int × Int)) (w : World) (r : Ending) (w' : World) : Prop :=
  ∃ a c, r = .returned (.slice a zs.length c) ∧ w'.ownsRow B 37 4 (.slice a zs.length c) zs.length (qv zs) ∧ Ext w w'
def OwnsSpB (B : Nat) (zs : List (Int × Int × Int × Int)) (ok : Bool) (w : World) (r : Ending) (w' : World) : Prop :=
  ∃ a c, r = .returned (.tuple #[.slice a zs.length c, .bool ok]) ∧ w'.ownsRow B 37 4 (.slice a zs.length c) zs.length (qv zs) ∧ Ext w w'
set_option maxHeartbeats 2000000 in
theorem vertices_any (B g : Nat) (a : Option Addr) (n c : Nat) (zs : List (Int × Int × Int)) (hZ : PZ zs) (w : World) (h : SubD w B g a n c zs) :
    Calls Tryz.prog 58 #[.pointer (some ⟨g, 0, none⟩)] w (OwnsSp w.heap.size (versL zs) w) := by
  have HD := Lib.hid h
  have hN2 := cells_most hZ
  obtain ⟨pa, pc, s, e, b, mm, B1, ps0, qs, hsg, _, _, _, hol, hqs, _⟩ := h
  obtain ⟨ea, ec, rfl⟩ := hol.form
  have hc2 := hsg.c2
  have hgl := hsg.lt
  have hps : ps0.length = (cellsL zs).length := by rw [← hqs, List.length_map]
  rw [hps] at hc2
  have HZ := Lib.hid hZ
  clear hsg hol hqs hZ hps
  obtain ⟨N, hN⟩ : ∃ N, N = (cellsL zs).length := ⟨_, rfl⟩
  rw [← hN] at hc2 hN2
  have HN := Lib.hid hN
  clear hN
  have HL := Lib.hid (show versL zs = ((cellsL zs).take N).map (verQ zs) by rw [HN.out, List.take_length]; rfl)
  have HLL := Lib.hid (show (versL zs).length = N by unfold versL; rw [List.length_map, HN.out])
  go_enter Tryz.func58, Tryz.ntmps58
  go_wp2
  go_loopw [3, 11] (fun s t wr => ∃ (k : Nat) (a1 : Option Addr) (c1 : Nat), k ≤ N ∧ t = .int .i64 k ∧ s = .slice a1 k c1 ∧ wr.ownsRow w.heap.size 37 4 (.slice a1 k c1) k (qv (((cellsL zs).take k).map (verQ zs))) ∧ Ext w wr) (fun _ t _ => N - (intOf t).toNat)
  case atStart => exact ⟨0, _, 0, Nat.zero_le _, rfl, rfl, own_empty _ _ _ _ (Nat.le_refl _), Ext.alloc (Ext.refl _) _⟩
  case round =>
    obtain ⟨k, a1, c1, hk, rfl, rfl, hown, hE⟩ := hrel
    by_cases hlt : k < N
    · have hko : k < (cellsL zs).length := by rw [← HN.out]; exact hlt
      have HT := Lib.hid (vers_take hko)
      have HKO := Lib.hid hko
      clear hko
      have HOW := Lib.hid hown
      have HEE := Lib.hid hE
      have HDr := Lib.hid (HD.out.ext hE)
      have hsz := hE.size
      clear hown hE
      go_wp2_with fail
      refine (vertex_any B g a n c k zs HZ.out HKO.out wr HDr.out).mono ?_
      rintro e w2 ⟨rfl, hb⟩
      have HE2 := Lib.hid (HEE.out.trans hb)
      have HO2 := Lib.hid (own_ext hb HOW.out)
      have hs2 := HE2.out.size
      clear hb HOW HEE HDr HKO
      have HT2 := Lib.hid (show ((cellsL zs).take (k + 1)).map (verQ zs) = ((cellsL zs).take k).map (verQ zs) ++ [(_, _, _, _)] from HT.out)
      clear HT
      generalize ((cellsL zs).take k).map (verQ zs) = ps at *
      generalize (cellsL zs).getD k [] = x at *
      generalize lowN (verX zs x) (verD zs x) = y0 at *
      generalize lowD (verX zs x) (verD zs x) = y1 at *
      generalize lowN (verY zs x) (verD zs x) = y2 at *
      generalize lowD (verY zs x) (verD zs x) = y3 at *
      go_wp2_with (at_builtin; go_must (refine wpList_appS rfl _ _ rfl w w.heap.size _ _ _ ps rfl (own_ext (Ext.alloc (Ext.refl _) _) HO2.out) ⟨_, 0, none⟩ 1 1 [(y0, y1, y2, y3)] rfl rfl (one_cells4 (by simp) (by simp) (by simp) (by simp)) (by omega) (by omega) (by simp; omega) (Ext.alloc HE2.out _) (Nat.le_refl _) ?_))
      intro a4 c4 w4 hown4 hE4
      go_wp2
      go_roundw
      case rel => exact ⟨k + 1, a4, c4, by omega, by go_num, by simp, by rw [HT2.out]; exact hown4, hE4⟩
      case measure => simp [intOf]; omega
    · obtain rfl : k = N := by omega
      rw [← HL.out] at hown
      have HO := Lib.hid hown
      have HE := Lib.hid hE
      clear hown hE
      go_wp2
      go_ret
      exact ⟨a1, c1, by rw [HLL.out] <;> rfl, by rw [HLL.out]; exact HO.out, HE.out⟩
theorem impl_VerticesOf_any (a : Option Addr) (n c : Nat) (zs : List (Int × Int × Int)) (hn : n ≤ 1048576) (w : World) (h : Reads w a 3 n (tv zs)) :
    Calls Tryz.prog 27 #[.slice a n c] w (OwnsSpB w.heap.size (gQ (planeB zs) (versL zs)) (planeB zs) w) := by
  cases hp : planeB zs
  · simp only [gQ, Bool.false_eq_true, if_false]
    go_enter Tryz.func27, Tryz.ntmps27
    go_wp2_with fail
    refine (subdivided_no _ _ _ zs hn hp _ h).mono ?_
    rintro e w1 ⟨rfl, hb1⟩
    go_wp2
    go_ret2
    exact ⟨_, _, rfl, own_noneSp _ _, hb1⟩
  · simp only [gQ, if_true]
    have HZ := Lib.hid (pz_of hp)
    go_enter Tryz.func27, Tryz.ntmps27
    go_wp2_with fail
    refine (subdivided_yes _ _ _ zs hn hp _ h).mono ?_
    rintro e w1 ⟨g, rfl, hs, hb1⟩
    have HD := Lib.hid hs
    have HE := Lib.hid hb1
    clear hs hb1 h
    go_wp2_with fail
    refine (vertices_any _ g a n c zs HZ.out w1 HD.out).mono ?_
    rintro e w2 ⟨a2, c2, rfl, ho2, hE2⟩
    have HO2 := Lib.hid (own_mono HE.out.size ho2)
    have HE2 := Lib.hid (HE.out.trans hE2)
    clear ho2 hE2
    go_wp2
    go_ret2
    exact ⟨a2, c2, rfl, HO2.out, HE2.out⟩
set_option maxHeartbeats 2000000 in
theorem spec_VerticesOf_any (a : Option Addr) (n c : Nat) (zs : List (Int × Int × Int)) (hn : n ≤ 1048576) (w : World) (h : Reads w a 3 n (tv zs)) :
    Calls Tryz.prog 26 #[.slice a n c] w (OwnsSpB w.heap.size (gQ (planeB zs) (versL zs)) (planeB zs) w) := by
  have hl : zs.length = n := by have := h.1; rw [tv_len] at this; omega
  cases hp : planeB zs
  · simp only [gQ, Bool.false_eq_true, if_false]
    go_enter Tryz.func26, Tryz.ntmps26
    go_wp2_with fail
    refine (plGood_any _ _ _ zs (by omega) _ h).mono ?_
    rw [hp]
    rintro e w1 ⟨rfl, hb1⟩
    go_wp2
    go_ret2
    exact ⟨_, _, rfl, own_noneSp _ _, hb1⟩
  · simp only [gQ, if_true]
    have HZ := Lib.hid (pz_of hp)
    have hn12 : n ≤ 12 := by rw [← hl]; exact HZ.out.1
    have HB := Lib.hid (fun m (hm : m < n) => HZ.out.2.1 m (by rw [hl]; exact hm))
    go_enter Tryz.func26, Tryz.ntmps26
    go_wp2_with fail
    refine (plGood_any _ _ _ zs (by omega) _ h).mono ?_
    rw [hp]
    rintro e w1 ⟨rfl, hb1⟩
    have HH := Lib.hid (h.ext hb1)
    have HE := Lib.hid hb1
    clear h hb1
    go_wp2_with fail
    refine (ceOf_any _ _ _ zs hn12 HB.out w1 HH.out).mono ?_
    rintro e w2 ⟨a2, c2, us, rfl, ho2, hv2, hE2⟩
    obtain ⟨N, hN⟩ : ∃ N, N = (cellsL zs).length := ⟨_, rfl⟩
    have hN2 := cells_most HZ.out
    rw [← hN] at ho2 hN2 ⊢
    have HN := Lib.hid hN
    have HO2 := Lib.hid ho2
    have HV2 := Lib.hid hv2
    have HH2 := Lib.hid (Reads.ext hE2 HH.out)
    have HE2 := Lib.hid (HE.out.trans hE2)
    clear ho2 hv2 hE2 hN
    go_wp2
    have HL := Lib.hid (show versL zs = ((cellsL zs).take N).map (verQ zs) by rw [HN.out, List.take_length]; rfl)
    have HLL := Lib.hid (show (versL zs).length = N by unfold versL; rw [List.length_map, HN.out])
    go_loopw [4, 13] (fun s t wr => ∃ (k : Nat) (a1 : Option Addr) (c1 : Nat), k ≤ N ∧ t = .int .i64 k ∧ s = .slice a1 k c1 ∧ wr.ownsRow w2.heap.size 37 4 (.slice a1 k c1) k (qv (((cellsL zs).take k).map (verQ zs))) ∧ Ext w2 wr) (fun _ t _ => N - (intOf t).toNat)
    case atStart => exact ⟨0, none, 0, Nat.zero_le _, rfl, rfl, own_noneSp _ _, Ext.refl _⟩
    case round =>
      obtain ⟨k, a1, c1, hk, rfl, rfl, hown, hE⟩ := hrel
      by_cases hlt : k < N
      · have hko : k < (cellsL zs).length := by rw [← HN.out]; exact hlt
        have HT := Lib.hid (vers_take hko)
        have HX := Lib.hid (cell_at hko)
        obtain ⟨ak, ck, hvk, hrk⟩ := VA.at k (HV2.out.ext hE) hko
        obtain ⟨gc, rfl, _, hgc2⟩ := own_head HO2.out (by omega)
        have hck : wr.cell? ⟨gc, k, none⟩ = some (.slice ak ((cellsL zs).getD k []).length ck) := ((own_ext hE HO2.out).cellAt k (by omega)).trans hvk
        have HRK := Lib.hid hrk
        have HOW := Lib.hid hown
        have HEE := Lib.hid hE
        have HRr := Lib.hid (Reads.ext hE HH2.out)
        have hsz := hE.size
        clear hown hE hko hvk hrk
        generalize (cellsL zs).getD k [] = x at *
        go_wp2_with fail
        refine (cuVertex_any _ _ _ _ _ _ zs HZ.out x HX.out wr HRr.out HRK.out).mono ?_
        rintro e w3 ⟨rfl, hb⟩
        have HE3 := Lib.hid (HEE.out.trans hb)
        have HO3 := Lib.hid (own_ext hb HOW.out)
        have hs2 := HE3.out.size
        clear hb HOW HEE HRr hck
        have HT2 := Lib.hid (show ((cellsL zs).take (k + 1)).map (verQ zs) = ((cellsL zs).take k).map (verQ zs) ++ [(_, _, _, _)] from HT.out)
        clear HT
        generalize ((cellsL zs).take k).map (verQ zs) = ps at *
        generalize lowN (verX zs x) (verD zs x) = y0 at *
        generalize lowD (verX zs x) (verD zs x) = y1 at *
        generalize lowN (verY zs x) (verD zs x) = y2 at *
        generalize lowD (verY zs x) (verD zs x) = y3 at *
        go_wp2_with (at_builtin; go_must (refine wpList_appS rfl _ _ rfl w2 w2.heap.size _ _ _ ps rfl (own_ext (Ext.alloc (Ext.refl _) _) HO3.out) ⟨_, 0, none⟩ 1 1 [(y0, y1, y2, y3)] rfl rfl (one_cells4 (by simp) (by simp) (by simp) (by simp)) (by omega) (by omega) (by simp; omega) (Ext.alloc HE3.out _) (Nat.le_refl _) ?_))
        intro a4 c4 w4 hown4 hE4
        go_wp2
        go_roundw
        case rel => exact ⟨k + 1, a4, c4, by omega, by go_num, by simp, by rw [HT2.out]; exact hown4, hE4⟩
        case measure => simp [intOf]; omega
      · obtain rfl : k = N := by omega
        rw [← HL.out] at hown
        have HO := Lib.hid (own_mono HE2.out.size hown)
        have HE := Lib.hid (HE2.out.trans hE)
        clear hown hE
        go_wp2
        go_ret2
        exact ⟨a1, c1, by rw [HLL.out] <;> rfl, by rw [HLL.out]; exact HO.out, HE.out⟩
set_option maxHeartbeats 2000000 in
set_option maxRecDepth 100000 in
theorem law_VerticesOf (a0 : Option Addr) (n0 c0 : Nat) (zs : List (Int × Int × Int)) (w : World) (hr0 : IsTri w a0 n0 c0 zs) :
    Calls Tryz.prog 7 #[.slice a0 n0 c0] w fun r w' => r = .returned (.bool true) ∧ Ext w w' := by
  have h0 : Reads w a0 3 n0 (tv zs) := hr0.1
  have hc01 := hr0.2.1
  have hc02 := hr0.2.2.1
  unfold maxLen at hc02
  clear hr0
  have hl0 : zs.length = n0 := by have := h0.1; rw [tv_len] at this; omega
  by_cases hg0 : n0 ≤ 1048576
  rotate_left
  · go_enter Tryz.func7, Tryz.ntmps7
    go_wp2_with fail
    refine (szTermS_no _ _ _ _ (by omega) (by omega) (by omega) (by omega) _).mono ?_
    rintro e _ ⟨rfl, rfl⟩
    go_wp2
    go_ret
    exact ⟨rfl, (by repeat (first | exact Ext.refl _ | assumption | apply Ext.alloc | apply Ext.drew | apply Ext.drewN | (refine Ext.trans ?_ (by assumption)) | (refine Ext.setCell ?_ (by (try simp) <;> omega) _)))⟩
  have hm0 : n0 ≤ 1048576 := by omega
  obtain ⟨L, eL⟩ : ∃ L : List (Int × Int × Int × Int), L = (gQ (planeB zs) (versL zs)) := ⟨_, rfl⟩
  obtain ⟨ok, eok⟩ : ∃ ok : Bool, ok = (planeB zs) := ⟨_, rfl⟩
  have hlen : L.length ≤ 1048576 := by rw [eL]; exact gQ_le (fun h => by unfold versL; rw [List.length_map]; exact Nat.le_trans (cells_most (pz_of h)) (by omega))
  have HS := Lib.hid (show ∀ (b0 : Nat) w,Reads w (some ⟨b0, 0, none⟩) 3 n0 (tv zs) → Calls Tryz.prog 26 #[.slice (some ⟨b0, 0, none⟩) n0 n0] w (OwnsSpB w.heap.size L ok w) by rw [eL, eok]; intro b0 w h0; exact spec_VerticesOf_any _ _ _ zs (by omega) _ h0)
  have HI := Lib.hid (show ∀ (b0 : Nat) w,Reads w (some ⟨b0, 0, none⟩) 3 n0 (tv zs) → Calls Tryz.prog 27 #[.slice (some ⟨b0, 0, none⟩) n0 n0] w (OwnsSpB w.heap.size L ok w) by rw [eL, eok]; intro b0 w h0; exact impl_VerticesOf_any _ _ _ zs (by omega) _ h0)
  clear eL eok
  go_enter Tryz.func7, Tryz.ntmps7
  go_wp2_with fail
  refine (szTermS_yes _ _ _ _ (by omega) (by omega) _).mono ?_
  rintro e _ ⟨rfl, rfl⟩
  have hE : Ext w w := (by repeat (first | exact Ext.refl _ | assumption | apply Ext.alloc | apply Ext.drew | apply Ext.drewN | (refine Ext.trans ?_ (by assumption)) | (refine Ext.setCell ?_ (by (try simp) <;> omega) _)))
  go_wp2_with fail
  refine (toTermS_any _ _ _ zs hm0 _ (h0.ext hE)).mono ?_
  rintro e w1 ⟨gs0, rfl, xs0, hb⟩
  have hz1 := hb.size
  replace hE := Ext.trans hE hb
  clear hb
  have xs00 := xs0
  go_wp2_with fail
  refine (HS.out _ _ (own_reads xs0)).mono ?_
  rintro e w2 ⟨sa, sc, rfl, hs, hb⟩
  have hz2 := hb.size
  replace hE := Ext.trans hE hb
  replace xs0 := own_ext hb xs0
  clear hb
  have hs0 := hs
  clear xs0
  go_wp2_with fail
  refine (toTermS_any _ _ _ zs hm0 _ (h0.ext hE)).mono ?_
  rintro e w3 ⟨gp0, rfl, xp0, hb⟩
  have hz3 := hb.size
  replace hE := Ext.trans hE hb
  replace hs := own_ext hb hs
  clear hb
  have xp00 := xp0
  go_wp2_with fail
  refine (HI.out _ _ (own_reads xp0)).mono ?_
  rintro e w4 ⟨ga, gc, rfl, hg, hb⟩
  have hz4 := hb.size
  replace hE := Ext.trans hE hb
  replace hs := own_ext hb hs
  replace xp0 := own_ext hb xp0
  clear hb
  have hg0 := hg
  go_wp2_with fail
  refine (eqSpotS_same _ _ _ _ _ L (by omega) _ (own_reads hg) (own_reads hs)).mono ?_
  rintro e w5 ⟨rfl, hb⟩
  have hz5 := hb.size
  replace hE := Ext.trans hE hb
  replace hs := own_ext hb hs
  replace xp0 := own_ext hb xp0
  replace hg := own_ext hb hg
  clear hb
  go_wp2_with fail
  refine (toTermS_any _ _ _ zs hm0 _ (h0.ext hE)).mono ?_
  rintro e w6 ⟨gq0, rfl, xq0, hb⟩
  have hz6 := hb.size
  replace hE := Ext.trans hE hb
  replace hs := own_ext hb hs
  replace xp0 := own_ext hb xp0
  replace hg := own_ext hb hg
  clear hb
  have xq00 := xq0
  go_wp2_with fail
  refine (eqTermS_same _ _ _ _ _ zs (by omega) _ (own_reads xp0) (own_reads xq0)).mono ?_
  rintro e w7 ⟨rfl, hb⟩
  have hz7 := hb.size
  replace hE := Ext.trans hE hb
  replace hs := own_ext hb hs
  replace xp0 := own_ext hb xp0
  replace hg := own_ext hb hg
  replace xq0 := own_ext hb xq0
  clear hb
  clear xq0
  go_wp2_with fail
  refine (markTermS_any _ _ _ _ zs _ (by omega) (by omega) (by omega) _ xp0).mono ?_
  rintro e w8 ⟨rfl, hm, hgr⟩
  have hz8 := hgr.size
  replace hE := Ext.grown hE hgr (fun k hk => by have := (xp00.lt k hk).1; omega)
  replace hs := own_apartQ hs hgr (fun q hq e => by have h1 := (hs0.lt q hq); have h2 := (xp00.lt q e); omega)
  replace hg := own_apartQ hg hgr (fun q hq e => by have h1 := (hg0.lt q hq); have h2 := (xp00.lt q e); omega)
  clear hm hgr
  clear xp0
  go_wp2_with fail
  refine (eqSpotS_same _ _ _ _ _ L (by omega) _ (own_reads hg) (own_reads hs)).mono ?_
  rintro e w9 ⟨rfl, hb⟩
  have hz9 := hb.size
  replace hE := Ext.trans hE hb
  replace hs := own_ext hb hs
  replace hg := own_ext hb hg
  clear hb
  go_wp2_with fail
  refine (markSpotS_any _ _ _ _ L _ (by omega) (by omega) (by omega) _ hg).mono ?_
  rintro e w10 ⟨rfl, hm, hgr⟩
  have hz10 := hgr.size
  replace hE := Ext.grown hE hgr (fun k hk => by have := (hg0.lt k hk).1; omega)
  replace hs := own_apartQ hs hgr (fun q hq e => by have h1 := (hs0.lt q hq); have h2 := (hg0.lt q e); omega)
  clear hgr hg
  go_wp2_with fail
  refine (heldSpotS_any _ _ _ _ (by omega) (by omega) (by omega) _ (own_reads hm)).mono ?_
  rintro e _ ⟨rfl, rfl⟩
  go_wp2_with fail
  refine (toTermS_any _ _ _ zs hm0 _ (h0.ext hE)).mono ?_
  rintro e w11 ⟨gr0, rfl, xr0, hb⟩
  have hz11 := hb.size
  replace hE := Ext.trans hE hb
  replace hs := own_ext hb hs
  replace hm := own_ext hb hm
  clear hb
  have xr00 := xr0
  go_wp2_with fail
  refine (HI.out _ _ (own_reads xr0)).mono ?_
  rintro e w12 ⟨ha, hc, rfl, hh, hb⟩
  have hz12 := hb.size
  replace hE := Ext.trans hE hb
  replace hs := own_ext hb hs
  replace hm := own_ext hb hm
  replace xr0 := own_ext hb xr0
  clear hb
  clear xr0
  go_wp2_with fail
  refine (eqSpotS_same _ _ _ _ _ L (by omega) _ (own_reads hh) (own_reads hs)).mono ?_
  rintro e w13 ⟨rfl, hb⟩
  have hz13 := hb.size
  replace hE := Ext.trans hE hb
  replace hs := own_ext hb hs
  replace hm := own_ext hb hm
  replace hh := own_ext hb hh
  clear hb
  go_wp2_with fail
  refine (heldSpotS_any _ _ _ _ (by omega) (by omega) (by omega) _ (own_reads hm)).mono ?_
  rintro e _ ⟨rfl, rfl⟩
  go_wp2
  go_ret
  exact ⟨rfl, hE⟩

end Go.Proofs.YtngbdopgdcjdeaaGreat
