/-
  CellsOf, EdgesOfCells, InnerEdges: both sides and the laws' walks.
-/
import Derived.Test.YtehcjlbkfgfmjaaGreatBa4
import Derived.BigQuiet
namespace Go.Proofs.YtehcjlbkfgfmjaaGreat
open Go.RowKit

def gR (t : Bool) (l : List (List Int)) : List (List Int) := if t then l else []
theorem gR_len {t : Bool} {l : List (List Int)} {k : Nat} (h : t = true → l.length ≤ k) : (gR t l).length ≤ k := by
  cases t
  · simp [gR]
  · simpa [gR] using h rfl
theorem gR_mem {t : Bool} {l : List (List Int)} {k : Nat} (h : t = true → ∀ y ∈ l, y.length ≤ k) : ∀ y ∈ gR t l, y.length ≤ k := by
  cases t
  · simp [gR]
  · simpa [gR] using h rfl
/-- A slice of slices of ints, all of the call's own, and a truth. -/
def OwnsLB (B : Nat) (ys : List (List Int)) (ok : Bool) (w : World) (r : Ending) (w' : World) : Prop := ∃ s ps, r = .returned (.tuple #[s, .bool ok]) ∧ OwnL w' B s ps ∧ ps.map (·.2) = ys ∧ Ext w w'
/-- A slice of slices of ints that reads so, and a truth. -/
def RdLB (ys : List (List Int)) (ok : Bool) (w : World) (r : Ending) (w' : World) : Prop := ∃ s, r = .returned (.tuple #[s, .bool ok]) ∧ RdL w' s ys ∧ Ext w w'
theorem cells_rows {zs : List (Int × Int × Int)} (hZ : PZ zs) : ∀ y ∈ cellsL zs, y.length ≤ 12 := fun _ hy => Nat.le_trans (cell_len (mem_cellsL.1 hy)) hZ.1
theorem once_rows {zs : List (Int × Int × Int)} (hZ : PZ zs) : ∀ y ∈ onceL zs, y.length ≤ 12 := fun y hy => by
  obtain ⟨i, j, _, _, rfl⟩ := once_form hZ.2.2 hy
  simp
theorem twice_rows {zs : List (Int × Int × Int)} (hZ : PZ zs) : ∀ y ∈ twiceL zs, y.length ≤ 12 := fun y hy => by
  rw [twice_filter hZ.2.2] at hy
  exact once_rows hZ y (List.mem_filter.1 hy).1
theorem twice_len2 {zs : List (Int × Int × Int)} (hZ : PZ zs) : (twiceL zs).length ≤ 48000 := by
  rw [twice_filter hZ.2.2]
  exact Nat.le_trans (List.length_filter_le _ _) (onceL_len hZ)
theorem impl_InnerEdges_any (a : Option Addr) (n c : Nat) (zs : List (Int × Int × Int)) (hn : n ≤ 1048576) (w : World) (h : Reads w a 3 n (tv zs)) :
    Calls Tryz.prog 20 #[.slice a n c] w (OwnsLB w.heap.size (gR (planeB zs) (twiceL zs)) (planeB zs) w) := by
  cases hp : planeB zs
  · go_enter Tryz.func20, Tryz.ntmps20
    go_wp2_with fail
    refine (subdivided_no _ _ _ zs hn hp _ h).mono ?_
    rintro e w1 ⟨rfl, hb1⟩
    go_wp2
    go_ret2
    exact ⟨_, [], rfl, ownL_nil _ _, rfl, hb1⟩
  · have HZ := Lib.hid (pz_of hp)
    go_enter Tryz.func20, Tryz.ntmps20
    go_wp2_with fail
    refine (subdivided_yes _ _ _ zs hn hp _ h).mono ?_
    rintro e w1 ⟨g, rfl, hs, hb1⟩
    have HD := Lib.hid hs
    obtain ⟨pa, pc, s, e, b, m, B1, ps, qs, h1, h2, h3, h4, h5, h6, h7, h8, h9⟩ := hs
    have HSG := Lib.hid h1
    have HO := Lib.hid h5
    have HP := Lib.hid h6
    have HQ := Lib.hid h7
    have HR := Lib.hid h8
    have HE := Lib.hid hb1
    clear h1 h2 h3 h4 h5 h6 h7 h8 h9 hb1 h
    go_wp2_with fail
    refine (chosenEdges_any _ _ _ _ _ 2 zs HZ.out w1 HD.out).mono ?_
    rintro e w2 ⟨s2, ts, rfl, ho2, hts, hE2⟩
    have HO2 := Lib.hid (ho2.base HE.out.size)
    have HTS := Lib.hid (hts.trans (twice_filter HZ.out.2.2).symm)
    have HE2 := Lib.hid (HE.out.trans hE2)
    clear ho2 hts hE2
    go_wp2
    go_ret2
    exact ⟨_, ts, rfl, HO2.out, HTS.out, HE2.out⟩
theorem spec_InnerEdges_any (a : Option Addr) (n c : Nat) (zs : List (Int × Int × Int)) (hn : n ≤ 1048576) (w : World) (h : Reads w a 3 n (tv zs)) :
    Calls Tryz.prog 19 #[.slice a n c] w (RdLB (gR (planeB zs) (twiceL zs)) (planeB zs) w) := by
  have hl : zs.length = n := by have := h.1; rw [tv_len] at this; omega
  cases hp : planeB zs
  · go_enter Tryz.func19, Tryz.ntmps19
    go_wp2_with fail
    refine (plGood_any _ _ _ zs (by omega) _ h).mono ?_
    rw [hp]
    rintro e w1 ⟨rfl, hb1⟩
    go_wp2
    go_ret2
    exact ⟨_, rfl, rdL_none _, hb1⟩
  · have HZ := Lib.hid (pz_of hp)
    have hn12 : n ≤ 12 := by rw [← hl]; exact HZ.out.1
    have HB := Lib.hid (fun m (hm : m < n) => HZ.out.2.1 m (by rw [hl]; exact hm))
    go_enter Tryz.func19, Tryz.ntmps19
    go_wp2_with fail
    refine (plGood_any _ _ _ zs (by omega) _ h).mono ?_
    rw [hp]
    rintro e w1 ⟨rfl, hb1⟩
    have HH := Lib.hid (h.ext hb1)
    have HE := Lib.hid hb1
    clear h hb1
    go_wp2_with fail
    refine (ceEdges_any _ _ _ zs HZ.out true w1 HH.out).mono ?_
    rintro e w2 ⟨a2, c2, vs, rfl, ho2, hv2, hE2⟩
    have HO := Lib.hid (RdL.of ho2 hv2)
    have HE2 := Lib.hid (HE.out.trans hE2)
    clear ho2 hv2 hE2
    go_wp2
    go_ret2
    exact ⟨_, rfl, HO.out, HE2.out⟩
set_option maxHeartbeats 2000000 in
set_option maxRecDepth 100000 in
theorem law_InnerEdges (a0 : Option Addr) (n0 c0 : Nat) (zs : List (Int × Int × Int)) (w : World) (hr0 : IsTri w a0 n0 c0 zs) :
    Calls Tryz.prog 5 #[.slice a0 n0 c0] w fun r w' => r = .returned (.bool true) ∧ Ext w w' := by
  have h0 : Reads w a0 3 n0 (tv zs) := hr0.1
  have hc01 := hr0.2.1
  have hc02 := hr0.2.2.1
  unfold maxLen at hc02
  clear hr0
  have hl0 : zs.length = n0 := by have := h0.1; rw [tv_len] at this; omega
  by_cases hg0 : n0 ≤ 1048576
  rotate_left
  · go_enter Tryz.func5, Tryz.ntmps5
    go_wp2_with fail
    refine (szTermS_no _ _ _ _ (by omega) (by omega) (by omega) (by omega) _).mono ?_
    rintro e _ ⟨rfl, rfl⟩
    go_wp2
    go_ret
    exact ⟨rfl, (by repeat (first | exact Ext.refl _ | assumption | apply Ext.alloc | apply Ext.drew | apply Ext.drewN | (refine Ext.trans ?_ (by assumption)) | (refine Ext.setCell ?_ (by (try simp) <;> omega) _)))⟩
  obtain ⟨L, eL⟩ : ∃ L : List (List Int), L = (gR (planeB zs) (twiceL zs)) := ⟨_, rfl⟩
  obtain ⟨ok, eok⟩ : ∃ ok : Bool, ok = (planeB zs) := ⟨_, rfl⟩
  have hlen : L.length ≤ 50000 := by rw [eL]; exact gR_len (fun h => Nat.le_trans (twice_len2 (pz_of h)) (by omega))
  have hlenk : ∀ y ∈ L, y.length ≤ 12 := by rw [eL]; exact gR_mem (fun h => twice_rows (pz_of h))
  have HLK := Lib.hid (fun k (hk : k < L.length) => show (L.getD k []).length ≤ 1048576 by
    have := hlenk (L.getD k []) (by rw [show L.getD k [] = L[k] by simp [List.getD, hk]]; exact List.getElem_mem _)
    omega)
  have HLM := Lib.hid hlenk
  have HS := Lib.hid (show ∀ (b0 : Nat) w, Reads w (some ⟨b0, 0, none⟩) 3 n0 (tv zs) → Calls Tryz.prog 19 #[.slice (some ⟨b0, 0, none⟩) n0 n0] w (RdLB L ok w) by rw [eL, eok]; intro b0 w h0; exact spec_InnerEdges_any _ _ _ zs  (by omega) _ h0)
  have HI := Lib.hid (show ∀ (b0 : Nat) w, Reads w (some ⟨b0, 0, none⟩) 3 n0 (tv zs) → Calls Tryz.prog 20 #[.slice (some ⟨b0, 0, none⟩) n0 n0] w (OwnsLB w.heap.size L ok w) by rw [eL, eok]; intro b0 w h0; exact impl_InnerEdges_any _ _ _ zs  (by omega) _ h0)
  clear eL eok hlenk
  go_enter Tryz.func5, Tryz.ntmps5
  go_wp2_with fail
  refine (szTermS_yes _ _ _ _ (by omega) (by omega) _).mono ?_
  rintro e _ ⟨rfl, rfl⟩
  -- the reference
  go_wp2_with fail
  refine (toTermS_any _ _ _ zs hg0 _ h0).mono ?_
  rintro e w1 ⟨g1, rfl, x1, hb1⟩
  go_wp2_with fail
  refine (HS.out _ _ (own_reads x1)).mono ?_
  rintro e w2 ⟨s2, rfl, hr2, hb2⟩
  have HR2 := Lib.hid hr2
  have HE2 := Lib.hid (hb1.trans hb2)
  have H02 := Lib.hid (h0.ext (hb1.trans hb2))
  clear x1 hb1 hb2 hr2 h0
  -- the program
  go_wp2_with fail
  refine (toTermS_any _ _ _ zs hg0 _ H02.out).mono ?_
  rintro e w3 ⟨g3, rfl, x3, hb3⟩
  have hz3 := hb3.size
  have X3 := Lib.hid x3
  go_wp2_with fail
  refine (HI.out _ _ (own_reads x3)).mono ?_
  rintro e w4 ⟨s4, ps, rfl, ho4, hps, hb4⟩
  have hz4 := hb4.size
  have HPS := Lib.hid hps
  have hpl : ps.length ≤ 50000 := by rw [← List.length_map (f := (·.2)), hps]; exact hlen
  have htot : totL ps ≤ 600000 := by
    have := totL_le (ps := ps) (m := 12) (fun p hp => HLM.out p.2 (by rw [← hps]; exact List.mem_map_of_mem hp))
    omega
  have hrd := ho4.rd
  rw [hps] at hrd
  have HO4 := Lib.hid ho4
  have HE4 := Lib.hid (hb3.trans hb4)
  have HX4 := Lib.hid (own_ext hb4 x3)
  clear x3 hb3 hb4 ho4 hps
  go_wp2_with fail
  refine (eqIntSS_same s4 s2 L (by omega) HLK.out w4 hrd (HR2.out.ext HE4.out)).mono ?_
  rintro e w5 ⟨rfl, hb5⟩
  have HE5 := Lib.hid (HE4.out.trans hb5)
  have HO5 := Lib.hid (HO4.out.ext hb5)
  have HX5 := Lib.hid (own_ext hb5 HX4.out)
  clear hb5 hrd
  go_wp2_with fail
  refine (toTermS_any _ _ _ zs hg0 _ (H02.out.ext HE5.out)).mono ?_
  rintro e w6 ⟨g6, rfl, x6, hb6⟩
  go_wp2_with fail
  refine (eqTermS_same _ _ _ _ _ zs (by omega) _ (own_reads (own_ext hb6 HX5.out)) (own_reads x6)).mono ?_
  rintro e w7 ⟨rfl, hb7⟩
  have HE7 := Lib.hid ((HE5.out.trans hb6).trans hb7)
  have HO7 := Lib.hid (HO5.out.ext (hb6.trans hb7))
  have HX7 := Lib.hid (own_ext hb7 (own_ext hb6 HX5.out))
  clear hb6 hb7 x6
  -- the arguments are marked
  go_wp2_with fail
  refine (markTermS_any _ _ _ _ zs _ (by omega) (by omega) (by omega) _ HX7.out).mono ?_
  rintro e w8 ⟨rfl, hm8, hgr8⟩
  have HE8 := Lib.hid (Ext.grown HE7.out hgr8 (fun k hk => (X3.out.lt k hk).1))
  have HO8 := Lib.hid (HO7.out.kept hgr8 (fun q hq => (X3.out.lt q hq).2))
  clear hm8 hgr8
  have hrd := HO8.out.rd
  rw [HPS.out] at hrd
  go_wp2_with fail
  refine (eqIntSS_same s4 s2 L (by omega) HLK.out w8 hrd (HR2.out.ext HE8.out)).mono ?_
  rintro e w9 ⟨rfl, hb9⟩
  have HE9 := Lib.hid (HE8.out.trans hb9)
  have HO9 := Lib.hid (HO8.out.ext hb9)
  clear hb9 hrd
  -- the result is marked
  go_wp2_with fail
  refine (markIntSS_any _ s4 ps 1 (by omega) (by omega) (by omega) (by omega) w2 (by omega) w9 HE9.out HO9.out).mono ?_
  rintro e w10 ⟨rfl, ho10, hE10⟩
  have HO10 := Lib.hid ho10
  have HE10 := Lib.hid hE10
  clear ho10 hE10
  go_wp2_with fail
  refine (heldIntSS_any _ s4 ps 1 (by omega) (by omega) (by omega) (by omega) w10 HO10.out).mono ?_
  rintro e _ ⟨rfl, rfl⟩
  go_wp2_with fail
  refine (toTermS_any _ _ _ zs hg0 _ (H02.out.ext HE10.out)).mono ?_
  rintro e w11 ⟨g11, rfl, x11, hb11⟩
  go_wp2_with fail
  refine (HI.out _ _ (own_reads x11)).mono ?_
  rintro e w12 ⟨s12, ts, rfl, ho12, hts, hb12⟩
  have hrd := ho12.rd
  rw [hts] at hrd
  have HE12 := Lib.hid ((HE10.out.trans hb11).trans hb12)
  have HO12 := Lib.hid (HO10.out.ext (hb11.trans hb12))
  clear x11 hb11 hb12 ho12 hts
  go_wp2_with fail
  refine (eqIntSS_same s12 s2 L (by omega) HLK.out w12 hrd (HR2.out.ext HE12.out)).mono ?_
  rintro e w13 ⟨rfl, hb13⟩
  have HE13 := Lib.hid (HE12.out.trans hb13)
  have HO13 := Lib.hid (HO12.out.ext hb13)
  clear hb13 hrd
  go_wp2_with fail
  refine (heldIntSS_any _ s4 ps 1 (by omega) (by omega) (by omega) (by omega) w13 HO13.out).mono ?_
  rintro e _ ⟨rfl, rfl⟩
  go_wp2
  go_ret
  exact ⟨rfl, HE2.out.trans HE13.out⟩

end Go.Proofs.YtehcjlbkfgfmjaaGreat
