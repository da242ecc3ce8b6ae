/-
  EndsAt: both sides, the law's walk.
-/
import Derived.Test.YtngbdopgdcjdeaaGreatEndI
import Derived.Test.YtngbdopgdcjdeaaGreatSubW
import Derived.BigQuiet
namespace Go.Proofs.YtngbdopgdcjdeaaGreat
open Go.RowKit

theorem ends_len {zs : List (Int × Int × Int)} (hZ : PZ zs) {x : List Int} (hx : IsCell zs x) : (endsC zs x).length ≤ 24 := by
  unfold endsC
  rw [List.length_map]
  exact sidesL_most hZ hx
theorem ends_rows {zs : List (Int × Int × Int)} (hZ : PZ zs) {x : List Int} (hx : IsCell zs x) : ∀ y ∈ endsC zs x, ∃ i1 j1 ex ey sd : Int, y = [i1, j1, ex, ey, sd] ∧ (-6 ≤ ex ∧ ex ≤ 6) ∧ (-6 ≤ ey ∧ ey ≤ 6) ∧ (0 ≤ sd ∧ sd ≤ 6) := by
  intro y hy
  obtain ⟨e, he, rfl⟩ := List.mem_map.1 hy
  obtain ⟨i, j, hij, hj, rfl, hep⟩ := pair_form hZ.2.2 hx he
  refine ⟨i, j, eX zs x i j, eY zs x i j, sideI zs i j, endR_at zs x i j, ?_, ?_, ?_⟩
  · exact sgE_le (dX_le hZ (by omega) hj)
  · exact sgE_le (dY_le hZ (by omega) hj)
  · exact ⟨gcdI_nonneg _ _, sideI_le hZ (by omega) hj⟩
theorem ask_cell {zs : List (Int × Int × Int)} {i : Int} (h : (planeB zs && askB zs i) = true) : PZ zs ∧ IsCell zs ((cellsL zs).getD i.toNat []) := by
  have hp : planeB zs = true := by simp at h; exact h.1
  have hq : askB zs i = true := by simp at h; exact h.2
  have hik := inB_true.1 (show inB i 0 (((cellsL zs).length : Int) - 1) = true from hq)
  exact ⟨pz_of hp, cell_at (by omega)⟩
set_option maxHeartbeats 1000000 in
theorem impl_EndsAt_any (a : Option Addr) (n c : Nat) (zs : List (Int × Int × Int)) (i : Int) (hn : n ≤ 1048576) (_ : B64 i) (w : World) (h : Reads w a 3 n (tv zs)) :
    Calls Tryz.prog 32 #[.slice a n c, .int .i64 i] w (OwnsLB w.heap.size (gR (planeB zs && askB zs i) (endsC zs ((cellsL zs).getD i.toNat []))) (planeB zs && askB zs i) w) := by
  cases hok : (planeB zs && askB zs i)
  · simp only [gR, Bool.false_eq_true, if_false]
    go_enter Tryz.func32, Tryz.ntmps32
    go_wp2_with fail
    refine (cellAsked_any _ _ _ zs i hn _ h).mono ?_
    rw [hok]
    rintro e w1 ⟨v, rfl, _, hS⟩
    go_wp2
    go_ret2
    exact ⟨_, [], rfl, ownL_nil _ _, rfl, hS⟩
  ·
    have hp : planeB zs = true := by simp at hok; exact hok.1
    have hq : askB zs i = true := by simp at hok; exact hok.2
    have hik := inB_true.1 (show inB i 0 (((cellsL zs).length : Int) - 1) = true from hq)
    obtain ⟨k, rfl⟩ : ∃ k : Nat, i = (k : Int) := ⟨i.toNat, by omega⟩
    simp only [Int.toNat_natCast, gR, if_true]
    have HZ := Lib.hid (pz_of hp)
    have HK := Lib.hid (show k < (cellsL zs).length by omega)
    have HR := Lib.hid h
    clear hik h
    go_enter Tryz.func32, Tryz.ntmps32
    go_wp2_with fail
    refine (cellAsked_any _ _ _ zs _ hn _ HR.out).mono ?_
    rw [hok]
    rintro e w1 ⟨v, rfl, hv, hS1⟩
    obtain ⟨g, rfl, hD⟩ := hv hp
    have HE1 := Lib.hid hS1
    have HD := Lib.hid hD
    clear hv hD hS1 HR
    go_wp2_with fail
    refine (ends_at_any _ g a n c k zs HZ.out HK.out w1 HD.out).mono ?_
    rintro e w2 ⟨s2, ts, rfl, ho2, hts, hE2⟩
    have HO2 := Lib.hid (ho2.base HE1.out.size)
    have HTS := Lib.hid hts
    have HE2 := Lib.hid (HE1.out.trans hE2)
    clear ho2 hts hE2
    go_wp2
    go_ret2
    exact ⟨_, ts, rfl, HO2.out, HTS.out, HE2.out⟩
set_option maxHeartbeats 1000000 in
theorem spec_EndsAt_any (a : Option Addr) (n c : Nat) (zs : List (Int × Int × Int)) (i : Int) (hn : n ≤ 1048576) (_ : B64 i) (w : World) (h : Reads w a 3 n (tv zs)) :
    Calls Tryz.prog 31 #[.slice a n c, .int .i64 i] w (RdLB (gR (planeB zs && askB zs i) (endsC zs ((cellsL zs).getD i.toNat []))) (planeB zs && askB zs i) w) := by
  cases hok : (planeB zs && askB zs i)
  · simp only [gR, Bool.false_eq_true, if_false]
    go_enter Tryz.func31, Tryz.ntmps31
    go_wp2_with fail
    refine (cuCell_any _ _ _ zs i hn _ h).mono ?_
    rintro e w1 ⟨a1, n1, c1, rfl, _, hS⟩
    rw [hok]
    go_wp2
    go_ret2
    exact ⟨_, rfl, rdL_none _, hS⟩
  ·
    have hp : planeB zs = true := by simp at hok; exact hok.1
    have HZ := Lib.hid (pz_of hp)
    have HX := Lib.hid (show IsCell zs ((cellsL zs).getD i.toNat []) from by
      have hq : askB zs i = true := by simp at hok; exact hok.2
      have hik := inB_true.1 (show inB i 0 (((cellsL zs).length : Int) - 1) = true from hq)
      exact cell_at (by omega))
    have HR := Lib.hid h
    simp only [gR, if_true]
    clear h
    go_enter Tryz.func31, Tryz.ntmps31
    go_wp2_with fail
    refine (cuCell_any _ _ _ zs i hn _ HR.out).mono ?_
    rintro e w1 ⟨a1, n1, c1, rfl, hrd, hS1⟩
    rw [hok]
    have HE1 := Lib.hid hS1
    have HRD := Lib.hid (hrd hok)
    have HR1 := Lib.hid (Reads.ext hS1 HR.out)
    clear hrd hS1 HR
    generalize ((cellsL zs).getD i.toNat []) = x at *
    go_wp2_with fail
    refine (cuEnds_any _ _ _ _ _ _ zs HZ.out x HX.out w1 HR1.out HRD.out).mono ?_
    rintro e w2 ⟨s2, ts, rfl, ho2, hts, hE2⟩
    have hrd2 := ho2.rd
    rw [hts] at hrd2
    have HO2 := Lib.hid hrd2
    have HE2 := Lib.hid (HE1.out.trans hE2)
    clear ho2 hts hE2 hrd2
    go_wp2
    go_ret2
    exact ⟨_, rfl, HO2.out, HE2.out⟩
set_option maxHeartbeats 2000000 in
set_option maxRecDepth 100000 in
theorem law_EndsAt (a0 : Option Addr) (n0 c0 : Nat) (zs : List (Int × Int × Int)) (i : Int) (w : World) (hr0 : IsTri w a0 n0 c0 zs) (bi : B64 i) :
    Calls Tryz.prog 8 #[.slice a0 n0 c0, .int .i64 i] w fun r w' => r = .returned (.bool true) ∧ Ext w w' := by
  have h0 : Reads w a0 3 n0 (tv zs) := hr0.1
  have hc01 := hr0.2.1
  have hc02 := hr0.2.2.1
  unfold maxLen at hc02
  clear hr0
  have hl0 : zs.length = n0 := by have := h0.1; rw [tv_len] at this; omega
  by_cases hg0 : n0 ≤ 1048576
  rotate_left
  · go_enter Tryz.func8, Tryz.ntmps8
    go_wp2_with fail
    refine (szTermS_no _ _ _ _ (by omega) (by omega) (by omega) (by omega) _).mono ?_
    rintro e _ ⟨rfl, rfl⟩
    go_wp2
    go_ret
    exact ⟨rfl, (by repeat (first | exact Ext.refl _ | assumption | apply Ext.alloc | apply Ext.drew | apply Ext.drewN | (refine Ext.trans ?_ (by assumption)) | (refine Ext.setCell ?_ (by (try simp) <;> omega) _)))⟩
  obtain ⟨L, eL⟩ : ∃ L : List (List Int), L = (gR (planeB zs && askB zs i) (endsC zs ((cellsL zs).getD i.toNat []))) := ⟨_, rfl⟩
  obtain ⟨ok, eok⟩ : ∃ ok : Bool, ok = (planeB zs && askB zs i) := ⟨_, rfl⟩
  have hlen : L.length ≤ 50000 := by rw [eL]; exact gR_len (fun h => Nat.le_trans (ends_len (ask_cell h).1 (ask_cell h).2) (by omega))
  have hlenk : ∀ y ∈ L, y.length ≤ 12 := by rw [eL]; exact gR_mem (fun h y hy => by obtain ⟨_, _, _, _, _, e, _⟩ := ends_rows (ask_cell h).1 (ask_cell h).2 y hy; rw [e]; simp)
  have HLK := Lib.hid (fun k (hk : k < L.length) => show (L.getD k []).length ≤ 1048576 by
    have := hlenk (L.getD k []) (by rw [show L.getD k [] = L[k] by simp [List.getD, hk]]; exact List.getElem_mem _)
    omega)
  have HLM := Lib.hid hlenk
  have HS := Lib.hid (show ∀ (b0 : Nat) w, Reads w (some ⟨b0, 0, none⟩) 3 n0 (tv zs) → Calls Tryz.prog 31 #[.slice (some ⟨b0, 0, none⟩) n0 n0, .int .i64 i] w (RdLB L ok w) by rw [eL, eok]; intro b0 w h0; exact spec_EndsAt_any _ _ _ zs i (by omega) bi _ h0)
  have HI := Lib.hid (show ∀ (b0 : Nat) w, Reads w (some ⟨b0, 0, none⟩) 3 n0 (tv zs) → Calls Tryz.prog 32 #[.slice (some ⟨b0, 0, none⟩) n0 n0, .int .i64 i] w (OwnsLB w.heap.size L ok w) by rw [eL, eok]; intro b0 w h0; exact impl_EndsAt_any _ _ _ zs i (by omega) bi _ h0)
  clear eL eok hlenk
  go_enter Tryz.func8, Tryz.ntmps8
  go_wp2_with fail
  refine (szTermS_yes _ _ _ _ (by omega) (by omega) _).mono ?_
  rintro e _ ⟨rfl, rfl⟩
  -- the reference
  go_wp2_with fail
  refine (toTermS_any _ _ _ zs hg0 _ h0).mono ?_
  rintro e w1 ⟨g1, rfl, x1, hb1⟩
  go_wp2_with fail
  refine (HS.out _ _ (own_reads x1)).mono ?_
  rintro e w2 ⟨s2, rfl, hr2, hb2⟩
  have HR2 := Lib.hid hr2
  have HE2 := Lib.hid (hb1.trans hb2)
  have H02 := Lib.hid (h0.ext (hb1.trans hb2))
  clear x1 hb1 hb2 hr2 h0
  -- the program
  go_wp2_with fail
  refine (toTermS_any _ _ _ zs hg0 _ H02.out).mono ?_
  rintro e w3 ⟨g3, rfl, x3, hb3⟩
  have hz3 := hb3.size
  have X3 := Lib.hid x3
  go_wp2_with fail
  refine (HI.out _ _ (own_reads x3)).mono ?_
  rintro e w4 ⟨s4, ps, rfl, ho4, hps, hb4⟩
  have hz4 := hb4.size
  have HPS := Lib.hid hps
  have hpl : ps.length ≤ 50000 := by rw [← List.length_map (f := (·.2)), hps]; exact hlen
  have htot : totL ps ≤ 600000 := by
    have := totL_le (ps := ps) (m := 12) (fun p hp => HLM.out p.2 (by rw [← hps]; exact List.mem_map_of_mem hp))
    omega
  have hrd := ho4.rd
  rw [hps] at hrd
  have HO4 := Lib.hid ho4
  have HE4 := Lib.hid (hb3.trans hb4)
  have HX4 := Lib.hid (own_ext hb4 x3)
  clear x3 hb3 hb4 ho4 hps
  go_wp2_with fail
  refine (eqIntSS_same s4 s2 L (by omega) HLK.out w4 hrd (HR2.out.ext HE4.out)).mono ?_
  rintro e w5 ⟨rfl, hb5⟩
  have HE5 := Lib.hid (HE4.out.trans hb5)
  have HO5 := Lib.hid (HO4.out.ext hb5)
  have HX5 := Lib.hid (own_ext hb5 HX4.out)
  clear hb5 hrd
  go_wp2_with fail
  refine (toTermS_any _ _ _ zs hg0 _ (H02.out.ext HE5.out)).mono ?_
  rintro e w6 ⟨g6, rfl, x6, hb6⟩
  go_wp2_with fail
  refine (eqTermS_same _ _ _ _ _ zs (by omega) _ (own_reads (own_ext hb6 HX5.out)) (own_reads x6)).mono ?_
  rintro e w7 ⟨rfl, hb7⟩
  have HE7 := Lib.hid ((HE5.out.trans hb6).trans hb7)
  have HO7 := Lib.hid (HO5.out.ext (hb6.trans hb7))
  have HX7 := Lib.hid (own_ext hb7 (own_ext hb6 HX5.out))
  clear hb6 hb7 x6
  -- the arguments are marked
  go_wp2_with fail
  refine (markTermS_any _ _ _ _ zs _ (by omega) (by omega) (by omega) _ HX7.out).mono ?_
  rintro e w8 ⟨rfl, hm8, hgr8⟩
  have HE8 := Lib.hid (Ext.grown HE7.out hgr8 (fun k hk => (X3.out.lt k hk).1))
  have HO8 := Lib.hid (HO7.out.kept hgr8 (fun q hq => (X3.out.lt q hq).2))
  clear hm8 hgr8
  have hrd := HO8.out.rd
  rw [HPS.out] at hrd
  go_wp2_with fail
  refine (eqIntSS_same s4 s2 L (by omega) HLK.out w8 hrd (HR2.out.ext HE8.out)).mono ?_
  rintro e w9 ⟨rfl, hb9⟩
  have HE9 := Lib.hid (HE8.out.trans hb9)
  have HO9 := Lib.hid (HO8.out.ext hb9)
  clear hb9 hrd
  -- the result is marked
  go_wp2_with fail
  refine (markIntSS_any _ s4 ps 1 (by omega) (by omega) (by omega) (by omega) w2 (by omega) w9 HE9.out HO9.out).mono ?_
  rintro e w10 ⟨rfl, ho10, hE10⟩
  have HO10 := Lib.hid ho10
  have HE10 := Lib.hid hE10
  clear ho10 hE10
  go_wp2_with fail
  refine (heldIntSS_any _ s4 ps 1 (by omega) (by omega) (by omega) (by omega) w10 HO10.out).mono ?_
  rintro e _ ⟨rfl, rfl⟩
  go_wp2_with fail
  refine (toTermS_any _ _ _ zs hg0 _ (H02.out.ext HE10.out)).mono ?_
  rintro e w11 ⟨g11, rfl, x11, hb11⟩
  go_wp2_with fail
  refine (HI.out _ _ (own_reads x11)).mono ?_
  rintro e w12 ⟨s12, ts, rfl, ho12, hts, hb12⟩
  have hrd := ho12.rd
  rw [hts] at hrd
  have HE12 := Lib.hid ((HE10.out.trans hb11).trans hb12)
  have HO12 := Lib.hid (HO10.out.ext (hb11.trans hb12))
  clear x11 hb11 hb12 ho12 hts
  go_wp2_with fail
  refine (eqIntSS_same s12 s2 L (by omega) HLK.out w12 hrd (HR2.out.ext HE12.out)).mono ?_
  rintro e w13 ⟨rfl, hb13⟩
  have HE13 := Lib.hid (HE12.out.trans hb13)
  have HO13 := Lib.hid (HO12.out.ext hb13)
  clear hb13 hrd
  go_wp2_with fail
  refine (heldIntSS_any _ s4 ps 1 (by omega) (by omega) (by omega) (by omega) w13 HO13.out).mono ?_
  rintro e _ ⟨rfl, rfl⟩
  go_wp2
  go_ret
  exact ⟨rfl, HE2.out.trans HE13.out⟩

end Go.Proofs.YtngbdopgdcjdeaaGreat
