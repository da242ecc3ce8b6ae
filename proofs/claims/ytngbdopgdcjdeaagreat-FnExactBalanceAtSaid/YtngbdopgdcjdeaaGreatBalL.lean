/-
  BalanceAt: both sides, the law's walk.
-/
import Derived.Test.YtngbdopgdcjdeaaGreatEndL
import Derived.BigQuiet
namespace Go.Proofs.YtngbdopgdcjdeaaGreat
open Go.RowKit

/-- The sum of the steps of the ends, in one coordinate. -/
def balS (f : Nat) : List (List Int) → Int
  | [] => 0
  | e :: l => e.getD f 0 * e.getD 4 0 + balS f l
theorem balS_snoc (f : Nat) (e : List Int) : ∀ l, balS f (l ++ [e]) = balS f l + e.getD f 0 * e.getD 4 0
  | [] => by simp [balS]
  | x :: l => by simp only [List.cons_append, balS, balS_snoc f e l]; omega
theorem bal_step (f : Nat) {L : List (List Int)} {q : Nat} (h : q < L.length) : balS f (L.take (q + 1)) = balS f (L.take q) + (L.getD q []).getD f 0 * (L.getD q []).getD 4 0 := by
  rw [List.take_succ_eq_append_getElem h, balS_snoc]
  simp [List.getD, h]
theorem bal_bd {L : List (List Int)} (h : ∀ y ∈ L, ∃ i1 j1 ex ey sd : Int, y = [i1, j1, ex, ey, sd] ∧ (-6 ≤ ex ∧ ex ≤ 6) ∧ (-6 ≤ ey ∧ ey ≤ 6) ∧ (0 ≤ sd ∧ sd ≤ 6)) : ∀ q : Nat, q ≤ L.length → (-(36 * (q : Int)) ≤ balS 2 (L.take q) ∧ balS 2 (L.take q) ≤ 36 * (q : Int)) ∧ (-(36 * (q : Int)) ≤ balS 3 (L.take q) ∧ balS 3 (L.take q) ≤ 36 * (q : Int))
  | 0, _ => by simp [balS]
  | q + 1, hq => by
    have ih := bal_bd h q (by omega)
    obtain ⟨i1, j1, ex, ey, sd, hrw, b1, b2, b3⟩ := h (L.getD q []) (by rw [show L.getD q [] = L[q]'(by omega) by simp [List.getD, show q < L.length by omega]]; exact List.getElem_mem _)
    have h2 := bal_step 2 (show q < L.length by omega)
    have h3 := bal_step 3 (show q < L.length by omega)
    rw [hrw] at h2 h3
    have e2 : balS 2 (L.take (q + 1)) = balS 2 (L.take q) + ex * sd := h2
    have e3 : balS 3 (L.take (q + 1)) = balS 3 (L.take q) + ey * sd := h3
    have p1 := mul_bd (A := 6) (D := 6) (a := ex) (d := sd) (by omega) (by omega) (by omega) (by omega)
    have p2 := mul_bd (A := 6) (D := 6) (a := ey) (d := sd) (by omega) (by omega) (by omega) (by omega)
    rw [e2, e3]
    omega
set_option maxHeartbeats 4000000 in
theorem impl_BalanceAt_any (a : Option Addr) (n c : Nat) (zs : List (Int × Int × Int)) (i : Int) (hn : n ≤ 1048576) (w : World) (h : Reads w a 3 n (tv zs)) :
    Calls Tryz.prog 23 #[.slice a n c, .int .i64 i] w fun r w' => r = .returned (.tuple #[.int .i64 (gI (planeB zs && askB zs i) (balS 2 (endsC zs ((cellsL zs).getD i.toNat [])))), .int .i64 (gI (planeB zs && askB zs i) (balS 3 (endsC zs ((cellsL zs).getD i.toNat [])))), .bool (planeB zs && askB zs i)]) ∧ Ext w w' := by
  cases hok : (planeB zs && askB zs i)
  · simp only [gI, Bool.false_eq_true, if_false]
    go_enter Tryz.func23, Tryz.ntmps23
    go_wp2_with fail
    refine (cellAsked_any _ _ _ zs i hn _ h).mono ?_
    rw [hok]
    rintro e w1 ⟨v, rfl, _, hS⟩
    go_wp2
    go_ret3
    exact ⟨rfl, hS⟩
  · have HLEN := Lib.hid (ends_len (ask_cell hok).1 (ask_cell hok).2)
    have HRF := Lib.hid (ends_rows (ask_cell hok).1 (ask_cell hok).2)
    have HB := Lib.hid (bal_bd HRF.out)
    have hp : planeB zs = true := by simp at hok; exact hok.1
    have hq : askB zs i = true := by simp at hok; exact hok.2
    have hik := inB_true.1 (show inB i 0 (((cellsL zs).length : Int) - 1) = true from hq)
    obtain ⟨k, rfl⟩ : ∃ k : Nat, i = (k : Int) := ⟨i.toNat, by omega⟩
    simp only [Int.toNat_natCast, gI, if_true] at HLEN HRF HB ⊢
    have HZ := Lib.hid (pz_of hp)
    have HK := Lib.hid (show k < (cellsL zs).length by omega)
    have HR := Lib.hid h
    clear hik h
    obtain ⟨L, hL⟩ : ∃ L, L = endsC zs ((cellsL zs).getD k []) := ⟨_, rfl⟩
    rw [← hL] at HLEN HRF HB ⊢
    have HLL := Lib.hid hL
    clear hL
    go_enter Tryz.func23, Tryz.ntmps23
    go_wp2_with fail
    refine (cellAsked_any _ _ _ zs _ hn _ HR.out).mono ?_
    rw [hok]
    rintro e w1 ⟨v, rfl, hv, hS1⟩
    obtain ⟨g, rfl, hD⟩ := hv hp
    have HE1 := Lib.hid hS1
    have HD := Lib.hid hD
    clear hv hD hS1 HR
    go_wp2_with fail
    refine (ends_at_any _ g a n c k zs HZ.out HK.out w1 HD.out).mono ?_
    rintro e w2 ⟨s2, ts, rfl, ho2, hts, hE2⟩
    rw [← HLL.out] at hts
    have hl24 := HLEN.out
    obtain ⟨sa, sc, rfl⟩ := ho2.form
    have HTS := Lib.hid hts
    have htl : ts.length ≤ 24 := by rw [← List.length_map (f := (·.2)), hts]; exact hl24
    have HLT := Lib.hid (show ts.length = L.length by rw [← List.length_map (f := (·.2)), hts])
    have HO2 := Lib.hid ho2
    have HE2 := Lib.hid (HE1.out.trans hE2)
    clear ho2 hts hE2
    go_wp2
    go_loopw [9, 10, 25] (fun s t u wr => ∃ q : Nat, q ≤ ts.length ∧ u = .int .i64 q ∧ s = .int .i64 (balS 2 (L.take q)) ∧ t = .int .i64 (balS 3 (L.take q)) ∧ Ext w2 wr) (fun _ _ u _ => ts.length - (intOf u).toNat)
    case atStart => exact ⟨0, Nat.zero_le _, rfl, rfl, rfl, Ext.refl _⟩
    case round =>
      obtain ⟨q, hq, rfl, rfl, rfl, hE⟩ := hrel
      by_cases hlk : q < ts.length
      · have hlk2 : q < L.length := by rw [← HLT.out]; exact hlk
        obtain ⟨i1, j1, ex, ey, sd, hrw, b1, b2, b3⟩ := HRF.out (L.getD q []) (by rw [show L.getD q [] = L[q] by simp [List.getD, hlk2]]; exact List.getElem_mem _)
        have hT2 := bal_step 2 hlk2
        have hT3 := bal_step 3 hlk2
        rw [hrw] at hT2 hT3
        have HT2 := Lib.hid (show balS 2 (L.take (q + 1)) = balS 2 (L.take q) + ex * sd from hT2)
        have HT3 := Lib.hid (show balS 3 (L.take (q + 1)) = balS 3 (L.take q) + ey * sd from hT3)
        have g2 := (HB.out q (by omega)).1
        have g3 := (HB.out q (by omega)).2
        have hol := HO2.out.ext hE
        have hva := hol.va
        rw [HTS.out] at hva
        obtain ⟨ak, ck, hvk, hrk⟩ := hva.at q hlk2
        obtain ⟨gc, rfl, _, hgc2⟩ := own_head hol.1 (by omega)
        have hck := (hol.1.cellAt q (by omega)).trans hvk
        rw [hrw] at hck hrk
        simp only [List.length_cons, List.length_nil, Nat.zero_add, Nat.reduceAdd] at hck hrk
        obtain ⟨bx, ox, rfl, hcx⟩ := hrk.2 (by omega)
        have k2 : wr.cell? ⟨bx, ox + 2, none⟩ = some (.int .i64 ex) := hcx 2 _ rfl
        have k3 : wr.cell? ⟨bx, ox + 3, none⟩ = some (.int .i64 ey) := hcx 3 _ rfl
        have k4 : wr.cell? ⟨bx, ox + 4, none⟩ = some (.int .i64 sd) := hcx 4 _ rfl
        have hqn : (q : Int) < (ts.length : Int) := by omega
        have HEr := Lib.hid hE
        have p1 := mul_bd (A := 6) (D := 6) (a := ex) (d := sd) (by omega) (by omega) (by omega) (by omega)
        have p2 := mul_bd (A := 6) (D := 6) (a := ey) (d := sd) (by omega) (by omega) (by omega) (by omega)
        clear hT2 hT3 hol hva hvk hrk hcx hrw hlk2 hE
        generalize balS 2 (L.take q) = s2 at *
        generalize balS 3 (L.take q) = s3 at *
        go_wp2
        go_quiet (fail)
        go_wp2
        go_quiet (fail)
        go_wp2
        go_roundw
        case rel => exact ⟨q + 1, by omega, by go_num, by rw [HT2.out], by rw [HT3.out], by first | exact Ext.drewN HEr.out _ | exact Ext.drewN (Ext.drewN HEr.out _) _⟩
        case measure => simp [intOf]; omega
      · obtain rfl : q = ts.length := by omega
        have HTL := Lib.hid (show L.take ts.length = L by rw [HLT.out, List.take_length])
        have HEF := Lib.hid (HE2.out.trans hE)
        clear hE
        rw [HTL.out]
        go_wp2
        go_ret3
        exact ⟨rfl, HEF.out⟩
set_option maxHeartbeats 4000000 in
theorem spec_BalanceAt_any (a : Option Addr) (n c : Nat) (zs : List (Int × Int × Int)) (i : Int) (hn : n ≤ 1048576) (w : World) (h : Reads w a 3 n (tv zs)) :
    Calls Tryz.prog 22 #[.slice a n c, .int .i64 i] w fun r w' => r = .returned (.tuple #[.int .i64 (gI (planeB zs && askB zs i) (balS 2 (endsC zs ((cellsL zs).getD i.toNat [])))), .int .i64 (gI (planeB zs && askB zs i) (balS 3 (endsC zs ((cellsL zs).getD i.toNat [])))), .bool (planeB zs && askB zs i)]) ∧ Ext w w' := by
  cases hok : (planeB zs && askB zs i)
  · simp only [gI, Bool.false_eq_true, if_false]
    go_enter Tryz.func22, Tryz.ntmps22
    go_wp2_with fail
    refine (cuCell_any _ _ _ zs i hn _ h).mono ?_
    rintro e w1 ⟨a1, n1, c1, rfl, _, hS⟩
    rw [hok]
    go_wp2
    go_ret3
    exact ⟨rfl, hS⟩
  · have HLEN := Lib.hid (ends_len (ask_cell hok).1 (ask_cell hok).2)
    have HRF := Lib.hid (ends_rows (ask_cell hok).1 (ask_cell hok).2)
    have HB := Lib.hid (bal_bd HRF.out)
    have hp : planeB zs = true := by simp at hok; exact hok.1
    have HZ := Lib.hid (pz_of hp)
    have HX := Lib.hid (show IsCell zs ((cellsL zs).getD i.toNat []) from by
      have hq : askB zs i = true := by simp at hok; exact hok.2
      have hik := inB_true.1 (show inB i 0 (((cellsL zs).length : Int) - 1) = true from hq)
      exact cell_at (by omega))
    have HR := Lib.hid h
    simp only [gI, if_true]
    clear h
    obtain ⟨L, hL⟩ : ∃ L, L = endsC zs ((cellsL zs).getD i.toNat []) := ⟨_, rfl⟩
    rw [← hL] at HLEN HRF HB ⊢
    have HLL := Lib.hid hL
    clear hL
    go_enter Tryz.func22, Tryz.ntmps22
    go_wp2_with fail
    refine (cuCell_any _ _ _ zs i hn _ HR.out).mono ?_
    rintro e w1 ⟨a1, n1, c1, rfl, hrd, hS1⟩
    rw [hok]
    have HE1 := Lib.hid hS1
    have HRD := Lib.hid (hrd hok)
    have HR1 := Lib.hid (Reads.ext hS1 HR.out)
    clear hrd hS1 HR
    generalize ((cellsL zs).getD i.toNat []) = x at *
    go_wp2_with fail
    refine (cuEnds_any _ _ _ _ _ _ zs HZ.out x HX.out w1 HR1.out HRD.out).mono ?_
    rintro e w2 ⟨s2, ts, rfl, ho2, hts, hE2⟩
    rw [← HLL.out] at hts
    have hl24 := HLEN.out
    obtain ⟨sa, sc, rfl⟩ := ho2.form
    have HTS := Lib.hid hts
    have htl : ts.length ≤ 24 := by rw [← List.length_map (f := (·.2)), hts]; exact hl24
    have HLT := Lib.hid (show ts.length = L.length by rw [← List.length_map (f := (·.2)), hts])
    have HO2 := Lib.hid ho2
    have HE2 := Lib.hid (HE1.out.trans hE2)
    clear ho2 hts hE2
    go_wp2
    go_loopw [9, 10, 25] (fun s t u wr => ∃ q : Nat, q ≤ ts.length ∧ u = .int .i64 q ∧ s = .int .i64 (balS 2 (L.take q)) ∧ t = .int .i64 (balS 3 (L.take q)) ∧ Ext w2 wr) (fun _ _ u _ => ts.length - (intOf u).toNat)
    case atStart => exact ⟨0, Nat.zero_le _, rfl, rfl, rfl, Ext.refl _⟩
    case round =>
      obtain ⟨q, hq, rfl, rfl, rfl, hE⟩ := hrel
      by_cases hlk : q < ts.length
      · have hlk2 : q < L.length := by rw [← HLT.out]; exact hlk
        obtain ⟨i1, j1, ex, ey, sd, hrw, b1, b2, b3⟩ := HRF.out (L.getD q []) (by rw [show L.getD q [] = L[q] by simp [List.getD, hlk2]]; exact List.getElem_mem _)
        have hT2 := bal_step 2 hlk2
        have hT3 := bal_step 3 hlk2
        rw [hrw] at hT2 hT3
        have HT2 := Lib.hid (show balS 2 (L.take (q + 1)) = balS 2 (L.take q) + ex * sd from hT2)
        have HT3 := Lib.hid (show balS 3 (L.take (q + 1)) = balS 3 (L.take q) + ey * sd from hT3)
        have g2 := (HB.out q (by omega)).1
        have g3 := (HB.out q (by omega)).2
        have hol := HO2.out.ext hE
        have hva := hol.va
        rw [HTS.out] at hva
        obtain ⟨ak, ck, hvk, hrk⟩ := hva.at q hlk2
        obtain ⟨gc, rfl, _, hgc2⟩ := own_head hol.1 (by omega)
        have hck := (hol.1.cellAt q (by omega)).trans hvk
        rw [hrw] at hck hrk
        simp only [List.length_cons, List.length_nil, Nat.zero_add, Nat.reduceAdd] at hck hrk
        obtain ⟨bx, ox, rfl, hcx⟩ := hrk.2 (by omega)
        have k2 : wr.cell? ⟨bx, ox + 2, none⟩ = some (.int .i64 ex) := hcx 2 _ rfl
        have k3 : wr.cell? ⟨bx, ox + 3, none⟩ = some (.int .i64 ey) := hcx 3 _ rfl
        have k4 : wr.cell? ⟨bx, ox + 4, none⟩ = some (.int .i64 sd) := hcx 4 _ rfl
        have hqn : (q : Int) < (ts.length : Int) := by omega
        have HEr := Lib.hid hE
        have p1 := mul_bd (A := 6) (D := 6) (a := ex) (d := sd) (by omega) (by omega) (by omega) (by omega)
        have p2 := mul_bd (A := 6) (D := 6) (a := ey) (d := sd) (by omega) (by omega) (by omega) (by omega)
        clear hT2 hT3 hol hva hvk hrk hcx hrw hlk2 hE
        generalize balS 2 (L.take q) = s2 at *
        generalize balS 3 (L.take q) = s3 at *
        go_wp2
        go_quiet (fail)
        go_wp2
        go_quiet (fail)
        go_wp2
        go_roundw
        case rel => exact ⟨q + 1, by omega, by go_num, by rw [HT2.out], by rw [HT3.out], by first | exact Ext.drewN HEr.out _ | exact Ext.drewN (Ext.drewN HEr.out _) _⟩
        case measure => simp [intOf]; omega
      · obtain rfl : q = ts.length := by omega
        have HTL := Lib.hid (show L.take ts.length = L by rw [HLT.out, List.take_length])
        have HEF := Lib.hid (HE2.out.trans hE)
        clear hE
        rw [HTL.out]
        go_wp2
        go_ret3
        exact ⟨rfl, HEF.out⟩
set_option maxHeartbeats 2000000 in
set_option maxRecDepth 100000 in
theorem law_BalanceAt (a0 : Option Addr) (n0 c0 : Nat) (zs : List (Int × Int × Int)) (i : Int) (w : World) (hr0 : IsTri w a0 n0 c0 zs) :
    Calls Tryz.prog 5 #[.slice a0 n0 c0, .int .i64 i] w fun r w' => r = .returned (.bool true) ∧ Ext w w' := by
  have h0 : Reads w a0 3 n0 (tv zs) := hr0.1
  have hc01 := hr0.2.1
  have hc02 := hr0.2.2.1
  unfold maxLen at hc02
  clear hr0
  have hl0 : zs.length = n0 := by have := h0.1; rw [tv_len] at this; omega
  by_cases hg0 : n0 ≤ 1048576
  rotate_left
  · go_enter Tryz.func5, Tryz.ntmps5
    go_wp2_with fail
    refine (szTermS_no _ _ _ _ (by omega) (by omega) (by omega) (by omega) _).mono ?_
    rintro e _ ⟨rfl, rfl⟩
    go_wp2
    go_ret
    exact ⟨rfl, (by repeat (first | exact Ext.refl _ | assumption | apply Ext.alloc | apply Ext.drew | apply Ext.drewN | (refine Ext.trans ?_ (by assumption)) | (refine Ext.setCell ?_ (by (try simp) <;> omega) _)))⟩
  have hm0 : n0 ≤ 1048576 := by omega
  obtain ⟨V, eV⟩ : ∃ z0 : Int, z0 = (gI (planeB zs && askB zs i) (balS 2 (endsC zs ((cellsL zs).getD i.toNat [])))) := ⟨_, rfl⟩
  obtain ⟨U, eU⟩ : ∃ z0 : Int, z0 = (gI (planeB zs && askB zs i) (balS 3 (endsC zs ((cellsL zs).getD i.toNat [])))) := ⟨_, rfl⟩
  obtain ⟨K, eK⟩ : ∃ z0 : Bool, z0 = (planeB zs && askB zs i) := ⟨_, rfl⟩
  have HS := Lib.hid (show ∀ (b0 : Nat) w,Reads w (some ⟨b0, 0, none⟩) 3 n0 (tv zs) → Calls Tryz.prog 22 #[.slice (some ⟨b0, 0, none⟩) n0 n0, .int .i64 i] w (fun r w' => r = .returned (.tuple #[.int .i64 V, .int .i64 U, .bool K]) ∧ Ext w w') by rw [eV, eU, eK]; intro b0 w h0; exact spec_BalanceAt_any _ _ _ zs i (by omega) _ h0)
  have HI := Lib.hid (show ∀ (b0 : Nat) w,Reads w (some ⟨b0, 0, none⟩) 3 n0 (tv zs) → Calls Tryz.prog 23 #[.slice (some ⟨b0, 0, none⟩) n0 n0, .int .i64 i] w (fun r w' => r = .returned (.tuple #[.int .i64 V, .int .i64 U, .bool K]) ∧ Ext w w') by rw [eV, eU, eK]; intro b0 w h0; exact impl_BalanceAt_any _ _ _ zs i (by omega) _ h0)
  clear eV eU eK
  go_enter Tryz.func5, Tryz.ntmps5
  go_wp2_with fail
  refine (szTermS_yes _ _ _ _ (by omega) (by omega) _).mono ?_
  rintro e _ ⟨rfl, rfl⟩
  have hE : Ext w w := (by repeat (first | exact Ext.refl _ | assumption | apply Ext.alloc | apply Ext.drew | apply Ext.drewN | (refine Ext.trans ?_ (by assumption)) | (refine Ext.setCell ?_ (by (try simp) <;> omega) _)))
  go_wp2_with fail
  refine (toTermS_any _ _ _ zs hm0 _ (h0.ext hE)).mono ?_
  rintro e w1 ⟨gs0, rfl, xs0, hb⟩
  have hz1 := hb.size
  replace hE := Ext.trans hE hb
  clear hb
  have xs00 := xs0
  go_wp2_with fail
  refine (HS.out _ _ (own_reads xs0)).mono ?_
  rintro e w2 ⟨rfl, hb⟩
  have hz2 := hb.size
  replace hE := Ext.trans hE hb
  replace xs0 := own_ext hb xs0
  clear hb
  clear xs0
  go_wp2_with fail
  refine (toTermS_any _ _ _ zs hm0 _ (h0.ext hE)).mono ?_
  rintro e w3 ⟨gp0, rfl, xp0, hb⟩
  have hz3 := hb.size
  replace hE := Ext.trans hE hb
  clear hb
  have xp00 := xp0
  go_wp2_with fail
  refine (HI.out _ _ (own_reads xp0)).mono ?_
  rintro e w4 ⟨rfl, hb⟩
  have hz4 := hb.size
  replace hE := Ext.trans hE hb
  replace xp0 := own_ext hb xp0
  clear hb
  go_wp2_with fail
  refine (toTermS_any _ _ _ zs hm0 _ (h0.ext hE)).mono ?_
  rintro e w5 ⟨gq0, rfl, xq0, hb⟩
  have hz5 := hb.size
  replace hE := Ext.trans hE hb
  replace xp0 := own_ext hb xp0
  clear hb
  have xq00 := xq0
  go_wp2_with fail
  refine (eqTermS_same _ _ _ _ _ zs (by omega) _ (own_reads xp0) (own_reads xq0)).mono ?_
  rintro e w6 ⟨rfl, hb⟩
  have hz6 := hb.size
  replace hE := Ext.trans hE hb
  replace xp0 := own_ext hb xp0
  replace xq0 := own_ext hb xq0
  clear hb
  clear xq0
  go_wp2
  go_ret
  exact ⟨rfl, hE⟩

end Go.Proofs.YtngbdopgdcjdeaaGreat
