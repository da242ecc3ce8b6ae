/-
  A star read of a text: the reference's walk; both sides tell the same.
-/
import Derived.Test.YtgoaedhgkkbajaaDoorParseLW
import Derived.Test.YtgoaedhgkkbajaaDoorParseSP
import Derived.Test.YtgoaedhgkkbajaaDoorStarT
import Derived.Test.YtgoaedhgkkbajaaDoorScale
import Derived.Test.YtgoaedhgkkbajaaDoorAway
namespace Go.Proofs.YtgoaedhgkkbajaaDoor
open Go.RowKit

/-- What is said of a star that was read of a text. -/
def tellS (c : Option (List (Int × Int × Int))) (l : List UInt8) : List (Int × Int × Int) × Bool := match c with
  | some zs => if starB zs = true ∧ starT zs = txt l then (zs, true) else ([], false)
  | none => ([], false)
theorem starT_LL (zs : List (Int × Int × Int)) : starT zs = txt (starLL zs) := by
  have key : ∀ (zs : List (Int × Int × Int)) (s : List UInt8), zs.foldl (fun s r => s ++ rayT r) (txt s) = txt (s ++ starLL zs) := by
    intro zs
    induction zs with
    | nil => intro s; simp [starLL]
    | cons r l ih =>
      intro s
      rw [List.foldl_cons]
      have : txt s ++ rayT r = txt (s ++ (rayLL r ++ [59])) := by
        unfold rayT rayLL
        rw [show (⟨#[42]⟩ : ByteArray) = txt [42] from rfl, show (⟨#[44]⟩ : ByteArray) = txt [44] from rfl, show (⟨#[59]⟩ : ByteArray) = txt [59] from rfl]
        simp only [txt_app]
        congr 1
        simp
      rw [this, ih, starLL]
      congr 1
      simp
  exact key zs []
theorem tellS_same (l : List UInt8) : tellS (starI l) l = tellS (starS l) l := by
  have key : ∀ c : Option (List (Int × Int × Int)), ∀ zs, (starB zs = true ∧ starT zs = txt l) → (c = some zs → tellS c l = (zs, true)) := by
    rintro c zs h rfl
    unfold tellS
    simp only
    rw [if_pos h]
  by_cases hx : ∃ zs, starB zs = true ∧ starT zs = txt l
  · obtain ⟨zs, h1, h2⟩ := hx
    rcases starB_cases zs with h0 | ⟨_, h3, h4⟩
    · rw [h0] at h1; cases h1
    have hl : l = starLL zs := by
      apply txt_inj
      rw [← h2, starT_LL]
    have hb : ∀ r ∈ zs, (-20 ≤ r.1 ∧ r.1 ≤ 20) ∧ (-20 ≤ r.2.1 ∧ r.2.1 ≤ 20) ∧ (1 ≤ r.2.2 ∧ r.2.2 ≤ 20) := by
      intro r hr
      obtain ⟨k, hk, rfl⟩ := List.getElem_of_mem hr
      have := h4 k hk
      rw [show tat zs k = zs[k] by simp [tat, List.getD, hk]] at this
      exact ⟨this.1, this.2.1, this.2.2⟩
    rw [key _ zs ⟨h1, h2⟩ (by rw [hl]; exact starI_star hb), key _ zs ⟨h1, h2⟩ (by rw [hl]; exact starS_star h3 hb)]
  · have no : ∀ c, tellS c l = ([], false) := by
      intro c
      unfold tellS
      split
      · rename_i zs
        rw [if_neg fun h => hx ⟨zs, h⟩]
      · rfl
    rw [no, no]
theorem rayS_two {p a b c d : List UInt8} (h1 : splitL 42 p = [a, b]) (h2 : splitL 44 b = [c, d]) : rayS p = if parB c = true ∧ parB d = true then some (parL c, parL d, readW a) else none := by
  unfold rayS
  rw [h1]
  simp only [h2]
theorem rayS_no1 {p : List UInt8} (h1 : (splitL 42 p).length ≠ 2) : rayS p = none := by
  unfold rayS
  split
  · rename_i h; rw [h] at h1; simp at h1
  · rfl
theorem rayS_no2 {p a b : List UInt8} (h1 : splitL 42 p = [a, b]) (h2 : (splitL 44 b).length ≠ 2) : rayS p = none := by
  unfold rayS
  rw [h1]
  simp only
  split
  · rename_i h; rw [h] at h2; simp at h2
  · rfl
theorem raysL_take {f : List UInt8 → Option (Int × Int × Int)} {ps : List (List UInt8)} {i : Nat} {p : List UInt8} (hp : ps[i]? = some p) : raysL f (ps.take (i + 1)) = (raysL f (ps.take i)).bind fun l => (f p).bind fun x => some (l ++ [x]) := by
  rw [← raysL_app]
  congr 1
  rw [List.take_add_one, hp]
  rfl
theorem readW_bd (l : List UInt8) : -1 ≤ readW l ∧ readW l < 10000000000 := by
  unfold readW
  split
  · rename_i h
    have := valD_small (l := l) (by omega) h.2
    omega
  · omega
set_option maxHeartbeats 4000000 in
set_option maxRecDepth 100000 in
set_option linter.unusedSimpArgs false in
theorem spec_ParseStar_any0 (l : List UInt8) (hl : l.length ≤ 1048576) (w : World) :
    Calls Tryd.prog 31 #[.string (txt l)] w (OwnsTriB 70 w.heap.size (tellS (starS l) l).1 (tellS (starS l) l).2 w) := by
  have HSp := Lib.hid (fun w => l1Split_any l 59 hl w)
  have HPL := Lib.hid (fun p (hp : p ∈ splitL 59 l) => show p.length ≤ 1048576 by have := splitGo_len 59 l [] p hp; simp at this; omega)
  have hpn : (splitL 59 l).length ≤ 1048577 := by have := splitGo_count 59 l []; unfold splitL; omega
  have hpp : 0 < (splitL 59 l).length := by
    obtain ⟨p, q, hpq⟩ := splitGo_ne 59 l []
    unfold splitL; rw [hpq]; simp
  obtain ⟨ps, hps⟩ : ∃ ps, ps = splitL 59 l := ⟨_, rfl⟩
  have HSL := Lib.hid hps.symm
  rw [← hps] at HSp HPL hpn hpp
  clear hps
  by_cases hbig : 11 < ps.length
  · have HV := Lib.hid (show tellS (starS l) l = ([], false) by unfold starS; rw [HSL.out, if_pos hbig]; rfl)
    have h1 : decide ((11 : Int) < (ps.length : Int)) = true := by simp; omega
    go_enter Tryd.func31, Tryd.ntmps31
    go_wp2_with fail
    refine (HSp.out _).mono ?_
    rintro e w1 ⟨a0, c0, rfl, hown, hb⟩
    go_wp2
    go_ret2
    rw [HV.out]
    exact ⟨none, 0, rfl, own_none _ _ _, hb⟩
  · obtain ⟨m, hm⟩ : ∃ m, ps.length = m + 1 := ⟨ps.length - 1, by omega⟩
    have hqs : ps.dropLast = ps.take m := by rw [List.dropLast_eq_take, hm]; rfl
    have HST := Lib.hid (show starS l = raysL rayS (ps.take m) by unfold starS; rw [HSL.out, if_neg hbig, hqs])
    clear hqs HSL
    have h1 : decide ((11 : Int) < (m : Int) + 1) = false := by simp; omega
    go_enter Tryd.func31, Tryd.ntmps31
    go_wp2_with fail
    refine (HSp.out _).mono ?_
    rintro e w1 ⟨a0, c0, rfl, hown, hb⟩
    rw [hm] at hown ⊢
    obtain ⟨gr, rfl, hg1, hg2⟩ := own_head hown (by omega)
    have hcp := (own_room hown).1
    have hcp2 := (own_room hown).2
    unfold maxLen at hcp2
    have HRd := Lib.hid (fun (j : Nat) (p : List UInt8) (hj : ps[j]? = some p) => show w1.cell? ⟨gr, j, none⟩ = some (.string (txt p)) by
      have hj2 := (List.getElem?_eq_some_iff.1 hj).1
      exact (hown.cellAt j (by omega)).trans (by simp [sv, hj]))
    clear hown
    have hwm : IntKind.i64.wrap (m : Int) = m := by rw [wrap_i64] <;> omega
    have hlt1 : (m : Int) < (m : Int) + 1 := by omega
    have h0m : (0 : Int) ≤ m := by omega
    have hcp3 : (m : Int) ≤ c0 := by omega
    go_wp2
    go_loopw [5, 25] (fun s t wr => ∃ (i : Nat) (a : Option Addr) (c : Nat) (zs : List (Int × Int × Int)), i ≤ m ∧ t = .int .i64 i ∧ s = .slice a i c ∧ wr.ownsRow w1.heap.size 70 3 (.slice a i c) i (tv zs) ∧ Hid (raysL rayS (ps.take i) = some zs) ∧ Ext w1 wr) (fun _ t _ => m - (intOf t).toNat)
    case atStart => exact ⟨0, none, 0, [], Nat.zero_le _, rfl, rfl, own_none _ _ _, Lib.hid rfl, Ext.refl _⟩
    case round =>
      obtain ⟨i, a, c, zs, hi, rfl, rfl, hown, HP, hE⟩ := hrel
      have e2 := hb.trans hE
      by_cases hlt : i < m
      · obtain ⟨p, hp⟩ : ∃ p, ps[i]? = some p := ⟨ps[i]'(by omega), by simp [show i < ps.length by omega]⟩
        have hc := hE.keep (HRd.out i p hp)
        have hpl := HPL.out p (List.mem_of_getElem? hp)
        have hgw : gr < wr.heap.size := Nat.lt_of_lt_of_le hg2 hE.size
        have HNo := Lib.hid (fun h : rayS p = none => show tellS (starS l) l = ([], false) by
          rw [HST.out, raysL_none (k := i) (p := p) (by rw [List.getElem?_take, if_pos hlt]; exact hp) h]
          rfl)
        have HTK := Lib.hid (raysL_take (f := rayS) hp)
        rw [HP.out] at HTK
        have HS2 := Lib.hid (fun w => l1Split_any p 42 hpl w)
        have HPL2 := Lib.hid (fun q (hq : q ∈ splitL 42 p) => show q.length ≤ 1048576 by have := splitGo_len 42 p [] q hq; simp at this; omega)
        have hpn2 : (splitL 42 p).length ≤ 1048577 := by have := splitGo_count 42 p []; unfold splitL; omega
        by_cases h2 : (splitL 42 p).length = 2
        · obtain ⟨pa, pb, hs2⟩ : ∃ pa pb, splitL 42 p = [pa, pb] := by
            match splitL 42 p, h2 with
            | [pa, pb], _ => exact ⟨pa, pb, rfl⟩
          rw [hs2] at HS2
          have hbl := HPL2.out pb (by rw [hs2]; simp)
          have hal := HPL2.out pa (by rw [hs2]; simp)
          have HS4 := Lib.hid (fun w => l1Split_any pb 44 hbl w)
          have HPL4 := Lib.hid (fun q (hq : q ∈ splitL 44 pb) => show q.length ≤ 1048576 by have := splitGo_len 44 pb [] q hq; simp at this; omega)
          have hpn4 : (splitL 44 pb).length ≤ 1048577 := by have := splitGo_count 44 pb []; unfold splitL; omega
          clear hpn2 HPL2 h2
          by_cases h4 : (splitL 44 pb).length = 2
          · obtain ⟨pc, pd, hs4⟩ : ∃ pc pd, splitL 44 pb = [pc, pd] := by
              match splitL 44 pb, h4 with
              | [pc, pd], _ => exact ⟨pc, pd, rfl⟩
            rw [hs4] at HS4
            have hcl := HPL4.out pc (by rw [hs4]; simp)
            have hdl := HPL4.out pd (by rw [hs4]; simp)
            have HR := Lib.hid (rayS_two hs2 hs4)
            have Hpc := Lib.hid (fun w => nuParse_any pc hcl w)
            have Hpd := Lib.hid (fun w => nuParse_any pd hdl w)
            have Hpa := Lib.hid (fun w => l1Read_any pa w hal)
            clear hpn4 HPL4 h4 hs2 hs4 hp hpl
            cases hbc : parB pc
            · rw [hbc] at Hpc
              have HV := Lib.hid (HNo.out (by rw [HR.out]; simp [hbc]))
              clear HNo HTK HP HR hown
              go_wp2_with fail
              refine (HS2.out _).mono ?_
              rintro e w2 ⟨a2, c2, rfl, hown2, hb2⟩
              obtain ⟨gb, rfl, hb1, hb1'⟩ := own_head hown2 (by simp)
              have ca := Ext.keeps (show w2.cell? ⟨gb, 0, none⟩ = some (.string (txt pa)) from (hown2.cellAt 0 (by simp)).trans (by simp [sv]))
              have cb := Ext.keeps (show w2.cell? ⟨gb, 1, none⟩ = some (.string (txt pb)) from (hown2.cellAt 1 (by simp)).trans (by simp [sv]))
              have cb0 := cb _ (Ext.refl _)
              clear hown2 hc
              go_wp2_with fail
              refine (HS4.out _).mono ?_
              rintro e w3 ⟨a3, c3, rfl, hown3, hb3⟩
              obtain ⟨gv, rfl, hv1, hv1'⟩ := own_head hown3 (by simp)
              have cc := Ext.keeps (show w3.cell? ⟨gv, 0, none⟩ = some (.string (txt pc)) from (hown3.cellAt 0 (by simp)).trans (by simp [sv]))
              have cd := Ext.keeps (show w3.cell? ⟨gv, 1, none⟩ = some (.string (txt pd)) from (hown3.cellAt 1 (by simp)).trans (by simp [sv]))
              have cc0 := cc _ (Ext.refl _)
              clear hown3 cb0 cb
              go_wp2_with fail
              refine (Hpc.out _).mono ?_
              rintro e w4 ⟨rfl, hb4⟩
              have cd0 := cd _ hb4
              clear cc0 cc cd
              go_wp2_with fail
              refine (Hpd.out _).mono ?_
              rintro e w5 ⟨rfl, hb5⟩
              have ca0 := ca _ (hb3.trans (hb4.trans hb5))
              clear cd0 ca
              have e5 := hE.trans (hb2.trans (hb3.trans (hb4.trans hb5)))
              have x5 := hb.trans e5
              go_wp2
              go_ret2
              rw [HV.out]
              exact ⟨none, 0, rfl, own_none _ _ _, x5⟩
            · cases hbd : parB pd
              · rw [hbc] at Hpc
                rw [hbd] at Hpd
                have HV := Lib.hid (HNo.out (by rw [HR.out]; simp [hbc, hbd]))
                clear HNo HTK HP HR hown
                go_wp2_with fail
                refine (HS2.out _).mono ?_
                rintro e w2 ⟨a2, c2, rfl, hown2, hb2⟩
                obtain ⟨gb, rfl, hb1, hb1'⟩ := own_head hown2 (by simp)
                have ca := Ext.keeps (show w2.cell? ⟨gb, 0, none⟩ = some (.string (txt pa)) from (hown2.cellAt 0 (by simp)).trans (by simp [sv]))
                have cb := Ext.keeps (show w2.cell? ⟨gb, 1, none⟩ = some (.string (txt pb)) from (hown2.cellAt 1 (by simp)).trans (by simp [sv]))
                have cb0 := cb _ (Ext.refl _)
                clear hown2 hc
                go_wp2_with fail
                refine (HS4.out _).mono ?_
                rintro e w3 ⟨a3, c3, rfl, hown3, hb3⟩
                obtain ⟨gv, rfl, hv1, hv1'⟩ := own_head hown3 (by simp)
                have cc := Ext.keeps (show w3.cell? ⟨gv, 0, none⟩ = some (.string (txt pc)) from (hown3.cellAt 0 (by simp)).trans (by simp [sv]))
                have cd := Ext.keeps (show w3.cell? ⟨gv, 1, none⟩ = some (.string (txt pd)) from (hown3.cellAt 1 (by simp)).trans (by simp [sv]))
                have cc0 := cc _ (Ext.refl _)
                clear hown3 cb0 cb
                go_wp2_with fail
                refine (Hpc.out _).mono ?_
                rintro e w4 ⟨rfl, hb4⟩
                have cd0 := cd _ hb4
                clear cc0 cc cd
                go_wp2_with fail
                refine (Hpd.out _).mono ?_
                rintro e w5 ⟨rfl, hb5⟩
                have ca0 := ca _ (hb3.trans (hb4.trans hb5))
                clear cd0 ca
                have e5 := hE.trans (hb2.trans (hb3.trans (hb4.trans hb5)))
                have x5 := hb.trans e5
                go_wp2
                go_ret2
                rw [HV.out]
                exact ⟨none, 0, rfl, own_none _ _ _, x5⟩
              · have HTK2 := Lib.hid (show raysL rayS (ps.take (i + 1)) = some (zs ++ [(parL pc, parL pd, readW pa)]) by rw [HTK.out, HR.out]; simp [hbc, hbd])
                rw [hbc, show gI true (parL pc) = parL pc from rfl] at Hpc
                rw [hbd, show gI true (parL pd) = parL pd from rfl] at Hpd
                clear HNo HTK HP HR hbc hbd
                generalize parL pc = X at *
                generalize parL pd = Y at *
                generalize readW pa = Z at *
                go_wp2_with fail
                refine (HS2.out _).mono ?_
                rintro e w2 ⟨a2, c2, rfl, hown2, hb2⟩
                obtain ⟨gb, rfl, hb1, hb1'⟩ := own_head hown2 (by simp)
                have ca := Ext.keeps (show w2.cell? ⟨gb, 0, none⟩ = some (.string (txt pa)) from (hown2.cellAt 0 (by simp)).trans (by simp [sv]))
                have cb := Ext.keeps (show w2.cell? ⟨gb, 1, none⟩ = some (.string (txt pb)) from (hown2.cellAt 1 (by simp)).trans (by simp [sv]))
                have cb0 := cb _ (Ext.refl _)
                clear hown2 hc
                go_wp2_with fail
                refine (HS4.out _).mono ?_
                rintro e w3 ⟨a3, c3, rfl, hown3, hb3⟩
                obtain ⟨gv, rfl, hv1, hv1'⟩ := own_head hown3 (by simp)
                have cc := Ext.keeps (show w3.cell? ⟨gv, 0, none⟩ = some (.string (txt pc)) from (hown3.cellAt 0 (by simp)).trans (by simp [sv]))
                have cd := Ext.keeps (show w3.cell? ⟨gv, 1, none⟩ = some (.string (txt pd)) from (hown3.cellAt 1 (by simp)).trans (by simp [sv]))
                have cc0 := cc _ (Ext.refl _)
                clear hown3 cb0 cb
                go_wp2_with fail
                refine (Hpc.out _).mono ?_
                rintro e w4 ⟨rfl, hb4⟩
                have cd0 := cd _ hb4
                clear cc0 cc cd
                go_wp2_with fail
                refine (Hpd.out _).mono ?_
                rintro e w5 ⟨rfl, hb5⟩
                have ca0 := ca _ (hb3.trans (hb4.trans hb5))
                clear cd0 ca
                have e5 := hE.trans (hb2.trans (hb3.trans (hb4.trans hb5)))
                have HO := Lib.hid (own_ext (hb2.trans (hb3.trans (hb4.trans hb5))) hown)
                clear hown
                have hz5 := e5.size
                go_wp2_with fail
                refine (Hpa.out _).mono ?_
                rintro e _ ⟨rfl, rfl⟩
                go_wp2_with (at_builtin; refine wpList_appT Tryd.underlying43 ray_info rfl _ _ rfl w1 w1.heap.size _ _ _ zs rfl ?_ ⟨w5.heap.size, 0, none⟩ 1 1 [(X, Y, Z)] rfl rfl ?_ (by omega) (by omega) ?_ ?_ (Nat.le_refl _) ?_)
                · exact own_ext (Ext.alloc (Ext.refl w5) _) HO.out
                · intro q u hq
                  match q, hq with
                  | 0, hq => obtain rfl : Value.int .i64 X = u := by simpa [tv] using hq
                             simp [Addr.add]
                  | 1, hq => obtain rfl : Value.int .i64 Y = u := by simpa [tv] using hq
                             simp [Addr.add]
                  | 2, hq => obtain rfl : Value.int .i64 Z = u := by simpa [tv] using hq
                             simp [Addr.add]
                  | q + 3, hq => simp [tv] at hq
                · simp; omega
                · exact Ext.alloc e5 _
                · intro a6 c6 w6 ho6 hE6
                  go_wp2
                  go_roundw
                  case rel => exact ⟨i + 1, a6, c6, zs ++ [(X, Y, Z)], by omega, by go_num, rfl, ho6, HTK2, hE6⟩
                  case measure => simp [intOf]; omega
          · have HV := Lib.hid (HNo.out (rayS_no2 hs2 h4))
            have hne : decide (((splitL 44 pb).length : Int) = 2) = false := by simp; omega
            have hne2 : ¬ (((splitL 44 pb).length : Int) = 2) := by omega
            generalize splitL 44 pb = vs at *
            clear hp hpl hs2 HNo HTK HP hown
            go_wp2_with fail
            refine (HS2.out _).mono ?_
            rintro e w2 ⟨a2, c2, rfl, hown2, hb2⟩
            obtain ⟨gb, rfl, hb1, hb1'⟩ := own_head hown2 (by simp)
            have ca := Ext.keeps (show w2.cell? ⟨gb, 0, none⟩ = some (.string (txt pa)) from (hown2.cellAt 0 (by simp)).trans (by simp [sv]))
            have cb := Ext.keeps (show w2.cell? ⟨gb, 1, none⟩ = some (.string (txt pb)) from (hown2.cellAt 1 (by simp)).trans (by simp [sv]))
            have cb0 := cb _ (Ext.refl _)
            clear hown2 hc
            go_wp2_with fail
            refine (HS4.out _).mono ?_
            rintro e w3 ⟨a3, c3, rfl, hown3, hb3⟩
            have x3 := (e2.trans hb2).trans hb3
            clear hown3
            go_wp2
            go_ret2
            rw [HV.out]
            exact ⟨none, 0, rfl, own_none _ _ _, x3⟩
        · have HV := Lib.hid (HNo.out (rayS_no1 h2))
          have hne : decide (((splitL 42 p).length : Int) = 2) = false := by simp; omega
          have hne2 : ¬ (((splitL 42 p).length : Int) = 2) := by omega
          generalize splitL 42 p = vs at *
          clear hp hpl HNo HTK HP hown
          go_wp2_with fail
          refine (HS2.out _).mono ?_
          rintro e w2 ⟨a2, c2, rfl, hown2, hb2⟩
          have x2 := e2.trans hb2
          clear hown2
          go_wp2
          go_ret2
          rw [HV.out]
          exact ⟨none, 0, rfl, own_none _ _ _, x2⟩
      · obtain rfl : i = m := by omega
        have hnl : zs.length = i := by have := raysL_len HP.out; rw [List.length_take] at this; omega
        have HCD := Lib.hid (show starS l = some zs by rw [HST.out]; exact HP.out)
        clear HP HST
        have HG := Lib.hid (fun w2 (e : Ext wr w2) => stGood_any a i c zs (by omega) w2 (own_reads (own_ext e hown)))
        rcases starB_cases zs with hz | ⟨hz, hz1, hz2⟩
        · rw [hz] at HG
          have HV := Lib.hid (show tellS (starS l) l = ([], false) by rw [HCD.out]; unfold tellS; simp [hz])
          clear hown
          go_wp2_with fail
          refine (HG.out _ (Ext.refl _)).mono ?_
          rintro e w2 ⟨rfl, hb2⟩
          have x2 := e2.trans hb2
          go_wp2
          go_ret2
          rw [HV.out]
          exact ⟨none, 0, rfl, own_none _ _ _, x2⟩
        · rw [hz] at HG
          have HX := Lib.hid (fun w2 (e : Ext wr w2) => stText_any a i c zs (by omega) (fun k hk => hz2 k hk) w2 (own_reads (own_ext e hown)))
          clear hz2
          go_wp2_with fail
          refine (HG.out _ (Ext.refl _)).mono ?_
          rintro e w2 ⟨rfl, hb2⟩
          go_wp2_with fail
          refine (HX.out _ hb2).mono ?_
          rintro e w3 ⟨rfl, hb3⟩
          have x3 := (e2.trans hb2).trans hb3
          have HO := Lib.hid (own_ext (hb2.trans hb3) hown)
          clear hown
          by_cases hEq : starT zs = txt l
          · have HV := Lib.hid (show tellS (starS l) l = (zs, true) by rw [HCD.out]; unfold tellS; simp [hz, hEq])
            have hq : ((starT zs).toList == (txt l).toList) = true := by rw [hEq]; simp
            clear hEq hz HCD
            go_wp2
            go_ret2
            rw [HV.out]
            have ho := own_mono hb.size HO.out
            rw [← hnl] at ho ⊢
            exact ⟨a, c, rfl, ho, x3⟩
          · have HV := Lib.hid (show tellS (starS l) l = ([], false) by rw [HCD.out]; unfold tellS; simp [hEq])
            have hq : ((starT zs).toList == (txt l).toList) = false := by
              simp only [beq_eq_false_iff_ne, ne_eq]
              intro e
              apply hEq
              rw [ByteArray.toList_eq, ByteArray.toList_eq] at e
              exact ByteArray.ext (Array.toList_inj.1 e)
            clear hEq hz HCD
            go_wp2
            go_ret2
            rw [HV.out]
            exact ⟨none, 0, rfl, own_none _ _ _, x3⟩
end Go.Proofs.YtgoaedhgkkbajaaDoor
