/-
  What the laws' walks stand on, part 4 of 4: texts of this claim's own, one behind the other. No condition.
-/
import Derived.Test.YtngbdopgdcjdeaaGreatBa3
import Derived.BigQuiet
import Derived.Deep.RegionHeld3
import Derived.Lib.SliceRun
namespace Go.Proofs.YtngbdopgdcjdeaaGreat
open Go.RowKit

/-- The cells under way. -/
def CellSt (w2 wr : World) (B g : Nat) (T P M : Value) (acc : List (List Int)) : Prop :=
  ∃ s ps, StructG wr g T P s (.slice none 0 0) M ∧ OwnL wr B s ps ∧ ps.map (·.2) = acc ∧ w2.grownBy wr (some g)
theorem once_form {zs : List (Int × Int × Int)} (hA : Apt zs) {y : List Int} (h : y ∈ onceL zs) : ∃ i j : Nat, i < j ∧ j < zs.length ∧ y = [(i : Int), (j : Int)] := by
  have h1 := (foldE_mem (allE zs)).1 y h
  unfold allE at h1
  obtain ⟨x, hx, hy⟩ := List.mem_flatMap.1 h1
  obtain ⟨i, j, h2, h3, h4, _⟩ := side_way hA (mem_cellsL.1 hx) (mem_sidesL.1 hy)
  exact ⟨i, j, h2, h3, h4⟩
theorem sort_strict {qs : List (Value × List Int)} (h : qs.Pairwise (fun a b => ltL b.2 a.2 = false)) (hn : (qs.map (·.2)).Nodup) : SortL (qs.map (·.2)) := by
  unfold SortL
  rw [List.pairwise_map]
  rw [List.Nodup, List.pairwise_map] at hn
  refine (List.pairwise_and_iff.2 ⟨h, hn⟩).imp fun {a b} ⟨h1, h2⟩ => ?_
  rcases ltL_total a.2 b.2 with t | t | t
  · exact t
  · exact absurd t h2
  · rw [h1] at t; cases t
theorem mm_b64 {t s : Int} (h : B64 t ∧ B64 s) : B64 (minI t s) ∧ B64 (maxI t s) := by
  unfold minI maxI
  constructor <;> split <;> first | exact h.1 | exact h.2
theorem one_val {w : World} {g : Nat} {x : Value} (h0 : w.cell? ⟨g, 0, none⟩ = some x) : Reads w (some ⟨g, 0, none⟩) 1 1 [x] :=
  ⟨rfl, fun _ => ⟨g, 0, rfl, fun j u hj => by
    match j, hj with
    | 0, hj => simp at hj; subst hj; simpa using h0⟩⟩
set_option maxHeartbeats 4000000 in
set_option maxRecDepth 100000 in
theorem subdivide_any (a : Option Addr) (n c : Nat) (zs : List (Int × Int × Int)) (hZ : PZ zs) (w : World) (h : Reads w a 3 n (tv zs)) :
    Calls Tryz.prog 78 #[.slice a n c] w fun r w' => ∃ g, r = .returned (.pointer (some ⟨g, 0, none⟩)) ∧ SubD w' w.heap.size g a n c zs ∧ Ext w w' := by
  have hl : zs.length = n := by have := h.1; rw [tv_len] at this; omega
  have hn : n ≤ 12 := by rw [← hl]; exact hZ.1
  have HI := Lib.hid (fun i (hi : i ≤ n) => show (tripI (stepA zs) n i).length ≤ 2000 by
    have h1 := len_tripI (len_stepA zs) (n := n) i hi
    have h2 : i * (n * n) ≤ 12 * (12 * 12) := Nat.mul_le_mul (by omega) (Nat.mul_le_mul hn hn)
    omega)
  have HN := Lib.hid hl
  have HB := Lib.hid (fun m (hm : m < n) => hZ.2.1 m (by rw [hl]; exact hm))
  have HZ := Lib.hid hZ
  clear hl hZ
  have hmm := @run_makeMap Tryz.prog
  go_enter Tryz.func78, Tryz.ntmps78
  go_wp2_with fail
  refine (pointsOf_any _ _ _ zs (by omega) w h).mono ?_
  rintro e w1 ⟨pa, pc, rfl, ho1, hE1⟩
  have hpn : (ptsL zs).length = n := by rw [ptsL_len]; exact HN.out
  rw [hpn] at ho1 ⊢
  clear hpn
  go_wp2
  obtain ⟨w2, hw2⟩ : ∃ w2, w2 = (w1.alloc (.map #[] 0)).alloc (.cells #[.slice a n c, .slice pa n pc, .slice none 0 0, .slice none 0 0, .map (some w1.heap.size)] 99) := ⟨_, rfl⟩
  have hsg := StructG.new (w1.alloc (.map #[] 0)) (.slice a n c) (.slice pa n pc) (.slice none 0 0) (.slice none 0 0) (.map (some w1.heap.size))
  have hmp : w2.heap[w1.heap.size]? = some (.map #[] 0) := by rw [hw2, (MapKept.heap_alloc (w1.alloc (.map #[] 0)) _).2 _ (by simp)]; exact (MapKept.heap_alloc w1 _).1
  rw [← hw2] at hsg ⊢
  rw [show (w1.alloc (.map #[] 0)).heap.size = w1.heap.size + 1 by simp] at hsg
  have hE12 : Ext w1 w2 := by rw [hw2]; exact Ext.alloc (Ext.alloc (Ext.refl _) _) _
  have hsz : w2.heap.size = w1.heap.size + 1 + 1 := by rw [hw2]; simp
  clear hw2
  obtain ⟨g, hg⟩ : ∃ g, g = w1.heap.size + 1 := ⟨_, rfl⟩
  obtain ⟨b, hb⟩ : ∃ b, b = w1.heap.size := ⟨_, rfl⟩
  obtain ⟨B, hB⟩ : ∃ B, B = w2.heap.size := ⟨_, rfl⟩
  rw [← hg] at hsg ⊢
  rw [← hb] at hsg hmp ⊢
  have HE1 := Lib.hid (fun (wr : World) (hgr : w2.grownBy wr (some g)) => show Ext w wr ∧ Ext w1 wr from ⟨Ext.grown (hE1.trans hE12) hgr (fun k hk => by cases hk; have := hE1.size; omega), Ext.grown hE12 hgr (fun k hk => by cases hk; omega)⟩)
  have HH := Lib.hid h
  have HP := Lib.hid (own_reads ho1)
  have HBB := Lib.hid (show B ≤ w2.heap.size by omega)
  have HBB2 := Lib.hid (show w2.heap.size ≤ B by omega)
  have HGB := Lib.hid (show g < B by omega)
  have HBG := Lib.hid (show b < g by omega)
  have HMP := Lib.hid hmp
  have HWB := Lib.hid (show w.heap.size ≤ b by have := hE1.size; omega)
  have HW1B := Lib.hid (show w1.heap.size ≤ b by omega)
  have hst : CellSt w2 w2 B g (.slice a n c) (.slice pa n pc) (.map (some b)) (tripI (stepA zs) n 0) := ⟨.slice none 0 0, [], hsg, ownL_nil _ _, rfl, World.grownBy.refl _ _⟩
  clear h hmp hsg hE1 hE12 hsz hg hb hB ho1 hmm
  go_loopw [26] (fun t wr => ∃ (i : Nat), i ≤ n ∧ t = .int .i64 i ∧ CellSt w2 wr B g (.slice a n c) (.slice pa n pc) (.map (some b)) (tripI (stepA zs) n i)) (fun t _ => n - (intOf t).toNat)
  case atStart => exact ⟨0, Nat.zero_le _, rfl, hst⟩
  case round =>
    clear hst
    obtain ⟨i, hi, rfl, hr⟩ := hrel
    by_cases hlt : i < n
    · have HTI := Lib.hid (show tripI (stepA zs) n (i + 1) = tripJ (stepA zs) n i (tripI (stepA zs) n i) (n - i - 1) from rfl)
      have HA := Lib.hid (HI.out i hi)
      generalize tripI (stepA zs) n i = acc at *
      obtain ⟨wo, hwo⟩ : ∃ wo, wo = wr := ⟨_, rfl⟩
      subst hwo
      have hi2 : (i : Int) < (n : Int) := by omega
      go_wp2
      go_loopw [6] (fun t wr => ∃ (j d : Nat), j = i + 1 + d ∧ j ≤ n ∧ t = .int .i64 j ∧ CellSt w2 wr B g (.slice a n c) (.slice pa n pc) (.map (some b)) (tripJ (stepA zs) n i acc d)) (fun t _ => n - (intOf t).toNat)
      case atStart => exact ⟨i + 1, 0, rfl, by omega, by go_num, hr⟩
      case round =>
        clear hr
        obtain ⟨j, d, hjd, hj, rfl, hr⟩ := hrel
        by_cases hlj : j < n
        · have HTJ := Lib.hid (show tripJ (stepA zs) n i acc (d + 1) = tripK (stepA zs) i j (tripJ (stepA zs) n i acc d) (n - j - 1) by rw [hjd]; rfl)
          have HA2 := Lib.hid (show (tripJ (stepA zs) n i acc d).length ≤ 3000 by
            have h1 := len_tripJ (len_stepA zs) (n := n) (i := i) (acc := acc) d
            have h2 : d * n ≤ 12 * 12 := Nat.mul_le_mul (by omega) hn
            have := HA.out
            omega)
          generalize tripJ (stepA zs) n i acc d = bcc at *
          obtain ⟨wp, hwp⟩ : ∃ wp, wp = wr := ⟨_, rfl⟩
          subst hwp
          have HJD := Lib.hid hjd
          clear hjd
          have hj2 : (j : Int) < (n : Int) := by omega
          go_wp2
          go_loopw [7] (fun t wr => ∃ (k e : Nat), k = j + 1 + e ∧ k ≤ n ∧ t = .int .i64 k ∧ CellSt w2 wr B g (.slice a n c) (.slice pa n pc) (.map (some b)) (tripK (stepA zs) i j bcc e)) (fun t _ => n - (intOf t).toNat)
          case atStart => exact ⟨j + 1, 0, rfl, by omega, by go_num, hr⟩
          case round =>
            clear hr
            obtain ⟨k, e, hke, hk, rfl, hr⟩ := hrel
            by_cases hlk : k < n
            · have HTK := Lib.hid (show tripK (stepA zs) i j bcc (e + 1) = stepA zs i j k (tripK (stepA zs) i j bcc e) by rw [hke]; rfl)
              have HA3 := Lib.hid (show (tripK (stepA zs) i j bcc e).length ≤ 4000 by
                have h1 := len_tripK (len_stepA zs) (i := i) (j := j) (acc := bcc) e
                have := HA2.out
                omega)
              generalize tripK (stepA zs) i j bcc e = ccc at *
              have HKE := Lib.hid hke
              clear hke
              have hk2 : (k : Int) < (n : Int) := by omega
              obtain ⟨s, ps, hsg, hol, hps, hgr⟩ := hr
              have HGR := Lib.hid hgr
              have HOL := Lib.hid hol
              have HSG := Lib.hid hsg
              have HPS := Lib.hid hps
              have hE1 := HE1.out wr hgr
              have HSO := Lib.hid (show SubOf wr g a n c zs from ⟨pa, pc, hsg.c0, hsg.c1, Reads.ext hE1.1 HH.out, Reads.ext hE1.2 HP.out⟩)
              clear hsg hol hps hgr hE1
              go_wp2_with fail
              refine (cellOf_any g a n c zs hn HB.out i j k hlt hlj hlk wr HSO.out).mono ?_
              rintro e5 w5 ⟨a5, c5, rfl, ho5, hE5⟩
              obtain ⟨L, hL⟩ : ∃ L, L = cellL zs i j k := ⟨_, rfl⟩
              have hL12 : L.length ≤ 12 := by rw [hL]; exact Nat.le_trans (onTo'_len zs i j k zs.length) (by rw [HN.out]; exact hn)
              have hLp : 0 < L.length := by rw [hL]; exact cell_some (by rw [HN.out]; exact hlt)
              have HST := Lib.hid (show stepA zs i j k ccc = if cellB zs i j k = true then ccc ++ [L] else ccc by rw [hL]; rfl)
              rw [← hL] at ho5 ⊢
              clear hL
              generalize cellB zs i j k = ok at *
              have HSG5 := Lib.hid (HSG.out.ext hE5)
              have HOL5 := Lib.hid (HOL.out.ext hE5)
              have HGR5 := Lib.hid (grown_trans HGR.out (Ext.grownBy hE5 (some g)))
              cases ok
              · have HV := Lib.hid (HTK.out.trans (HST.out.trans (if_neg (by simp))))
                clear ho5 hE5 HST
                go_wp2
                go_roundw
                case rel => exact ⟨k + 1, e + 1, by have := HKE.out; omega, by omega, by go_num, by rw [HV.out]; exact ⟨s, ps, HSG5.out, HOL5.out, HPS.out, HGR5.out⟩⟩
                case measure => simp [intOf]; omega
              · have HV := Lib.hid (HTK.out.trans (HST.out.trans (if_pos rfl)))
                simp only [gL, if_true] at ho5
                obtain ⟨q5, hq5, hq6, hq7⟩ := own_some ho5 hLp
                have HF5 := Lib.hid (HOL.out.fresh hq6)
                have HO5 := Lib.hid (own_mono (show B ≤ wr.heap.size from Nat.le_trans HBB.out HGR.out.size) ho5)
                obtain ⟨sa, sc, rfl⟩ := HOL.out.form
                have hpl : ps.length ≤ 4000 := by have h1 := HA3.out; rw [← HPS.out, List.length_map] at h1; exact h1
                have hc2 := HSG5.out.c2
                have hgl := HSG5.out.lt
                have HQ5 := Lib.hid hq5
                have hsz5 : B ≤ w5.heap.size := Nat.le_trans HBB.out HGR5.out.size
                clear ho5 hE5 HST hq5 HTK
                obtain ⟨i0, hz1, hz2, hz3, hz4⟩ := info_parts ints_info2
                simp only [gL, if_true] at *
                go_wp2_with (at_builtin; go_must (refine wpList_app_any _ rfl _ _ 24 rfl B 56 i0 _ 1 24 Tryz.underlying24 hz1 hz2 hz3 hz4 rfl (by decide) _ ps.length (ps.map (·.1)) rfl ((HOL5.out.ext ((Ext.refl w5).alloc _)).1) _ 1 1 [.slice a5 L.length c5] rfl (one_val (by simp)) (by simp [Value.oneCell']) (by unfold maxLen; omega) (by omega) (by simp; omega) ?_))
                intro a6 c6 w6 hown6 hg6 hl6
                have hal : w5.grownBy (w5.alloc (.cells #[.slice a5 L.length c5] 56)) none := World.grownBy_alloc w5 _ none
                have HOL6 := Lib.hid ((HOL5.out.ext ((Ext.refl w5).alloc _)).push (own_ext ((Ext.refl w5).alloc _) (own_ext (Ext.refl w5) HO5.out)) HQ5.out HF5.out.1 HF5.out.2 hg6 hown6 (hl6.imp id fun e => ⟨_, e, by simp⟩))
                have hne : (Value.slice sa ps.length sc).ownBlock ≠ some g := fun e => by have h1 := (HOL.out.1.lt g e).1; have h2 := HGB.out; omega
                have HSG6 := Lib.hid ((HSG5.out.ext ((Ext.refl w5).alloc _)).kept hg6 hne)
                have HGR6 := Lib.hid (World.grownBy.andThen (World.grownBy.andThen HGR5.out hal (fun j hj => by cases hj)) hg6 (fun j hj => .inl (by have h1 := (HOL.out.1.lt j hj).1; have h2 := HBB2.out; omega)))
                have hc6 := HSG6.out.c2
                have hf6 := HSG6.out.thaw 2
                clear hown6 hg6 hl6 hal hne hc2 hgl hz1 hz2 hz3 hz4
                have hgl := HSG6.out.lt
                go_wp2
                go_roundw
                case rel => exact ⟨k + 1, e + 1, by have := HKE.out; omega, by omega, by go_num, by rw [HV.out]; exact ⟨_, ps ++ [(.slice a5 L.length c5, L)], HSG6.out.set2 _, HOL6.out.kept (grown_at _ _ _) (fun q hq => by cases hq; exact HGB.out), by rw [List.map_append, HPS.out]; rfl, grown_trans HGR6.out (grown_at _ _ _)⟩⟩
                case measure => simp [intOf]; omega
            · have HV := Lib.hid (show tripJ (stepA zs) n i acc (d + 1) = tripK (stepA zs) i j bcc e by rw [HTJ.out]; congr 1; omega)
              have hk2 : ¬ (k : Int) < (n : Int) := by omega
              have HR := Lib.hid hr
              clear hr
              go_wp2
              go_roundw
              case rel => exact ⟨j + 1, d + 1, by have := HJD.out; omega, by omega, by go_num, by rw [HV.out]; exact HR.out⟩
              case measure => simp [intOf]; omega
        · have HV := Lib.hid (show tripI (stepA zs) n (i + 1) = tripJ (stepA zs) n i acc d by rw [HTI.out]; congr 1; omega)
          have hj2 : ¬ (j : Int) < (n : Int) := by omega
          have HR := Lib.hid hr
          clear hr
          go_wp2
          go_roundw
          case rel => exact ⟨i + 1, by omega, by go_num, by rw [HV.out]; exact HR.out⟩
          case measure => simp [intOf]; omega
    · obtain rfl : i = n := by omega
      have hi2 : ¬ (i : Int) < (i : Int) := by omega
      have HCA := Lib.hid (show tripI (stepA zs) i i = cellsA zs by unfold cellsA; rw [HN.out])
      have HIL := Lib.hid (HI.out i (Nat.le_refl _))
      have HSH := Lib.hid (keep_tripI (n := i) (short_stepA zs) (short_nil _) i)
      generalize tripI (stepA zs) i i = acc at *
      obtain ⟨s, ps, hsg, hol, hps, hgr⟩ := hr
      have hpl : ps.length ≤ 2000 := by have h1 := HIL.out; rw [← hps, List.length_map] at h1; exact h1
      have hpp : ∀ p ∈ ps, p.2.length ≤ 12 := fun p hp => Nat.le_trans (HSH.out p.2 (by rw [← hps]; exact List.mem_map_of_mem hp)) (by rw [HN.out]; exact hn)
      have hne : ∀ q, s.ownBlock = some q → q ≠ g ∧ w2.heap.size ≤ q := fun q hq => by have h1 := (hol.1.lt q hq).1; have h2 := HGB.out; have h3 := HBB2.out; exact ⟨by omega, by omega⟩
      have hc2 := hsg.c2
      have hgl := hsg.lt
      have HSG := Lib.hid hsg
      have HOL := Lib.hid hol
      have HPS := Lib.hid hps
      have HGR := Lib.hid hgr
      have HPP := Lib.hid hpp
      have HNE := Lib.hid hne
      clear hsg hol hps hgr hpp hne
      go_wp2_with fail
      refine (sortC_any B s ps wr (by omega) (fun p hp => by have := HPP.out p hp; omega) HOL.out).mono ?_
      rintro e w3 ⟨rfl, qs, hqp, hqs, hol3, hg3⟩
      have HSG3 := Lib.hid (HSG.out.kept hg3 (fun e => (HNE.out g e).1 rfl))
      have HGR3 := Lib.hid (World.grownBy.andThen HGR.out hg3 (fun j hj => .inl (HNE.out j hj).2))
      have hc3 := HSG3.out.c2
      have hgl3 := HSG3.out.lt
      clear hc2 hgl hg3
      go_wp2_with fail
      refine (compactC_any B s qs w3 (by rw [hqp.length_eq]; omega) (fun p hp => by have := HPP.out p (hqp.mem_iff.1 hp); omega) hqs hol3).mono ?_
      rintro e w4 ⟨a4, c4, rs, rfl, hso, hmem, hol4, hg4⟩
      have HSG4 := Lib.hid (HSG3.out.kept hg4 (fun e => (HNE.out g e).1 rfl))
      have HGR4 := Lib.hid (World.grownBy.andThen HGR3.out hg4 (fun j hj => .inl (HNE.out j hj).2))
      have HRS := Lib.hid (show rs.map (·.2) = cellsL zs from sort_unique hso (sort_cellsL zs) (fun y => by rw [hmem y, mem_cellsL, ← mem_cellsA, ← HCA.out, ← HPS.out]; exact (hqp.map (·.2)).mem_iff))
      have HOL4 := Lib.hid hol4
      have HRL := Lib.hid (show rs.length = (cellsL zs).length by rw [← HRS.out, List.length_map])
      have hrl2 : rs.length ≤ 2000 := by rw [HRL.out]; exact cells_most HZ.out
      have hc4 := HSG4.out.c2
      have hgl4 := HSG4.out.lt
      have hf4 := HSG4.out.thaw 2
      clear hc3 hgl3 hqp hqs hol3 hso hmem hol4 hg4 HPP HNE HSH HIL HI
      go_wp2_with fail
      obtain ⟨w5, hw5⟩ : ∃ w5, w5 = w4.setCell ⟨g, 2, none⟩ (.slice a4 rs.length c4) := ⟨_, rfl⟩
      rw [← hw5]
      have HSG5 := Lib.hid (show StructG w5 g (.slice a i c) (.slice pa i pc) (.slice a4 rs.length c4) (.slice none 0 0) (.map (some b)) by rw [hw5]; exact HSG4.out.set2 _)
      have HOL5 := Lib.hid (show OwnL w5 B (.slice a4 rs.length c4) rs by rw [hw5]; exact HOL4.out.kept (grown_at _ _ _) (fun q hq => by cases hq; exact HGB.out))
      have HGR5 := Lib.hid (show w2.grownBy w5 (some g) by rw [hw5]; exact grown_trans HGR4.out (grown_at _ _ _))
      clear hw5 hc4 hgl4 hf4
      have HMP5 := Lib.hid (show w5.heap[b]? = some (.map #[] 0) by rw [HGR5.out.block b (by have := HBG.out; have := HGB.out; have := HBB.out; omega) (by simp; have := HBG.out; omega)]; exact HMP.out)
      obtain ⟨C, hC⟩ : ∃ C, C = w5.heap.size := ⟨_, rfl⟩
      have HC := Lib.hid hC
      have HBC := Lib.hid (show B ≤ C by rw [hC]; exact Nat.le_trans HBB.out HGR5.out.size)
      clear hC
      have HE5 := Lib.hid (fun (wr : World) (hgr : w5.grownBy wr (some b)) => show Ext w wr ∧ Ext w1 wr from ⟨Ext.grown (HE1.out w5 HGR5.out).1 hgr (fun k hk => by cases hk; exact HWB.out), Ext.grown (HE1.out w5 HGR5.out).2 hgr (fun k hk => by cases hk; exact HW1B.out)⟩)
      have hgm : GroupM w5 C b 0 (fun i j => atE zs [i, j] 0) := (groupM_new w5 C b HMP5.out (by have := HBG.out; have := HGB.out; have := HBC.out; omega)).congr (fun i j => rfl)
      go_loopw [81] (fun t wr => ∃ (k : Nat), k ≤ rs.length ∧ t = .int .i64 k ∧ GroupM wr C b (k * 24) (fun i j => atE zs [i, j] k) ∧ w5.grownBy wr (some b)) (fun t _ => rs.length - (intOf t).toNat)
      case atStart => exact ⟨0, Nat.zero_le _, rfl, hgm, World.grownBy.refl _ _⟩
      case round =>
        clear hgm
        obtain ⟨k, hk, rfl, hgm, hgr⟩ := hrel
        by_cases hlk : k < rs.length
        · have hkc : k < (cellsL zs).length := by rw [← HRL.out]; exact hlk
          have HX := Lib.hid (cell_at hkc)
          have HG := Lib.hid hgm
          have HR := Lib.hid hgr
          have hol := HOL5.out.kept hgr (fun q hq => by cases hq; have := HBG.out; have := HGB.out; omega)
          have hva := hol.va
          rw [HRS.out] at hva
          obtain ⟨ak, ck, hvk, hrk⟩ := hva.at k hkc
          obtain ⟨gc, rfl, hgc1, hgc2⟩ := own_head hol.1 (by omega)
          have hck := (hol.1.cellAt k (by omega)).trans hvk
          have HSGr := Lib.hid (HSG5.out.kept hgr (by simp; have := HBG.out; omega))
          have HSO := Lib.hid (show SubOf wr g a i c zs from ⟨pa, pc, HSGr.out.c0, HSGr.out.c1, Reads.ext (HE5.out wr hgr).1 HH.out, Reads.ext (HE5.out wr hgr).2 HP.out⟩)
          have HRK := Lib.hid hrk
          have hkn : (k : Int) < (rs.length : Int) := by omega
          have HKC := Lib.hid hkc
          clear hgm hol hva hvk hrk hkc
          obtain ⟨x, hx⟩ : ∃ x, x = (cellsL zs).getD k [] := ⟨_, rfl⟩
          rw [← hx] at HX HRK hck
          have HXE := Lib.hid hx
          clear hx
          go_wp2_with fail
          refine (corners_any g a ak i c _ _ zs HZ.out x HX.out wr HSO.out HRK.out).mono ?_
          rintro e w6 ⟨al, cl, rfl, hol6, hE6⟩
          have HL3 := Lib.hid (show 3 ≤ (cornC zs x).length by obtain ⟨m', n', _, h1, h2⟩ := corn_len HZ.out.2.2 HX.out; omega)
          have HL24 := Lib.hid (show (cornC zs x).length ≤ 24 by rw [cornC_len]; exact corn_most HZ.out HX.out)
          obtain ⟨L, hL⟩ : ∃ L, L = cornC zs x := ⟨_, rfl⟩
          rw [← hL] at HL3 HL24 hol6 ⊢
          have HLE := Lib.hid hL
          clear hL
          have hl3 := HL3.out
          have hl24 := HL24.out
          obtain ⟨lc, rfl, hlc1, hlc2⟩ := own_head hol6 (by omega)
          have hg6 : GroupM w6 C b (k * 24 + 0) (grpF zs k 0) := (HG.out.ext hE6).congr (fun i j => (grpF_zero zs k i j).symm)
          have hs6 : Shun w6 b lc := (HG.out.shun hlc1).kept (Ext.grownBy hE6 none) HG.out.lt (by simp)
          have hr6 := grown_trans hgr (Ext.grownBy hE6 (some b))
          have hbl : b < lc := by have := HG.out.lt; omega
          have HBL := Lib.hid hbl
          clear hgr hck hE6 hbl hgc1 hgc2
          obtain ⟨wo, hwo⟩ : ∃ wo, wo = wr := ⟨_, rfl⟩
          subst hwo
          go_wp2
          go_loopw [91] (fun t wr => ∃ (q : Nat), q ≤ L.length ∧ t = .int .i64 q ∧ GroupM wr C b (k * 24 + q) (grpF zs k q) ∧ w5.grownBy wr (some b) ∧ Shun wr b lc ∧ wr.ownsRow wo.heap.size 3 1 (.slice (some ⟨lc, 0, none⟩) L.length cl) L.length (iv L)) (fun t _ => L.length - (intOf t).toNat)
          case atStart => exact ⟨0, Nat.zero_le _, rfl, hg6, hr6, hs6, hol6⟩
          case round =>
            clear hg6 hr6 hs6 hol6
            obtain ⟨q, hq, rfl, hgm, hgr, hsh, hol⟩ := hrel
            by_cases hlq : q < L.length
            · have HG := Lib.hid hgm
              have HR := Lib.hid hgr
              have HSH := Lib.hid hsh
              have HOLQ := Lib.hid hol
              obtain ⟨y, hy⟩ : ∃ y, y = (q + 1) % L.length := ⟨_, rfl⟩
              have hyl : y < L.length := by rw [hy]; exact Nat.mod_lt _ (by omega)
              have hmod : ((q : Int) + 1).tmod (L.length : Int) = (y : Int) := by rw [Int.tmod_eq_emod_of_nonneg (by omega), hy]; rfl
              have k0 := (hol.cellAt q (by omega)).trans (iv_at hlq)
              have k1 := (hol.cellAt y (by omega)).trans (iv_at hyl)
              have HBQ := Lib.hid (show B64 (L.getD q 0) ∧ B64 (L.getD y 0) by
                rw [HLE.out] at hlq hyl ⊢
                obtain ⟨t1, h1, _, _, h2⟩ := corn_term HZ.out.2.2 HX.out hlq
                obtain ⟨t2, h3, _, _, h4⟩ := corn_term HZ.out.2.2 HX.out hyl
                rw [h2, h4]
                have := HN.out
                unfold B64
                exact ⟨⟨by omega, by omega⟩, ⟨by omega, by omega⟩⟩)
              have HSD := Lib.hid (show sideC zs x q = [minI (L.getD q 0) (L.getD y 0), maxI (L.getD q 0) (L.getD y 0)] by unfold sideC; rw [← HLE.out, ← hy, minI_min, maxI_max])
              generalize L.getD q 0 = t at *
              generalize L.getD y 0 = s' at *
              have hcm : ¬ (L.length : Int) = 0 := by omega
              have hyi : (y : Int) < (L.length : Int) := by omega
              have hqi : (q : Int) < (L.length : Int) := by omega
              have hy0 : (0 : Int) ≤ (y : Int) := by omega
              clear hgm hgr hsh hol hy
              go_wp2_with fail
              refine (pair_any t s' _).mono ?_
              rintro e w7 ⟨rfl, hE7⟩
              have HLH := Lib.hid (mm_b64 HBQ.out)
              generalize minI t s' = lo at *
              generalize maxI t s' = hi at *
              clear k0 k1 hmod
              have HE7 := Lib.hid hE7
              clear hE7
              go_wp2_with fail
              have hg8 := Lib.hid (HG.out.ext HE7.out)
              obtain ⟨w8, hw8⟩ : ∃ w8, w8 = w7.alloc (.cells #[.int .i64 lo, .int .i64 hi] 100) := ⟨_, rfl⟩
              have hE78 : Ext w7 w8 := by rw [hw8]; exact Ext.alloc (Ext.refl _) _
              have hb0 : w8.cell? ⟨w7.heap.size, 0, none⟩ = some (.int .i64 lo) := by rw [hw8]; simp
              have hb1 : w8.cell? ⟨w7.heap.size, 1, none⟩ = some (.int .i64 hi) := by rw [hw8]; simp
              rw [← hw8]
              clear hw8
              obtain ⟨xb, hxb⟩ : ∃ xb, xb = w7.heap.size := ⟨_, rfl⟩
              rw [← hxb] at hb0 hb1 ⊢
              have HE8 := Lib.hid (HE7.out.trans hE78)
              have HG8 := Lib.hid (HG.out.ext HE8.out)
              have HR8 := Lib.hid (grown_trans HR.out (Ext.grownBy HE8.out (some b)))
              have HS8 := Lib.hid (HSH.out.kept (Ext.grownBy HE8.out none) HG.out.lt (by simp))
              have HOL8 := Lib.hid (own_ext HE8.out HOLQ.out)
              have HSG8 := Lib.hid (HSG5.out.kept HR8.out (by simp; have := HBG.out; omega))
              have HEW := Lib.hid (HE5.out w8 HR8.out).1
              have hc4 := HSG8.out.c4
              have HLC8 := Lib.hid ((HOL8.out.lt lc rfl).2)
              have hgl := HSG8.out.lt
              have hxl := lt_of_cell hb0
              have hne1 : g ≠ b := by have := HBG.out; omega
              have hne2 : xb ≠ b := fun e => by have h1 := HG8.out; obtain ⟨es, clock, h2, _⟩ := h1; rw [e] at hb0; simp [World.cell?, h2] at hb0
              have HW8 := Lib.hid (show w.heap.size ≤ w8.heap.size from HEW.out.size)
              have HCL := Lib.hid (show C ≤ w8.heap.size by rw [HC.out]; exact HR8.out.size)
              have hbw : w.heap.size ≤ b := HWB.out
              have hgz : (grpF zs k q lo hi).length ≤ 2001 := Nat.le_trans (grpF_len zs k q lo hi) (by omega)
              have HZI := Lib.hid (info_parts int_info)
              obtain ⟨i0, hzz⟩ := HZI.out
              have HZJ := Lib.hid hzz
              clear hzz HZI HE7
              have HSX := Lib.hid ((hg8.out.shun (Nat.le_of_eq hxb.symm)).kept (Ext.grownBy hE78 none) hg8.out.lt (by simp))
              have HWC := Lib.hid (show w.heap.size ≤ C by rw [HC.out]; exact (HE5.out w5 (World.grownBy.refl _ _)).1.size)
              have HGC := Lib.hid (show g < C by have h1 := HGB.out; have h2 := HBC.out; omega)
              have hbl8 := HG8.out.lt
              clear hg8 hE78 hxb
              have HKE := Lib.hid (show Ext w w8 ∧ w8.cell? ⟨g, 4, none⟩ = some (.map (some b)) ∧ w8.cell? ⟨xb, 0, none⟩ = some (.int .i64 lo) ∧ w8.cell? ⟨xb, 1, none⟩ = some (.int .i64 hi) from ⟨HEW.out, hc4, hb0, hb1⟩)
              obtain ⟨v0, w9, st, hrun8, hg9, hs9, hE9⟩ := group_entry (u := (w8.alloc (.cells #[.int .i64 (k : Int)] 3)).drew) (HG8.out.ext (by repeat (first | exact Ext.refl _ | assumption | apply Ext.alloc | apply Ext.drew | apply Ext.drewN | (refine Ext.trans ?_ (by assumption)) | (refine Ext.setCell ?_ (by (try simp) <;> omega) _)))) (by unfold maxLen; omega) HLH.out.1 HLH.out.2
              have hrun9 : (Instr.mapEntry 97 (.map (some b)) (.agg #[.int .i64 lo, .int .i64 hi])).run Tryz.prog (w8.alloc (.cells #[.int .i64 (k : Int)] 3)).drew = .ok (.tuple #[v0, .int .i64 st]) w9 := hrun8
              have H1 := Lib.hid hE9
              have hcl := grown_keep (b := w8.heap.size) (o := 0) (v := .int .i64 (k : Int)) hg9 (by simp) (by simp; omega)
              have HK9 := Lib.hid (show Ext w w9 ∧ w9.cell? ⟨g, 4, none⟩ = some (.map (some b)) ∧ w9.cell? ⟨xb, 0, none⟩ = some (.int .i64 lo) ∧ w9.cell? ⟨xb, 1, none⟩ = some (.int .i64 hi) from ⟨Ext.grown (HEW.out.trans (by repeat (first | exact Ext.refl _ | assumption | apply Ext.alloc | apply Ext.drew | apply Ext.drewN | (refine Ext.trans ?_ (by assumption)) | (refine Ext.setCell ?_ (by (try simp) <;> omega) _)))) hg9 (fun k hk => by cases hk; exact hbw), grown_keep hg9 (Ext.keep (w := w8) (by repeat (first | exact Ext.refl _ | assumption | apply Ext.alloc | apply Ext.drew | apply Ext.drewN | (refine Ext.trans ?_ (by assumption)) | (refine Ext.setCell ?_ (by (try simp) <;> omega) _))) hc4) (by simp; omega), grown_keep hg9 (Ext.keep (w := w8) (by repeat (first | exact Ext.refl _ | assumption | apply Ext.alloc | apply Ext.drew | apply Ext.drewN | (refine Ext.trans ?_ (by assumption)) | (refine Ext.setCell ?_ (by (try simp) <;> omega) _))) hb0) (by simp; omega), grown_keep hg9 (Ext.keep (w := w8) (by repeat (first | exact Ext.refl _ | assumption | apply Ext.alloc | apply Ext.drew | apply Ext.drewN | (refine Ext.trans ?_ (by assumption)) | (refine Ext.setCell ?_ (by (try simp) <;> omega) _))) hb1) (by simp; omega)⟩)
              have HXX := Lib.hid (hE9.2.2.2.1 xb ⟨by simp; omega, HSX.out.kept (Ext.grownBy (w := w8) (by repeat (first | exact Ext.refl _ | assumption | apply Ext.alloc | apply Ext.drew | apply Ext.drewN | (refine Ext.trans ?_ (by assumption)) | (refine Ext.setCell ?_ (by (try simp) <;> omega) _))) none) HG8.out.lt (by simp)⟩)
              have HCL9 := Lib.hid (show C ≤ w9.heap.size by have := HCL.out; simp at hs9; omega)
              have HG9 := Lib.hid (grown_trans (Ext.grownBy (w := w8) (by repeat (first | exact Ext.refl _ | assumption | apply Ext.alloc | apply Ext.drew | apply Ext.drewN | (refine Ext.trans ?_ (by assumption)) | (refine Ext.setCell ?_ (by (try simp) <;> omega) _))) (some b)) hg9)
              have HS9 := Lib.hid hs9
              clear hg9 hE9 hrun8 hs9
              go_region_held3 (fun w' => Ext w w' ∧ w'.cell? ⟨g, 4, none⟩ = some (.map (some b)) ∧ w'.cell? ⟨xb, 0, none⟩ = some (.int .i64 lo) ∧ w'.cell? ⟨xb, 1, none⟩ = some (.int .i64 hi)) (first | (with_reducible exact HK11.out) | (with_reducible exact HK10.out) | (with_reducible exact HK9.out) | exact ⟨HEW.out.trans (by repeat (first | exact Ext.refl _ | assumption | apply Ext.alloc | apply Ext.drew | apply Ext.drewN | (refine Ext.trans ?_ (by assumption)) | (refine Ext.setCell ?_ (by (try simp) <;> omega) _))), Ext.keep (w := w8) (by repeat (first | exact Ext.refl _ | assumption | apply Ext.alloc | apply Ext.drew | apply Ext.drewN | (refine Ext.trans ?_ (by assumption)) | (refine Ext.setCell ?_ (by (try simp) <;> omega) _))) hc4, Ext.keep (w := w8) (by repeat (first | exact Ext.refl _ | assumption | apply Ext.alloc | apply Ext.drew | apply Ext.drewN | (refine Ext.trans ?_ (by assumption)) | (refine Ext.setCell ?_ (by (try simp) <;> omega) _))) hb0, Ext.keep (w := w8) (by repeat (first | exact Ext.refl _ | assumption | apply Ext.alloc | apply Ext.drew | apply Ext.drewN | (refine Ext.trans ?_ (by assumption)) | (refine Ext.setCell ?_ (by (try simp) <;> omega) _))) hb1⟩) (first | (refine step_app_any _ (by rfl) _ _ 56 (by rfl) C 3 i0 _ 1 8 Tryz.underlying56 HZJ.out.1 HZJ.out.2.1 HZJ.out.2.2.1 HZJ.out.2.2.2 rfl (by decide) _ (grpF zs k q lo hi).length (iv (grpF zs k q lo hi)) (by rfl) H1.out.1 _ 1 1 [.int .i64 k] (by rfl) (one_val hcl) (by simp [Value.oneCell']) (by unfold maxLen; omega) (by omega) HCL9.out ?_; intro a10 c10 w10 hown10 hg10 hl10; have HK10 := Lib.hid (show Ext w w10 ∧ w10.cell? ⟨g, 4, none⟩ = some (.map (some b)) ∧ w10.cell? ⟨xb, 0, none⟩ = some (.int .i64 lo) ∧ w10.cell? ⟨xb, 1, none⟩ = some (.int .i64 hi) from ⟨Ext.grown HK9.out.1 hg10 (fun k hk => by have h1 := (H1.out.1.lt k hk).1; have h2 := HWC.out; omega), grown_keep hg10 HK9.out.2.1 (fun e => by have h1 := (H1.out.1.lt g e.symm).1; have h2 := HGC.out; omega), grown_keep hg10 HK9.out.2.2.1 (fun e => HXX.out e.symm), grown_keep hg10 HK9.out.2.2.2 (fun e => HXX.out e.symm)⟩); obtain ⟨w11, hrun11, hG11, hgr11, hs11, hsh11⟩ := H1.out.2.2.2.2 w10 (.slice a10 ((grpF zs k q lo hi).length + 1) c10) (grpF zs k q lo hi ++ [(k : Int)]) hg10 (by simpa [iv] using hown10) (by simp) (hl10.imp id fun e => ⟨_, e, Nat.le_refl _⟩); have hrun12 : (Instr.entryStore 97 (.map (some b)) (.int .i64 st) (.slice a10 ((grpF zs k q lo hi).length + 1) c10)).run Tryz.prog w10 = .ok () w11 := hrun11; have HG11 := Lib.hid hG11; have HR10 := Lib.hid hg10; have HR11 := Lib.hid hgr11; have HS11 := Lib.hid hsh11; have HV0 := Lib.hid hown10; have HK11 := Lib.hid (show Ext w w11 ∧ w11.cell? ⟨g, 4, none⟩ = some (.map (some b)) ∧ w11.cell? ⟨xb, 0, none⟩ = some (.int .i64 lo) ∧ w11.cell? ⟨xb, 1, none⟩ = some (.int .i64 hi) from ⟨Ext.grown HK10.out.1 hgr11 (fun k hk => by cases hk; exact hbw), grown_keep hgr11 HK10.out.2.1 (by simp; omega), grown_keep hgr11 HK10.out.2.2.1 (by simp; omega), grown_keep hgr11 HK10.out.2.2.2 (by simp; omega)⟩); clear hown10 hg10 hl10 hrun11 hG11 hgr11 hs11 hsh11))
              have hr11 := Lib.hid (World.grownBy.andThen (World.grownBy.andThen (World.grownBy.andThen HR8.out HG9.out (fun j hj => .inr hj)) HR10.out (fun j hj => .inl (by have h1 := (H1.out.1.lt j hj).1; rw [← HC.out]; exact h1))) HR11.out (fun j hj => .inr hj))
              have hlt8 := HLC8.out
              have hsh := Lib.hid (show Shun (w8.alloc (.cells #[.int .i64 (k : Int)] 3)).drew b lc from HS8.out.kept (Ext.grownBy (w := w8) (by repeat (first | exact Ext.refl _ | assumption | apply Ext.alloc | apply Ext.drew | apply Ext.drewN | (refine Ext.trans ?_ (by assumption)) | (refine Ext.setCell ?_ (by (try simp) <;> omega) _))) none) HG8.out.lt (by simp))
              have hlc9 : lc < (w8.alloc (.cells #[.int .i64 (k : Int)] 3)).drew.heap.size := by simp; omega
              have ho11 := Lib.hid (own_apartQ (own_apartQ (own_apartQ HOL8.out HG9.out (fun j hj e => by have h1 := HBL.out; simp [Value.ownBlock] at hj e; omega)) HR10.out (fun j hj => by cases hj; exact H1.out.2.2.2.1 lc ⟨hlc9, hsh.out⟩)) HR11.out (fun j hj e => by have h1 := HBL.out; simp [Value.ownBlock] at hj e; omega))
              have hg11 := Lib.hid (HG11.out.congr (G := grpF zs k (q + 1)) (fun i j => grpF_step HZ.out.2.2 HKC.out (by rw [← HXE.out, ← HLE.out]; exact hlq) (by rw [← HXE.out]; exact HSD.out) i j))
              have hs11 := Lib.hid (HS11.out lc ⟨hlc9, hsh.out⟩)
              clear hrun9 hrun12 hcl hc4 hb0 hb1 hne1 hne2 hgz hbw hlt8 hlc9
              go_wp2
              go_roundw
              case rel => exact ⟨q + 1, by omega, by go_num, hg11.out, hr11.out, hs11.out, ho11.out⟩
              case measure => simp [intOf]; omega
            · obtain rfl : q = L.length := by omega
              have hg2 := Lib.hid ((hgm.congr (G := fun i j => atE zs [i, j] (k + 1)) (fun i j => by rw [HLE.out, HXE.out]; exact grpF_end zs k i j)).mono (show k * 24 + L.length ≤ (k + 1) * 24 by omega))
              have hr2 := Lib.hid hgr
              clear hgm hgr hsh hol
              go_wp2
              go_roundw
              case rel => exact ⟨k + 1, by omega, by go_num, hg2.out, hr2.out⟩
              case measure => simp [intOf]; omega
        · obtain rfl : k = rs.length := by omega
          have hkn : ¬ (rs.length : Int) < (rs.length : Int) := by omega
          have HGM := Lib.hid (hgm.congr (G := fun i j => sidesAt zs [i, j]) (fun i j => by rw [HRL.out]; rfl))
          have HR12 := Lib.hid hgr
          have HSG12 := Lib.hid (HSG5.out.kept hgr (by simp; have := HBG.out; omega))
          have HOL12 := Lib.hid (HOL5.out.kept hgr (fun q hq => by cases hq; have := HBG.out; have := HGB.out; omega))
          obtain ⟨wa, cnt, hrange, hrd, hcn, hga, hsa⟩ := ranged_start HGM.out
          have hc4 := HSG12.out.c4
          have hgl := HSG12.out.lt
          obtain ⟨w12, hw12⟩ : ∃ w12, w12 = wr := ⟨_, rfl⟩
          subst hw12
          go_wp2
          obtain ⟨r, hr⟩ : ∃ r, r = w12.heap.size := ⟨_, rfl⟩
          rw [← hr] at hrd hsa hrange ⊢
          have HRE := Lib.hid hr
          obtain ⟨D, hD⟩ : ∃ D, D = wa.heap.size := ⟨_, rfl⟩
          have hDr : D = r + 1 := by omega
          have HDR := Lib.hid hDr
          have hgm0 := Lib.hid (HSG12.out.kept hga (by simp))
          have HGA := Lib.hid hga
          have HWA := Lib.hid (show D ≤ wa.heap.size by omega)
          have HN24 := Lib.hid hcn
          have hst : ∃ L e qs cn, Ranged wa b r (rs.length * 24) (fun i j => sidesAt zs [i, j]) L cn ∧ StructG wa g (.slice a i c) (.slice pa i pc) (.slice a4 rs.length c4) e (.map (some b)) ∧ OwnL wa D e qs ∧ qs.map (·.2) = L ∧ w12.grownBy wa (some g) ∧ D ≤ wa.heap.size ∧ L.length + cn ≤ 48000 := ⟨[], _, [], cnt, hrd, hgm0.out, ownL_nil _ _, rfl, hga.but _, by omega, by simp; omega⟩
          clear hgm hgr hrange hrd hcn hga hsa hc4 hgl hr hD hDr
          go_loopw [16] (fun _ wr => ∃ L e qs cn, Ranged wr b r (rs.length * 24) (fun i j => sidesAt zs [i, j]) L cn ∧ StructG wr g (.slice a i c) (.slice pa i pc) (.slice a4 rs.length c4) e (.map (some b)) ∧ OwnL wr D e qs ∧ qs.map (·.2) = L ∧ w12.grownBy wr (some g) ∧ D ≤ wr.heap.size ∧ L.length + cn ≤ 48000) (fun _ wr => wr.rangeLeft b r)
          case atStart => exact hst
          case round =>
            clear hst
            obtain ⟨L, e, qs, cn, hrd, hsg, hol, hqs, hgr, hdw, hln⟩ := hrel
            rcases ranged_next hrd 0 with ⟨hdone, hall⟩ | ⟨i', j', v, wn, cn', b1, b2, hnext, hentry, hrd', hlt', hgn, hsn⟩
            · have hdone2 : ∀ ty, (Instr.next (.pointer (some ⟨r, 0, none⟩)) false ty).run Tryz.prog wr = .ok (.tuple #[.bool false]) wr := fun ty => hdone
              clear hdone
              have HR16 := Lib.hid (World.grownBy.refl w12 none)
              obtain ⟨ea, ec, rfl⟩ := hol.form
              have HND := Lib.hid (show L.Nodup ∧ ∀ y ∈ L, ∃ i j, B64 i ∧ B64 j ∧ y = [i, j] by obtain ⟨_, _, _, _, _, h4, h5⟩ := hrd; exact ⟨h4, h5⟩)
              have HALL := Lib.hid hall
              have HSGr := Lib.hid hsg
              have HOLr := Lib.hid hol
              have HQS := Lib.hid hqs
              have HGRr := Lib.hid hgr
              have hql : qs.length ≤ 48000 := by rw [← List.length_map (f := (·.2)), hqs]; omega
              have hc3 := hsg.c3
              have hgl := hsg.lt
              clear hrd hall hsg hol hqs hgr hdw hln HR16
              go_wp2_with fail
              refine (sortC_any D _ qs wr (by omega) (fun p hp => by obtain ⟨i', j', _, _, e⟩ := HND.out.2 p.2 (by rw [← HQS.out]; exact List.mem_map_of_mem hp); rw [e]; simp) HOLr.out).mono ?_
              rintro e' w17 ⟨rfl, ts, htp, hts, hol17, hg17⟩
              have hne17 : ∀ q, (Value.slice ea qs.length ec).ownBlock = some q → w12.heap.size ≤ q := fun q hq => by have h1 := (HOLr.out.1.lt q hq).1; have h2 := HDR.out; have h3 := HRE.out; omega
              have HGR17 := Lib.hid (World.grownBy.andThen HGRr.out hg17 (fun j hj => .inl (hne17 j hj)))
              have HSG17 := Lib.hid (HSGr.out.kept hg17 (fun e => by have h1 := hne17 g e; have h2 := HSG12.out.lt; omega))
              have HTL := Lib.hid (show ts.map (·.2) = onceL zs from sort_unique (sort_strict hts ((htp.map (·.2)).nodup_iff.2 (by rw [HQS.out]; exact HND.out.1))) (sort_onceL zs) (fun y => by
                rw [(htp.map (·.2)).mem_iff, HQS.out]
                constructor
                · intro hy
                  obtain ⟨i', j', b1, b2, rfl⟩ := HND.out.2 y hy
                  exact (mem_onceL HZ.out.2.2).2 ((HALL.out i' j' b1 b2).1 hy)
                · intro hy
                  obtain ⟨i', j', h1, h2, rfl⟩ := once_form HZ.out.2.2 hy
                  have h3 := HN.out
                  exact (HALL.out i' j' (by unfold B64; omega) (by unfold B64; omega)).2 ((mem_onceL HZ.out.2.2).1 hy)))
              have HOL17 := Lib.hid hol17
              have HEW17 := Lib.hid (Ext.grown (HE5.out w12 HR12.out).1 HGR17.out (fun k hk => by cases hk; have h1 := HWB.out; have h2 := HBG.out; omega))
              have HEW18 := Lib.hid (Ext.grown (HE5.out w12 HR12.out).2 HGR17.out (fun k hk => by cases hk; have h1 := HW1B.out; have h2 := HBG.out; omega))
              clear htp hts hol17 hg17 hne17 hc3 hgl hdone2
              go_wp2
              go_ret
              exact ⟨g, rfl, ⟨pa, pc, _, _, b, _, C, rs, ts, HSG17.out, by have h1 := HWB.out; have h2 := HBG.out; omega, Reads.ext HEW17.out HH.out, Reads.ext HEW18.out HP.out, (HOL12.out.kept HGR17.out (fun q hq => by cases hq; exact HGB.out)).base (by have h1 := HWB.out; have h2 := HBG.out; have h3 := HGB.out; omega), HRS.out, HOL17.out.base (by have h1 := HWB.out; have h2 := HBG.out; have h3 := HDR.out; have h4 := HRE.out; have h5 := HSG12.out.lt; omega), HTL.out, HGM.out.kept HGR17.out (by simp; have := HBG.out; omega) (fun q hq => by cases hq; have h1 := HGB.out; have h2 := HBC.out; omega)⟩, HEW17.out⟩
            · have hnext2 : ∀ ty, (Instr.next (.pointer (some ⟨r, 0, none⟩)) false ty).run Tryz.prog wr = .ok (.tuple #[.bool true, .agg #[.int .i64 i', .int .i64 j'], v]) wn := fun ty => hnext
              have hentry2 : (Instr.entry (.pointer (some ⟨r, 0, none⟩))).run Tryz.prog wn = .ok (.tuple #[.agg #[.int .i64 i', .int .i64 j'], v]) wn := hentry
              clear hnext hentry
              obtain ⟨ea, ec, rfl⟩ := hol.form
              have hql : qs.length ≤ 48000 := by rw [← List.length_map (f := (·.2)), hqs]; omega
              have HSN := Lib.hid hsn
              have HSGn := Lib.hid (hsg.kept hgn (by simp; have h1 := HRE.out; have h2 := HSG12.out.lt; omega))
              have HOLn := Lib.hid (hol.kept hgn (fun q hq => by cases hq; have := HDR.out; omega))
              have HQS := Lib.hid hqs
              have HRD := Lib.hid hrd'
              have HLN := Lib.hid hln
              have HLT := Lib.hid hlt'
              have HGRn := Lib.hid (World.grownBy.andThen hgr hgn (fun j hj => .inl (by cases hj; have := HRE.out; omega)))
              have HDWn := Lib.hid (show D ≤ wn.heap.size by omega)
              have HRL' := Lib.hid hrd.left
              clear hsn hsg hol hqs hrd hrd' hgr hgn hln hdw hlt'
              go_wp2_with fail
              obtain ⟨w13, hw13⟩ : ∃ w13, w13 = wn.alloc (.cells #[.int .i64 i', .int .i64 j'] 100) := ⟨_, rfl⟩
              have hE13 : Ext wn w13 := by rw [hw13]; exact Ext.alloc (Ext.refl _) _
              have hb0 : w13.cell? ⟨wn.heap.size, 0, none⟩ = some (.int .i64 i') := by rw [hw13]; simp
              have hb1 : w13.cell? ⟨wn.heap.size, 1, none⟩ = some (.int .i64 j') := by rw [hw13]; simp
              rw [← hw13]
              clear hw13
              obtain ⟨xb, hxb⟩ : ∃ xb, xb = wn.heap.size := ⟨_, rfl⟩
              rw [← hxb] at hb0 hb1 ⊢
              have HXB := Lib.hid hxb
              clear hxb
              have HSG13 := Lib.hid (HSGn.out.ext hE13)
              have HOL13 := Lib.hid (HOLn.out.ext hE13)
              have HGR13 := Lib.hid (grown_trans HGRn.out (Ext.grownBy hE13 (some g)))
              have HRD13 := Lib.hid (HRD.out.kept (Ext.grownBy hE13 none) (by simp) (by simp))
              have HSZ13 := Lib.hid hE13.size
              have hc3 := HSG13.out.c3
              have hgl := HSG13.out.lt
              have hxl := lt_of_cell hb0
              have HE13 := Lib.hid hE13
              clear hE13
              obtain ⟨S, hSd⟩ : ∃ S : World → Prop, S = fun w' => w'.cell? ⟨g, 3, none⟩ = some (.slice ea qs.length ec) ∧ w'.cell? ⟨xb, 0, none⟩ = some (.int .i64 i') ∧ w'.cell? ⟨xb, 1, none⟩ = some (.int .i64 j') := ⟨_, rfl⟩
              have hS0 : S w13.drew := by rw [hSd]; exact ⟨hc3, hb0, hb1⟩
              refine wp_region_T S 14 (by kernel_rfl) ?_
              simp only [List.length_cons, List.length_nil, Nat.reduceAdd]
              refine wpAnyT_take (i := 0) (v := .pointer (some ⟨g, 0, none⟩)) rfl (by kernel_rfl) (by kernel_rfl) (by kernel_rfl) (by kernel_rfl) (fun _ _ _ h => h) (.inl ⟨by rfl, fun _ _ => by
                simp [go_sem]⟩) hS0 ?_
              simp only [Act.put, List.setIfInBounds_toArray]
              refine wpAnyT_take (i := 1) (v := .pointer (some ⟨g, 0, none⟩)) rfl (by kernel_rfl) (by kernel_rfl) (by kernel_rfl) (by kernel_rfl) (fun _ _ _ h => h) (.inl ⟨by rfl, fun _ _ => by
                simp [go_sem]⟩) hS0 ?_
              simp only [Act.put]
              refine wpAnyT_take (i := 2) (v := .pointer (some ⟨g, 0, none⟩)) rfl (by kernel_rfl) (by kernel_rfl) (by kernel_rfl) (by kernel_rfl) (fun _ _ _ h => h) (.inl ⟨by rfl, fun _ _ => by
                simp [go_sem]⟩) hS0 ?_
              simp only [Act.put]
              refine wpAnyT_take (i := 3) (v := .pointer (some ⟨g, 3, none⟩)) rfl (by kernel_rfl) (by kernel_rfl) (by kernel_rfl) (by kernel_rfl) (fun _ _ _ h => h) (.inl ⟨by rfl, fun _ _ => by
                simp [go_sem]⟩) hS0 ?_
              simp only [Act.put]
              refine wpAnyT_take (i := 4) (v := .slice ea qs.length ec) rfl (by kernel_rfl) (by kernel_rfl) (by kernel_rfl) (by kernel_rfl) (fun _ _ _ h => h) (.inl ⟨by rfl, fun w' hw' => by
                rw [hSd] at hw'
                have t3 := hw'.1
                simp [go_sem, t3]⟩) hS0 ?_
              simp only [Act.put]
              refine wpAnyT_take (i := 5) (v := .pointer (some ⟨xb, 0, none⟩)) rfl (by kernel_rfl) (by kernel_rfl) (by kernel_rfl) (by kernel_rfl) (fun _ _ _ h => h) (.inl ⟨by rfl, fun _ _ => by
                simp [go_sem]⟩) hS0 ?_
              simp only [Act.put]
              refine wpAnyT_take (i := 6) (v := .int .i64 i') rfl (by kernel_rfl) (by kernel_rfl) (by kernel_rfl) (by kernel_rfl) (fun _ _ _ h => h) (.inl ⟨by rfl, fun w' hw' => by
                rw [hSd] at hw'
                have t0 := hw'.2.1
                simp [go_sem, t0]⟩) hS0 ?_
              simp only [Act.put]
              refine wpAnyT_take (i := 7) (v := .pointer (some ⟨xb, 1, none⟩)) rfl (by kernel_rfl) (by kernel_rfl) (by kernel_rfl) (by kernel_rfl) (fun _ _ _ h => h) (.inl ⟨by rfl, fun _ _ => by
                simp [go_sem]⟩) hS0 ?_
              simp only [Act.put]
              refine wpAnyT_take (i := 8) (v := .int .i64 j') rfl (by kernel_rfl) (by kernel_rfl) (by kernel_rfl) (by kernel_rfl) (fun _ _ _ h => h) (.inl ⟨by rfl, fun w' hw' => by
                rw [hSd] at hw'
                have t1 := hw'.2.2
                simp [go_sem, t1]⟩) hS0 ?_
              simp only [Act.put]
              refine wpAnyT_step (i := 9) rfl (by kernel_rfl) (fun K' hK => ?_)
              go_simp
              refine hK.out _ _ (.inr (by rw [hSd]; exact ⟨Ext.keep (w := w13) (by repeat (first | exact Ext.refl _ | assumption | apply Ext.alloc | apply Ext.drew | apply Ext.drewN | (refine Ext.trans ?_ (by assumption)) | (refine Ext.setCell ?_ (by (try simp) <;> omega) _))) hc3, Ext.keep (w := w13) (by repeat (first | exact Ext.refl _ | assumption | apply Ext.alloc | apply Ext.drew | apply Ext.drewN | (refine Ext.trans ?_ (by assumption)) | (refine Ext.setCell ?_ (by (try simp) <;> omega) _))) hb0, Ext.keep (w := w13) (by repeat (first | exact Ext.refl _ | assumption | apply Ext.alloc | apply Ext.drew | apply Ext.drewN | (refine Ext.trans ?_ (by assumption)) | (refine Ext.setCell ?_ (by (try simp) <;> omega) _))) hb1⟩)) ?_
              clear hK K'
              have hE14 : Ext w13 (w13.alloc (.cells #[.int .i64 i', .int .i64 j'] 3)).drew := (by repeat (first | exact Ext.refl _ | assumption | apply Ext.alloc | apply Ext.drew | apply Ext.drewN | (refine Ext.trans ?_ (by assumption)) | (refine Ext.setCell ?_ (by (try simp) <;> omega) _)))
              have hv14 : (w13.alloc (.cells #[.int .i64 i', .int .i64 j'] 3)).drew.ownsRow D 3 1 (.slice (some ⟨w13.heap.size, 0, none⟩) 2 2) 2 (iv [i', j']) := own_ext (Ext.drew (Ext.refl _)) (World.ownsRow_lit w13 #[.int .i64 i', .int .i64 j'] 2 (by have h1 := HSZ13.out; have h2 := HDWn.out; omega) (by unfold maxLen; omega) rfl)
              obtain ⟨w14, hw14⟩ : ∃ w14, w14 = (w13.alloc (.cells #[.int .i64 i', .int .i64 j'] 3)).drew := ⟨_, rfl⟩
              rw [← hw14] at hE14 hv14 ⊢
              clear hw14
              refine wpAnyT_step (i := 10) rfl (by kernel_rfl) (fun K' hK => ?_)
              go_simp
              refine hK.out _ _ (.inr (by rw [hSd]; exact ⟨Ext.keep (w := w13) (Ext.alloc hE14 _) hc3, Ext.keep (w := w13) (Ext.alloc hE14 _) hb0, Ext.keep (w := w13) (Ext.alloc hE14 _) hb1⟩)) ?_
              clear hK K'
              obtain ⟨v5, hv5⟩ : ∃ v5, v5 = Value.slice (some ⟨w13.heap.size, 0, none⟩) 2 2 := ⟨_, rfl⟩
              have hq5 : v5.ownBlock = some w13.heap.size := by rw [hv5]; rfl
              have hone5 : v5.oneCell' = true := by rw [hv5]; rfl
              rw [← hv5] at hv14 ⊢
              clear hv5
              have hcl : (w14.alloc (.cells #[v5] 56)).cell? ⟨w14.heap.size, 0, none⟩ = some v5 := by simp
              obtain ⟨w15, hw15⟩ : ∃ w15, w15 = w14.alloc (.cells #[v5] 56) := ⟨_, rfl⟩
              have hE15 : Ext w13 w15 := by rw [hw15]; exact Ext.alloc hE14 _
              have hv15 : w15.ownsRow D 3 1 v5 2 (iv [i', j']) := by rw [hw15]; exact own_ext (Ext.alloc (Ext.refl _) _) hv14
              rw [← hw15] at hcl ⊢
              clear hw15 hE14 hv14
              have HOL15 := Lib.hid (HOL13.out.ext hE15)
              have HF15 := Lib.hid (HOL13.out.fresh (Nat.le_refl w13.heap.size))
              have HFX := Lib.hid ((HOLn.out.fresh (Nat.le_of_eq HXB.out.symm)).1)
              have HGD := Lib.hid (show g < D by have h1 := HDR.out; have h2 := HRE.out; have h3 := HSG12.out.lt; omega)
              obtain ⟨i0, hz1, hz2, hz3, hz4⟩ := info_parts ints_info2
              refine wpAnyT_step (i := 11) rfl (by kernel_rfl) (fun K' hK => ?_)
              refine step_app_any _ rfl _ _ 24 rfl D 56 i0 _ 1 24 Tryz.underlying24 hz1 hz2 hz3 hz4 rfl (by decide) (.slice ea qs.length ec) qs.length (qs.map (·.1)) (by rfl) HOL15.out.1 (some ⟨w14.heap.size, 0, none⟩) 1 1 [v5] (by rfl) (one_val hcl) (by simpa using hone5) (by unfold maxLen; omega) (by omega) (by have h1 := HDWn.out; have h2 := HSZ13.out; have h3 := hE15.size; omega) ?_
              intro a16 c16 w16 hown16 hg16 hl16
              have HO16 := Lib.hid (HOL15.out.push (x := [i', j']) hv15 hq5 HF15.out.1 HF15.out.2 hg16 hown16 (hl16.imp id fun e => ⟨_, e, Nat.le_refl _⟩))
              have hne16 : (Value.slice ea qs.length ec).ownBlock ≠ some g := fun e => by have h1 := (HOL15.out.1.lt g e).1; have h2 := HGD.out; omega
              have HSG16 := Lib.hid ((HSG13.out.ext hE15).kept hg16 hne16)
              have hS16 : S w16 := by rw [hSd]; exact ⟨HSG16.out.c3, grown_keep hg16 (hE15.keep hb0) (fun e => HFX.out e.symm), grown_keep hg16 (hE15.keep hb1) (fun e => HFX.out e.symm)⟩
              have HGR16 := Lib.hid (World.grownBy.andThen (World.grownBy.andThen HGR13.out (Ext.grownBy hE15 none) (fun j hj => by cases hj)) hg16 (fun j hj => .inl (by have h1 := (HOL15.out.1.lt j hj).1; have h2 := HDR.out; have h3 := HRE.out; omega)))
              have HRD16 := Lib.hid ((HRD13.out.kept (Ext.grownBy hE15 none) (by simp) (by simp)).kept hg16 (fun e => by have h1 := (HOL15.out.1.lt b e).1; have h2 := HGD.out; have h3 := HBG.out; omega) (fun e => by have h1 := (HOL15.out.1.lt r e).1; have h2 := HDR.out; omega))
              have HD16 := Lib.hid (show D ≤ w16.heap.size by have h1 := hg16.size; have h2 := hE15.size; have h3 := HDWn.out; have h4 := HSZ13.out; omega)
              have hc16 := HSG16.out.c3
              have hf16 := HSG16.out.thaw 3
              have hgl16 := HSG16.out.lt
              refine hK.out _ _ (.inr hS16) ?_
              simp only [Act.put]
              clear hK K' hown16 hg16 hl16 hcl hv15 hE15 hb0 hb1 hc3 hne16
              refine wpAnyT_step (i := 12) rfl (by kernel_rfl) (fun K' hK => ?_)
              go_simp
              refine hK.out _ _ (.inr hS16) ?_
              clear hK K'
              refine wpAnyT_step (i := 13) rfl (by kernel_rfl) (fun K' hK => ?_)
              go_simp
              refine hK.out _ _ (.inr hS16) ?_
              clear hK K'
              refine wpAnyT_step (i := 14) rfl (by kernel_rfl) (fun K' hK => ?_)
              go_simp
              refine hK.out _ _ (.inl rfl) ?_
              clear hK K'
              refine wpAnyT_done (by kernel_rfl) ?_ _
              have HRNX := Lib.hid (HRD16.out.kept (grown_at w16 ⟨g, 3, none⟩ (.slice a16 (qs.length + 1) c16)) (by simp; have := HBG.out; omega) (by simp; have h1 := HRE.out; have h2 := HSG12.out.lt; omega))
              clear hS0 hS16 hSd hc16 hf16 hnext2 hentry2
              go_wp2
              go_roundw
              case rel => exact ⟨L ++ [[i', j']], _, qs ++ [(v5, [i', j'])], cn', HRNX.out, HSG16.out.set3 _, HO16.out.kept (grown_at _ _ _) (fun q hq => by cases hq; exact HGD.out), by rw [List.map_append, HQS.out]; rfl, grown_trans HGR16.out (grown_at _ _ _), by simpa using HD16.out, by have h1 := HLN.out; have h2 := HLT.out; simp; omega⟩
              case measure => rw [HRNX.out.left, HRL'.out]; exact HLT.out
end Go.Proofs.YtngbdopgdcjdeaaGreat

namespace Go.Proofs.YtngbdopgdcjdeaaGreat
open Go.RowKit

/-- A slice of ints that is read. -/
def RdInts (L : List Int) (w : World) (r : Ending) (w' : World) : Prop := ∃ a c, r = .returned (.slice a L.length c) ∧ Reads w' a 1 L.length (iv L) ∧ Ext w w'
/-- A slice of slices of ints, all of the call's own. -/
def OwnsL (B : Nat) (ys : List (List Int)) (w : World) (r : Ending) (w' : World) : Prop := ∃ s ps, r = .returned s ∧ OwnL w' B s ps ∧ ps.map (·.2) = ys ∧ Ext w w'
theorem subD_len {w : World} {B g : Nat} {a : Option Addr} {n c : Nat} {zs : List (Int × Int × Int)} (h : SubD w B g a n c zs) : zs.length = n := by
  obtain ⟨_, _, _, _, _, _, _, _, _, _, _, h3, _⟩ := h
  have := h3.1
  rw [tv_len] at this
  omega
theorem ownL_empty (w : World) (B : Nat) (h : B ≤ w.heap.size) : OwnL (w.alloc (.cells #[] 56)) B (.slice (some ⟨w.heap.size, 0, none⟩) 0 0) [] := ⟨own_empty w B _ 1 h, by simp, .nil⟩
theorem once_take {l : List (List Int)} {f : List Int → Bool} {k : Nat} (h : k < l.length) : (l.take (k + 1)).filter f = (l.take k).filter f ++ if f (l.getD k []) = true then [l.getD k []] else [] := by
  rw [List.take_succ_eq_append_getElem h, List.filter_append]
  simp only [List.getD, h, List.getElem?_eq_getElem, Option.getD_some]
  congr 1
  by_cases hf : f l[k] = true
  · rw [if_pos hf, List.filter_cons_of_pos hf, List.filter_nil]
  · rw [if_neg hf, List.filter_cons_of_neg hf, List.filter_nil]
theorem onceL_len {zs : List (Int × Int × Int)} (hZ : PZ zs) : (onceL zs).length ≤ 48000 := by
  have h1 := (foldE_len (allE zs)).1
  have h2 := allTo_len hZ (cellsL zs).length (Nat.le_refl _)
  have h3 := cells_most hZ
  have h4 : allTo zs (cellsL zs).length = allE zs := by unfold allTo allE; rw [List.take_length]
  rw [h4] at h2
  unfold onceL
  omega
theorem subdivided_no (a : Option Addr) (n c : Nat) (zs : List (Int × Int × Int)) (hn : n ≤ 1048576) (hp : planeB zs = false) (w : World) (h : Reads w a 3 n (tv zs)) :
    Calls Tryz.prog 43 #[.slice a n c] w fun r w' => r = .returned (.tuple #[.pointer none, .bool false]) ∧ Ext w w' := by
  go_enter Tryz.func43, Tryz.ntmps43
  go_wp2_with fail
  refine (isPlane_any _ _ _ zs (by omega) _ h).mono ?_
  rw [hp]
  rintro e w1 ⟨rfl, hb1⟩
  go_wp2
  go_ret2
  exact ⟨rfl, hb1⟩
theorem subdivided_yes (a : Option Addr) (n c : Nat) (zs : List (Int × Int × Int)) (hn : n ≤ 1048576) (hp : planeB zs = true) (w : World) (h : Reads w a 3 n (tv zs)) :
    Calls Tryz.prog 43 #[.slice a n c] w fun r w' => ∃ g, r = .returned (.tuple #[.pointer (some ⟨g, 0, none⟩), .bool true]) ∧ SubD w' w.heap.size g a n c zs ∧ Ext w w' := by
  have HZ := Lib.hid (pz_of hp)
  go_enter Tryz.func43, Tryz.ntmps43
  go_wp2_with fail
  refine (isPlane_any _ _ _ zs (by omega) _ h).mono ?_
  rw [hp]
  rintro e w1 ⟨rfl, hb1⟩
  go_wp2_with fail
  refine (subdivide_any _ _ _ zs HZ.out _ (h.ext hb1)).mono ?_
  rintro e w2 ⟨g, rfl, hs, hb2⟩
  have HS := Lib.hid hs
  have HE := Lib.hid (hb1.trans hb2)
  have HB := Lib.hid hb1.size
  clear hs hb2
  go_wp2
  go_ret2
  refine ⟨g, rfl, ?_, HE.out⟩
  obtain ⟨pa, pc, s, e, b, m, B1, ps, qs, h1, h2, h3, h4, h5, h6, h7, h8, h9⟩ := HS.out
  exact ⟨pa, pc, s, e, b, m, B1, ps, qs, h1, Nat.le_trans HB.out h2, h3, h4, h5.base HB.out, h6, h7.base HB.out, h8, h9⟩
set_option maxHeartbeats 1000000 in
theorem cellsAt_any (B g : Nat) (a ax : Option Addr) (n c cx : Nat) (zs : List (Int × Int × Int)) (i j : Int) (hi : B64 i) (hj : B64 j) (w : World) (h : SubD w B g a n c zs) (hx : Reads w ax 1 2 (iv [i, j])) :
    Calls Tryz.prog 45 #[.pointer (some ⟨g, 0, none⟩), .slice ax 2 cx] w (RdInts (sidesAt zs [i, j]) w) := by
  obtain ⟨pa, pc, s, e, b, m, B1, ps, qs, hsg, _, _, _, _, _, _, _, hgm⟩ := h
  obtain ⟨al, cl, hl, hr⟩ := group_look2 hgm hi hj
  have hl2 : ∀ k, (Instr.lookup 97 (.map (some b)) (.agg #[.int .i64 i, .int .i64 j]) false).run Tryz.prog (w.drewN k) = .ok (.slice al (sidesAt zs [i, j]).length cl) (w.drewN k) := fun k => hl _ rfl
  have hc4 := hsg.c4
  have hgl := hsg.lt
  obtain ⟨bx, ox, rfl, hcx⟩ := hx.2 (by omega)
  have k0 : w.cell? ⟨bx, ox, none⟩ = some (.int .i64 i) := by simpa using hcx 0 _ rfl
  have k1 := hcx 1 _ rfl
  have HR := Lib.hid hr
  clear hl hcx hx hsg hgm hr
  generalize sidesAt zs [i, j] = L at *
  go_enter Tryz.func45, Tryz.ntmps45
  go_wp2
  go_quiet (fail)
  go_wp2
  go_ret
  exact ⟨al, cl, rfl, Reads.ext (Ext.drewN (Ext.refl _) _) HR.out, Ext.drewN (Ext.refl _) _⟩
theorem cloneN_any (b off n c : Nat) (zs : List Int) (hn : n ≤ 1048576) (w : World) (h : Reads w (some ⟨b, off, none⟩) 1 n (iv zs)) :
    Calls Tryz.prog 79 #[.slice (some ⟨b, off, none⟩) n c] w fun r w' => ∃ a1 c1, r = .returned (.slice a1 n c1) ∧ w'.ownsRow w.heap.size 3 1 (.slice a1 n c1) n (iv zs) ∧ Ext w w' := by
  have hl : zs.length = n := by have := h.1; rw [iv_len] at this; omega
  have q : ∀ (w : World) (a : Option Addr) (n c n' c' : Nat), (binOp .eql 56 (.slice a n c) (.slice none n' c')).run Tryz.prog w = .ok (.bool a.isNone) w := fun w a n c n' c' => Lib.run_eql_slice_nil w _ _ a n c n' c' Tryz.underlying56
  have HR := Lib.hid h
  clear h
  go_enter Tryz.func79, Tryz.ntmps79
  have H0 := Lib.hid (own_empty w w.heap.size 3 1 (Nat.le_refl _))
  obtain ⟨i0, hz1, hz2, hz3, hz4⟩ := info_parts int_info
  go_wp2_with (at_builtin; go_must (refine wpList_app_any _ rfl _ _ 56 rfl w.heap.size 3 i0 _ 1 8 Tryz.underlying56 hz1 hz2 hz3 hz4 rfl (by decide) _ 0 [] rfl H0.out (some ⟨b, off, none⟩) n c (iv zs) rfl (HR.out.alloc _) (iv_one _) (by unfold maxLen; omega) (by omega) (by simp) ?_))
  intro a1 c1 w2 ho2 hg2 _
  have hE2 : Ext w w2 := Ext.grown (Ext.alloc (Ext.refl w) _) hg2 (fun k hk => by simp [Value.ownBlock] at hk; omega)
  clear hg2
  go_wp2
  go_ret
  exact ⟨a1, c1, by simp, by simpa using ho2, hE2⟩
set_option maxHeartbeats 2000000 in
set_option maxRecDepth 100000 in
theorem chosenEdges_any (B g : Nat) (a : Option Addr) (n c m : Nat) (zs : List (Int × Int × Int)) (hZ : PZ zs) (w : World) (h : SubD w B g a n c zs) :
    Calls Tryz.prog 44 #[.pointer (some ⟨g, 0, none⟩), .int .i64 m] w (OwnsL w.heap.size ((onceL zs).filter fun e => decide ((sidesAt zs e).length = m)) w) := by
  obtain ⟨f, hf⟩ : ∃ f : List Int → Bool, f = fun e => decide ((sidesAt zs e).length = m) := ⟨_, rfl⟩
  have HFd := Lib.hid hf
  rw [← hf]
  have HD := Lib.hid h
  obtain ⟨pa, pc, s, e, b, mm, B1, ps, qs, hsg, hBg, _, _, _, _, hol, hqs, hgm⟩ := h
  have HQS := Lib.hid hqs
  have HSG := Lib.hid hsg
  have HOL := Lib.hid hol
  have hql : qs.length ≤ 48000 := by rw [← List.length_map (f := (·.2)), hqs]; exact onceL_len hZ
  have HZ := Lib.hid hZ
  obtain ⟨ea, ec, rfl⟩ := hol.form
  have hc3 := hsg.c3
  have hgl := hsg.lt
  clear hqs hsg hol hgm hZ hf
  go_enter Tryz.func44, Tryz.ntmps44
  go_wp2
  go_loopw [5, 14] (fun s t wr => ∃ (k : Nat) (ts : List (Value × List Int)), k ≤ qs.length ∧ t = .int .i64 k ∧ OwnL wr w.heap.size s ts ∧ ts.map (·.2) = ((onceL zs).take k).filter f ∧ ts.length ≤ k ∧ Ext w wr) (fun _ t _ => qs.length - (intOf t).toNat)
  case atStart => exact ⟨0, [], Nat.zero_le _, rfl, ownL_empty w _ (Nat.le_refl _), by simp, Nat.le_refl _, Ext.alloc (Ext.refl _) _⟩
  case round =>
    obtain ⟨k, ts, hk, rfl, hot, hts, htk, hE⟩ := hrel
    by_cases hlk : k < qs.length
    · have hko : k < (onceL zs).length := by rw [← HQS.out, List.length_map]; exact hlk
      obtain ⟨i, j, hij, hjn, hij2⟩ := once_form HZ.out.2.2 (show (onceL zs).getD k [] ∈ onceL zs by rw [show (onceL zs).getD k [] = (onceL zs)[k] by simp [List.getD, hko]]; exact List.getElem_mem _)
      have HTK := Lib.hid (once_take (f := f) hko)
      rw [hij2] at HTK
      have hol := HOL.out.ext hE
      have hva := hol.va
      rw [HQS.out] at hva
      obtain ⟨ak, ck, hvk, hrk⟩ := hva.at k hko
      obtain ⟨gc, rfl, _, hgc2⟩ := own_head hol.1 (by omega)
      have hck := (hol.1.cellAt k (by omega)).trans hvk
      rw [hij2] at hck hrk
      simp only [List.length_cons, List.length_nil, Nat.zero_add, Nat.reduceAdd] at hck hrk
      have HDr := Lib.hid (HD.out.ext hE)
      have HRK := Lib.hid hrk
      have hkn : (k : Int) < (qs.length : Int) := by omega
      have HTS := Lib.hid hts
      have HOT := Lib.hid hot
      have HE := Lib.hid hE
      have hbi : B64 (i : Int) := by have := HZ.out.1; unfold B64; omega
      have hbj : B64 (j : Int) := by have := HZ.out.1; unfold B64; omega
      have HFI := Lib.hid (show f [(i : Int), (j : Int)] = decide ((sidesAt zs [(i : Int), (j : Int)]).length = m) by rw [HFd.out])
      have hS2 := sidesAt_two HZ.out.2.2 [(i : Int), (j : Int)]
      clear hol hva hvk hrk hts hot hE hko hij2
      go_wp2_with fail
      refine (cellsAt_any B g a ak n c ck zs i j hbi hbj wr HDr.out HRK.out).mono ?_
      rintro e w2 ⟨a2, c2, rfl, _, hE2⟩
      have HE2 := Lib.hid (HE.out.trans hE2)
      have HOT2 := Lib.hid (HOT.out.ext hE2)
      have HRK2 := Lib.hid (Reads.ext hE2 HRK.out)
      clear hE2 hck hgc2
      generalize sidesAt zs [(i : Int), (j : Int)] = S at *
      by_cases hm : S.length = m
      · have HV := Lib.hid (HTK.out.trans (by rw [HFI.out, if_pos (by simpa using hm)]))
        have hm2 : (S.length : Int) = (m : Int) := by omega
        clear HTK HFI hm
        obtain ⟨bk, ok, rfl, hcells⟩ := HRK2.out.2 (by omega)
        clear hcells
        go_wp2_with fail
        refine (cloneN_any bk ok 2 ck [(i : Int), (j : Int)] (by omega) w2 HRK2.out).mono ?_
        rintro e w3 ⟨a3, c3, rfl, ho3, hE3⟩
        obtain ⟨q3, hq3, hq4, _⟩ := own_some ho3 (by omega)
        have HE3 := Lib.hid (HE2.out.trans hE3)
        have HOT3 := Lib.hid (HOT2.out.ext hE3)
        have HF3 := Lib.hid (HOT2.out.fresh hq4)
        have HO3 := Lib.hid (own_mono HE2.out.size ho3)
        have HQ3 := Lib.hid hq3
        clear hE3 ho3 hq3 hq4
        obtain ⟨sa, sc, rfl⟩ := HOT3.out.form
        have hz3 := HE3.out.size
        obtain ⟨i0, hz1, hz2, hz4, hz5⟩ := info_parts ints_info2
        go_wp2_with (at_builtin; go_must (refine wpList_app_any _ rfl _ _ 24 rfl w.heap.size 56 i0 _ 1 24 Tryz.underlying24 hz1 hz2 hz4 hz5 rfl (by decide) (.slice sa ts.length sc) ts.length (ts.map (·.1)) (by rfl) ((HOT3.out.ext ((Ext.refl w3).alloc _)).1) _ 1 1 [.slice a3 2 c3] (by rfl) (one_val (by simp)) (by simp [Value.oneCell']) (by unfold maxLen; omega) (by omega) (by simp; omega) ?_))
        intro a6 c6 w6 hown6 hg6 hl6
        have HOT6 := Lib.hid ((HOT3.out.ext ((Ext.refl w3).alloc _)).push (x := [(i : Int), (j : Int)]) (own_ext ((Ext.refl w3).alloc _) HO3.out) HQ3.out HF3.out.1 HF3.out.2 hg6 hown6 (hl6.imp id fun e => ⟨_, e, by simp⟩))
        have HE6 := Lib.hid (Ext.grown (HE3.out.alloc _) hg6 (fun k hk => (HOT3.out.1.lt k hk).1))
        clear hown6 hg6 hl6 hz1 hz2 hz4 hz5
        go_wp2
        go_roundw
        case rel => exact ⟨k + 1, ts ++ [(.slice a3 2 c3, [(i : Int), (j : Int)])], by omega, by go_num, HOT6.out, by rw [List.map_append, HTS.out, HV.out]; rfl, by simp; omega, HE6.out⟩
        case measure => simp [intOf]; omega
      · have HV := Lib.hid (HTK.out.trans (by rw [HFI.out, if_neg (by simpa using hm), List.append_nil]))
        have hm2 : ((S.length : Int) == (m : Int)) = false := by simp; omega
        clear HTK HFI hm
        go_wp2
        go_roundw
        case rel => exact ⟨k + 1, ts, by omega, by go_num, HOT2.out, by rw [HV.out]; exact HTS.out, by omega, HE2.out⟩
        case measure => simp [intOf]; omega
    · obtain rfl : k = qs.length := by omega
      have HTS := Lib.hid (show ts.map (·.2) = (onceL zs).filter f by rw [hts, List.take_of_length_le (by rw [← HQS.out, List.length_map]; exact Nat.le_refl _)])
      have HOT := Lib.hid hot
      have HE := Lib.hid hE
      clear hts hot hE
      go_wp2
      go_ret
      exact ⟨_, ts, rfl, HOT.out, HTS.out, HE.out⟩
end Go.Proofs.YtngbdopgdcjdeaaGreat

namespace Go.Proofs.YtngbdopgdcjdeaaGreat
open Go.RowKit

/-- A slice of slices of ints that reads so. -/
def RdL (w : World) (s : Value) (ys : List (List Int)) : Prop := ∃ a c vs, s = .slice a ys.length c ∧ Reads w a 1 ys.length vs ∧ VA w vs ys
theorem RdL.ext {w w' : World} {s : Value} {ys : List (List Int)} (h : RdL w s ys) (e : Ext w w') : RdL w' s ys := by
  obtain ⟨a, c, vs, h1, h2, h3⟩ := h
  exact ⟨a, c, vs, h1, Reads.ext e h2, h3.ext e⟩
theorem OwnL.rd {w : World} {B : Nat} {s : Value} {ps : List (Value × List Int)} (h : OwnL w B s ps) : RdL w s (ps.map (·.2)) := by
  obtain ⟨a, c, rfl⟩ := h.form
  refine ⟨a, c, ps.map (·.1), by rw [List.length_map], ?_, h.va⟩
  rw [List.length_map]
  exact own_reads h.1
theorem RdL.of {w : World} {B : Nat} {a : Option Addr} {c : Nat} {ys : List (List Int)} {vs : List Value} (h : w.ownsRow B 56 1 (.slice a ys.length c) ys.length vs) (hv : VA w vs ys) : RdL w (.slice a ys.length c) ys := ⟨a, c, vs, rfl, own_reads h, hv⟩
theorem rdL_none (w : World) : RdL w (.slice none 0 0) [] := ⟨none, 0, [], rfl, ⟨rfl, fun h => absurd h (by simp)⟩, trivial⟩
theorem RdL.at {w : World} {s : Value} {ys : List (List Int)} (h : RdL w s ys) {k : Nat} (hk : k < ys.length) : ∃ b off c ak ck, s = .slice (some ⟨b, off, none⟩) ys.length c ∧ w.cell? ⟨b, off + k, none⟩ = some (.slice ak (ys.getD k []).length ck) ∧ Reads w ak 1 (ys.getD k []).length (iv (ys.getD k [])) := by
  obtain ⟨a, c, vs, h1, h2, h3⟩ := h
  obtain ⟨b, off, rfl, hc⟩ := h2.2 (by omega)
  obtain ⟨ak, ck, k1, k2⟩ := h3.at k hk
  exact ⟨b, off, c, ak, ck, h1, hc k _ k1, k2⟩
/-- The rows when they have been marked from k on. -/
def mkL (k : Int) : List (Value × List Int) → List (Value × List Int)
  | [] => []
  | p :: ps => (p.1, marks k p.2.length) :: mkL (k + p.2.length) ps
def totL : List (Value × List Int) → Nat
  | [] => 0
  | p :: ps => p.2.length + totL ps
theorem mkL_len : ∀ (k : Int) (ps : List (Value × List Int)), (mkL k ps).length = ps.length
  | _, [] => rfl
  | k, _ :: ps => by simp [mkL, mkL_len _ ps]
theorem mkL_snoc : ∀ (k : Int) (ps : List (Value × List Int)) (p : Value × List Int), mkL k (ps ++ [p]) = mkL k ps ++ [(p.1, marks (k + totL ps) p.2.length)]
  | k, [], p => by simp [mkL, totL]
  | k, q :: ps, p => by
    have e : k + (q.2.length : Int) + (totL ps : Int) = k + ((q.2.length + totL ps : Nat) : Int) := by omega
    simp only [List.cons_append, mkL, mkL_snoc _ ps p, totL, e]
theorem totL_snoc : ∀ (ps : List (Value × List Int)) (p : Value × List Int), totL (ps ++ [p]) = totL ps + p.2.length
  | [], p => by simp [totL]
  | q :: ps, p => by simp only [List.cons_append, totL, totL_snoc ps p]; omega
theorem totL_take : ∀ (ps : List (Value × List Int)) (k : Nat), totL (ps.take k) ≤ totL ps
  | [], k => by simp [totL]
  | p :: ps, 0 => by simp [totL]
  | p :: ps, k + 1 => by simp only [List.take_succ_cons, totL]; have := totL_take ps k; omega
theorem totL_le {ps : List (Value × List Int)} {m : Nat} (h : ∀ p ∈ ps, p.2.length ≤ m) : totL ps ≤ ps.length * m := by
  induction ps with
  | nil => simp [totL]
  | cons p ps ih =>
    have h1 := h p (by simp)
    have h2 := ih (fun q hq => h q (by simp [hq]))
    simp only [totL, List.length_cons, Nat.add_mul]
    omega
def mkTo (k : Int) (ps : List (Value × List Int)) (i : Nat) : List (Value × List Int) := mkL k (ps.take i) ++ ps.drop i
theorem mkTo_zero (k : Int) (ps : List (Value × List Int)) : mkTo k ps 0 = ps := by simp [mkTo, mkL]
theorem mkTo_full (k : Int) (ps : List (Value × List Int)) : mkTo k ps ps.length = mkL k ps := by simp [mkTo]
theorem mkTo_len (k : Int) (ps : List (Value × List Int)) (i : Nat) : (mkTo k ps i).length = ps.length := by
  simp only [mkTo, List.length_append, mkL_len, List.length_take, List.length_drop]
  omega
theorem mkTo_get {k : Int} {ps : List (Value × List Int)} {i : Nat} (h : i < ps.length) : (mkTo k ps i)[i]? = some ps[i] := by
  unfold mkTo
  rw [List.getElem?_append_right (by rw [mkL_len, List.length_take]; omega), mkL_len, List.length_take, Nat.min_eq_left (by omega), Nat.sub_self, List.getElem?_drop]
  simp [h]
theorem mkTo_step {k : Int} {ps : List (Value × List Int)} {i : Nat} (h : i < ps.length) : (mkTo k ps i).set i (ps[i].1, marks (k + totL (ps.take i)) ps[i].2.length) = mkTo k ps (i + 1) := by
  have hl : (mkL k (ps.take i)).length = i := by rw [mkL_len, List.length_take]; omega
  unfold mkTo
  rw [List.set_append_right _ _ (by omega), hl, Nat.sub_self, List.drop_eq_getElem_cons h, List.set_cons_zero, List.take_succ_eq_append_getElem h, mkL_snoc, List.append_assoc]
  rfl
theorem OwnL.mark {w w' : World} {B : Nat} {s : Value} {ps : List (Value × List Int)} (h : OwnL w B s ps) {i : Nat} {p : Value × List Int} {x : List Int} (hi : ps[i]? = some p) (hg : w.grownBy w' p.1.ownBlock) (hx : w'.ownsRow B 3 1 p.1 x.length (iv x)) : OwnL w' B s (ps.set i (p.1, x)) := by
  obtain ⟨h1, h2, h3⟩ := h
  have hil : i < ps.length := (List.getElem?_eq_some_iff.1 hi).1
  have hpi : ps[i] = p := (List.getElem?_eq_some_iff.1 hi).2
  have hpm : p ∈ ps := by rw [← hpi]; exact List.getElem_mem _
  have hm : (ps.set i (p.1, x)).map (·.1) = ps.map (·.1) := by
    rw [List.map_set]
    apply List.ext_getElem?
    intro j
    rw [List.getElem?_set]
    split
    · rename_i e
      subst e
      simp [hil, hpi]
    · rfl
  have hap : ∀ q ∈ ps, q.1.ownBlock ≠ p.1.ownBlock ∨ q.1.ownBlock = p.1.ownBlock := fun q _ => (Classical.em _).symm
  obtain ⟨⟨bp, hbp⟩, _, hsp⟩ := h2 p hpm
  -- an element of the new list: an old one at another place, or the marked one
  have who : ∀ q ∈ ps.set i (p.1, x), q = (p.1, x) ∨ (q ∈ ps ∧ q.1.ownBlock ≠ p.1.ownBlock) := by
    intro q hq
    obtain ⟨j, hj, e⟩ := List.getElem_of_mem hq
    rw [List.getElem_set] at e
    split at e
    · exact .inl e.symm
    · rename_i hne
      have hj' : j < ps.length := by simpa using hj
      refine .inr ⟨e ▸ List.getElem_mem hj', ?_⟩
      rw [List.pairwise_iff_getElem] at h3
      rcases Nat.lt_or_ge i j with hl | hl
      · have t := h3 i j hil hj' hl
        rw [hpi, e] at t
        exact t.symm
      · have t := h3 j i hj' hil (by omega)
        rw [hpi, e] at t
        exact t
  refine ⟨by rw [List.length_set, hm]; exact own_apartQ h1 hg (fun q hq e => hsp (by rw [hq, e])), fun q hq => ?_, ?_⟩
  · rcases who q hq with rfl | ⟨k1, k2⟩
    · exact ⟨⟨bp, hbp⟩, hx, hsp⟩
    · obtain ⟨g1, g2, g3⟩ := h2 q k1
      exact ⟨g1, own_apartQ g2 hg (fun u hu e => k2 (by rw [hu, e])), g3⟩
  · have : (ps.map (·.1)).Pairwise (fun u v => u.ownBlock ≠ v.ownBlock) := by rw [List.pairwise_map]; exact h3
    rw [← hm, List.pairwise_map] at this
    exact this
set_option maxHeartbeats 1000000 in
theorem eqIntSS_same (s s' : Value) (ys : List (List Int)) (hn : ys.length ≤ 1048576) (hl : ∀ k, k < ys.length → (ys.getD k []).length ≤ 1048576) (w : World) (h : RdL w s ys) (h' : RdL w s' ys) :
    Calls Tryz.prog 14 #[s, s'] w fun r w' => r = .returned (.bool true) ∧ Ext w w' := by
  obtain ⟨a0, c0, vs0, rfl, hr0, hv0⟩ := h
  obtain ⟨a1, c1, vs1, rfl, hr1, hv1⟩ := h'
  have H0 := Lib.hid (show RdL w (.slice a0 ys.length c0) ys from ⟨a0, c0, vs0, rfl, hr0, hv0⟩)
  have H1 := Lib.hid (show RdL w (.slice a1 ys.length c1) ys from ⟨a1, c1, vs1, rfl, hr1, hv1⟩)
  have HL := Lib.hid hl
  clear hr0 hv0 hr1 hv1 hl
  go_enter Tryz.func14, Tryz.ntmps14
  go_wp2
  go_loopw [5] (fun t wr => ∃ k : Nat, k ≤ ys.length ∧ t = .int .i64 k ∧ Ext w wr) (fun t _ => ys.length - (intOf t).toNat)
  case atStart => exact ⟨0, Nat.zero_le _, rfl, Ext.refl _⟩
  case round =>
    obtain ⟨k, hk, rfl, hE⟩ := hrel
    by_cases hlk : k < ys.length
    · obtain ⟨b0, o0, d0, e0, f0, hs0, hc0, hd0⟩ := (H0.out.ext hE).at hlk
      obtain ⟨b1, o1, d1, e1, f1, hs1, hc1, hd1⟩ := (H1.out.ext hE).at hlk
      simp only [Value.slice.injEq, true_and] at hs0 hs1
      obtain ⟨rfl, rfl⟩ := hs0
      obtain ⟨rfl, rfl⟩ := hs1
      have hkn : (k : Int) < (ys.length : Int) := by omega
      have hyl := HL.out k hlk
      generalize ys.getD k [] = y at *
      have HC := Lib.hid (fun s : Past wr => eqIntS_same e0 e1 y.length f0 f1 y (by omega) s.w (Reads.ext s.ext hd0) (Reads.ext s.ext hd1))
      have HE := Lib.hid hE
      clear hd0 hd1 hE
      have hE : Ext wr wr := Ext.refl _
      have Kc0 := Ext.keeps hc0
      have Lc0 := Ext.keeps hc1
      go_wp2
      have qK0 := fun s : Past wr => Kc0 s.w s.ext
      have qL0 := fun s : Past wr => Lc0 s.w s.ext
      refine wp_region_past wr (by first | exact hE | exact Ext.alloc hE _ | exact Ext.drew hE | exact Ext.drewN hE _) (by kernel_rfl) (by kernel_rfl) ?_
      repeat (go_big_quiet_step (((go_at_call 48; with_reducible exact past_ext (HC.out _)))))
      refine wpQuiet_nil ?_
      intro w2 hw'
      obtain ⟨⟨_, hE⟩, hw''⟩ := hw'
      subst hw''
      clear qK0 qL0
      have HE2 := Lib.hid (HE.out.trans hE)
      clear hE HC Kc0 Lc0 hc0 hc1
      go_wp2
      go_roundw
      case rel => exact ⟨k + 1, by omega, by go_num, HE2.out⟩
      case measure => simp [intOf]; omega
    · obtain rfl : k = ys.length := by omega
      have hkn : ¬ (ys.length : Int) < (ys.length : Int) := by omega
      go_wp2
      go_ret
      exact ⟨rfl, hE⟩
set_option maxHeartbeats 1000000 in
theorem markIntSS_any (B : Nat) (s : Value) (ps : List (Value × List Int)) (k : Int) (hk0 : 0 ≤ k) (hk1 : k ≤ 1000) (htot : totL ps ≤ 1048576) (hn : ps.length ≤ 1048576) (W : World) (hW : W.heap.size ≤ B) (w : World) (hE0 : Ext W w) (h : OwnL w B s ps) :
    Calls Tryz.prog 17 #[s, .int .i64 k] w fun r w' => r = .returned (.int .i64 (k + (totL ps : Int))) ∧ OwnL w' B s (mkL k ps) ∧ Ext W w' := by
  obtain ⟨a, c, rfl⟩ := h.form
  have HT := Lib.hid htot
  have HH := Lib.hid h
  have HE0 := Lib.hid hE0
  clear h htot hE0
  go_enter Tryz.func17, Tryz.ntmps17
  go_wp2
  go_loopw [1, 5] (fun x t wr => ∃ i : Nat, i ≤ ps.length ∧ t = .int .i64 i ∧ x = .int .i64 (k + (totL (ps.take i) : Int)) ∧ OwnL wr B (.slice a ps.length c) (mkTo k ps i) ∧ Ext W wr) (fun _ t _ => ps.length - (intOf t).toNat)
  case atStart => exact ⟨0, Nat.zero_le _, rfl, by simp [totL], by rw [mkTo_zero]; exact HH.out, HE0.out⟩
  case round =>
    obtain ⟨i, hi, rfl, rfl, hol, hE⟩ := hrel
    have htk := totL_take ps i
    have htot := HT.out
    by_cases hlt : i < ps.length
    · have HS := Lib.hid (mkTo_step (k := k) hlt)
      have HTS := Lib.hid (show totL (ps.take (i + 1)) = totL (ps.take i) + ps[i].2.length by rw [List.take_succ_eq_append_getElem hlt, totL_snoc])
      have htk2 := totL_take ps (i + 1)
      rw [HTS.out] at htk2
      have HGT := Lib.hid (mkTo_get (k := k) hlt)
      generalize ps[i] = p at *
      obtain ⟨v, x⟩ := p
      simp only at htk2 HS HTS
      have hmem : (v, x) ∈ mkTo k ps i := List.mem_of_getElem? HGT.out
      obtain ⟨⟨q, hq⟩, hv, _⟩ := hol.2.1 _ hmem
      simp only at hv
      obtain ⟨av, cv, rfl⟩ := own_form hv
      have hlen := mkTo_len k ps i
      obtain ⟨g, rfl, hg1, hg2⟩ : ∃ g, a = some ⟨g, 0, none⟩ ∧ B ≤ g ∧ g < wr.heap.size := by
        have ho := hol.1
        rw [hlen] at ho
        exact own_head ho (by omega)
      have hck : wr.cell? ⟨g, i, none⟩ = some (.slice av x.length cv) := by
        have ho := hol.1
        rw [hlen] at ho
        rw [ho.cellAt i (by omega), List.getElem?_map, HGT.out]
        rfl
      have hin : (i : Int) < (ps.length : Int) := by omega
      have HOL := Lib.hid hol
      have HV := Lib.hid hv
      have HE := Lib.hid hE
      clear hol hv hE hlen hmem hq
      obtain ⟨K, hK⟩ : ∃ K, K = k + (totL (ps.take i) : Int) := ⟨_, rfl⟩
      rw [← hK] at HS ⊢
      have HKK := Lib.hid hK
      have hK0 : 0 ≤ K := by omega
      have hK1 : K ≤ 1073741824 := by omega
      clear hK
      go_wp2_with fail
      refine (markIntS_any av x.length cv K x B (by omega) hK0 hK1 wr HV.out).mono ?_
      rintro e w2 ⟨rfl, hm2, hg2'⟩
      have hmx : x.length = (marks K x.length).length := (marks_len K x.length).symm
      have HO2 := Lib.hid (HOL.out.mark (x := marks K x.length) HGT.out hg2' (by rw [← hmx]; exact hm2))
      have HE2 := Lib.hid (Ext.grown HE.out hg2' (fun u hu => Nat.le_trans hW (HV.out.lt u hu).1))
      clear hm2 hg2' hck hmx
      go_wp2
      go_roundw
      case rel => exact ⟨i + 1, by omega, by go_num, congrArg (Value.int .i64) (by rw [HTS.out]; have := HKK.out; omega), by rw [← HS.out]; exact HO2.out, HE2.out⟩
      case measure => simp [intOf]; omega
    · obtain rfl : i = ps.length := by omega
      have hin : ¬ (ps.length : Int) < (ps.length : Int) := by omega
      rw [mkTo_full] at hol
      rw [List.take_length]
      have HOL := Lib.hid hol
      clear hol
      go_wp2
      go_ret
      exact ⟨rfl, HOL.out, hE⟩
set_option maxHeartbeats 1000000 in
theorem heldIntSS_any (B : Nat) (s : Value) (ps : List (Value × List Int)) (k : Int) (hk0 : 0 ≤ k) (hk1 : k ≤ 1000) (htot : totL ps ≤ 1048576) (hn : ps.length ≤ 1048576) (w : World) (h : OwnL w B s (mkL k ps)) :
    Calls Tryz.prog 18 #[s, .int .i64 k] w fun r w' => r = .returned (.int .i64 (k + (totL ps : Int))) ∧ w = w' := by
  obtain ⟨a, c, rfl⟩ := h.form
  have HT := Lib.hid htot
  have hlen := mkL_len k ps
  have HH := Lib.hid h
  rw [hlen]
  clear h htot hlen
  go_enter Tryz.func18, Tryz.ntmps18
  go_wp2
  go_loopw [1, 5] (fun x t wr => ∃ i : Nat, i ≤ ps.length ∧ t = .int .i64 i ∧ x = .int .i64 (k + (totL (ps.take i) : Int)) ∧ w = wr) (fun _ t _ => ps.length - (intOf t).toNat)
  case atStart => exact ⟨0, Nat.zero_le _, rfl, by simp [totL], rfl⟩
  case round =>
    obtain ⟨i, hi, rfl, rfl, rfl⟩ := hrel
    have htk := totL_take ps i
    have htot := HT.out
    by_cases hlt : i < ps.length
    · have HTS := Lib.hid (show totL (ps.take (i + 1)) = totL (ps.take i) + ps[i].2.length by rw [List.take_succ_eq_append_getElem hlt, totL_snoc])
      have htk2 := totL_take ps (i + 1)
      rw [HTS.out] at htk2
      have HGT := Lib.hid (show (mkL k ps)[i]? = some (ps[i].1, marks (k + totL (ps.take i)) ps[i].2.length) by
        have h1 := mkTo_step (k := k) hlt
        have h2 : (mkL k ps)[i]? = (mkTo k ps (i + 1))[i]? := by
          have h3 : ps = ps.take (i + 1) ++ ps.drop (i + 1) := (List.take_append_drop _ _).symm
          have h4 : ∀ (k : Int) (l r : List (Value × List Int)), mkL k (l ++ r) = mkL k l ++ mkL (k + totL l) r := by
            intro k l
            induction l generalizing k with
            | nil => intro r; simp [mkL, totL]
            | cons p l ih => intro r; simp only [List.cons_append, mkL, ih, totL]; congr 3; omega
          have h5 : (mkL k (ps.take (i + 1))).length = i + 1 := by rw [mkL_len, List.length_take]; omega
          conv => lhs; rw [h3, h4]
          unfold mkTo
          rw [List.getElem?_append_left (by omega), List.getElem?_append_left (by omega)]
        rw [h2, ← h1, List.getElem?_set_self (by rw [mkTo_len]; exact hlt)])
      generalize ps[i] = p at *
      obtain ⟨v, x⟩ := p
      simp only at htk2 HGT HTS
      have hmem : (v, marks (k + totL (ps.take i)) x.length) ∈ mkL k ps := List.mem_of_getElem? HGT.out
      obtain ⟨_, hv, _⟩ := HH.out.2.1 _ hmem
      simp only [marks_len] at hv
      obtain ⟨av, cv, rfl⟩ := own_form hv
      have hlen := mkL_len k ps
      obtain ⟨g, rfl, hg1, hg2⟩ : ∃ g, a = some ⟨g, 0, none⟩ ∧ B ≤ g ∧ g < w.heap.size := by
        have ho := HH.out.1
        rw [hlen] at ho
        exact own_head ho (by omega)
      have hck : w.cell? ⟨g, i, none⟩ = some (.slice av x.length cv) := by
        have ho := HH.out.1
        rw [hlen] at ho
        rw [ho.cellAt i (by omega), List.getElem?_map, HGT.out]
        rfl
      have hin : (i : Int) < (ps.length : Int) := by omega
      have HV := Lib.hid (own_reads hv)
      clear hv hlen hmem
      obtain ⟨K, hK⟩ : ∃ K, K = k + (totL (ps.take i) : Int) := ⟨_, rfl⟩
      rw [← hK] at HV ⊢
      have HKK := Lib.hid hK
      have hK0 : 0 ≤ K := by omega
      have hK1 : K ≤ 1073741824 := by omega
      clear hK
      have hKx : ¬ (K + (x.length : Int) < 0) := by omega
      go_wp2_with fail
      refine (heldIntS_any av x.length cv K (by omega) hK0 hK1 w HV.out).mono ?_
      rintro e _ ⟨rfl, rfl⟩
      go_wp2
      go_roundw
      case rel => exact ⟨i + 1, by omega, by go_num, congrArg (Value.int .i64) (by rw [HTS.out]; have := HKK.out; omega), trivial⟩
      case measure => simp [intOf]; omega
    · obtain rfl : i = ps.length := by omega
      have hin : ¬ (ps.length : Int) < (ps.length : Int) := by omega
      rw [List.take_length]
      go_wp2
      go_ret
      exact ⟨rfl, rfl⟩
end Go.Proofs.YtngbdopgdcjdeaaGreat

namespace Go.Proofs.YtngbdopgdcjdeaaGreat
open Go.RowKit

theorem frozen_fresh {w : World} {cs : Array Value} {t : TypeId} {b i : Nat} (h : b = w.heap.size) : (w.alloc (.cells cs t)).frozen? ⟨b, i, none⟩ = false := by
  subst h; simp
/-- A valid fraction; what a quotient is divided by, its parts; whether it is one. -/
def fracB (x y : Int) : Bool := inB x (-1000000000) 1000000000 && inB y 1 1000000000 && (gcdI x y == 1)
theorem fracB_true {x y : Int} : fracB x y = true ↔ (-1000000000 ≤ x ∧ x ≤ 1000000000) ∧ (1 ≤ y ∧ y ≤ 1000000000) ∧ gcdI x y = 1 := by simp [fracB, inB_true, and_assoc]
theorem fracB_cases (x y : Int) : fracB x y = false ∨ (fracB x y = true ∧ (-1000000000 ≤ x ∧ x ≤ 1000000000) ∧ (1 ≤ y ∧ y ≤ 1000000000) ∧ gcdI x y = 1) := by
  cases h : fracB x y
  · exact .inl rfl
  · exact .inr ⟨rfl, fracB_true.1 h⟩
def lowG (n d : Int) : Int := if d < 0 then -gcdI n d else gcdI n d
def lowN (n d : Int) : Int := n.tdiv (lowG n d)
def lowD (n d : Int) : Int := d.tdiv (lowG n d)
def okM (n d : Int) : Bool := (d != 0) && fracB (lowN n d) (lowD n d)
theorem tdiv_bd {a b k : Int} (h : -k ≤ a ∧ a ≤ k) : -k ≤ a.tdiv b ∧ a.tdiv b ≤ k := by
  have h2 : (a.tdiv b).natAbs ≤ a.natAbs := by rw [Int.natAbs_tdiv]; exact Nat.div_le_self _ _
  omega
theorem lowG_ne {n d : Int} (h : d ≠ 0) : lowG n d ≠ 0 := by
  have := gcdI_pos_of (a := n) (b := d) (.inr h)
  unfold lowG; split <;> omega
/-- In lowest terms, over a divisor that is more than 0. -/
theorem low_gcd {n d : Int} (hd : 0 < d) : gcdI (lowN n d) (lowD n d) = 1 ∧ 1 ≤ lowD n d := by
  have hg := gcdI_pos_of (a := n) (b := d) (.inr (by omega))
  have hG : lowG n d = gcdI n d := by unfold lowG; rw [if_neg (by omega)]
  unfold lowN lowD
  rw [hG]
  have e : ((gcdI n d).natAbs : Nat) = Nat.gcd n.natAbs d.natAbs := by unfold gcdI Int.gcd; omega
  have hpos : 0 < Nat.gcd n.natAbs d.natAbs := by omega
  constructor
  · unfold gcdI
    show ((Int.gcd (n.tdiv (gcdI n d)) (d.tdiv (gcdI n d)) : Nat) : Int) = 1
    unfold Int.gcd
    rw [Int.natAbs_tdiv, Int.natAbs_tdiv, e]
    have := Nat.coprime_div_gcd_div_gcd hpos
    unfold Nat.Coprime at this
    show (((n.natAbs / n.natAbs.gcd d.natAbs).gcd (d.natAbs / n.natAbs.gcd d.natAbs) : Nat) : Int) = 1
    rw [this]; rfl
  · have h1 : gcdI n d ∣ d := by unfold gcdI; exact Int.gcd_dvd_right ..
    obtain ⟨q, hq⟩ := h1
    generalize gcdI n d = G at *
    have e2 : d.tdiv G = q := by
      rw [hq]
      exact Int.mul_tdiv_cancel_left _ (by omega)
    rw [e2]
    rcases (show 0 < q ∨ q ≤ 0 by omega) with h | h
    · omega
    · have := Int.mul_le_mul_of_nonneg_left h (show 0 ≤ G by omega)
      omega
theorem okM_of {n d : Int} (hd : 0 < d) (hn : -1000000000 ≤ n ∧ n ≤ 1000000000) (hd2 : d ≤ 1000000000) : okM n d = true := by
  have h := low_gcd (n := n) hd
  have h1 : -1000000000 ≤ lowN n d ∧ lowN n d ≤ 1000000000 := tdiv_bd hn
  have h2 : -1000000000 ≤ lowD n d ∧ lowD n d ≤ 1000000000 := tdiv_bd (by omega)
  simp only [okM, Bool.and_eq_true, bne_iff_ne]
  exact ⟨by omega, fracB_true.2 ⟨h1, ⟨h.2, h2.2⟩, h.1⟩⟩
/-- What a fraction in lowest terms stands for. -/
theorem low_mul {n d : Int} : lowN n d * lowG n d = n ∧ lowD n d * lowG n d = d := by
  have h1 : lowG n d ∣ n := by
    have : gcdI n d ∣ n := by unfold gcdI; exact Int.gcd_dvd_left ..
    unfold lowG; split
    · exact Int.neg_dvd.2 this
    · exact this
  have h2 : lowG n d ∣ d := by
    have : gcdI n d ∣ d := by unfold gcdI; exact Int.gcd_dvd_right ..
    unfold lowG; split
    · exact Int.neg_dvd.2 this
    · exact this
  exact ⟨Int.tdiv_mul_cancel h1, Int.tdiv_mul_cancel h2⟩
theorem gcdI_one (x : Int) : gcdI x 1 = 1 := by unfold gcdI; simp
theorem fracB_whole {x : Int} (h : -1000000000 ≤ x ∧ x ≤ 1000000000) : fracB x 1 = true := fracB_true.2 ⟨h, by omega, gcdI_one x⟩
theorem and_tri {a b c : Bool} : (a && b && c) = (a && (b && c)) := by cases a <;> rfl

theorem frGcd_any (a b : Int) (ha1 : -9223372036854775807 ≤ a) (ha2 : a ≤ 9223372036854775807) (hb1 : -9223372036854775807 ≤ b) (hb2 : b ≤ 9223372036854775807) (w : World) :
    Calls Tryz.prog 73 #[.int .i64 a, .int .i64 b] w fun r w' => r = .returned (.int .i64 (gcdI a b)) ∧ w = w' := by
  go_enter Tryz.func73, Tryz.ntmps73
  go_wp2
  go_loop [0, 1, 5] (fun s t _ => ∃ x y : Int, -9223372036854775807 ≤ x ∧ x ≤ 9223372036854775807 ∧ -9223372036854775807 ≤ y ∧ y ≤ 9223372036854775807 ∧ s = .int .i64 x ∧ t = .int .i64 y ∧ Hid (gcdI x y = gcdI a b)) (fun _ t _ => (intOf t).natAbs)
  case atStart => exact ⟨a, b, ha1, ha2, hb1, hb2, rfl, rfl, Lib.hid rfl⟩
  case round =>
    obtain ⟨x, y, hx, hx2, hy, hy2, rfl, rfl, HG⟩ := hrel
    by_cases hc : y = 0
    · have HY := Lib.hid hc
      subst hc
      go_wp2_with (go_at_call 94; refine (l1Abs_any _ (by omega) (by omega) _).mono ?_; rintro e _ ⟨rfl, rfl⟩)
      go_ret
      exact ⟨ret_int (by rw [← HG.out, gcdI_zero]), rfl⟩
    · have hm : (x.tmod y).natAbs < y.natAbs := by rw [Int.natAbs_tmod]; exact Nat.mod_lt _ (by omega)
      have hc2 : (y != 0) = true := by simpa using hc
      go_wp2
      go_round
      case rel => exact ⟨y, x.tmod y, hy, hy2, by omega, by omega, rfl, rfl, Lib.hid (by rw [gcdI_tmod]; exact HG.out)⟩
      case measure => simpa [intOf] using hm

theorem gcd_extF (a b : Int) (ha1 : -9223372036854775807 ≤ a) (ha2 : a ≤ 9223372036854775807) (hb1 : -9223372036854775807 ≤ b) (hb2 : b ≤ 9223372036854775807) (w : World) :
    Calls Tryz.prog 81 #[.int .i64 a, .int .i64 b] w fun r w' => r = .returned (.int .i64 (gcdI a b)) ∧ Ext w w' :=
  (gcd_any a b ha1 ha2 hb1 hb2 w).mono fun _ _ ⟨he, n, hw⟩ => ⟨he, hw ▸ Ext.drewN (Ext.refl _) n⟩

theorem frGood_any (x y : Int) (w : World) :
    Calls Tryz.prog 107 #[.agg #[.int .i64 x, .int .i64 y]] w fun r w' => r = .returned (.bool (fracB x y)) ∧ Ext w w' := by
  have HA := (Has.new w #[.int .i64 x, .int .i64 y] 35)
  have Ac0 := Ext.keeps (HA 0 _ rfl)
  have Ac1 := Ext.keeps (HA 1 _ rfl)
  clear HA
  have hE : Ext (w.alloc (.cells #[.int .i64 x, .int .i64 y] 35)) (w.alloc (.cells #[.int .i64 x, .int .i64 y] 35)) := Ext.refl _
  have HF := Lib.hid (show fracB x y = (inB x (-1000000000) 1000000000 && inB y 1 1000000000 && (gcdI x y == 1)) from rfl)
  cases h1 : inB y 1 1000000000
  · go_enter Tryz.func107, Tryz.ntmps107
    go_wp2_with ((go_at_call 68; refine (l1In_any _ _ _ _).mono ?_; rintro e _ ⟨rfl, rfl⟩))
    go_ret
    exact ⟨ret_bool (by rw [HF.out, h1]; simp), (by repeat (first | exact Ext.refl _ | assumption | apply Ext.alloc | apply Ext.drew | apply Ext.drewN | (refine Ext.trans ?_ (by assumption)) | (refine Ext.setCell ?_ (by (try simp) <;> omega) _)))⟩
  · cases h2 : inB x (-1000000000) 1000000000
    · go_enter Tryz.func107, Tryz.ntmps107
      go_wp2_with ((go_at_call 68; refine (l1In_any _ _ _ _).mono ?_; rintro e _ ⟨rfl, rfl⟩))
      go_ret
      exact ⟨ret_bool (by rw [HF.out, h1, h2]; simp), (by repeat (first | exact Ext.refl _ | assumption | apply Ext.alloc | apply Ext.drew | apply Ext.drewN | (refine Ext.trans ?_ (by assumption)) | (refine Ext.setCell ?_ (by (try simp) <;> omega) _)))⟩
    · have b1 := inB_true.1 h1
      have b2 := inB_true.1 h2
      go_enter Tryz.func107, Tryz.ntmps107
      go_wp2_with (first | (go_at_call 68; refine (l1In_any _ _ _ _).mono ?_; rintro e _ ⟨rfl, rfl⟩) | (go_at_call 73; refine (frGcd_any _ _ (by omega) (by omega) (by omega) (by omega) _).mono ?_; rintro e _ ⟨rfl, rfl⟩))
      go_ret
      exact ⟨ret_bool (by rw [HF.out, h1, h2]; simp), (by repeat (first | exact Ext.refl _ | assumption | apply Ext.alloc | apply Ext.drew | apply Ext.drewN | (refine Ext.trans ?_ (by assumption)) | (refine Ext.setCell ?_ (by (try simp) <;> omega) _)))⟩

theorem isFrac_any (x y : Int) (w : World) :
    Calls Tryz.prog 89 #[.agg #[.int .i64 x, .int .i64 y]] w fun r w' => r = .returned (.bool (fracB x y)) ∧ Ext w w' := by
  have HA := (Has.new w #[.int .i64 x, .int .i64 y] 35)
  have Ac0 := Ext.keeps (HA 0 _ rfl)
  have Ac1 := Ext.keeps (HA 1 _ rfl)
  clear HA
  have hE : Ext (w.alloc (.cells #[.int .i64 x, .int .i64 y] 35)) (w.alloc (.cells #[.int .i64 x, .int .i64 y] 35)) := Ext.refl _
  have HF := Lib.hid (show fracB x y = (inB x (-1000000000) 1000000000 && inB y 1 1000000000 && (gcdI x y == 1)) from rfl)
  cases h1 : inB x (-1000000000) 1000000000
  · go_enter Tryz.func89, Tryz.ntmps89
    go_wp2_with ((go_at_call 84; refine (within_any _ _ _ _).mono ?_; rintro e _ ⟨rfl, rfl⟩))
    go_ret
    exact ⟨ret_bool (by rw [HF.out, h1]; simp), (by repeat (first | exact Ext.refl _ | assumption | apply Ext.alloc | apply Ext.drew | apply Ext.drewN | (refine Ext.trans ?_ (by assumption)) | (refine Ext.setCell ?_ (by (try simp) <;> omega) _)))⟩
  · cases h2 : inB y 1 1000000000
    · go_enter Tryz.func89, Tryz.ntmps89
      go_wp2_with ((go_at_call 84; refine (within_any _ _ _ _).mono ?_; rintro e _ ⟨rfl, rfl⟩))
      go_ret
      exact ⟨ret_bool (by rw [HF.out, h1, h2]; simp), (by repeat (first | exact Ext.refl _ | assumption | apply Ext.alloc | apply Ext.drew | apply Ext.drewN | (refine Ext.trans ?_ (by assumption)) | (refine Ext.setCell ?_ (by (try simp) <;> omega) _)))⟩
    · have b1 := inB_true.1 h1
      have b2 := inB_true.1 h2
      go_enter Tryz.func89, Tryz.ntmps89
      go_wp2_with (first | (go_at_call 84; refine (within_any _ _ _ _).mono ?_; rintro e _ ⟨rfl, rfl⟩) | (go_at_call 81; refine (gcd_extF _ _ (by omega) (by omega) (by omega) (by omega) _).mono ?_; rintro e w' ⟨rfl, hb⟩; (first | replace hE := Ext.trans hE hb | replace hE := Ext.trans (Ext.alloc hE _) hb | replace hE := Ext.trans (Ext.alloc (Ext.alloc hE _) _) hb | replace hE := Ext.trans (Ext.drew hE) hb | replace hE := Ext.trans (Ext.alloc (Ext.alloc (Ext.alloc hE _) _) _) hb)))
      go_ret
      exact ⟨ret_bool (by rw [HF.out, h1, h2]; simp), (by repeat (first | exact Ext.refl _ | assumption | apply Ext.alloc | apply Ext.drew | apply Ext.drewN | (refine Ext.trans ?_ (by assumption)) | (refine Ext.setCell ?_ (by (try simp) <;> omega) _)))⟩

set_option maxHeartbeats 1000000 in
theorem lowest_any (n d : Int) (n1 : -4000000000000000000 ≤ n) (n2 : n ≤ 4000000000000000000) (d1 : -4000000000000000000 ≤ d) (d2 : d ≤ 4000000000000000000) (hd : d ≠ 0) (w : World) :
    Calls Tryz.prog 87 #[.int .i64 n, .int .i64 d] w fun r w' => r = .returned (.agg #[.int .i64 (lowN n d), .int .i64 (lowD n d)]) ∧ Ext w w' := by
  have g0 := gcdI_pos_of (a := n) (b := d) (.inr hd)
  have g1 := gcdI_le (x := n) (y := d) (k := 4000000000000000000) (by omega) (by omega) (by omega) (by omega)
  have HG := Lib.hid (fun w => gcd_extF n d (by omega) (by omega) (by omega) (by omega) w)
  have HR := (Has.new w #[.int .i64 0, .int .i64 0] 35)
  have Rc0 := Ext.keeps (HR 0 _ rfl)
  have Rc1 := Ext.keeps (HR 1 _ rfl)
  have Rf0 := Ext.thaws (w := (w.alloc (.cells #[.int .i64 0, .int .i64 0] 35))) (HR 0 _ rfl) (by simp)
  have Rf1 := Ext.thaws (w := (w.alloc (.cells #[.int .i64 0, .int .i64 0] 35))) (HR 1 _ rfl) (by simp)
  clear HR
  have hE : Ext (w.alloc (.cells #[.int .i64 0, .int .i64 0] 35)) (w.alloc (.cells #[.int .i64 0, .int .i64 0] 35)) := Ext.refl _
  by_cases hneg : d < 0
  · have hG : lowG n d = (-gcdI n d) := by unfold lowG; rw [if_pos hneg]
    have eN : lowN n d = -(n.tdiv (gcdI n d)) := by unfold lowN; rw [hG, Int.tdiv_neg]
    have eD : lowD n d = -(d.tdiv (gcdI n d)) := by unfold lowD; rw [hG, Int.tdiv_neg]
    have t1 := tdiv_bd (a := n) (b := gcdI n d) (k := 4000000000000000000) ⟨by omega, by omega⟩
    have t2 := tdiv_bd (a := d) (b := gcdI n d) (k := 4000000000000000000) ⟨by omega, by omega⟩
    rw [eN, eD]
    generalize gcdI n d = g at *
    clear hG eN eD
    go_enter Tryz.func87, Tryz.ntmps87
    go_wp2_with ((go_at_call 81; refine (HG.out _).mono ?_; rintro e w' ⟨rfl, hb⟩; (first | replace hE := Ext.trans hE hb | replace hE := Ext.trans (Ext.alloc hE _) hb | replace hE := Ext.trans (Ext.alloc (Ext.alloc hE _) _) hb | replace hE := Ext.trans (Ext.drew hE) hb | replace hE := Ext.trans (Ext.alloc (Ext.alloc (Ext.alloc hE _) _) _) hb)))
    go_region
    go_wp2
    refine bodyPost_ret (v := .agg #[.int .i64 (-n.tdiv g), .int .i64 (-d.tdiv g)]) (by simp [results, Tryz.results87, go_sem, Rc0, Rc1, hE]) rfl ⟨rfl, (by repeat (first | exact Ext.refl _ | assumption | apply Ext.alloc | apply Ext.drew | apply Ext.drewN | (refine Ext.trans ?_ (by assumption)) | (refine Ext.setCell ?_ (by (try simp) <;> omega) _)))⟩
  · have hG : lowG n d = (gcdI n d) := by unfold lowG; rw [if_neg hneg]
    have eN : lowN n d = (n.tdiv (gcdI n d)) := by unfold lowN; rw [hG]
    have eD : lowD n d = (d.tdiv (gcdI n d)) := by unfold lowD; rw [hG]
    have t1 := tdiv_bd (a := n) (b := gcdI n d) (k := 4000000000000000000) ⟨by omega, by omega⟩
    have t2 := tdiv_bd (a := d) (b := gcdI n d) (k := 4000000000000000000) ⟨by omega, by omega⟩
    rw [eN, eD]
    generalize gcdI n d = g at *
    clear hG eN eD
    go_enter Tryz.func87, Tryz.ntmps87
    go_wp2_with ((go_at_call 81; refine (HG.out _).mono ?_; rintro e w' ⟨rfl, hb⟩; (first | replace hE := Ext.trans hE hb | replace hE := Ext.trans (Ext.alloc hE _) hb | replace hE := Ext.trans (Ext.alloc (Ext.alloc hE _) _) hb | replace hE := Ext.trans (Ext.drew hE) hb | replace hE := Ext.trans (Ext.alloc (Ext.alloc (Ext.alloc hE _) _) _) hb)))
    go_region
    go_wp2
    refine bodyPost_ret (v := .agg #[.int .i64 (n.tdiv g), .int .i64 (d.tdiv g)]) (by simp [results, Tryz.results87, go_sem, Rc0, Rc1, hE]) rfl ⟨rfl, (by repeat (first | exact Ext.refl _ | assumption | apply Ext.alloc | apply Ext.drew | apply Ext.drewN | (refine Ext.trans ?_ (by assumption)) | (refine Ext.setCell ?_ (by (try simp) <;> omega) _)))⟩

set_option maxHeartbeats 2000000 in
theorem frMake_any (n d : Int) (n1 : -4000000000000000000 ≤ n) (n2 : n ≤ 4000000000000000000) (d1 : -4000000000000000000 ≤ d) (d2 : d ≤ 4000000000000000000) (w : World) :
    Calls Tryz.prog 83 #[.int .i64 n, .int .i64 d] w fun r w' => r = .returned (.tuple #[.agg #[.int .i64 (gI (okM n d) (lowN n d)), .int .i64 (gI (okM n d) (lowD n d))], .bool (okM n d)]) ∧ Ext w w' := by
  have HR := (Has.new w #[.int .i64 0, .int .i64 0] 35)
  have Rc0 := Ext.keeps (HR 0 _ rfl)
  have Rc1 := Ext.keeps (HR 1 _ rfl)
  have Rf0 := Ext.thaws (w := (w.alloc (.cells #[.int .i64 0, .int .i64 0] 35))) (HR 0 _ rfl) (by simp)
  have Rf1 := Ext.thaws (w := (w.alloc (.cells #[.int .i64 0, .int .i64 0] 35))) (HR 1 _ rfl) (by simp)
  clear HR
  have hE : Ext (w.alloc (.cells #[.int .i64 0, .int .i64 0] 35)) (w.alloc (.cells #[.int .i64 0, .int .i64 0] 35)) := Ext.refl _
  by_cases hd : d = 0
  · subst hd
    have hok : okM n 0 = false := rfl
    rw [hok]
    go_enter Tryz.func83, Tryz.ntmps83
    go_wp2
    refine bodyPost_ret (v := .tuple #[.agg #[.int .i64 0, .int .i64 0], .bool false]) (by simp [results, Tryz.results83, go_sem]) rfl ⟨by simp [gI], (by repeat (first | exact Ext.refl _ | assumption | apply Ext.alloc | apply Ext.drew | apply Ext.drewN | (refine Ext.trans ?_ (by assumption)) | (refine Ext.setCell ?_ (by (try simp) <;> omega) _)))⟩
  have g0 := gcdI_pos_of (a := n) (b := d) (.inr hd)
  have g1 := gcdI_le (x := n) (y := d) (k := 4000000000000000000) (by omega) (by omega) (by omega) (by omega)
  have HG := Lib.hid (fun w => frGcd_any n d (by omega) (by omega) (by omega) (by omega) w)
  have hd2 : (d == 0) = false := by simpa using hd
  by_cases hneg : d < 0
  · have hG : lowG n d = (-gcdI n d) := by unfold lowG; rw [if_pos hneg]
    have eN : lowN n d = -(n.tdiv (gcdI n d)) := by unfold lowN; rw [hG, Int.tdiv_neg]
    have eD : lowD n d = -(d.tdiv (gcdI n d)) := by unfold lowD; rw [hG, Int.tdiv_neg]
    have t1 := tdiv_bd (a := n) (b := gcdI n d) (k := 4000000000000000000) ⟨by omega, by omega⟩
    have t2 := tdiv_bd (a := d) (b := gcdI n d) (k := 4000000000000000000) ⟨by omega, by omega⟩
    have eok : okM n d = fracB (-n.tdiv (gcdI n d)) (-d.tdiv (gcdI n d)) := by unfold okM; rw [eN, eD]; simp [hd]
    rw [eok, eN, eD]
    generalize gcdI n d = g at *
    clear hG eN eD eok
    cases hf : fracB (-n.tdiv g) (-d.tdiv g) <;> (
      go_enter Tryz.func83, Tryz.ntmps83
      go_wp2_with ((go_at_call 73; refine (HG.out _).mono ?_; rintro e _ ⟨rfl, rfl⟩))
      go_region
      go_wp2_with fail
      refine (frGood_any _ _ _).mono ?_
      rw [hf]
      rintro e w1 ⟨rfl, hb⟩
      have hE1 : Ext (w.alloc (.cells #[.int .i64 0, .int .i64 0] 35)) w1 := Ext.trans (by repeat (first | exact Ext.refl _ | assumption | apply Ext.alloc | apply Ext.drew | apply Ext.drewN | (refine Ext.trans ?_ (by assumption)) | (refine Ext.setCell ?_ (by (try simp) <;> omega) _))) hb
      have Rk0 := Rc0 _ hE1
      have Rk1 := Rc1 _ hE1
      have Rg0 := Rf0 _ hE1
      have Rg1 := Rf1 _ hE1
      have hbf := hb.facts
      go_wp2
      refine bodyPost_ret (v := .tuple #[.agg #[.int .i64 (gI (fracB (-n.tdiv g) (-d.tdiv g)) (-n.tdiv g)), .int .i64 (gI (fracB (-n.tdiv g) (-d.tdiv g)) (-d.tdiv g))], .bool (fracB (-n.tdiv g) (-d.tdiv g))]) (by simp [results, Tryz.results83, go_sem, Rk0, Rk1, hf, gI]) rfl ⟨by simp [hf], (by repeat (first | exact Ext.refl _ | assumption | apply Ext.alloc | apply Ext.drew | apply Ext.drewN | (refine Ext.trans ?_ (by assumption)) | (refine Ext.setCell ?_ (by (try simp) <;> omega) _)))⟩)
  · have hG : lowG n d = (gcdI n d) := by unfold lowG; rw [if_neg hneg]
    have eN : lowN n d = (n.tdiv (gcdI n d)) := by unfold lowN; rw [hG]
    have eD : lowD n d = (d.tdiv (gcdI n d)) := by unfold lowD; rw [hG]
    have t1 := tdiv_bd (a := n) (b := gcdI n d) (k := 4000000000000000000) ⟨by omega, by omega⟩
    have t2 := tdiv_bd (a := d) (b := gcdI n d) (k := 4000000000000000000) ⟨by omega, by omega⟩
    have eok : okM n d = fracB (n.tdiv (gcdI n d)) (d.tdiv (gcdI n d)) := by unfold okM; rw [eN, eD]; simp [hd]
    rw [eok, eN, eD]
    generalize gcdI n d = g at *
    clear hG eN eD eok
    cases hf : fracB (n.tdiv g) (d.tdiv g) <;> (
      go_enter Tryz.func83, Tryz.ntmps83
      go_wp2_with ((go_at_call 73; refine (HG.out _).mono ?_; rintro e _ ⟨rfl, rfl⟩))
      go_region
      go_wp2_with fail
      refine (frGood_any _ _ _).mono ?_
      rw [hf]
      rintro e w1 ⟨rfl, hb⟩
      have hE1 : Ext (w.alloc (.cells #[.int .i64 0, .int .i64 0] 35)) w1 := Ext.trans (by repeat (first | exact Ext.refl _ | assumption | apply Ext.alloc | apply Ext.drew | apply Ext.drewN | (refine Ext.trans ?_ (by assumption)) | (refine Ext.setCell ?_ (by (try simp) <;> omega) _))) hb
      have Rk0 := Rc0 _ hE1
      have Rk1 := Rc1 _ hE1
      have Rg0 := Rf0 _ hE1
      have Rg1 := Rf1 _ hE1
      have hbf := hb.facts
      go_wp2
      refine bodyPost_ret (v := .tuple #[.agg #[.int .i64 (gI (fracB (n.tdiv g) (d.tdiv g)) (n.tdiv g)), .int .i64 (gI (fracB (n.tdiv g) (d.tdiv g)) (d.tdiv g))], .bool (fracB (n.tdiv g) (d.tdiv g))]) (by simp [results, Tryz.results83, go_sem, Rk0, Rk1, hf, gI]) rfl ⟨by simp [hf], (by repeat (first | exact Ext.refl _ | assumption | apply Ext.alloc | apply Ext.drew | apply Ext.drewN | (refine Ext.trans ?_ (by assumption)) | (refine Ext.setCell ?_ (by (try simp) <;> omega) _)))⟩)

theorem toldFrac_any (x y : Int) (w : World) :
    Calls Tryz.prog 62 #[.agg #[.int .i64 x, .int .i64 y]] w fun r w' => r = .returned (.tuple #[.agg #[.int .i64 (gI (fracB x y) x), .int .i64 (gI (fracB x y) y)], .bool (fracB x y)]) ∧ Ext w w' := by
  have HA := (Has.alloc (Has.new w #[.int .i64 x, .int .i64 y] 35) (.cells #[.int .i64 0, .int .i64 0] 35))
  have Ac0 := Ext.keeps (HA 0 _ rfl)
  have Ac1 := Ext.keeps (HA 1 _ rfl)
  clear HA
  have HR := (Has.new2 w (.cells #[.int .i64 x, .int .i64 y] 35) #[.int .i64 0, .int .i64 0] 35)
  have Rc0 := Ext.keeps (HR 0 _ rfl)
  have Rc1 := Ext.keeps (HR 1 _ rfl)
  have Rf0 := Ext.thaws (w := ((w.alloc (.cells #[.int .i64 x, .int .i64 y] 35)).alloc (.cells #[.int .i64 0, .int .i64 0] 35))) (HR 0 _ rfl) (by simp)
  have Rf1 := Ext.thaws (w := ((w.alloc (.cells #[.int .i64 x, .int .i64 y] 35)).alloc (.cells #[.int .i64 0, .int .i64 0] 35))) (HR 1 _ rfl) (by simp)
  clear HR
  have hE : Ext ((w.alloc (.cells #[.int .i64 x, .int .i64 y] 35)).alloc (.cells #[.int .i64 0, .int .i64 0] 35)) ((w.alloc (.cells #[.int .i64 x, .int .i64 y] 35)).alloc (.cells #[.int .i64 0, .int .i64 0] 35)) := Ext.refl _
  cases hf : fracB x y <;> (
    go_enter Tryz.func62, Tryz.ntmps62
    go_wp2_with fail
    refine (isFrac_any _ _ _).mono ?_
    rw [hf]
    rintro e w1 ⟨rfl, hb⟩
    replace hE := Ext.trans hE hb
    go_wp2
    refine bodyPost_ret (v := (.tuple #[.agg #[.int .i64 (gI (fracB x y) x), .int .i64 (gI (fracB x y) y)], .bool (fracB x y)])) (by simp [results, Tryz.results62, go_sem, hE, Rc0, Rc1, hf, gI]) rfl ⟨by simp [hf], (by repeat (first | exact Ext.refl _ | assumption | apply Ext.alloc | apply Ext.drew | apply Ext.drewN | (refine Ext.trans ?_ (by assumption)) | (refine Ext.setCell ?_ (by (try simp) <;> omega) _)))⟩)

theorem frInt_any (x : Int) (w : World) :
    Calls Tryz.prog 61 #[.int .i64 x] w fun r w' => r = .returned (.agg #[.int .i64 x, .int .i64 1]) ∧ Ext w w' := by
  go_enter Tryz.func61, Tryz.ntmps61
  go_wp2
  refine bodyPost_ret (v := .agg #[.int .i64 x, .int .i64 1]) (by simp [results, Tryz.results61, go_sem]) rfl ⟨rfl, (by repeat (first | exact Ext.refl _ | assumption | apply Ext.alloc | apply Ext.drew | apply Ext.drewN | (refine Ext.trans ?_ (by assumption)) | (refine Ext.setCell ?_ (by (try simp) <;> omega) _)))⟩

theorem whole_any (x : Int) (w : World) :
    Calls Tryz.prog 65 #[.int .i64 x] w fun r w' => r = .returned (.agg #[.int .i64 x, .int .i64 1]) ∧ Ext w w' := by
  go_enter Tryz.func65, Tryz.ntmps65
  go_wp2
  refine bodyPost_ret (v := .agg #[.int .i64 x, .int .i64 1]) (by simp [results, Tryz.results65, go_sem]) rfl ⟨rfl, (by repeat (first | exact Ext.refl _ | assumption | apply Ext.alloc | apply Ext.drew | apply Ext.drewN | (refine Ext.trans ?_ (by assumption)) | (refine Ext.setCell ?_ (by (try simp) <;> omega) _)))⟩

theorem eqFrac_same (x y : Int) (w : World) :
    Calls Tryz.prog 35 #[.agg #[.int .i64 x, .int .i64 y], .agg #[.int .i64 x, .int .i64 y]] w fun r w' => r = .returned (.bool true) ∧ Ext w w' := by
  go_enter Tryz.func35, Tryz.ntmps35
  go_wp2
  go_ret
  exact ⟨rfl, (by repeat (first | exact Ext.refl _ | assumption | apply Ext.alloc | apply Ext.drew | apply Ext.drewN | (refine Ext.trans ?_ (by assumption)) | (refine Ext.setCell ?_ (by (try simp) <;> omega) _)))⟩

end Go.Proofs.YtngbdopgdcjdeaaGreat

namespace Go.Proofs.YtngbdopgdcjdeaaGreat
open Go.RowKit

theorem turn_back {P Q R x : Int × Int} (u : lexP P Q) (d : lexP R Q) (h0 : turnI P Q R = 0) (s1 : 0 ≤ turnI P Q x) (s : 0 < turnI Q R x) : False := by
  have e1 : (P.1 - Q.1) * turnI Q R x = (R.1 - Q.1) * (-turnI P Q x) := by unfold turnI detI at *; grind
  have e2 : (P.2 - Q.2) * turnI Q R x = (R.2 - Q.2) * (-turnI P Q x) := by unfold turnI detI at *; grind
  unfold lexP lexV at u d
  generalize turnI Q R x = S at *
  generalize turnI P Q x = T at *
  have key : ∀ v r : Int, v < 0 → r ≤ 0 → v * S = r * (-T) → False := by
    intro v r hv hr e
    have l1 : 0 < (-v) * S := Int.mul_pos (by omega) s
    have l2 : 0 ≤ (-r) * T := Int.mul_nonneg (by omega) s1
    have e3 : (-v) * S = -(v * S) := by grind
    have e4 : (-r) * T = r * (-T) := by grind
    omega
  rcases u with u | ⟨u1, u2⟩
  · exact key (P.1 - Q.1) (R.1 - Q.1) (by omega) (by omega) e1
  · rcases d with d | ⟨d1, d2⟩
    · have hT : T = 0 := by
        have h1 : (R.1 - Q.1) * (-T) = 0 := by rw [← e1, show P.1 - Q.1 = 0 by omega, Int.zero_mul]
        rcases Int.mul_eq_zero.1 h1 with h2 | h2 <;> omega
      have l1 : 0 < (Q.2 - P.2) * S := Int.mul_pos (by omega) s
      have e3 : (Q.2 - P.2) * S = -((P.2 - Q.2) * S) := by grind
      have e5 : (P.2 - Q.2) * S = 0 := by rw [e2, hT]; simp
      omega
    · exact key (P.2 - Q.2) (R.2 - Q.2) (by omega) (by omega) e2
theorem hull_turn {l : List (Int × Int)} {m n : Nat} {H : List (Int × Int)} (h : HullW l m n H) (h3 : 3 ≤ m + n) : 0 < turnI (H.getD 0 (0, 0)) (H.getD 1 (0, 0)) (H.getD 2 (0, 0)) := by
  have hm := h.hm
  rcases Nat.lt_or_ge 1 m with h1 | h1
  · exact h.strict 0 (by omega)
  · obtain rfl : m = 1 := by omega
    have e1 : (0 + 1) % (1 + n) = 1 := Nat.mod_eq_of_lt (by omega)
    have e2 : (1 + 1) % (1 + n) = 2 := Nat.mod_eq_of_lt (by omega)
    have u := h.up 0 (by omega)
    have d := h.down 1 (by omega) (by omega)
    have s := h.strictB 1 (by omega) (by omega)
    have s0 := h.sup 0 (by omega) _ (h.mem 2 (by omega))
    have s1 := h.sup 0 (by omega) _ (h.mem ((1 + 2) % (1 + n)) (Nat.mod_lt _ (by omega)))
    rw [e1] at u s0 s1
    rw [e2] at d
    rcases Int.lt_or_eq_of_le s0 with hh | hh
    · exact hh
    · exact absurd (turn_back u d hh.symm s1 s) not_false
/-- The vertex over three terms: its two numerators, over the turn. -/
def vX (B C A : Int × Int) (a b c : Int) : Int := (a - b) * (C.2 - A.2) - (a - c) * (B.2 - A.2)
def vY (B C A : Int × Int) (a b c : Int) : Int := (a - c) * (B.1 - A.1) - (a - b) * (C.1 - A.1)
/-- The number of corner k's term. -/
def corN (zs : List (Int × Int × Int)) (x : List Int) (k : Nat) : Nat := ((cornC zs x).getD k 0).toNat
def verX (zs : List (Int × Int × Int)) (x : List Int) : Int := vX (pI zs (corN zs x 1)) (pI zs (corN zs x 2)) (pI zs (corN zs x 0)) (cI zs (corN zs x 0)) (cI zs (corN zs x 1)) (cI zs (corN zs x 2))
def verY (zs : List (Int × Int × Int)) (x : List Int) : Int := vY (pI zs (corN zs x 1)) (pI zs (corN zs x 2)) (pI zs (corN zs x 0)) (cI zs (corN zs x 0)) (cI zs (corN zs x 1)) (cI zs (corN zs x 2))
def verD (zs : List (Int × Int × Int)) (x : List Int) : Int := turnI (pI zs (corN zs x 0)) (pI zs (corN zs x 1)) (pI zs (corN zs x 2))
/-- What is known of the first three corners of a cell. -/
theorem corn_three {zs : List (Int × Int × Int)} (hZ : PZ zs) {x : List Int} (hx : IsCell zs x) : 3 ≤ (cornC zs x).length ∧ (∀ k, k < 3 → corN zs x k < zs.length ∧ (cornC zs x).getD k 0 = (corN zs x k : Int) ∧ (hullC zs x).getD k (0, 0) = pI zs (corN zs x k)) ∧ 0 < verD zs x := by
  obtain ⟨m, n, hH, hl, h3⟩ := corn_len hZ.2.2 hx
  have hk : ∀ k, k < 3 → corN zs x k < zs.length ∧ (cornC zs x).getD k 0 = (corN zs x k : Int) ∧ (hullC zs x).getD k (0, 0) = pI zs (corN zs x k) := by
    intro k hk
    obtain ⟨t, h1, _, h2, h4⟩ := corn_term hZ.2.2 hx (k := k) (by omega)
    have e : corN zs x k = t := by unfold corN; rw [h4, Int.toNat_natCast]
    rw [e]
    exact ⟨h1, h4, h2⟩
  refine ⟨by omega, hk, ?_⟩
  have := hull_turn hH h3
  rw [(hk 0 (by omega)).2.2, (hk 1 (by omega)).2.2, (hk 2 (by omega)).2.2] at this
  exact this
set_option maxHeartbeats 4000000 in
set_option maxRecDepth 100000 in
theorem vertex_any (B0 g : Nat) (a0 : Option Addr) (n c k : Nat) (zs : List (Int × Int × Int)) (hZ : PZ zs) (hk : k < (cellsL zs).length) (w : World) (h : SubD w B0 g a0 n c zs) :
    Calls Tryz.prog 55 #[.pointer (some ⟨g, 0, none⟩), .int .i64 k] w fun r w' => r = .returned (.agg #[.int .i64 (lowN (verX zs ((cellsL zs).getD k [])) (verD zs ((cellsL zs).getD k []))), .int .i64 (lowD (verX zs ((cellsL zs).getD k [])) (verD zs ((cellsL zs).getD k []))), .int .i64 (lowN (verY zs ((cellsL zs).getD k [])) (verD zs ((cellsL zs).getD k []))), .int .i64 (lowD (verY zs ((cellsL zs).getD k [])) (verD zs ((cellsL zs).getD k [])))]) ∧ Ext w w' := by
  have hl := subD_len h
  have hx := cell_at hk
  obtain ⟨hm3, hcn, hD⟩ := corn_three hZ hx
  have hso := h.of
  obtain ⟨pa, pc, s, e, b, m, B1, ps, qs, h1, h2, h3, h4, h5, h6, h7, h8, h9⟩ := h
  have hc0 := h1.c0
  have hc2 := h1.c2
  have hgl := h1.lt
  obtain ⟨sa, sc, rfl⟩ := h5.form
  have hps : ps.length = (cellsL zs).length := by rw [← h6, List.length_map]
  have hva := h5.va
  rw [h6] at hva
  obtain ⟨ak, ck, hvk, hrk⟩ := hva.at k hk
  obtain ⟨gc, rfl, _, hgc2⟩ := own_head h5.1 (by omega)
  have hck := (h5.1.cellAt k (by omega)).trans hvk
  rw [hps] at hc2
  have hn12 : n ≤ 12 := by rw [← hl]; exact hZ.1
  obtain ⟨i2, ci, _⟩ := hcn 0 (by omega)
  obtain ⟨j2, cj, _⟩ := hcn 1 (by omega)
  obtain ⟨k2, ck2, _⟩ := hcn 2 (by omega)
  obtain ⟨ad, off, rfl, hc⟩ := term_cells h3 (by omega)
  have fA := hc _ (show corN zs ((cellsL zs).getD k []) 0 < n by omega)
  have fB := hc _ (show corN zs ((cellsL zs).getD k []) 1 < n by omega)
  have fC := hc _ (show corN zs ((cellsL zs).getD k []) 2 < n by omega)
  have bA := hZ.2.1 _ i2
  have bB := hZ.2.1 _ j2
  have bC := hZ.2.1 _ k2
  unfold TermB at bA bB bC
  have HZ := Lib.hid hZ
  have HX := Lib.hid hx
  have HRK := Lib.hid hrk
  have HSO := Lib.hid hso
  have HVX := Lib.hid (show verX zs ((cellsL zs).getD k []) = vX _ _ _ _ _ _ from rfl)
  have HVY := Lib.hid (show verY zs ((cellsL zs).getD k []) = vY _ _ _ _ _ _ from rfl)
  have HVD := Lib.hid (show verD zs ((cellsL zs).getD k []) = turnI _ _ _ from rfl)
  have hkN : (k : Int) < ((cellsL zs).length : Int) := by omega
  obtain ⟨N, hN⟩ : ∃ N, N = (cellsL zs).length := ⟨_, rfl⟩
  rw [← hN] at hc2 hkN
  clear hN h1 h2 h3 h4 h5 h6 h7 h8 h9 hps hva hvk hrk hso hc hcn hk hx hZ
  have HL := Lib.hid hl
  clear hl
  generalize (cellsL zs).getD k [] = x at *
  obtain ⟨N1, hN1⟩ : ∃ z, z = lowN (verX zs x) (verD zs x) := ⟨_, rfl⟩
  obtain ⟨D1, hD1⟩ : ∃ z, z = lowD (verX zs x) (verD zs x) := ⟨_, rfl⟩
  obtain ⟨N2, hN2⟩ : ∃ z, z = lowN (verY zs x) (verD zs x) := ⟨_, rfl⟩
  obtain ⟨D2, hD2⟩ : ∃ z, z = lowD (verY zs x) (verD zs x) := ⟨_, rfl⟩
  rw [← hN1, ← hD1, ← hN2, ← hD2]
  rw [HVX.out, HVD.out] at hN1 hD1
  rw [HVY.out, HVD.out] at hN2 hD2
  rw [HVD.out] at hD
  unfold vX turnI at hN1 hD1
  unfold vY turnI at hN2 hD2
  unfold turnI at hD
  have HN1 := Lib.hid hN1
  have HD1 := Lib.hid hD1
  have HN2 := Lib.hid hN2
  have HD2 := Lib.hid hD2
  clear hN1 hD1 hN2 hD2 HVX HVY HVD
  have HS := (Has.new w #[.int .i64 0, .int .i64 0, .int .i64 0, .int .i64 0] 37)
  have Sc0 := Ext.keeps (HS 0 _ rfl)
  have Sc1 := Ext.keeps (HS 1 _ rfl)
  have Sc2 := Ext.keeps (HS 2 _ rfl)
  have Sc3 := Ext.keeps (HS 3 _ rfl)
  have Sf0 := Ext.thaws (w := (w.alloc (.cells #[.int .i64 0, .int .i64 0, .int .i64 0, .int .i64 0] 37))) (HS 0 _ rfl) (by simp)
  have Sf1 := Ext.thaws (w := (w.alloc (.cells #[.int .i64 0, .int .i64 0, .int .i64 0, .int .i64 0] 37))) (HS 1 _ rfl) (by simp)
  have Sf2 := Ext.thaws (w := (w.alloc (.cells #[.int .i64 0, .int .i64 0, .int .i64 0, .int .i64 0] 37))) (HS 2 _ rfl) (by simp)
  have Sf3 := Ext.thaws (w := (w.alloc (.cells #[.int .i64 0, .int .i64 0, .int .i64 0, .int .i64 0] 37))) (HS 3 _ rfl) (by simp)
  clear HS
  have hE : Ext (w.alloc (.cells #[.int .i64 0, .int .i64 0, .int .i64 0, .int .i64 0] 37)) (w.alloc (.cells #[.int .i64 0, .int .i64 0, .int .i64 0, .int .i64 0] 37)) := Ext.refl _
  go_enter Tryz.func55, Tryz.ntmps55
  go_wp2_with fail
  refine (corners_any g (some ⟨ad, off, none⟩) ak n c x.length ck zs HZ.out x HX.out (w.alloc (.cells #[.int .i64 0, .int .i64 0, .int .i64 0, .int .i64 0] 37)) (SubOf.ext (by repeat (first | exact Ext.refl _ | assumption | apply Ext.alloc | apply Ext.drew | apply Ext.drewN | (refine Ext.trans ?_ (by assumption)) | (refine Ext.setCell ?_ (by (try simp) <;> omega) _))) HSO.out) (Reads.ext (by repeat (first | exact Ext.refl _ | assumption | apply Ext.alloc | apply Ext.drew | apply Ext.drewN | (refine Ext.trans ?_ (by assumption)) | (refine Ext.setCell ?_ (by (try simp) <;> omega) _))) HRK.out)).mono ?_
  rintro e w1 ⟨a1, c1, rfl, ho1, hE1⟩
  obtain ⟨cb, rfl, hcb, _⟩ := own_head ho1 (by omega)
  have k0 := (ho1.cellAt 0 (by rw [Nat.mul_one]; omega)).trans (iv_at (zs := cornC zs x) (k := 0) (by omega))
  have k1 := (ho1.cellAt 1 (by rw [Nat.mul_one]; omega)).trans (iv_at (zs := cornC zs x) (k := 1) (by omega))
  have k2' := (ho1.cellAt 2 (by rw [Nat.mul_one]; omega)).trans (iv_at (zs := cornC zs x) (k := 2) (by omega))
  rw [ci] at k0
  rw [cj] at k1
  rw [ck2] at k2'
  have hEw : Ext w w1 := Ext.trans (by repeat (first | exact Ext.refl _ | assumption | apply Ext.alloc | apply Ext.drew | apply Ext.drewN | (refine Ext.trans ?_ (by assumption)) | (refine Ext.setCell ?_ (by (try simp) <;> omega) _))) hE1
  replace Sc0 := Ext.rebase hE1 Sc0
  replace Sf0 := Ext.rebase hE1 Sf0
  replace Sc1 := Ext.rebase hE1 Sc1
  replace Sf1 := Ext.rebase hE1 Sf1
  replace Sc2 := Ext.rebase hE1 Sc2
  replace Sf2 := Ext.rebase hE1 Sf2
  replace Sc3 := Ext.rebase hE1 Sc3
  replace Sf3 := Ext.rebase hE1 Sf3
  have Gc0 := Ext.keeps (hEw.keep hc0)
  have Kc0 := Ext.keeps k0
  have Kc1 := Ext.keeps k1
  have Kc2 := Ext.keeps k2'
  have HEw := Lib.hid hEw
  have hM0 : (0 : Int) < ((cornC zs x).length : Int) := by omega
  have hM1 : (1 : Int) < ((cornC zs x).length : Int) := by omega
  have hM2 : (2 : Int) < ((cornC zs x).length : Int) := by omega
  have hN0 : 0 < (cornC zs x).length := by omega
  have hN1 : 1 < (cornC zs x).length := by omega
  have hN2 : 2 < (cornC zs x).length := by omega
  obtain ⟨fA0, fA1, fA2⟩ := fA
  obtain ⟨fB0, fB1, fB2⟩ := fB
  obtain ⟨fC0, fC1, fC2⟩ := fC
  have Ac0 := Ext.keeps (hEw.keep fA0)
  have Ac1 := Ext.keeps (hEw.keep fA1)
  have Ac2 := Ext.keeps (hEw.keep fA2)
  have Bc0 := Ext.keeps (hEw.keep fB0)
  have Bc1 := Ext.keeps (hEw.keep fB1)
  have Bc2 := Ext.keeps (hEw.keep fB2)
  have Cc0 := Ext.keeps (hEw.keep fC0)
  have Cc1 := Ext.keeps (hEw.keep fC1)
  have Cc2 := Ext.keeps (hEw.keep fC2)
  clear hE ho1 hE1 hEw hc0 hc2 hck k0 k1 k2' fA0 fA1 fA2 fB0 fB1 fB2 fC0 fC1 fC2 ci cj ck2 HRK HSO HX HZ hgc2 hgl hkN hcb
  generalize pI zs (corN zs x 0) = A at *
  generalize pI zs (corN zs x 1) = B at *
  generalize pI zs (corN zs x 2) = C at *
  generalize cI zs (corN zs x 0) = a at *
  generalize cI zs (corN zs x 1) = b at *
  generalize cI zs (corN zs x 2) = c' at *
  have hl := HL.out
  have hi3 : (corN zs x 0 : Int) < (n : Int) := by omega
  have hj3 : (corN zs x 1 : Int) < (n : Int) := by omega
  have hk3 : (corN zs x 2 : Int) < (n : Int) := by omega
  clear hl HL
  generalize corN zs x 0 = i at *
  generalize corN zs x 1 = j at *
  generalize corN zs x 2 = l at *
  generalize (cornC zs x).length = M at *
  have hAB : (-6 ≤ B.1 - A.1 ∧ B.1 - A.1 ≤ 6) ∧ (-6 ≤ B.2 - A.2 ∧ B.2 - A.2 ≤ 6) := by omega
  have hAC : (-6 ≤ C.1 - A.1 ∧ C.1 - A.1 ≤ 6) ∧ (-6 ≤ C.2 - A.2 ∧ C.2 - A.2 ≤ 6) := by omega
  go_wp2
  refine wp_region_order 27 [(6, .cells #[.int .i64 0, .int .i64 0, .int .i64 0] 62), (7, .cells #[.int .i64 0, .int .i64 0, .int .i64 0] 62), (8, .cells #[.int .i64 0, .int .i64 0, .int .i64 0] 62)] 3 (fun m => ⟨m - 24, if m = 30 then 29 else if m = 31 then 38 else 47, .cells #[.int .i64 0, .int .i64 0, .int .i64 0] 62, ok3, cellsOf 62⟩) w1 (Ext.refl _) (by kernel_rfl) (by kernel_rfl) rfl ?_ ?_
  · simp only [List.drop_succ_cons, List.drop_zero]
    exact ⟨⟨rfl, rfl, fun a w => by simp [go_sem]⟩, ⟨rfl, rfl, fun a w => by simp [go_sem]⟩, ⟨rfl, rfl, fun a w => by simp [go_sem]⟩, trivial⟩
  · simp only [List.take_succ_cons, List.take_zero]
    refine walkE_read (v := .pointer (some ⟨g, 0, none⟩)) rfl (fun w' hw' => by simp [go_sem]) ?_
    simp only [Act.put, List.setIfInBounds_toArray, List.set_cons_succ, List.set_cons_zero]
    refine walkE_read (v := .pointer (some ⟨g, 0, none⟩)) rfl (fun w' hw' => by simp [go_sem]) ?_
    simp only [Act.put, List.setIfInBounds_toArray, List.set_cons_succ, List.set_cons_zero]
    refine walkE_read (v := .pointer (some ⟨g, 0, none⟩)) rfl (fun w' hw' => by simp [go_sem]) ?_
    simp only [Act.put, List.setIfInBounds_toArray, List.set_cons_succ, List.set_cons_zero]
    refine walkE_read (v := .slice (some ⟨ad, off, none⟩) n c) rfl (fun w' hw' => by have g0 := Gc0 w' hw'; simp [go_sem, g0]) ?_
    simp only [Act.put, List.setIfInBounds_toArray, List.set_cons_succ, List.set_cons_zero]
    refine walkE_read (v := .slice (some ⟨cb, 0, none⟩) M c1) rfl (fun w' hw' => by simp [go_sem]) ?_
    simp only [Act.put, List.setIfInBounds_toArray, List.set_cons_succ, List.set_cons_zero]
    refine walkE_read (v := .pointer (some ⟨cb, 0, none⟩)) rfl (fun w' hw' => by simp [go_sem, hN0]) ?_
    simp only [Act.put, List.setIfInBounds_toArray, List.set_cons_succ, List.set_cons_zero]
    refine walkE_read (v := .int .i64 i) rfl (fun w' hw' => by have g0 := Kc0 w' hw'; simp [go_sem, g0]) ?_
    simp only [Act.put, List.setIfInBounds_toArray, List.set_cons_succ, List.set_cons_zero]
    refine walkE_read (v := .pointer (some ⟨ad, off + i * 3, none⟩)) rfl (fun w' hw' => by simp [go_sem, hi3]) ?_
    simp only [Act.put, List.setIfInBounds_toArray, List.set_cons_succ, List.set_cons_zero]
    refine walkE_read (v := .agg #[.int .i64 A.1, .int .i64 A.2, .int .i64 a]) rfl (fun w' hw' => by have g0 := Ac0 w' hw'; have g1 := Ac1 w' hw'; have g2 := Ac2 w' hw'; simp [go_sem, g0, g1, g2]) ?_
    simp only [Act.put, List.setIfInBounds_toArray, List.set_cons_succ, List.set_cons_zero]
    refine walkE_read (v := .pointer (some ⟨g, 0, none⟩)) rfl (fun w' hw' => by simp [go_sem]) ?_
    simp only [Act.put, List.setIfInBounds_toArray, List.set_cons_succ, List.set_cons_zero]
    refine walkE_read (v := .pointer (some ⟨g, 0, none⟩)) rfl (fun w' hw' => by simp [go_sem]) ?_
    simp only [Act.put, List.setIfInBounds_toArray, List.set_cons_succ, List.set_cons_zero]
    refine walkE_read (v := .pointer (some ⟨g, 0, none⟩)) rfl (fun w' hw' => by simp [go_sem]) ?_
    simp only [Act.put, List.setIfInBounds_toArray, List.set_cons_succ, List.set_cons_zero]
    refine walkE_read (v := .slice (some ⟨ad, off, none⟩) n c) rfl (fun w' hw' => by have g0 := Gc0 w' hw'; simp [go_sem, g0]) ?_
    simp only [Act.put, List.setIfInBounds_toArray, List.set_cons_succ, List.set_cons_zero]
    refine walkE_read (v := .slice (some ⟨cb, 0, none⟩) M c1) rfl (fun w' hw' => by simp [go_sem]) ?_
    simp only [Act.put, List.setIfInBounds_toArray, List.set_cons_succ, List.set_cons_zero]
    refine walkE_read (v := .pointer (some ⟨cb, 1, none⟩)) rfl (fun w' hw' => by simp [go_sem, hM1]) ?_
    simp only [Act.put, List.setIfInBounds_toArray, List.set_cons_succ, List.set_cons_zero]
    refine walkE_read (v := .int .i64 j) rfl (fun w' hw' => by have g0 := Kc1 w' hw'; simp [go_sem, g0]) ?_
    simp only [Act.put, List.setIfInBounds_toArray, List.set_cons_succ, List.set_cons_zero]
    refine walkE_read (v := .pointer (some ⟨ad, off + j * 3, none⟩)) rfl (fun w' hw' => by simp [go_sem, hj3]) ?_
    simp only [Act.put, List.setIfInBounds_toArray, List.set_cons_succ, List.set_cons_zero]
    refine walkE_read (v := .agg #[.int .i64 B.1, .int .i64 B.2, .int .i64 b]) rfl (fun w' hw' => by have g0 := Bc0 w' hw'; have g1 := Bc1 w' hw'; have g2 := Bc2 w' hw'; simp [go_sem, g0, g1, g2]) ?_
    simp only [Act.put, List.setIfInBounds_toArray, List.set_cons_succ, List.set_cons_zero]
    refine walkE_read (v := .pointer (some ⟨g, 0, none⟩)) rfl (fun w' hw' => by simp [go_sem]) ?_
    simp only [Act.put, List.setIfInBounds_toArray, List.set_cons_succ, List.set_cons_zero]
    refine walkE_read (v := .pointer (some ⟨g, 0, none⟩)) rfl (fun w' hw' => by simp [go_sem]) ?_
    simp only [Act.put, List.setIfInBounds_toArray, List.set_cons_succ, List.set_cons_zero]
    refine walkE_read (v := .pointer (some ⟨g, 0, none⟩)) rfl (fun w' hw' => by simp [go_sem]) ?_
    simp only [Act.put, List.setIfInBounds_toArray, List.set_cons_succ, List.set_cons_zero]
    refine walkE_read (v := .slice (some ⟨ad, off, none⟩) n c) rfl (fun w' hw' => by have g0 := Gc0 w' hw'; simp [go_sem, g0]) ?_
    simp only [Act.put, List.setIfInBounds_toArray, List.set_cons_succ, List.set_cons_zero]
    refine walkE_read (v := .slice (some ⟨cb, 0, none⟩) M c1) rfl (fun w' hw' => by simp [go_sem]) ?_
    simp only [Act.put, List.setIfInBounds_toArray, List.set_cons_succ, List.set_cons_zero]
    refine walkE_read (v := .pointer (some ⟨cb, 2, none⟩)) rfl (fun w' hw' => by simp [go_sem, hM2]) ?_
    simp only [Act.put, List.setIfInBounds_toArray, List.set_cons_succ, List.set_cons_zero]
    refine walkE_read (v := .int .i64 l) rfl (fun w' hw' => by have g0 := Kc2 w' hw'; simp [go_sem, g0]) ?_
    simp only [Act.put, List.setIfInBounds_toArray, List.set_cons_succ, List.set_cons_zero]
    refine walkE_read (v := .pointer (some ⟨ad, off + l * 3, none⟩)) rfl (fun w' hw' => by simp [go_sem, hk3]) ?_
    simp only [Act.put, List.setIfInBounds_toArray, List.set_cons_succ, List.set_cons_zero]
    refine walkE_read (v := .agg #[.int .i64 C.1, .int .i64 C.2, .int .i64 c']) rfl (fun w' hw' => by have g0 := Cc0 w' hw'; have g1 := Cc1 w' hw'; have g2 := Cc2 w' hw'; simp [go_sem, g0, g1, g2]) ?_
    simp only [Act.put, List.setIfInBounds_toArray, List.set_cons_succ, List.set_cons_zero]
    simp only [walkE, tailB, storesE, List.length_cons, List.length_nil, Nat.reduceAdd, List.map_nil, List.map_cons]
    intro x0 n0 m0 x1 n1 m1 x2 n2 m2
    simp only [List.mem_cons, List.not_mem_nil, not_or, or_false] at m1 m2
    refine ⟨x0, .cells #[.int .i64 A.1, .int .i64 A.2, .int .i64 a] 62, ⟨_, rfl, store_term _ _ _ _ _ _, n0, rfl, by simp, ⟨_, _, _, rfl⟩, rfl⟩, fun j' b' h1 h2 h3 => by
      have h5 : j' < 33 := h2
      have h4 : j' = 31 ∨ j' = 32 := by omega
      rcases h4 with rfl | rfl
      · have h6 := ptr_inj (show ptr x1 = ptr b' from h3)
        omega
      · have h6 := ptr_inj (show ptr x2 = ptr b' from h3)
        omega, ?_⟩
    refine ⟨x1, .cells #[.int .i64 B.1, .int .i64 B.2, .int .i64 b] 62, ⟨_, rfl, store_term _ _ _ _ _ _, n1, rfl, by simp [upd, *], ⟨_, _, _, rfl⟩, rfl⟩, fun j' b' h1 h2 h3 => by
      have h5 : j' < 33 := h2
      have h4 : j' = 32 := by omega
      rcases h4 with rfl
      · have h6 := ptr_inj (show ptr x2 = ptr b' from h3)
        omega, ?_⟩
    refine ⟨x2, .cells #[.int .i64 C.1, .int .i64 C.2, .int .i64 c'] 62, ⟨_, rfl, store_term _ _ _ _ _ _, n2, rfl, by simp [upd, *], ⟨_, _, _, rfl⟩, rfl⟩, fun j' b' h1 h2 h3 => by
      have h5 : j' < 33 := h2
      omega, ?_⟩
    intro v hE1 hB1
    simp only [Act.put, List.setIfInBounds_toArray, List.set_cons_succ, List.set_cons_zero]
    simp only [ptr]
    have d1 := Ne.symm m1
    have d2 := Ne.symm m2.1
    have d3 := Ne.symm m2.2
    have h0 := boxed_has hB1 (b := x0) (cs := #[.int .i64 A.1, .int .i64 A.2, .int .i64 a]) (t := 62) (by simp [upd, *])
    have f00 := Ext.keeps (h0 0 _ rfl)
    have f01 := Ext.keeps (h0 1 _ rfl)
    have f02 := Ext.keeps (h0 2 _ rfl)
    clear h0
    have h1 := boxed_has hB1 (b := x1) (cs := #[.int .i64 B.1, .int .i64 B.2, .int .i64 b]) (t := 62) (by simp [upd, *])
    have f10 := Ext.keeps (h1 0 _ rfl)
    have f11 := Ext.keeps (h1 1 _ rfl)
    have f12 := Ext.keeps (h1 2 _ rfl)
    clear h1
    have h2 := boxed_has hB1 (b := x2) (cs := #[.int .i64 C.1, .int .i64 C.2, .int .i64 c']) (t := 62) (by simp [upd, *])
    have f20 := Ext.keeps (h2 0 _ rfl)
    have f21 := Ext.keeps (h2 1 _ rfl)
    have f22 := Ext.keeps (h2 2 _ rfl)
    clear h2
    replace Sc0 := Ext.rebase hE1 Sc0
    replace Sf0 := Ext.rebase hE1 Sf0
    replace Sc1 := Ext.rebase hE1 Sc1
    replace Sf1 := Ext.rebase hE1 Sf1
    replace Sc2 := Ext.rebase hE1 Sc2
    replace Sf2 := Ext.rebase hE1 Sf2
    replace Sc3 := Ext.rebase hE1 Sc3
    replace Sf3 := Ext.rebase hE1 Sf3
    have HEV := Lib.hid (HEw.out.trans hE1)
    clear hB1 n0 n1 n2 m0 m1 m2 d1 d2 d3 hE1 HEw Gc0 Kc0 Kc1 Kc2 Ac0 Ac1 Ac2 Bc0 Bc1 Bc2 Cc0 Cc1 Cc2
    go_wp2
    refine wp_region_order 22 [(9, .cells #[.int .i64 0, .int .i64 0] 70), (10, .cells #[.int .i64 0, .int .i64 0] 70)] 2 (fun m => ⟨m - 15, if m = 24 then 58 else 69, .cells #[.int .i64 0, .int .i64 0] 70, ok2, cellsOf 70⟩) v (Ext.refl _) (by kernel_rfl) (by kernel_rfl) rfl ?_ ?_
    · simp only [List.drop_succ_cons, List.drop_zero]
      exact ⟨⟨rfl, rfl, fun a w => by simp [go_sem]⟩, ⟨rfl, rfl, fun a w => by simp [go_sem]⟩, trivial⟩
    · simp only [List.take_succ_cons, List.take_zero]
      refine walkE_read (v := .pointer (some ⟨x1, 0, none⟩)) rfl (fun w' hw' => by simp [go_sem]) ?_
      simp only [Act.put, List.setIfInBounds_toArray, List.set_cons_succ, List.set_cons_zero]
      refine walkE_read (v := .int .i64 B.1) rfl (fun w' hw' => by have g0 := f10 w' hw'; simp [go_sem, g0]) ?_
      simp only [Act.put, List.setIfInBounds_toArray, List.set_cons_succ, List.set_cons_zero]
      refine walkE_read (v := .pointer (some ⟨x0, 0, none⟩)) rfl (fun w' hw' => by simp [go_sem]) ?_
      simp only [Act.put, List.setIfInBounds_toArray, List.set_cons_succ, List.set_cons_zero]
      refine walkE_read (v := .int .i64 A.1) rfl (fun w' hw' => by have g0 := f00 w' hw'; simp [go_sem, g0]) ?_
      simp only [Act.put, List.setIfInBounds_toArray, List.set_cons_succ, List.set_cons_zero]
      refine walkE_read (v := .int .i64 (B.1 - A.1)) rfl (fun w' hw' => by simp [go_sem]; exact wrap_i64 (by omega) (by omega)) ?_
      simp only [Act.put, List.setIfInBounds_toArray, List.set_cons_succ, List.set_cons_zero]
      refine walkE_read (v := .pointer (some ⟨x1, 1, none⟩)) rfl (fun w' hw' => by simp [go_sem]) ?_
      simp only [Act.put, List.setIfInBounds_toArray, List.set_cons_succ, List.set_cons_zero]
      refine walkE_read (v := .int .i64 B.2) rfl (fun w' hw' => by have g0 := f11 w' hw'; simp [go_sem, g0]) ?_
      simp only [Act.put, List.setIfInBounds_toArray, List.set_cons_succ, List.set_cons_zero]
      refine walkE_read (v := .pointer (some ⟨x0, 1, none⟩)) rfl (fun w' hw' => by simp [go_sem]) ?_
      simp only [Act.put, List.setIfInBounds_toArray, List.set_cons_succ, List.set_cons_zero]
      refine walkE_read (v := .int .i64 A.2) rfl (fun w' hw' => by have g0 := f01 w' hw'; simp [go_sem, g0]) ?_
      simp only [Act.put, List.setIfInBounds_toArray, List.set_cons_succ, List.set_cons_zero]
      refine walkE_read (v := .int .i64 (B.2 - A.2)) rfl (fun w' hw' => by simp [go_sem]; exact wrap_i64 (by omega) (by omega)) ?_
      simp only [Act.put, List.setIfInBounds_toArray, List.set_cons_succ, List.set_cons_zero]
      refine walkE_read (v := .agg #[.int .i64 (B.1 - A.1), .int .i64 (B.2 - A.2)]) rfl (fun w' hw' => by simp [go_sem]) ?_
      simp only [Act.put, List.setIfInBounds_toArray, List.set_cons_succ, List.set_cons_zero]
      refine walkE_read (v := .pointer (some ⟨x2, 0, none⟩)) rfl (fun w' hw' => by simp [go_sem]) ?_
      simp only [Act.put, List.setIfInBounds_toArray, List.set_cons_succ, List.set_cons_zero]
      refine walkE_read (v := .int .i64 C.1) rfl (fun w' hw' => by have g0 := f20 w' hw'; simp [go_sem, g0]) ?_
      simp only [Act.put, List.setIfInBounds_toArray, List.set_cons_succ, List.set_cons_zero]
      refine walkE_read (v := .pointer (some ⟨x0, 0, none⟩)) rfl (fun w' hw' => by simp [go_sem]) ?_
      simp only [Act.put, List.setIfInBounds_toArray, List.set_cons_succ, List.set_cons_zero]
      refine walkE_read (v := .int .i64 A.1) rfl (fun w' hw' => by have g0 := f00 w' hw'; simp [go_sem, g0]) ?_
      simp only [Act.put, List.setIfInBounds_toArray, List.set_cons_succ, List.set_cons_zero]
      refine walkE_read (v := .int .i64 (C.1 - A.1)) rfl (fun w' hw' => by simp [go_sem]; exact wrap_i64 (by omega) (by omega)) ?_
      simp only [Act.put, List.setIfInBounds_toArray, List.set_cons_succ, List.set_cons_zero]
      refine walkE_read (v := .pointer (some ⟨x2, 1, none⟩)) rfl (fun w' hw' => by simp [go_sem]) ?_
      simp only [Act.put, List.setIfInBounds_toArray, List.set_cons_succ, List.set_cons_zero]
      refine walkE_read (v := .int .i64 C.2) rfl (fun w' hw' => by have g0 := f21 w' hw'; simp [go_sem, g0]) ?_
      simp only [Act.put, List.setIfInBounds_toArray, List.set_cons_succ, List.set_cons_zero]
      refine walkE_read (v := .pointer (some ⟨x0, 1, none⟩)) rfl (fun w' hw' => by simp [go_sem]) ?_
      simp only [Act.put, List.setIfInBounds_toArray, List.set_cons_succ, List.set_cons_zero]
      refine walkE_read (v := .int .i64 A.2) rfl (fun w' hw' => by have g0 := f01 w' hw'; simp [go_sem, g0]) ?_
      simp only [Act.put, List.setIfInBounds_toArray, List.set_cons_succ, List.set_cons_zero]
      refine walkE_read (v := .int .i64 (C.2 - A.2)) rfl (fun w' hw' => by simp [go_sem]; exact wrap_i64 (by omega) (by omega)) ?_
      simp only [Act.put, List.setIfInBounds_toArray, List.set_cons_succ, List.set_cons_zero]
      refine walkE_read (v := .agg #[.int .i64 (C.1 - A.1), .int .i64 (C.2 - A.2)]) rfl (fun w' hw' => by simp [go_sem]) ?_
      simp only [Act.put, List.setIfInBounds_toArray, List.set_cons_succ, List.set_cons_zero]
      simp only [walkE, tailB, storesE, List.length_cons, List.length_nil, Nat.reduceAdd, List.map_nil, List.map_cons]
      intro y0 n0 m0 y1 n1 m1
      simp only [List.mem_cons, List.not_mem_nil, or_false] at m1
      refine ⟨y0, .cells #[.int .i64 (B.1 - A.1), .int .i64 (B.2 - A.2)] 70, ⟨_, rfl, store_point _ _ _ _ _ _, n0, rfl, by simp, ⟨_, _, rfl⟩, rfl⟩, fun j' b' h1 h2 h3 => by
        have h5 : j' < 26 := h2
        have h4 : j' = 25 := by omega
        rcases h4 with rfl
        · have h6 := ptr_inj (show ptr y1 = ptr b' from h3)
          omega, ?_⟩
      refine ⟨y1, .cells #[.int .i64 (C.1 - A.1), .int .i64 (C.2 - A.2)] 70, ⟨_, rfl, store_point _ _ _ _ _ _, n1, rfl, by simp [upd, *], ⟨_, _, rfl⟩, rfl⟩, fun j' b' h1 h2 h3 => by
        have h5 : j' < 26 := h2
        omega, ?_⟩
      intro u hE1 hB1
      simp only [Act.put, List.setIfInBounds_toArray, List.set_cons_succ, List.set_cons_zero]
      simp only [ptr]
      have d1 := Ne.symm m1
      have h0 := boxed_has hB1 (b := y0) (cs := #[.int .i64 (B.1 - A.1), .int .i64 (B.2 - A.2)]) (t := 70) (by simp [upd, *])
      have Y0c0 := Ext.keeps (h0 0 _ rfl)
      have z00 := h0 0 _ rfl
      have Y0c1 := Ext.keeps (h0 1 _ rfl)
      have z01 := h0 1 _ rfl
      clear h0
      have h1 := boxed_has hB1 (b := y1) (cs := #[.int .i64 (C.1 - A.1), .int .i64 (C.2 - A.2)]) (t := 70) (by simp [upd, *])
      have Y1c0 := Ext.keeps (h1 0 _ rfl)
      have z10 := h1 0 _ rfl
      have Y1c1 := Ext.keeps (h1 1 _ rfl)
      have z11 := h1 1 _ rfl
      clear h1
      have X0c0 := Ext.rebase hE1 f02
      have X1c0 := Ext.rebase hE1 f12
      have X2c0 := Ext.rebase hE1 f22
      replace Sc0 := Ext.rebase hE1 Sc0
      replace Sf0 := Ext.rebase hE1 Sf0
      replace Sc1 := Ext.rebase hE1 Sc1
      replace Sf1 := Ext.rebase hE1 Sf1
      replace Sc2 := Ext.rebase hE1 Sc2
      replace Sf2 := Ext.rebase hE1 Sf2
      replace Sc3 := Ext.rebase hE1 Sc3
      replace Sf3 := Ext.rebase hE1 Sf3
      have HE3 := Lib.hid (HEV.out.trans hE1)
      clear hE1 hB1 n0 n1 m0 m1 d1 HEV f00 f01 f02 f10 f11 f12 f20 f21 f22
      have hdb := det_bd6 hAB hAC
      generalize B.1 - A.1 = r1 at *
      generalize B.2 - A.2 = r2 at *
      generalize C.1 - A.1 = s1 at *
      generalize C.2 - A.2 = s2 at *
      go_wp2_with fail
      refine (cross_any r1 r2 s1 s2 (by omega) (by omega) (by omega) (by omega) (by omega) (by omega) (by omega) (by omega) u).mono ?_
      rintro e w5 ⟨rfl, hE5⟩
      generalize detI r1 r2 s1 s2 = D at *
      replace X0c0 := Ext.rebase hE5 X0c0
      replace X1c0 := Ext.rebase hE5 X1c0
      replace X2c0 := Ext.rebase hE5 X2c0
      replace Y0c0 := Ext.rebase hE5 Y0c0
      replace Y0c1 := Ext.rebase hE5 Y0c1
      replace Y1c0 := Ext.rebase hE5 Y1c0
      replace Y1c1 := Ext.rebase hE5 Y1c1
      replace Sc0 := Ext.rebase hE5 Sc0
      replace Sf0 := Ext.rebase hE5 Sf0
      replace Sc1 := Ext.rebase hE5 Sc1
      replace Sf1 := Ext.rebase hE5 Sf1
      replace Sc2 := Ext.rebase hE5 Sc2
      replace Sf2 := Ext.rebase hE5 Sf2
      replace Sc3 := Ext.rebase hE5 Sc3
      replace Sf3 := Ext.rebase hE5 Sf3
      have HE5 := Lib.hid (HE3.out.trans hE5)
      clear hE5 HE3 z00 z01 z10 z11
      have p1 := mul_bd (A := 2000000) (D := 6) (a := a - b) (d := s2) (by omega) (by omega) (by omega) (by omega)
      have p2 := mul_bd (A := 2000000) (D := 6) (a := a - c') (d := r2) (by omega) (by omega) (by omega) (by omega)
      have p3 := mul_bd (A := 2000000) (D := 6) (a := a - c') (d := r1) (by omega) (by omega) (by omega) (by omega)
      have p4 := mul_bd (A := 2000000) (D := 6) (a := a - b) (d := s1) (by omega) (by omega) (by omega) (by omega)
      have HLX := Lib.hid (fun s : Past w5 => lowest_any ((a - b) * s2 - (a - c') * r2) D (by omega) (by omega) (by omega) (by omega) (by omega) s.w)
      have HLY := Lib.hid (fun s : Past w5 => lowest_any ((a - c') * r1 - (a - b) * s1) D (by omega) (by omega) (by omega) (by omega) (by omega) s.w)
      have hE : Ext w5 w5 := Ext.refl _
      go_wp2
      have qX00 := fun s : Past w5 => X0c0 s.w s.ext
      have qX10 := fun s : Past w5 => X1c0 s.w s.ext
      have qX20 := fun s : Past w5 => X2c0 s.w s.ext
      have qY00 := fun s : Past w5 => Y0c0 s.w s.ext
      have qY01 := fun s : Past w5 => Y0c1 s.w s.ext
      have qY10 := fun s : Past w5 => Y1c0 s.w s.ext
      have qY11 := fun s : Past w5 => Y1c1 s.w s.ext
      refine wp_region_past_tail 39 w5 (by first | exact hE | exact Ext.alloc hE _ | exact Ext.drew hE | exact Ext.drewN hE _) (by kernel_rfl) (by kernel_rfl) ?_
      simp only [List.take_succ_cons, List.take_zero, List.drop_succ_cons, List.drop_zero]
      repeat (go_big_quiet_step ((first | (go_at_call 87; with_reducible exact past_ext (HLX.out _)) | (go_at_call 87; with_reducible exact past_ext (HLY.out _)))))
      refine wpQuiet_nil ?_
      intro _ hw'
      obtain ⟨⟨w6, hE⟩, hw''⟩ := hw'
      subst hw''
      clear qX00 qX10 qX20 qY00 qY01 qY10 qY11
      have e0 := Sc0 _ hE
      have g0 := Sf0 _ hE
      have e1 := Sc1 _ hE
      have g1 := Sf1 _ hE
      have e2 := Sc2 _ hE
      have g2 := Sf2 _ hE
      have e3 := Sc3 _ hE
      have g3 := Sf3 _ hE
      have HE6 := Lib.hid (HE5.out.trans hE)
      have hsz6 := HE6.out.size
      clear Sc0 Sf0 Sc1 Sf1 Sc2 Sf2 Sc3 Sf3 X0c0 X1c0 X2c0 Y0c0 Y0c1 Y1c0 Y1c1 HLX HLY p1 p2 p3 p4 hE
      rw [← HN1.out, ← HD1.out, ← HN2.out, ← HD2.out]
      go_wp2
      refine bodyPost_ret (v := .agg #[.int .i64 N1, .int .i64 D1, .int .i64 N2, .int .i64 D2]) (by simp [results, Tryz.results55, go_sem, *]) rfl ⟨rfl, ?_⟩
      have hE := HE6.out
      exact (by repeat (first | exact Ext.refl _ | assumption | apply Ext.alloc | apply Ext.drew | apply Ext.drewN | (refine Ext.trans ?_ (by assumption)) | (refine Ext.setCell ?_ (by (try simp) <;> omega) _)))
end Go.Proofs.YtngbdopgdcjdeaaGreat

namespace Go.Proofs.YtngbdopgdcjdeaaGreat
open Go.RowKit

def askB (zs : List (Int × Int × Int)) (i : Int) : Bool := inB i 0 (((cellsL zs).length : Int) - 1)
set_option maxHeartbeats 1000000 in
theorem cellAsked_any (a : Option Addr) (n c : Nat) (zs : List (Int × Int × Int)) (i : Int) (hn : n ≤ 1048576) (w : World) (h : Reads w a 3 n (tv zs)) :
    Calls Tryz.prog 54 #[.slice a n c, .int .i64 i] w fun r w' => ∃ v, r = .returned (.tuple #[v, .bool (planeB zs && askB zs i)]) ∧ (planeB zs = true → ∃ g, v = .pointer (some ⟨g, 0, none⟩) ∧ SubD w' w.heap.size g a n c zs) ∧ Ext w w' := by
  cases hp : planeB zs
  · go_enter Tryz.func54, Tryz.ntmps54
    go_wp2_with fail
    refine (subdivided_no _ _ _ zs hn hp _ h).mono ?_
    rintro e w1 ⟨rfl, hb1⟩
    go_wp2
    go_ret2
    exact ⟨_, rfl, fun h => absurd h (by simp), hb1⟩
  · have HZ := Lib.hid (pz_of hp)
    have hN2 := cells_most HZ.out
    obtain ⟨N, hN⟩ : ∃ N, N = (cellsL zs).length := ⟨_, rfl⟩
    rw [← hN] at hN2
    have HA := Lib.hid (show askB zs i = inB i 0 ((N : Int) - 1) by unfold askB; rw [← hN])
    go_enter Tryz.func54, Tryz.ntmps54
    go_wp2_with fail
    refine (subdivided_yes _ _ _ zs hn hp _ h).mono ?_
    rintro e w1 ⟨g, rfl, hs, hb1⟩
    have HD := Lib.hid hs
    obtain ⟨pa, pc, s, e, b, m, B1, ps, qs, h1, h2, h3, h4, h5, h6, h7, h8, h9⟩ := hs
    have hc2 := h1.c2
    have hgl := h1.lt
    obtain ⟨sa, sc, rfl⟩ := h5.form
    have hps : ps.length = N := by rw [hN, ← h6, List.length_map]
    rw [hps] at hc2
    have HE := Lib.hid hb1
    clear h1 h2 h3 h4 h5 h6 h7 h8 h9 hb1 h hps hN
    go_wp2_with fail
    refine (within_any _ _ _ _).mono ?_
    rintro e _ ⟨rfl, rfl⟩
    rw [← HA.out]
    go_wp2
    go_ret2
    exact ⟨_, by simp, fun _ => ⟨g, rfl, HD.out⟩, HE.out⟩
set_option maxHeartbeats 2000000 in
theorem impl_VertexOf_any (a : Option Addr) (n c : Nat) (zs : List (Int × Int × Int)) (i : Int) (hn : n ≤ 1048576) (w : World) (h : Reads w a 3 n (tv zs)) :
    Calls Tryz.prog 20 #[.slice a n c, .int .i64 i] w fun r w' => r = .returned (.tuple #[.agg #[.int .i64 (gI (planeB zs && askB zs i) (lowN (verX zs ((cellsL zs).getD i.toNat [])) (verD zs ((cellsL zs).getD i.toNat [])))), .int .i64 (gI (planeB zs && askB zs i) (lowD (verX zs ((cellsL zs).getD i.toNat [])) (verD zs ((cellsL zs).getD i.toNat [])))), .int .i64 (gI (planeB zs && askB zs i) (lowN (verY zs ((cellsL zs).getD i.toNat [])) (verD zs ((cellsL zs).getD i.toNat [])))), .int .i64 (gI (planeB zs && askB zs i) (lowD (verY zs ((cellsL zs).getD i.toNat [])) (verD zs ((cellsL zs).getD i.toNat []))))], .bool (planeB zs && askB zs i)]) ∧ Ext w w' := by
  have HS := (Has.new w #[.int .i64 0, .int .i64 0, .int .i64 0, .int .i64 0] 37)
  have Sc0 := Ext.keeps (HS 0 _ rfl)
  have Sc1 := Ext.keeps (HS 1 _ rfl)
  have Sc2 := Ext.keeps (HS 2 _ rfl)
  have Sc3 := Ext.keeps (HS 3 _ rfl)
  have Sf0 := Ext.thaws (w := (w.alloc (.cells #[.int .i64 0, .int .i64 0, .int .i64 0, .int .i64 0] 37))) (HS 0 _ rfl) (by simp)
  have Sf1 := Ext.thaws (w := (w.alloc (.cells #[.int .i64 0, .int .i64 0, .int .i64 0, .int .i64 0] 37))) (HS 1 _ rfl) (by simp)
  have Sf2 := Ext.thaws (w := (w.alloc (.cells #[.int .i64 0, .int .i64 0, .int .i64 0, .int .i64 0] 37))) (HS 2 _ rfl) (by simp)
  have Sf3 := Ext.thaws (w := (w.alloc (.cells #[.int .i64 0, .int .i64 0, .int .i64 0, .int .i64 0] 37))) (HS 3 _ rfl) (by simp)
  clear HS
  have hE : Ext (w.alloc (.cells #[.int .i64 0, .int .i64 0, .int .i64 0, .int .i64 0] 37)) (w.alloc (.cells #[.int .i64 0, .int .i64 0, .int .i64 0, .int .i64 0] 37)) := Ext.refl _
  have hb0 : Ext w (w.alloc (.cells #[.int .i64 0, .int .i64 0, .int .i64 0, .int .i64 0] 37)) := (by repeat (first | exact Ext.refl _ | assumption | apply Ext.alloc | apply Ext.drew | apply Ext.drewN | (refine Ext.trans ?_ (by assumption)) | (refine Ext.setCell ?_ (by (try simp) <;> omega) _)))
  clear hE
  cases hok : (planeB zs && askB zs i)
  · go_enter Tryz.func20, Tryz.ntmps20
    go_wp2_with fail
    refine (cellAsked_any _ _ _ zs i hn _ (Reads.ext hb0 h)).mono ?_
    rw [hok]
    rintro e w1 ⟨v, rfl, _, hS⟩
    have e0 := Sc0 _ hS
    have g0 := Sf0 _ hS
    have e1 := Sc1 _ hS
    have g1 := Sf1 _ hS
    have e2 := Sc2 _ hS
    have g2 := Sf2 _ hS
    have e3 := Sc3 _ hS
    have g3 := Sf3 _ hS
    have HE := Lib.hid (hb0.trans hS)
    have hsz := HE.out.size
    have hsz1 := hS.size
    simp at hsz1
    clear Sc0 Sc1 Sc2 Sc3 Sf0 Sf1 Sf2 Sf3 hS hb0
    go_wp2
    refine bodyPost_ret (v := .tuple #[.agg #[.int .i64 0, .int .i64 0, .int .i64 0, .int .i64 0], .bool false]) (by simp [results, Tryz.results20, go_sem, *]) rfl ⟨rfl, ?_⟩
    have hE := HE.out
    exact (by repeat (first | exact Ext.refl _ | assumption | apply Ext.alloc | apply Ext.drew | apply Ext.drewN | (refine Ext.trans ?_ (by assumption)) | (refine Ext.setCell ?_ (by (try simp) <;> omega) _)))
  · have hp : planeB zs = true := by simp at hok; exact hok.1
    have hq : askB zs i = true := by simp at hok; exact hok.2
    have hik := inB_true.1 (show inB i 0 (((cellsL zs).length : Int) - 1) = true from hq)
    obtain ⟨k, rfl⟩ : ∃ k : Nat, i = (k : Int) := ⟨i.toNat, by omega⟩
    rw [Int.toNat_natCast]
    have HZ := Lib.hid (pz_of hp)
    have HK := Lib.hid (show k < (cellsL zs).length by omega)
    clear hik
    go_enter Tryz.func20, Tryz.ntmps20
    go_wp2_with fail
    refine (cellAsked_any _ _ _ zs _ hn _ (Reads.ext hb0 h)).mono ?_
    rw [hok]
    rintro e w1 ⟨v, rfl, hv, hS1⟩
    obtain ⟨g, rfl, hD⟩ := hv hp
    go_wp2_with fail
    refine (vertex_any _ g a n c k zs HZ.out HK.out w1 hD).mono ?_
    rintro e w2 ⟨rfl, hS2⟩
    have hS := hS1.trans hS2
    have e0 := Sc0 _ hS
    have g0 := Sf0 _ hS
    have e1 := Sc1 _ hS
    have g1 := Sf1 _ hS
    have e2 := Sc2 _ hS
    have g2 := Sf2 _ hS
    have e3 := Sc3 _ hS
    have g3 := Sf3 _ hS
    have HE := Lib.hid (hb0.trans hS)
    have hsz1 := hS.size
    simp at hsz1
    clear Sc0 Sc1 Sc2 Sc3 Sf0 Sf1 Sf2 Sf3 hS hS1 hS2 hb0 hD hv
    go_wp2
    refine bodyPost_ret (v := .tuple #[.agg #[_, _, _, _], .bool true]) (by simp [results, Tryz.results20, go_sem, gI, *]) rfl ⟨rfl, ?_⟩
    have hE := HE.out
    exact (by repeat (first | exact Ext.refl _ | assumption | apply Ext.alloc | apply Ext.drew | apply Ext.drewN | (refine Ext.trans ?_ (by assumption)) | (refine Ext.setCell ?_ (by (try simp) <;> omega) _)))
end Go.Proofs.YtngbdopgdcjdeaaGreat

namespace Go.Proofs.YtngbdopgdcjdeaaGreat
/-- The length of the lattice side between two terms. -/
def sideI (zs : List (Int × Int × Int)) (i k : Nat) : Int := gcdI ((pI zs i).1 - (pI zs k).1) ((pI zs i).2 - (pI zs k).2)
theorem gcdI_swap (a b c d : Int) : gcdI (b - a) (d - c) = gcdI (a - b) (c - d) := by
  rw [← gcdI_absI, ← gcdI_absI (a - b)]
  congr 1 <;> (unfold absI; omega)

end Go.Proofs.YtngbdopgdcjdeaaGreat
