/-
  What the laws' walks stand on, part 2 of 4: texts of this claim's own, one behind the other. No condition.
-/
import Derived.Test.YtngbdopgdcjdeaaGreatDoorBa1
import Derived.Lib.SliceRun
import Derived.Deep.RegionHeld3
import Derived.Shelf.SlSortCmp.NoneTotal
import Derived.BigQuiet
import Derived.BigRegion
namespace Go.Proofs.YtngbdopgdcjdeaaGreatDoor
open Go.RowKit

/-- A row of pairs, turned round as far as its k-th pair from either end. -/
def revQ (xs : List (Int × Int)) (k : Nat) : List (Int × Int) := (List.range xs.length).map fun j => if j < k ∨ xs.length - k ≤ j then pat xs (xs.length - 1 - j) else pat xs j
theorem revQ_len (xs : List (Int × Int)) (k : Nat) : (revQ xs k).length = xs.length := by simp [revQ]
theorem revQ_at {xs : List (Int × Int)} {k j : Nat} (h : j < xs.length) : (revQ xs k)[j]? = some (if j < k ∨ xs.length - k ≤ j then pat xs (xs.length - 1 - j) else pat xs j) := by simp [revQ, h]
theorem revQ_pat {xs : List (Int × Int)} {k j : Nat} (h : j < xs.length) : pat (revQ xs k) j = if j < k ∨ xs.length - k ≤ j then pat xs (xs.length - 1 - j) else pat xs j := by
  simp only [pat, List.getD]; rw [revQ_at h]; rfl
theorem revQ_zero (xs : List (Int × Int)) : revQ xs 0 = xs := by
  refine List.ext_getElem? fun j => ?_
  by_cases hj : j < xs.length
  · rw [revQ_at hj, if_neg (by omega), pat_eq hj]; simp [hj]
  · rw [List.getElem?_eq_none (by rw [revQ_len]; omega), List.getElem?_eq_none (by omega)]
theorem revQ_step {xs : List (Int × Int)} {k : Nat} (h : k + k + 1 < xs.length) : ((revQ xs k).set k (pat (revQ xs k) (xs.length - 1 - k))).set (xs.length - 1 - k) (pat (revQ xs k) k) = revQ xs (k + 1) := by
  refine List.ext_getElem? fun j => ?_
  by_cases hj : j < xs.length
  · rw [revQ_at hj, revQ_pat (by omega), revQ_pat (by omega)]
    simp only [List.getElem?_set, List.length_set, revQ_len]
    by_cases h1 : xs.length - 1 - k = j
    · subst h1
      rw [if_pos rfl, if_pos (show xs.length - 1 - k < xs.length by omega), if_neg (show ¬ (k < k ∨ xs.length - k ≤ k) by omega), if_pos (show xs.length - 1 - k < k + 1 ∨ xs.length - (k + 1) ≤ xs.length - 1 - k by omega), show xs.length - 1 - (xs.length - 1 - k) = k by omega]
    · rw [if_neg h1]
      by_cases h2 : k = j
      · subst h2
        rw [if_pos rfl, if_pos (show k < xs.length by omega), if_neg (show ¬ (xs.length - 1 - k < k ∨ xs.length - k ≤ xs.length - 1 - k) by omega), if_pos (show k < k + 1 ∨ xs.length - (k + 1) ≤ k by omega)]
      · rw [if_neg h2, revQ_at hj]
        by_cases h3 : j < k ∨ xs.length - k ≤ j
        · rw [if_pos h3, if_pos (by omega)]
        · rw [if_neg h3, if_neg (by omega)]
  · rw [List.getElem?_eq_none (by rw [List.length_set, List.length_set, revQ_len]; omega), List.getElem?_eq_none (by rw [revQ_len]; omega)]
theorem revQ_full {xs : List (Int × Int)} {k : Nat} (h : xs.length ≤ k + k + 1) : revQ xs k = xs.reverse := by
  refine List.ext_getElem? fun j => ?_
  by_cases hj : j < xs.length
  · rw [revQ_at hj, List.getElem?_reverse hj]
    by_cases h3 : j < k ∨ xs.length - k ≤ j
    · rw [if_pos h3, pat_eq (by omega)]; simp [show xs.length - 1 - j < xs.length by omega]
    · rw [if_neg h3]
      have : xs.length - 1 - j = j := by omega
      rw [this, pat_eq hj]; simp [hj]
  · rw [List.getElem?_eq_none (by rw [revQ_len]; omega), List.getElem?_eq_none (by simp; omega)]
theorem grown_transQ {w w' w'' : World} {row : Option Nat} (h : w.grownBy w' row) (k : w'.grownBy w'' row) : w.grownBy w'' row := World.grownBy.trans h k
theorem grown_drewQ {w w' : World} {row : Option Nat} (h : w.grownBy w' row) : w.grownBy w'.drew row := ⟨h.os, h.tape, h.output, h.size, h.block⟩
theorem own_apartQ {w w' : World} {B : Nat} {E : TypeId} {size : Nat} {v : Value} {n : Nat} {xs : List Value} {row : Option Nat} (k : w.ownsRow B E size v n xs) (hg : w.grownBy w' row) (h : ∀ q, v.ownBlock = some q → row ≠ some q) : w'.ownsRow B E size v n xs := by
  rcases k with ⟨h1, h2 | ⟨g, cap, cur, hv, hb, hc, r⟩⟩
  · exact ⟨h1, .inl h2⟩
  · subst hv
    refine ⟨h1, .inr ⟨g, cap, cur, rfl, hb, ?_, r⟩⟩
    rw [hg.block g (Array.getElem?_eq_some_iff.1 hc).1 (fun e => h g rfl e.symm)]
    exact hc
theorem perm_lex {ys zs : List (Int × Int)} (hp : ys.Perm zs) (hy : ys.Pairwise (fun a b => ¬ cmpI b.1 b.2 a.1 a.2 < 0)) (hz : zs.Pairwise lexP) : ys = zs := by
  refine List.Perm.eq_of_pairwise (le := leP) (fun a b _ _ h1 h2 => leP_antisymm h1 h2) ?_ ?_ hp
  · exact hy.imp fun {a b} h => leP_of_not (fun e => h ((cmpI_lex b a).2 e))
  · exact hz.imp fun h => .inr h

theorem cloneP_any (b off n c : Nat) (zs : List (Int × Int)) (hn : n ≤ 1048576) (w : World) (h : Reads w (some ⟨b, off, none⟩) 2 n (pv zs)) :
    Calls Tryz.prog 94 #[.slice (some ⟨b, off, none⟩) n c] w fun r w' => ∃ a1 c1, r = .returned (.slice a1 n c1) ∧ w'.ownsRow w.heap.size 55 2 (.slice a1 n c1) n (pv zs) ∧ Ext w w' := by
  have hl : zs.length = n := by have := h.1; rw [pv_len] at this; omega
  have HC := Lib.hid h.cells
  have q : ∀ (w : World) (a : Option Addr) (n c n' c' : Nat), (binOp .eql 59 (.slice a n c) (.slice none n' c')).run Tryz.prog w = .ok (.bool a.isNone) w := fun w a n c n' c' => Lib.run_eql_slice_nil w _ _ a n c n' c' Tryz.underlying59
  clear h
  go_enter Tryz.func94, Tryz.ntmps94
  have H0 := Lib.hid (World.ownsRow_lit (base := w.heap.size) (e := 55) (size := 2) w #[] 0 (Nat.le_refl _) (by unfold maxLen; omega) rfl)
  go_wp2_with (at_builtin; go_must (refine wpList_appQ rfl _ _ rfl w w.heap.size (some ⟨w.heap.size, 0, none⟩) 0 0 [] rfl H0.out ⟨b, off, none⟩ n c zs rfl hl ?_ (by omega) hn ?_ ?_ (Nat.le_refl _) ?_))
  · intro j u hj
    exact Ext.keep ((Ext.refl w).alloc (.cells #[] 55)) (HC.out j u hj)
  · exact (Ext.refl _).alloc _
  · intro a1 c1 w2 ho2 hE2
    go_wp2
    go_ret
    exact ⟨a1, c1, by simp, by simpa using ho2, hE2⟩
set_option maxHeartbeats 2000000 in
theorem compactP_any (a : Option Addr) (n c : Nat) (zs : List (Int × Int)) (hn : n ≤ 1048576) (hs : zs.Pairwise lexP) (w : World) (h : Reads w a 2 n (pv zs)) :
    Calls Tryz.prog 97 #[.slice a n c] w fun r w' => r = .returned (.slice a n c) ∧ Ext w w' := by
  have hl : zs.length = n := by have := h.1; rw [pv_len] at this; omega
  subst hl
  have HS := Lib.hid hs
  clear hs
  by_cases h2 : zs.length < 2
  · go_enter Tryz.func97, Tryz.ntmps97
    go_wp2
    go_ret
    exact ⟨rfl, Ext.refl _⟩
  · go_enter Tryz.func97, Tryz.ntmps97
    go_wp2
    go_loopw [3] (fun s wr => ∃ (k : Nat), 1 ≤ k ∧ k ≤ zs.length ∧ s = .int .i64 k ∧ Ext w wr) (fun s _ => zs.length - (intOf s).toNat)
    case atStart => exact ⟨1, by omega, by omega, rfl, Ext.refl _⟩
    case round =>
      obtain ⟨k, hk1, hk, rfl, hE⟩ := hrel
      by_cases hlt : k < zs.length
      · obtain ⟨q, rfl⟩ : ∃ q, k = q + 1 := ⟨k - 1, by omega⟩
        obtain ⟨b, off, rfl, x0, x1⟩ := (Reads.ext hE h).pair hlt
        obtain ⟨_, _, e1, y0, y1⟩ := (Reads.ext hE h).pair (k := q) (by omega)
        simp only [Option.some.injEq, Addr.mk.injEq, and_true] at e1
        obtain ⟨rfl, rfl⟩ := e1
        have hlex : lexP (pat zs q) (pat zs (q + 1)) := by
          rw [pat_eq hlt, pat_eq (by omega)]
          exact (List.pairwise_iff_getElem.1 HS.out) q (q + 1) (by omega) hlt (by omega)
        generalize pat zs q = y at *
        generalize pat zs (q + 1) = x at *
        obtain ⟨y1', y2'⟩ := y
        obtain ⟨x1', x2'⟩ := x
        have hne : ¬ (x1' = y1' ∧ x2' = y2') := by
          rintro ⟨rfl, rfl⟩; exact lexP_irrefl _ hlex
        simp only at x0 x1 y0 y1
        clear hlex h HS
        have wq : IntKind.i64.wrap ((q : Int) + 1 - 1) = (q : Int) := by rw [wrap_i64] <;> omega
        have wq2 : (0 : Int) ≤ (q : Int) := by omega
        have wq3 : ((q : Int) + 1).toNat = q + 1 := by omega
        by_cases hx : x1' = y1'
        · subst hx
          have hy : ¬ x2' = y2' := fun e => hne ⟨rfl, e⟩
          have hy1 : (x2' == y2') = false := by simpa using hy
          have hy2 : decide (x2' = y2') = false := by simpa using hy
          go_wp2
          go_quiet (fail)
          go_wp2
          go_roundw
          case rel => exact ⟨q + 1 + 1, by omega, by omega, by go_num, Ext.drewN hE _⟩
          case measure => simp [intOf]; omega
        · have hy1 : (x1' == y1') = false := by simpa using hx
          have hy2 : decide (x1' = y1') = false := by simpa using hx
          go_wp2
          go_quiet (fail)
          go_wp2
          go_roundw
          case rel => exact ⟨q + 1 + 1, by omega, by omega, by go_num, Ext.drewN hE _⟩
          case measure => simp [intOf]; omega
      · go_wp2
        go_ret
        exact ⟨rfl, hE⟩
set_option maxHeartbeats 4000000 in
theorem reverseP_any (g n c B : Nat) (xs : List (Int × Int)) (hn : n ≤ 1048576) (w : World) (h : w.ownsRow B 55 2 (.slice (some ⟨g, 0, none⟩) n c) n (pv xs)) :
    Calls Tryz.prog 99 #[.slice (some ⟨g, 0, none⟩) n c] w fun r w' => r = .returned (.tuple #[]) ∧ w'.ownsRow B 55 2 (.slice (some ⟨g, 0, none⟩) n c) n (pv xs.reverse) ∧ w.grownBy w' (some g) := by
  have hl : xs.length = n := by have := h.1; rw [pv_len] at this; omega
  subst hl
  go_enter Tryz.func99, Tryz.ntmps99
  go_wp2
  go_loopw [2, 3] (fun s t wr => ∃ (k : Nat), k + k ≤ xs.length ∧ s = .int .i64 k ∧ t = .int .i64 ((xs.length : Int) - 1 - k) ∧ wr.ownsRow B 55 2 (.slice (some ⟨g, 0, none⟩) xs.length c) xs.length (pv (revQ xs k)) ∧ w.grownBy wr (some g)) (fun s _ _ => xs.length - (intOf s).toNat)
  case atStart => exact ⟨0, Nat.zero_le _, rfl, by simp, by rw [revQ_zero]; exact h, World.grownBy.refl _ _⟩
  case round =>
    clear h
    obtain ⟨k, hk, rfl, rfl, hown, hgr⟩ := hrel
    by_cases hlt : k + k + 1 < xs.length
    · obtain ⟨m, hm⟩ : ∃ m, m = xs.length - 1 - k := ⟨_, rfl⟩
      have hmi : (xs.length : Int) - 1 - k = (m : Int) := by omega
      rw [hmi]
      have hL := revQ_len xs k
      have hk2 := pv_at (zs := revQ xs k) (k := k) (by omega)
      have hm2 := pv_at (zs := revQ xs k) (k := m) (by omega)
      have k0 := hown.cellAt (k * 2) (by omega)
      have k1 := hown.cellAt (k * 2 + 1) (by omega)
      have m0 := hown.cellAt (m * 2) (by omega)
      have m1 := hown.cellAt (m * 2 + 1) (by omega)
      rw [hk2.1] at k0
      rw [hk2.2] at k1
      rw [hm2.1] at m0
      rw [hm2.2] at m1
      clear hk2 hm2
      have f0 := hown.frozenAt (k * 2)
      have f1 := hown.frozenAt (k * 2 + 1)
      have f2 := hown.frozenAt (m * 2)
      have f3 := hown.frozenAt (m * 2 + 1)
      have s0 := hown.stored (k * 2) (.int .i64 (pat (revQ xs k) m).1)
      have s1 := s0.1.stored (k * 2 + 1) (.int .i64 (pat (revQ xs k) m).2)
      have s2 := s1.1.stored (m * 2) (.int .i64 (pat (revQ xs k) k).1)
      have s3 := s2.1.stored (m * 2 + 1) (.int .i64 (pat (revQ xs k) k).2)
      have HS := Lib.hid (revQ_step hlt)
      rw [← hm] at HS
      have HO : Hid (((((wr.setCell ⟨g, k * 2, none⟩ (.int .i64 (pat (revQ xs k) m).1)).setCell ⟨g, k * 2 + 1, none⟩ (.int .i64 (pat (revQ xs k) m).2)).setCell ⟨g, m * 2, none⟩ (.int .i64 (pat (revQ xs k) k).1)).setCell ⟨g, m * 2 + 1, none⟩ (.int .i64 (pat (revQ xs k) k).2)).ownsRow B 55 2 (.slice (some ⟨g, 0, none⟩) xs.length c) xs.length (pv (revQ xs (k + 1)))) := by
        have h1 := s3.1
        rw [pv_set2 _ _ _ _ (by omega), pv_set2 _ _ _ _ (by simp; omega), HS.out] at h1
        exact h1
      have HG := Lib.hid (grown_transQ hgr (grown_transQ s0.2 (grown_transQ s1.2 (grown_transQ s2.2 s3.2))))
      generalize pat (revQ xs k) m = y at *
      generalize pat (revQ xs k) k = x at *
      obtain ⟨y1', y2'⟩ := y
      obtain ⟨x1', x2'⟩ := x
      simp only at k0 k1 m0 m1 HO
      have hkm : k < m := by omega
      have hmn : m < xs.length := by omega
      have HM := Lib.hid hm
      clear hm hmi hown s0 s1 s2 s3 HS hL hgr
      go_wp2
      go_region
      go_wp2
      go_roundw
      case rel => exact ⟨k + 1, by omega, by go_num, congrArg (Value.int .i64) (by have := HM.out; omega), own_ext (Ext.drew (Ext.refl _)) HO.out, grown_drewQ HG.out⟩
      case measure => simp [intOf]; omega
    · have HR := Lib.hid (revQ_full (xs := xs) (k := k) (by omega))
      rw [HR.out] at hown
      go_wp2
      go_end0
      exact ⟨rfl, hown, hgr⟩
set_option maxHeartbeats 2000000 in
theorem hull_any (b off n c : Nat) (zs : List (Int × Int)) (hn : n ≤ 1000) (hn0 : 0 < n) (hs : zs.Pairwise lexP) (hz : ∀ z ∈ zs, PB z) (w : World) (h : Reads w (some ⟨b, off, none⟩) 2 n (pv zs)) :
    Calls Tryz.prog 82 #[.slice (some ⟨b, off, none⟩) n c] w (OwnsPts w.heap.size (hullL zs) w) := by
  have hl : zs.length = n := by have := h.1; rw [pv_len] at this; omega
  subst hl
  have HS := Lib.hid hs
  have HZ := Lib.hid hz
  have eg : ∀ args w, (callFunc 96 args).run Tryz.prog w = .ok (.enter 96 args) w := enters_of Tryz.func96 (by kernel_rfl) rfl
  have HC := Lib.hid (fun (g c : Nat) (w1 : World) (hw : w1.ownsRow w.heap.size 55 2 (.slice (some ⟨g, 0, none⟩) zs.length c) zs.length (pv zs)) =>
    sortP_any (Q := PB) (fun x y => cmpI x.1 x.2 y.1 y.2) swoP 96 eg (fun x y w hx hy => comparePoints_grown x y hx hy w) zs HZ.out w.heap.size zs.length c g w1 (by omega) hw)
  clear eg hs hz
  go_enter Tryz.func82, Tryz.ntmps82
  go_wp2_with fail
  refine (cloneP_any b off zs.length c zs (by omega) _ h).mono ?_
  rintro e w1 ⟨a1, c1, rfl, hown1, hE1⟩
  obtain ⟨g, rfl, hg1, hg2⟩ := own_head hown1 hn0
  clear h
  go_wp2_with fail
  refine (HC.out g c1 _ hown1).mono ?_
  rintro e w2 ⟨rfl, ys, hp, hq, hown2, hgr2⟩
  obtain rfl : ys = zs := perm_lex hp hq HS.out
  have hE2 := Ext.grown hE1 hgr2 (fun k hk => by cases hk; exact hg1)
  clear hp hq hgr2 hown1 HC hE1 hg2
  go_wp2_with fail
  refine (compactP_any _ _ _ ys (by omega) HS.out _ (own_reads hown2)).mono ?_
  rintro e w3 ⟨rfl, hb3⟩
  have hown3 := own_ext hb3 hown2
  have hE3 := hE2.trans hb3
  clear hown2 hb3 hE2
  by_cases h1 : ys.length = 1
  · have HH := Lib.hid (show hullL ys = ys by unfold hullL; rw [if_pos (by omega)])
    have h1' : ((ys.length : Int) == 1) = true := by simp; omega
    have HL := Lib.hid h1
    clear h1
    go_wp2
    go_ret
    exact ⟨some ⟨g, 0, none⟩, c1, by rw [HH.out, HL.out]; rfl, by rw [HH.out]; exact hown3, hE3⟩
  · have HH := Lib.hid (show hullL ys = (chainR ys).tail.reverse ++ (chainR ys.reverse).tail.reverse by unfold hullL; rw [if_neg (by omega)])
    have h1' : ((ys.length : Int) == 1) = false := by simp; omega
    have hne : ys ≠ [] := by rintro rfl; simp at hn0
    have hne2 : ys.reverse ≠ [] := by simpa using hne
    have HZ2 := Lib.hid (fun z (hz : z ∈ ys.reverse) => HZ.out z (List.mem_reverse.1 hz))
    have hL1 : (chainR ys).tail.reverse.length ≤ 1000 := by have := chainR_len ys; simp; omega
    have hL2 : (chainR ys.reverse).tail.reverse.length ≤ 1000 := by have := chainR_len ys.reverse; simp at this ⊢; omega
    have HA := Lib.hid (fun w h => half_any (some ⟨g, 0, none⟩) ys.length c1 ys (by omega) hne HZ.out w h)
    have HB := Lib.hid (fun w h => half_any (some ⟨g, 0, none⟩) ys.length c1 ys.reverse (by omega) hne2 HZ2.out w h)
    clear hne hne2 HS HZ HZ2
    generalize (chainR ys).tail.reverse = A at *
    generalize (chainR ys.reverse).tail.reverse = D at *
    go_wp2_with fail
    refine (HA.out _ (own_reads hown3)).mono ?_
    rintro e w4 ⟨a4, c4, rfl, hownA, hb4⟩
    have hown4 := own_ext hb4 hown3
    have hE4 := hE3.trans hb4
    have hzA : ∀ q, (Value.slice a4 A.length c4).ownBlock = some q → g < q := fun q hq => by
      have t1 := (hownA.lt q hq).1
      have t2 := hown3.lt g rfl
      omega
    clear HA hb4 hown3
    go_wp2_with fail
    refine (reverseP_any g ys.length c1 w.heap.size ys (by omega) _ hown4).mono ?_
    rintro e w5 ⟨rfl, hown5, hgr5⟩
    have hownA5 := own_apartQ hownA hgr5 (fun q hq => by have := hzA q hq; simp; omega)
    have hE5 := Ext.grown hE4 hgr5 (fun k hk => by cases hk; exact hg1)
    clear hown4 hgr5 hownA hE4
    go_wp2_with fail
    refine (HB.out _ (own_reads hown5)).mono ?_
    rintro e w6 ⟨a6, c6, rfl, hownB, hb6⟩
    have hownA6 := own_mono hE3.size (own_ext hb6 hownA5)
    have hE6 := hE5.trans hb6
    have hRB := own_reads hownB
    clear HB hb6 hownA5 hownB hown5 hE5
    obtain ⟨i0, hz1, hz2, hz3, hz4⟩ := info_parts point_info
    go_wp2_with (at_builtin; go_must (refine wpList_app_any _ rfl _ _ 59 rfl w.heap.size 55 i0 _ 2 16 Tryz.underlying59 hz1 hz2 hz3 hz4 rfl (by decide) _ _ _ rfl hownA6 _ _ _ _ rfl hRB (pv_one _) (by unfold maxLen; omega) (by omega) hE6.size ?_))
    intro a7 c7 w7 hown7 hgr7 _
    have hE7 := Ext.grown hE6 hgr7 (fun k hk => (hownA6.lt k hk).1)
    go_wp2
    go_ret
    exact ⟨a7, c7, by rw [HH.out]; simp, by rw [HH.out]; simpa [pv_append] using hown7, hE7⟩

end Go.Proofs.YtngbdopgdcjdeaaGreatDoor

namespace Go.Proofs.YtngbdopgdcjdeaaGreatDoor
open Go.RowKit

/-- These values are slices that read so. -/
def VA (w : World) : List Value → List (List Int) → Prop
  | [], [] => True
  | v :: vs, x :: xs => (∃ a c, v = .slice a x.length c ∧ Reads w a 1 x.length (iv x)) ∧ VA w vs xs
  | _, _ => False
theorem VA.ext {w w' : World} (e : Ext w w') : ∀ {vs : List Value} {xs : List (List Int)}, VA w vs xs → VA w' vs xs
  | [], [], _ => trivial
  | _ :: _, _ :: _, ⟨⟨a, c, h1, h2⟩, h3⟩ => ⟨⟨a, c, h1, Reads.ext e h2⟩, VA.ext e h3⟩
  | [], _ :: _, h => h.elim
  | _ :: _, [], h => h.elim
theorem VA.len {w : World} : ∀ {vs : List Value} {xs : List (List Int)}, VA w vs xs → vs.length = xs.length
  | [], [], _ => rfl
  | _ :: _, _ :: _, ⟨_, h⟩ => by simp [VA.len h]
  | [], _ :: _, h => h.elim
  | _ :: _, [], h => h.elim
theorem VA.one {w : World} : ∀ {vs : List Value} {xs : List (List Int)}, VA w vs xs → ∀ u ∈ vs, u.oneCell' = true
  | [], _, _, u, hu => by cases hu
  | _ :: _, _ :: _, ⟨⟨a, c, h1, _⟩, h3⟩, u, hu => by
    rcases List.mem_cons.1 hu with rfl | hu
    · rw [h1]; rfl
    · exact VA.one h3 u hu
  | _ :: _, [], h, _, _ => h.elim
theorem VA.at {w : World} : ∀ {vs : List Value} {xs : List (List Int)} (k : Nat), VA w vs xs → k < xs.length → ∃ a c, vs[k]? = some (.slice a (xs.getD k []).length c) ∧ Reads w a 1 (xs.getD k []).length (iv (xs.getD k []))
  | _ :: _, _ :: _, 0, ⟨⟨a, c, h1, h2⟩, _⟩, _ => ⟨a, c, by simp [h1], by simpa using h2⟩
  | _ :: _, _ :: _, k + 1, ⟨_, h3⟩, hk => by
    obtain ⟨a, c, h1, h2⟩ := VA.at k h3 (by simpa using hk)
    exact ⟨a, c, by simpa using h1, by simpa using h2⟩
  | _, [], k, _, hk => by simp at hk
  | [], _ :: _, _, h, _ => h.elim
theorem VA.append {w : World} : ∀ {vs us : List Value} {xs ys : List (List Int)}, VA w vs xs → VA w us ys → VA w (vs ++ us) (xs ++ ys)
  | [], _, [], _, _, h => h
  | _ :: _, _, _ :: _, _, ⟨h1, h2⟩, h => ⟨h1, VA.append h2 h⟩
  | [], _, _ :: _, _, h, _ => h.elim
  | _ :: _, _, [], _, h, _ => h.elim
theorem VA.take {w : World} : ∀ {vs : List Value} {xs : List (List Int)} (k : Nat), VA w vs xs → VA w (vs.take k) (xs.take k)
  | [], [], _, _ => by simp [VA]
  | _ :: _, _ :: _, 0, _ => trivial
  | _ :: _, _ :: _, k + 1, ⟨h1, h2⟩ => ⟨h1, VA.take k h2⟩
  | [], _ :: _, _, h => h.elim
  | _ :: _, [], _, h => h.elim
theorem VA.drop {w : World} : ∀ {vs : List Value} {xs : List (List Int)} (k : Nat), VA w vs xs → VA w (vs.drop k) (xs.drop k)
  | [], [], _, _ => by simp [VA]
  | _ :: _, _ :: _, 0, h => h
  | _ :: _, _ :: _, k + 1, ⟨_, h2⟩ => VA.drop k h2
  | [], _ :: _, _, h => h.elim
  | _ :: _, [], _, h => h.elim
/-- A slice of slices of ints: the outer row is the call's own, the inner ones are read. -/
def OwnsRd (B : Nat) (ys : List (List Int)) (w : World) (r : Ending) (w' : World) : Prop :=
  ∃ a c vs, r = .returned (.slice a ys.length c) ∧ w'.ownsRow B 33 1 (.slice a ys.length c) ys.length vs ∧ VA w' vs ys ∧ Ext w w'
theorem ltL_drop : ∀ {zs ys : List Int} (i : Nat), zs.take i = ys.take i → i ≤ zs.length → i ≤ ys.length → ltL zs ys = ltL (zs.drop i) (ys.drop i)
  | _, _, 0, _, _, _ => rfl
  | a :: x, b :: y, i + 1, h, h1, h2 => by
    simp only [List.take_succ_cons, List.cons.injEq] at h
    obtain ⟨rfl, h⟩ := h
    simp only [ltL, if_pos]
    exact ltL_drop i h (by simpa using h1) (by simpa using h2)
  | [], _, i + 1, _, h1, _ => by simp at h1
  | _ :: _, [], i + 1, _, _, h2 => by simp at h2
theorem ltL_at {zs ys : List Int} {i : Nat} (h : zs.take i = ys.take i) (h1 : i < zs.length) (h2 : i < ys.length) (hne : zs.getD i 0 ≠ ys.getD i 0) : ltL zs ys = decide (zs.getD i 0 < ys.getD i 0) := by
  rw [ltL_drop i h (by omega) (by omega), List.drop_eq_getElem_cons h1, List.drop_eq_getElem_cons h2]
  simp only [List.getD, h1, h2, List.getElem?_eq_getElem, Option.getD_some] at hne ⊢
  simp only [ltL, if_neg hne]
theorem ltL_short {zs ys : List Int} {i : Nat} (h : zs.take i = ys.take i) (h1 : i < zs.length) (h2 : i = ys.length) : ltL zs ys = false := by
  rw [ltL_drop i h (by omega) (by omega), List.drop_eq_getElem_cons h1, show ys.drop i = [] from List.drop_of_length_le (by omega)]
  rfl
theorem ltL_end {zs ys : List Int} (h : zs.take zs.length = ys.take zs.length) (h1 : zs.length ≤ ys.length) : ltL zs ys = decide (zs.length < ys.length) := by
  rw [ltL_drop zs.length h (by omega) h1, List.drop_of_length_le (Nat.le_refl _)]
  rcases Nat.lt_or_ge zs.length ys.length with h2 | h2
  · rw [List.drop_eq_getElem_cons h2]
    simp [ltL, h2]
  · rw [List.drop_of_length_le h2]
    simp [ltL]; omega
set_option maxHeartbeats 1000000 in
theorem ceBefore_any (a a' : Option Addr) (n n' c c' : Nat) (zs ys : List Int) (hn : n ≤ 1073741824) (hn' : n' ≤ 1073741824) (w : World) (h : Reads w a 1 n (iv zs)) (h' : Reads w a' 1 n' (iv ys)) :
    Calls Tryz.prog 36 #[.slice a n c, .slice a' n' c'] w fun r w' => r = .returned (.bool (ltL zs ys)) ∧ Ext w w' := by
  have hl : zs.length = n := by have := h.1; rw [iv_len] at this; omega
  have hl' : ys.length = n' := by have := h'.1; rw [iv_len] at this; omega
  obtain ⟨d, hd⟩ : ∃ d, d = ltL zs ys := ⟨_, rfl⟩
  rw [← hd]
  have HD := Lib.hid hd
  have HL := Lib.hid hl
  have HL' := Lib.hid hl'
  clear hd hl hl'
  go_enter Tryz.func36, Tryz.ntmps36
  go_wp2
  go_loopw [9] (fun t wr => ∃ k : Nat, k ≤ n ∧ k ≤ n' ∧ t = .int .i64 k ∧ Hid (zs.take k = ys.take k) ∧ Ext w wr) (fun t _ => n - (intOf t).toNat)
  case atStart => exact ⟨0, Nat.zero_le _, Nat.zero_le _, rfl, Lib.hid (by simp), Ext.refl _⟩
  case round =>
    obtain ⟨k, hk, hk', rfl, hT, hE⟩ := hrel
    by_cases hlt : k < n
    · have hlz : k < zs.length := by have := HL.out; omega
      obtain ⟨b, off, rfl, hcell⟩ := (Reads.ext hE h).2 (by omega)
      have hck := hcell k _ (iv_at hlz)
      by_cases hkn : k = n'
      · have HV := Lib.hid (show d = false by rw [HD.out]; exact ltL_short hT.out hlz (by rw [HL'.out]; exact hkn))
        subst hkn
        have hq1 : ¬ ((k : Int) < (k : Int)) := by omega
        clear hcell h h'
        generalize zs.getD k 0 = x at *
        go_wp2
        go_ret
        exact ⟨by rw [HV.out] <;> rfl, hE⟩
      · have hly : k < ys.length := by have := HL'.out; omega
        obtain ⟨b', off', rfl, hcell'⟩ := (Reads.ext hE h').2 (by omega)
        have hck' := hcell' k _ (iv_at hly)
        have HN := Lib.hid (fun e => ltL_at hT.out hlz hly e)
        have HS := Lib.hid (fun e => dec_take hlz hly hT.out e)
        generalize zs.getD k 0 = x at *
        generalize ys.getD k 0 = y at *
        have hkn2 : ¬ ((k : Int) = (n' : Int)) := by omega
        have hlt2 : (k : Int) < (n' : Int) := by omega
        clear hcell hcell' h h' hT
        by_cases hxy : x = y
        · have hT2 := Lib.hid (HS.out hxy)
          subst hxy
          clear HS HN
          go_wp2
          go_roundw
          case rel => exact ⟨k + 1, by omega, by omega, by go_num, hT2, hE⟩
          case measure => simp [intOf]; omega
        · have HV := Lib.hid (show d = decide (x < y) by rw [HD.out]; exact HN.out hxy)
          have hx2 : (x != y) = true := by simpa using hxy
          have hx3 : (x == y) = false := by simpa using hxy
          clear HS HN hxy
          go_wp2
          go_ret
          exact ⟨by rw [HV.out] <;> rfl, hE⟩
    · obtain rfl : k = n := by omega
      have HV := Lib.hid (show d = decide (k < n') by
        have h1 := HL.out
        have h2 := HL'.out
        rw [HD.out, ltL_end (by rw [h1]; exact hT.out) (by omega), h1, h2])
      go_wp2
      go_ret
      exact ⟨by rw [HV.out] <;> rfl, hE⟩
end Go.Proofs.YtngbdopgdcjdeaaGreatDoor

namespace Go.Proofs.YtngbdopgdcjdeaaGreatDoor
open Go.RowKit

def cmp1 (x y : Int) : Int := if x < y then -1 else if y < x then 1 else 0
/-- The library's order of lists as a number. -/
def cmpL (zs ys : List Int) : Int := if ltL zs ys = true then -1 else if ltL ys zs = true then 1 else 0
theorem cmpL_lt (zs ys : List Int) : cmpL zs ys < 0 ↔ ltL zs ys = true := by
  unfold cmpL
  by_cases h : ltL zs ys = true
  · simp [h]
  · rw [if_neg h]
    by_cases h2 : ltL ys zs = true
    · simp [h, h2]
    · simp [h, h2]
theorem cmpL_short {zs ys : List Int} {i : Nat} (h : zs.take i = ys.take i) (h1 : i < zs.length) (h2 : i = ys.length) : cmpL zs ys = 1 := by
  unfold cmpL
  rw [ltL_short h h1 h2]
  subst h2
  rw [ltL_end (by rw [h]) (by omega)]
  simp [h1]
theorem cmpL_at {zs ys : List Int} {i : Nat} (h : zs.take i = ys.take i) (h1 : i < zs.length) (h2 : i < ys.length) (hne : zs.getD i 0 ≠ ys.getD i 0) : cmpL zs ys = cmp1 (zs.getD i 0) (ys.getD i 0) := by
  unfold cmpL cmp1
  rw [ltL_at h h1 h2 hne, ltL_at h.symm h2 h1 hne.symm]
  simp
theorem cmpL_end {zs ys : List Int} (h : zs.take zs.length = ys.take zs.length) (h1 : zs.length ≤ ys.length) : cmpL zs ys = if zs.length < ys.length then -1 else 0 := by
  unfold cmpL
  rw [ltL_end h h1]
  by_cases h2 : zs.length < ys.length
  · simp [h2]
  · have e : zs = ys := by rw [← List.take_length (l := zs), h, List.take_of_length_le (by omega)]
    subst e
    simp [ltL_irrefl]
theorem isNaN_any (x : Int) (w : World) : Calls Tryz.prog 81 #[.int .i64 x] w fun r w' => r = .returned (.bool false) ∧ w = w' := by
  go_enter Tryz.func81, Tryz.ntmps81
  go_wp2
  go_ret
  exact ⟨rfl, rfl⟩
theorem cmpInt_any (x y : Int) (w : World) : Calls Tryz.prog 63 #[.int .i64 x, .int .i64 y] w fun r w' => r = .returned (.int .i64 (cmp1 x y)) ∧ w = w' := by
  rcases Int.lt_trichotomy x y with h | h | h
  · have hv : cmp1 x y = -1 := if_pos h
    rw [hv]
    go_enter Tryz.func63, Tryz.ntmps63
    go_wp2_with ((go_at_call 81; refine (isNaN_any _ _).mono ?_; rintro e _ ⟨rfl, rfl⟩))
    go_ret
    exact ⟨rfl, rfl⟩
  · subst h
    have hv : cmp1 x x = 0 := by simp [cmp1]
    rw [hv]
    go_enter Tryz.func63, Tryz.ntmps63
    go_wp2_with ((go_at_call 81; refine (isNaN_any _ _).mono ?_; rintro e _ ⟨rfl, rfl⟩))
    go_ret
    exact ⟨rfl, rfl⟩
  · have hv : cmp1 x y = 1 := by unfold cmp1; rw [if_neg (by omega), if_pos h]
    rw [hv]
    have h2 : ¬ x < y := by omega
    go_enter Tryz.func63, Tryz.ntmps63
    go_wp2_with ((go_at_call 81; refine (isNaN_any _ _).mono ?_; rintro e _ ⟨rfl, rfl⟩))
    go_ret
    exact ⟨rfl, rfl⟩
set_option maxHeartbeats 1000000 in
theorem compareI_any (a a' : Option Addr) (n n' c c' : Nat) (zs ys : List Int) (hn : n ≤ 1073741824) (hn' : n' ≤ 1073741824) (w : World) (h : Reads w a 1 n (iv zs)) (h' : Reads w a' 1 n' (iv ys)) :
    Calls Tryz.prog 47 #[.slice a n c, .slice a' n' c'] w fun r w' => r = .returned (.int .i64 (cmpL zs ys)) ∧ w = w' := by
  have hl : zs.length = n := by have := h.1; rw [iv_len] at this; omega
  have hl' : ys.length = n' := by have := h'.1; rw [iv_len] at this; omega
  obtain ⟨d, hd⟩ : ∃ d, d = cmpL zs ys := ⟨_, rfl⟩
  rw [← hd]
  have HD := Lib.hid hd
  have HL := Lib.hid hl
  have HL' := Lib.hid hl'
  clear hd hl hl'
  go_enter Tryz.func47, Tryz.ntmps47
  go_wp2
  go_loopw [11] (fun t wr => ∃ k : Nat, k ≤ n ∧ k ≤ n' ∧ t = .int .i64 k ∧ Hid (zs.take k = ys.take k) ∧ w = wr) (fun t _ => n - (intOf t).toNat)
  case atStart => exact ⟨0, Nat.zero_le _, Nat.zero_le _, rfl, Lib.hid (by simp), rfl⟩
  case round =>
    obtain ⟨k, hk, hk', rfl, hT, rfl⟩ := hrel
    by_cases hlt : k < n
    · have hlz : k < zs.length := by have := HL.out; omega
      obtain ⟨b, off, rfl, hcell⟩ := h.2 (by omega)
      have hck := hcell k _ (iv_at hlz)
      by_cases hkn : k = n'
      · have HV := Lib.hid (show d = 1 by rw [HD.out]; exact cmpL_short hT.out hlz (by rw [HL'.out]; exact hkn))
        subst hkn
        clear hcell h h'
        generalize zs.getD k 0 = x at *
        go_wp2
        go_ret
        exact ⟨by rw [HV.out] <;> rfl, rfl⟩
      · have hly : k < ys.length := by have := HL'.out; omega
        obtain ⟨b', off', rfl, hcell'⟩ := h'.2 (by omega)
        have hck' := hcell' k _ (iv_at hly)
        have HN := Lib.hid (fun e => cmpL_at hT.out hlz hly e)
        have HS := Lib.hid (fun e => dec_take hlz hly hT.out e)
        generalize zs.getD k 0 = x at *
        generalize ys.getD k 0 = y at *
        have hkn2 : ¬ ((n' : Int) ≤ (k : Int)) := by omega
        have hlt2 : (k : Int) < (n' : Int) := by omega
        clear hcell hcell' h h' hT
        by_cases hxy : x = y
        · have hT2 := Lib.hid (HS.out hxy)
          subst hxy
          have hz : cmp1 x x = 0 := by simp [cmp1]
          clear HS HN
          go_wp2_with ((go_at_call 63; refine (cmpInt_any _ _ _).mono ?_; rintro e _ ⟨rfl, rfl⟩))
          go_roundw
          case rel => exact ⟨k + 1, by omega, by omega, by go_num, hT2, trivial⟩
          case measure => simp [intOf]; omega
        · have HV := Lib.hid (show d = cmp1 x y by rw [HD.out]; exact HN.out hxy)
          have hz : cmp1 x y ≠ 0 := by
            unfold cmp1
            split
            · decide
            · split
              · decide
              · omega
          have hz2 : (cmp1 x y == 0) = false := by simpa using hz
          have HC := Lib.hid (cmpInt_any x y w)
          clear HS HN hxy
          generalize cmp1 x y = q at *
          go_wp2_with ((go_at_call 63; refine (HC.out).mono ?_; rintro e _ ⟨rfl, rfl⟩))
          go_ret
          exact ⟨by rw [HV.out] <;> rfl, rfl⟩
    · obtain rfl : k = n := by omega
      have HV := Lib.hid (show d = if k < n' then -1 else 0 by
        rw [HD.out]
        have h1 := HL.out
        have h2 := HL'.out
        rw [← h1, ← h2]
        exact cmpL_end (by have := hT.out; rw [← h1] at this; exact this) (by omega))
      by_cases hkn : k < n'
      · have hkn2 : (k : Int) < (n' : Int) := by omega
        have HV2 := Lib.hid (HV.out.trans (if_pos hkn))
        go_wp2
        go_ret
        exact ⟨by rw [HV2.out] <;> rfl, rfl⟩
      · have hkn2 : ¬ ((k : Int) < (n' : Int)) := by omega
        have HV2 := Lib.hid (HV.out.trans (if_neg hkn))
        go_wp2
        go_ret
        exact ⟨by rw [HV2.out] <;> rfl, rfl⟩
/-- Read behind a write elsewhere. -/
theorem Reads.grown {w w' : World} {row : Option Nat} {a : Option Addr} {size n : Nat} {xs : List Value} (h : Reads w a size n xs) (hg : w.grownBy w' row) (hne : ∀ x, a = some x → row ≠ some x.block) : Reads w' a size n xs := by
  refine ⟨h.1, fun hn => ?_⟩
  obtain ⟨b, off, rfl, hc⟩ := h.2 hn
  exact ⟨b, off, rfl, fun j u hu => grown_keep hg (hc j u hu) (fun e => hne _ rfl e.symm)⟩
/-- What is known of a row of the sort: a slice that reads so, not in block g. -/
def RowQ (w : World) (g : Nat) (p : Value × List Int) : Prop := ∃ a c, p.1 = .slice a p.2.length c ∧ Reads w a 1 p.2.length (iv p.2) ∧ p.1.ownBlock ≠ some g ∧ p.2.length ≤ 1000
instance (w : World) (g : Nat) : Inhabited {p // RowQ w g p} := ⟨⟨(.slice none 0 0, []), none, 0, rfl, ⟨rfl, fun h => absurd h (by simp)⟩, by simp [Value.ownBlock], by simp⟩⟩
theorem swoL {α : Type} (f : α → List Int) : Sort.SWO (ltOf fun x y : α => cmpL (f x) (f y)) where
  irrefl x := by simp [ltOf, cmpL, ltL_irrefl]
  trans x y z h1 h2 := by
    simp only [ltOf, decide_eq_true_eq, cmpL_lt] at h1 h2 ⊢
    exact ltL_trans h1 h2
  ntrans x y z h1 h2 := by
    simp only [ltOf, decide_eq_false_iff_not, cmpL_lt, Bool.not_eq_true] at h1 h2 ⊢
    cases e : ltL (f x) (f z)
    · rfl
    · rcases ltL_total (f x) (f y) with k | k | k
      · rw [h1] at k; cases k
      · rw [k, h2] at e; cases e
      · have := ltL_trans k e
        rw [h2] at this; cases this
/-- Behind the sort of slices of ints: a permutation in order, in the same slice. -/
def SortedL (B : Nat) (E : TypeId) (g n c : Nat) (ps : List (Value × List Int)) (w : World) (e : Ending) (w' : World) : Prop :=
  e = .returned (.tuple #[]) ∧ ∃ qs : List (Value × List Int), qs.Perm ps ∧ qs.Pairwise (fun a b => ltL b.2 a.2 = false) ∧ w'.ownsRow B E 1 (.slice (some ⟨g, 0, none⟩) n c) n (qs.map (·.1)) ∧ w.grownBy w' (some g)
open Go.Shelf Go.Lib Go.Sort in
set_option maxHeartbeats 1000000 in
theorem sortL_any (ps : List (Value × List Int)) (B n c g : Nat) (w : World) (hn : n ≤ 1048576) (h : w.ownsRow B 33 1 (.slice (some ⟨g, 0, none⟩) n c) n (ps.map (·.1))) (hQ : ∀ p ∈ ps, RowQ w g p) :
    Calls Tryz.prog 46 #[.slice (some ⟨g, 0, none⟩) n c, .func (.func 47) #[] #[]] w (SortedL B 33 g n c ps w) := by
  obtain ⟨hlen, hnil | ⟨g', cap, cur, hv, hbase, hb, h1, h2, h3, h4⟩⟩ := h
  · cases hnil.1
  cases hv
  rw [List.length_map] at hlen
  have hzn : ps.length = n := by omega
  obtain ⟨d, hd⟩ : ∃ d : Array {p // RowQ w g p}, d = (ps.attach.map fun z => (⟨z.1, hQ z.1 z.2⟩ : {p // RowQ w g p})).toArray := ⟨_, rfl⟩
  have hdz : d.toList.map (·.1) = ps := by
    rw [hd]
    simp [Function.comp_def]
    exact List.attach_map_subtype_val ps
  have hdn : d.size = n := by rw [hd]; simp [hzn]
  have hgs := (Array.getElem?_eq_some_iff.1 hb).1
  have hdm : d.toList.map (fun p => p.1.1) = ps.map (·.1) := by rw [← hdz, List.map_map]; rfl
  have hH : Holds (fun p : {p // RowQ w g p} => p.1.1) w g 0 d := by
    have := holds_put (enc := fun p : {p // RowQ w g p} => p.1.1) (ss := d.toList) hb (by rw [hdm, Array.length_toList, hdn, ← h4]; simp)
    simpa using this
  have eg : ∀ args w, (callFunc 47 args).run Tryz.prog w = .ok (.enter 47 args) w := enters_of Tryz.func47 (by kernel_rfl) rfl
  have hcon := Any.slices_SortFunc layInts (fun p : {p // RowQ w g p} => p.1.1) (fun p => by obtain ⟨a, c, e, _⟩ := p.2; show p.1.1.oneCell' = true; rw [e]; rfl) (fun x y => cmpL x.1.2 y.1.2) (swoL _) 47 #[] g 0 c d w eg
    (fun m os dk _ x y => by
      obtain ⟨a1, c1, e1, r1, q1, l1⟩ := x.2
      obtain ⟨a2, c2, e2, r2, q2, l2⟩ := y.2
      have hg := grown_put (enc := fun p : {p // RowQ w g p} => p.1.1) (n := m) (os := os) dk (w := w) (g := g)
      have R1 := r1.grown hg (fun x e => by rw [e1, e] at q1; exact fun e' => q1 e'.symm)
      have R2 := r2.grown hg (fun x e => by rw [e2, e] at q2; exact fun e' => q2 e'.symm)
      have := compareI_any a1 a2 _ _ c1 c2 x.1.2 y.1.2 (by omega) (by omega) _ R1 R2
      simp only [e1, e2]
      exact this.mono fun _ _ ⟨he, hw⟩ => ⟨he, 0, #[], by rw [← hw, grow_empty]; rfl⟩) hH hgs (by omega)
  rw [hdn] at hcon
  change Calls Tryz.prog 46 _ _ _ at hcon
  refine hcon.mono fun e w' ⟨he, d', k, os, hp, hs, hw⟩ => ?_
  rw [← hdn] at hp hs
  obtain ⟨p1, p2⟩ := perm_of hp hs
  have hl' : d'.size = n := by rw [hp.1, hdn]
  refine ⟨he, d'.toList.map (·.1), ?_, ?_, ?_, ?_⟩
  · rw [← hdz]; exact p1.map _
  · rw [List.pairwise_map]
    refine p2.imp fun {a b} hab => ?_
    have := (not_congr (cmpL_lt b.1.2 a.1.2)).1 hab
    simpa using this
  · rw [hw]
    unfold sortWorld
    have := own_put (enc := fun p : {p // RowQ w g p} => p.1.1) (n := k) (os := os) (ts := d'.toList) (m := n) (size := 1) (by simp [hl']) hbase hb h1 h2 h3
    rw [List.map_map]
    have e2 : ((fun x : Value × List Int => x.1) ∘ fun x : {p // RowQ w g p} => x.1) = fun p => p.1.1 := rfl
    rw [e2]
    simpa using this
  · rw [hw]
    exact grown_put _
open Go.Shelf Go.Lib Go.Sort in
theorem sortL_none (p : Option Addr) (c : Nat) (w : World) : Calls Tryz.prog 46 #[.slice p 0 c, .func (.func 47) #[] #[]] w fun e w' => e = .returned (.tuple #[]) ∧ w = w' :=
  (AnyF.slices_SortFunc_none { layInts with } p c (.func (.func 47) #[] #[]) w).mono fun _ _ h => ⟨h.1, h.2.symm⟩
end Go.Proofs.YtngbdopgdcjdeaaGreatDoor

namespace Go.Proofs.YtngbdopgdcjdeaaGreatDoor
open Go.RowKit

def rat (ps : List (Value × List Int)) (k : Nat) : Value × List Int := ps.getD k (.slice none 0 0, [])
theorem rat_eq {ps : List (Value × List Int)} {k : Nat} (h : k < ps.length) : rat ps k = ps[k] := by simp [rat, List.getD, h]
theorem rat_mem {ps : List (Value × List Int)} {k : Nat} (h : k < ps.length) : rat ps k ∈ ps := by rw [rat_eq h]; exact List.getElem_mem h
theorem rat_fst {ps : List (Value × List Int)} {k : Nat} (h : k < ps.length) : (ps.map (·.1))[k]? = some (rat ps k).1 := by simp [rat_eq h, h]
/-- The first of each run of alike rows, among the first k. -/
def ddTo (ps : List (Value × List Int)) : Nat → List (Value × List Int)
  | 0 => []
  | k + 1 => if 0 < k ∧ (rat ps k).2 = (rat ps (k - 1)).2 then ddTo ps k else ddTo ps k ++ [rat ps k]
theorem ddTo_len (ps : List (Value × List Int)) : ∀ k, (ddTo ps k).length ≤ k
  | 0 => Nat.le_refl _
  | k + 1 => by
    have := ddTo_len ps k
    simp only [ddTo]
    split
    · omega
    · simp; omega
theorem ddTo_sub {ps : List (Value × List Int)} : ∀ k, k ≤ ps.length → (ddTo ps k).Sublist (ps.take k)
  | 0, _ => by simp [ddTo]
  | k + 1, h => by
    have ih := ddTo_sub (ps := ps) k (by omega)
    rw [List.take_succ_eq_append_getElem (by omega), ← rat_eq (by omega)]
    simp only [ddTo]
    split
    · exact ih.trans (List.sublist_append_left _ _)
    · exact ih.append (List.Sublist.refl _)
theorem ddTo_last {ps : List (Value × List Int)} : ∀ k, 0 < k → k ≤ ps.length → ∃ l p, ddTo ps k = l ++ [p] ∧ p.2 = (rat ps (k - 1)).2
  | 0, h, _ => absurd h (by omega)
  | k + 1, _, h => by
    simp only [ddTo, Nat.add_sub_cancel]
    split
    · rename_i hk
      obtain ⟨l, p, e1, e2⟩ := ddTo_last (ps := ps) k hk.1 (by omega)
      exact ⟨l, p, e1, by rw [e2, hk.2]⟩
    · exact ⟨_, _, rfl, rfl⟩
theorem ddTo_mem {ps : List (Value × List Int)} {y : List Int} : ∀ k, k ≤ ps.length → (y ∈ (ddTo ps k).map (·.2) ↔ y ∈ (ps.take k).map (·.2))
  | 0, _ => by simp [ddTo]
  | k + 1, h => by
    have ih := ddTo_mem (ps := ps) (y := y) k (by omega)
    rw [List.take_succ_eq_append_getElem (by omega), ← rat_eq (by omega)]
    simp only [ddTo]
    split
    · rename_i hk
      obtain ⟨l, p, e1, e2⟩ := ddTo_last (ps := ps) k hk.1 (by omega)
      rw [List.map_append, List.mem_append, ← ih]
      constructor
      · exact .inl
      · rintro (h1 | h1)
        · exact h1
        · simp only [List.map_cons, List.map_nil, List.mem_singleton] at h1
          rw [h1, hk.2, ← e2, e1]
          simp
    · rw [List.map_append, List.map_append, List.mem_append, List.mem_append, ih]
theorem ddTo_sort {ps : List (Value × List Int)} (hs : ps.Pairwise (fun a b => ltL b.2 a.2 = false)) : ∀ k, k ≤ ps.length → SortL ((ddTo ps k).map (·.2))
  | 0, _ => by simp [ddTo, SortL]
  | k + 1, h => by
    have ih := ddTo_sort hs k (by omega)
    simp only [ddTo]
    split
    · exact ih
    · rename_i hk
      unfold SortL at ih ⊢
      rw [List.map_append, List.pairwise_append]
      refine ⟨ih, by simp, fun y hy z hz => ?_⟩
      simp only [List.map_cons, List.map_nil, List.mem_singleton] at hz
      subst hz
      have hk0 : 0 < k := by
        rcases Nat.eq_zero_or_pos k with e | e
        · subst e; simp [ddTo] at hy
        · exact e
      -- the last of what is kept is less; all others are no more
      rw [List.pairwise_iff_getElem] at hs
      obtain ⟨i, hi, e⟩ := List.getElem_of_mem ((ddTo_mem k (by omega)).1 hy)
      simp only [List.length_map, List.length_take] at hi
      simp only [List.getElem_map, List.getElem_take] at e
      have h1 := hs i k (by omega) (by omega) (by omega)
      have h2 := hs (k - 1) k (by omega) (by omega) (by omega)
      rw [e] at h1
      rw [← rat_eq (by omega)] at h1
      rw [← rat_eq (by omega), ← rat_eq (by omega)] at h2
      rcases ltL_total y (rat ps k).2 with t | t | t
      · exact t
      · exfalso
        have hne : (rat ps k).2 ≠ (rat ps (k - 1)).2 := fun e' => hk ⟨hk0, e'⟩
        rcases Nat.lt_or_ge i (k - 1) with hi2 | hi2
        · have h3 := hs i (k - 1) (by omega) (by omega) hi2
          rw [e, ← rat_eq (by omega)] at h3
          rw [← t] at h2
          exact hne (by rw [← t]; exact (ltL_antisymm h3 h2).symm)
        · have : i = k - 1 := by omega
          subst this
          rw [← rat_eq (by omega)] at e
          exact hne (by rw [← t, e])
      · rw [h1] at t; cases t
theorem take_set_at {ys : List Value} {k : Nat} {v : Value} (h : k < ys.length) : (ys.set k v).take (k + 1) = ys.take k ++ [v] := by
  rw [List.take_succ_eq_append_getElem (by simpa using h), List.take_set_of_le (Nat.le_refl _)]
  simp
theorem drop_set_at {ys : List Value} {k j : Nat} {v : Value} (h : k < j) : (ys.set k v).drop j = ys.drop j := by
  rw [List.drop_set_of_lt h]
theorem stored_all {B g n c size : Nat} {E : TypeId} : ∀ (vs : List Value) (o : Nat) (w : World) (ys : List Value), w.ownsRow B E size (.slice (some ⟨g, 0, none⟩) n c) n ys →
    ∃ zs, (w.setCells g o vs).ownsRow B E size (.slice (some ⟨g, 0, none⟩) n c) n zs ∧ zs.take o = ys.take o ∧ w.grownBy (w.setCells g o vs) (some g)
  | [], o, w, ys, h => ⟨ys, h, rfl, World.grownBy.refl _ _⟩
  | v :: vs, o, w, ys, h => by
    obtain ⟨h1, h2⟩ := h.stored o v
    obtain ⟨zs, k1, k2, k3⟩ := stored_all vs (o + 1) _ _ h1
    refine ⟨zs, k1, ?_, grown_trans h2 k3⟩
    have := congrArg (fun l => l.take o) k2
    simp only [List.take_take] at this
    rw [show min o (o + 1) = o by omega, List.take_set_of_le (Nat.le_refl _)] at this
    exact this
theorem zero_ints (w : World) : (zeroValue 33).run Tryz.prog w = .ok (.slice none 0 0) w := by kernel_rfl
set_option maxHeartbeats 4000000 in
theorem compactL_any (ps : List (Value × List Int)) (B n c g : Nat) (w : World) (hn : n ≤ 1048576) (h : w.ownsRow B 33 1 (.slice (some ⟨g, 0, none⟩) n c) n (ps.map (·.1))) (hQ : ∀ p ∈ ps, RowQ w g p) :
    Calls Tryz.prog 48 #[.slice (some ⟨g, 0, none⟩) n c, .func (.func 49) #[] #[]] w fun e w' =>
      e = .returned (.slice (some ⟨g, 0, none⟩) (ddTo ps n).length c) ∧ w'.ownsRow B 33 1 (.slice (some ⟨g, 0, none⟩) (ddTo ps n).length c) (ddTo ps n).length ((ddTo ps n).map (·.1)) ∧ w.grownBy w' (some g) := by
  have hzn : ps.length = n := by have := h.1; rw [List.length_map] at this; omega
  have HP := Lib.hid hzn
  have HQ := Lib.hid hQ
  obtain ⟨R, hR⟩ : ∃ R, R = ddTo ps n := ⟨_, rfl⟩
  rw [← hR]
  have HR := Lib.hid hR
  clear hR hQ
  by_cases h2 : n < 2
  · have HRP : Hid (R = ps) := Lib.hid (by
      rw [HR.out]
      rcases Nat.eq_zero_or_pos n with e | e
      · subst e
        rw [List.length_eq_zero_iff.1 hzn]
        rfl
      · have e1 : n = 1 := by omega
        subst e1
        obtain ⟨p, rfl⟩ : ∃ p, ps = [p] := List.length_eq_one_iff.1 hzn
        rfl)
    have h2' : (n : Int) < 2 := by omega
    clear hzn
    go_enter Tryz.func48, Tryz.ntmps48
    go_wp2
    go_ret
    exact ⟨by rw [HRP.out, HP.out] <;> rfl, by rw [HRP.out, HP.out]; exact h, World.grownBy.refl _ _⟩
  · have h2' : ¬ (n : Int) < 2 := by omega
    have HO := Lib.hid h
    clear hzn h
    go_enter Tryz.func48, Tryz.ntmps48
    go_wp2
    go_loopw [5] (fun t wr => ∃ m : Nat, m + 1 ≤ n ∧ t = .int .i64 ((m : Int) + 1) ∧ Hid (ddTo ps (m + 1) = ps.take (m + 1)) ∧ Ext w wr) (fun t _ => n - (intOf t).toNat)
    case atStart => exact ⟨0, by omega, by simp, Lib.hid (by simp only [ddTo]; rw [if_neg (by omega), List.take_succ_eq_append_getElem (by rw [HP.out]; omega), rat_eq (by rw [HP.out]; omega)]; simp), Ext.refl _⟩
    case round =>
      obtain ⟨m, hm, rfl, hT, hE⟩ := hrel
      by_cases hlt : m + 1 < n
      · have hlt' : (m : Int) + 1 < (n : Int) := by omega
        have hmn : m < ps.length := by rw [HP.out]; omega
        have hmn1 : m + 1 < ps.length := by rw [HP.out]; omega
        have ho := own_ext hE HO.out
        have k0 := (ho.cellAt m (by omega)).trans (rat_fst hmn)
        have k1 := (ho.cellAt (m + 1) (by omega)).trans (rat_fst hmn1)
        obtain ⟨a0, c0, e0, r0, q0, l0⟩ := HQ.out _ (rat_mem hmn)
        obtain ⟨a1, c1, e1, r1, q1, l1⟩ := HQ.out _ (rat_mem hmn1)
        rw [e0] at k0
        rw [e1] at k1
        have HEE := Lib.hid hE
        have HD := Lib.hid (show ddTo ps (m + 1 + 1) = if 0 < m + 1 ∧ (rat ps (m + 1)).2 = (rat ps (m + 1 - 1)).2 then ddTo ps (m + 1) else ddTo ps (m + 1) ++ [rat ps (m + 1)] from rfl)
        have HE1 := Lib.hid e1
        have hw1 : IntKind.i64.wrap (m : Int) = (m : Int) := wrap_i64 (by omega) (by omega)
        have HEQ := Lib.hid (fun w' (e : Ext wr w') => slicesEqual_any a1 a0 _ _ c1 c0 (rat ps (m + 1)).2 (rat ps m).2 (by omega) (by omega) w' (Reads.ext (hE.trans e) r1) (Reads.ext (hE.trans e) r0))
        obtain ⟨bq, hbq⟩ : ∃ bq, bq = decide ((rat ps (m + 1)).2 = (rat ps m).2) := ⟨_, rfl⟩
        rw [← hbq] at HEQ
        have HBQ := Lib.hid hbq
        clear e0 e1 r0 r1 q0 q1 ho hE l0 l1 hbq
        have hE : Ext wr wr := Ext.refl _
        have Kc0 := Ext.keeps k0
        have Lc0 := Ext.keeps k1
        have HEQ2 := Lib.hid (fun s : Past wr => HEQ.out s.w s.ext)
        go_wp2
        have qK0 := fun s : Past wr => Kc0 s.w s.ext
        have qL0 := fun s : Past wr => Lc0 s.w s.ext
        refine wp_region_past wr (by first | exact hE | exact Ext.alloc hE _ | exact Ext.drew hE | exact Ext.drewN hE _) (by kernel_rfl) (by kernel_rfl) ?_
        repeat (go_big_quiet_step (((go_at_call 49; with_reducible exact past_ext (HEQ2.out _)))))
        refine wpQuiet_nil ?_
        intro w2 hw'
        obtain ⟨⟨_, hE⟩, hw''⟩ := hw'
        subst hw''
        clear qK0 qL0
        have HE2 := Lib.hid (HEE.out.trans hE)
        clear hE HEQ HEQ2 Kc0 Lc0 k0 k1
        have hs2 := HE2.out.size
        cases bq
        rotate_left
        · have hxy := of_decide_eq_true HBQ.out.symm
          have HD2 := Lib.hid (show ddTo ps (m + 2) = ps.take (m + 1) from HD.out.trans ((if_pos ⟨by omega, hxy⟩).trans hT.out))
          clear hxy HD hT
          have hcap : n ≤ c := by
            obtain ⟨_, h1 | ⟨g', cap, cur, hv, _, _, h3, _⟩⟩ := HO.out
            · cases h1.1
            · cases hv; exact h3
          have hmc : m + 1 < c := by omega
          have hne1 : ¬ m + 1 = c := by omega
          have hne2 : ¬ c = m + 1 := by omega
          have HB := Lib.hid ((HO.out.lt g rfl).1)
          have hgs : g < w.heap.size := (HO.out.lt g rfl).2
          go_wp2
          all_goals first | (exfalso; omega) | skip
          obtain ⟨d, hdd⟩ : ∃ d, d = n - (m + 1) := ⟨_, rfl⟩
          rw [← hdd]
          have hnd : n = m + 1 + d := by omega
          clear hdd
          go_loopw [5, 7] (fun s t wr => ∃ (r K : Nat) (ys : List Value), r + 1 ≤ d ∧ t = .int .i64 ((r : Int) + 1) ∧ s = .int .i64 (K : Int) ∧ K ≤ m + 1 + r ∧ Hid (K = (ddTo ps (m + r + 2)).length) ∧ wr.ownsRow B 33 1 (.slice (some ⟨g, 0, none⟩) n c) n ys ∧ Hid (ys.take K = (ddTo ps (m + r + 2)).map (·.1)) ∧ Hid (ys.drop (m + r + 1) = (ps.map (·.1)).drop (m + r + 1)) ∧ w.grownBy wr (some g)) (fun _ t _ => d - (intOf t).toNat)
          case atStart => exact ⟨0, m + 1, ps.map (·.1), by omega, by simp, by simp, by omega, Lib.hid (by rw [HD2.out, List.length_take]; omega), own_ext HE2.out HO.out, Lib.hid (by rw [HD2.out, List.map_take]), Lib.hid rfl, Ext.grownBy HE2.out _⟩
          case round =>
            obtain ⟨r, K, ys, hr, rfl, rfl, hK, HK, ho, HT, HDr, hg⟩ := hrel
            have hyl : ys.length = n := by have := ho.1; omega
            by_cases hlr : r + 1 < d
            · have hlr' : (r : Int) + 1 < (d : Int) := by omega
              have hj0 : m + r + 1 < ps.length := by rw [HP.out]; omega
              have hj1 : m + r + 2 < ps.length := by rw [HP.out]; omega
              have hy0 : ys[m + r + 1]? = some (rat ps (m + r + 1)).1 := by
                rw [← rat_fst hj0]
                have := congrArg (fun l => l[0]?) HDr.out
                simpa using this
              have hy1 : ys[m + r + 2]? = some (rat ps (m + r + 2)).1 := by
                rw [← rat_fst hj1]
                have := congrArg (fun l => l[1]?) HDr.out
                simpa using this
              have k0 := (ho.cellAt (m + r + 1) (by omega)).trans hy0
              have k1 := (ho.cellAt (m + r + 2) (by omega)).trans hy1
              obtain ⟨a2, c2, e2, r2, q2, l2⟩ := HQ.out _ (rat_mem hj0)
              obtain ⟨a3, c3, e3, r3, q3, l3⟩ := HQ.out _ (rat_mem hj1)
              have R2 := r2.grown hg (fun x e => by rw [e2, e] at q2; exact fun e' => q2 e'.symm)
              have R3 := r3.grown hg (fun x e => by rw [e3, e] at q3; exact fun e' => q3 e'.symm)
              have HDD := Lib.hid (show ddTo ps (m + r + 3) = if 0 < m + r + 2 ∧ (rat ps (m + r + 2)).2 = (rat ps (m + r + 1)).2 then ddTo ps (m + r + 2) else ddTo ps (m + r + 2) ++ [rat ps (m + r + 2)] from rfl)
              generalize rat ps (m + r + 1) = p0 at *
              generalize rat ps (m + r + 2) = p1 at *
              have HE3 := Lib.hid e3
              rw [e2] at k0
              rw [e3] at k1
              rw [show m + r + 1 = m + 1 + r by omega] at k0
              rw [show m + r + 2 = m + 1 + (r + 1) by omega] at k1
              have HY1 := Lib.hid hy1
              have hw2 : IntKind.i64.wrap (r : Int) = (r : Int) := wrap_i64 (by omega) (by omega)
              have hdr : (r : Int) < (d : Int) := by omega
              have HEQ := Lib.hid (fun w' (e : Ext wr w') => slicesEqual_any a3 a2 _ _ c3 c2 p1.2 p0.2 (by omega) (by omega) w' (Reads.ext e R3) (Reads.ext e R2))
              obtain ⟨bq, hbq⟩ : ∃ bq, bq = decide (p1.2 = p0.2) := ⟨_, rfl⟩
              rw [← hbq] at HEQ
              have HBQ2 := Lib.hid hbq
              clear hy0 hy1 e2 e3 r2 r3 R2 R3 q2 q3 l2 l3 hbq
              have hE : Ext wr wr := Ext.refl _
              have Kc0 := Ext.keeps k0
              have Lc0 := Ext.keeps k1
              have HEQ2 := Lib.hid (fun s : Past wr => HEQ.out s.w s.ext)
              go_wp2
              have qK0 := fun s : Past wr => Kc0 s.w s.ext
              have qL0 := fun s : Past wr => Lc0 s.w s.ext
              refine wp_region_past wr (by first | exact hE | exact Ext.alloc hE _ | exact Ext.drew hE | exact Ext.drewN hE _) (by kernel_rfl) (by kernel_rfl) ?_
              repeat (go_big_quiet_step (((go_at_call 49; with_reducible exact past_ext (HEQ2.out _)))))
              refine wpQuiet_nil ?_
              intro w4 hw'
              obtain ⟨⟨_, hE⟩, hw''⟩ := hw'
              subst hw''
              clear qK0 qL0
              have HO4 := Lib.hid (own_ext hE ho)
              have HG4 := Lib.hid (grown_trans hg (Ext.grownBy hE (some g)))
              have Kc1 := hE.keep k1
              clear hE HEQ HEQ2 Kc0 Lc0 k0 k1 ho hg
              cases bq
              rotate_left
              · have hxy := of_decide_eq_true HBQ2.out.symm
                have HD3 := Lib.hid (HDD.out.trans (if_pos ⟨by omega, hxy⟩))
                clear hxy HDD
                go_wp2
                go_roundw
                case rel => exact ⟨r + 1, K, ys, by omega, by go_num, rfl, by omega, Lib.hid (by rw [show m + (r + 1) + 2 = m + r + 3 by omega, HD3.out]; exact HK.out), HO4.out, Lib.hid (by rw [show m + (r + 1) + 2 = m + r + 3 by omega, HD3.out]; exact HT.out), Lib.hid (by
                  have := congrArg (fun l => l.drop 1) HDr.out
                  simpa [List.drop_drop, show m + (r + 1) + 1 = m + r + 1 + 1 by omega] using this), HG4.out⟩
                case measure => simp [intOf]; omega
              · have hxy := of_decide_eq_false HBQ2.out.symm
                have HD3 := Lib.hid (HDD.out.trans (if_neg (fun h => hxy h.2)))
                clear hxy HDD
                have hKn : (K : Int) < (n : Int) := by omega
                have hst := HO4.out.stored K p1.1
                rw [HE3.out] at hst
                have hfz := HO4.out.frozenAt K
                have hkc : ∃ u, w4.cell? ⟨g, K, none⟩ = some u := ⟨_, (HO4.out.cellAt K (by omega)).trans (List.getElem?_eq_getElem (by omega))⟩
                obtain ⟨u0, hkc⟩ := hkc
                go_wp2
                go_roundw
                case rel =>
                  refine ⟨r + 1, K + 1, ys.set K p1.1, by omega, by go_num, by go_num, by omega, Lib.hid (by rw [show m + (r + 1) + 2 = m + r + 3 by omega, HD3.out, List.length_append, ← HK.out]; rfl), (by rw [HE3.out]; exact hst.1), Lib.hid ?_, Lib.hid ?_, grown_trans HG4.out hst.2⟩
                  · rw [show m + (r + 1) + 2 = m + r + 3 by omega, HD3.out, take_set_at (by omega), HT.out, List.map_append]
                    rfl
                  · rw [drop_set_at (by omega)]
                    have := congrArg (fun l => l.drop 1) HDr.out
                    simpa [List.drop_drop, show m + (r + 1) + 1 = m + r + 1 + 1 by omega] using this
                case measure => simp [intOf]; omega
            · have hmr : m + r + 2 = n := by omega
              have hlr' : ¬ (r : Int) + 1 < (d : Int) := by omega
              have HK2 := Lib.hid (show R.length = K by rw [HR.out, ← hmr]; exact HK.out.symm)
              have HRT := Lib.hid (show R.map (·.1) = ys.take K by rw [HR.out, ← hmr]; exact HT.out.symm)
              have hKn : K < n := by omega
              have hKc : K < c := by omega
              have HO1 := Lib.hid ho
              have hclr := fun ty => Lib.run_clear_slice (P := Tryz.prog) wr 31 33 ty (.slice none 0 0) Tryz.underlying31 zero_ints rfl rfl g K (n - K) (c - K) (by omega)
                (fun j hj => by rw [HO1.out.cellAt (K + j) (by omega), List.getElem?_eq_getElem (by omega)]; rfl) (fun j _ => HO1.out.frozenAt (K + j))
              obtain ⟨zs, z1, z2, z3⟩ := stored_all (List.replicate (n - K) (.slice none 0 0)) K wr ys ho
              have HZ := Lib.hid (show (wr.setCells g K (List.replicate (n - K) (.slice none 0 0))).ownsRow B 33 1 (.slice (some ⟨g, 0, none⟩) K c) K (ys.take K) by
                have := own_shrink z1 (show K ≤ n by omega) (by omega)
                rw [Nat.mul_one, z2] at this
                exact this)
              have HGZ := Lib.hid (grown_trans hg z3)
              have hKc1 : ¬ K = c := by omega
              have hKc2 : ¬ c = K := by omega
              have hKn2 : (K : Int) ≤ (n : Int) := by omega
              have hKc3 : (K : Int) ≤ (c : Int) := by omega
              have hfin := Lib.hid hnd
              clear ho z1 z2 z3 hg HT HDr hmr HK hnd hyl hcap hne1 hne2 hmc
              go_wp2
              go_ret
              exact ⟨by rw [HK2.out] <;> rfl, by rw [HK2.out, HRT.out]; exact HZ.out, HGZ.out⟩
        · have hxy := of_decide_eq_false HBQ.out.symm
          have HD2 := Lib.hid (show ddTo ps (m + 1 + 1) = ps.take (m + 1 + 1) by
            rw [HD.out, if_neg (fun h => hxy h.2), hT.out, List.take_succ_eq_append_getElem hmn1, rat_eq hmn1])
          clear hxy HD hT
          go_wp2
          go_roundw
          case rel => exact ⟨m + 1, by omega, by go_num, HD2, HE2.out⟩
          case measure => simp [intOf]; omega
      · have hmn : m + 1 = n := by omega
        have HRP := Lib.hid (show R = ps by rw [HR.out, ← hmn, hT.out, List.take_of_length_le (by rw [HP.out]; omega)])
        have hlt' : ¬ (m : Int) + 1 < (n : Int) := by omega
        have ho := Lib.hid (own_ext hE HO.out)
        have HE1 := Lib.hid hE
        clear hmn hT hE
        go_wp2
        go_ret
        exact ⟨by rw [HRP.out, HP.out] <;> rfl, by rw [HRP.out, HP.out]; exact ho.out, Ext.grownBy HE1.out _⟩
end Go.Proofs.YtngbdopgdcjdeaaGreatDoor

namespace Go.Proofs.YtngbdopgdcjdeaaGreatDoor
open Go.RowKit

theorem own_emptyH {w' : World} (w : World) {base g : Nat} {e : TypeId} {size : Nat} {v : Value} (hw : w'.heap = (w.alloc (.cells #[] e)).heap) (hv : v = .slice (some ⟨g, 0, none⟩) 0 0) (hg : g = w.heap.size) (h : base ≤ w.heap.size) : w'.ownsRow base e size v 0 [] := by
  subst hv hg
  have := own_empty w base e size h
  unfold World.ownsRow at this ⊢
  rw [hw]; exact this
theorem ones_reads2 {w : World} {g : Nat} {x y : Value} (h0 : w.cell? ⟨g, 0, none⟩ = some x) (h1 : w.cell? ⟨g, 1, none⟩ = some y) : Reads w (some ⟨g, 0, none⟩) 2 1 [x, y] :=
  ⟨rfl, fun _ => ⟨g, 0, rfl, fun j u hj => by
    match j, hj with
    | 0, hj => simp at hj; subst hj; simpa using h0
    | 1, hj => simp at hj; subst hj; simpa using h1⟩⟩
set_option maxHeartbeats 4000000 in
theorem pySorted_any (a : Option Addr) (n c : Nat) (zs : List (Int × Int)) (hn : n ≤ 1000) (hs : zs.Pairwise lexP) (w : World) (h : Reads w a 2 n (pv zs)) :
    Calls Tryz.prog 56 #[.slice a n c] w (OwnsPts w.heap.size zs w) := by
  have hl : zs.length = n := by have := h.1; rw [pv_len] at this; omega
  subst hl
  have HS := Lib.hid hs
  clear hs
  obtain ⟨i0, hz1, hz2, hz3, hz4⟩ := info_parts point_info
  have HZI := Lib.hid (And.intro hz1 (And.intro hz2 (And.intro hz3 hz4)))
  clear hz1 hz2 hz3 hz4
  go_enter Tryz.func56, Tryz.ntmps56
  go_wp2
  go_loopw [3, 9] (fun s t wr => ∃ (j : Nat) (a1 : Option Addr) (c1 : Nat), j ≤ zs.length ∧ t = .int .i64 j ∧ s = .slice a1 j c1 ∧ wr.ownsRow w.heap.size 55 2 (.slice a1 j c1) j (pv (zs.take j)) ∧ Hid (0 < j ∨ a1 = none ∧ c1 = 0) ∧ Ext w wr) (fun _ t _ => zs.length - (intOf t).toNat)
  case atStart => exact ⟨0, none, 0, Nat.zero_le _, rfl, rfl, own_nonePt _ _, Lib.hid (.inr ⟨rfl, rfl⟩), Ext.refl _⟩
  case round =>
    obtain ⟨j, a1, c1, hj, rfl, rfl, hown, HN, hE⟩ := hrel
    by_cases hlt : j < zs.length
    · obtain ⟨b, off, rfl, hp0, hp1⟩ := (Reads.ext hE h).pair hlt
      have HB := Lib.hid (fun (i : Nat) (hi : i < j) => show lexP (pat zs i) (pat zs j) by
        rw [pat_eq hlt, pat_eq (by omega)]
        exact (List.pairwise_iff_getElem.1 HS.out) i j (by omega) hlt hi)
      have HP := Lib.hid (show pv (zs.take (j + 1)) = pv (zs.take j) ++ [.int .i64 (pat zs j).1, .int .i64 (pat zs j).2] by rw [List.take_succ_eq_append_getElem hlt, pv_append, pat_eq hlt]; rfl)
      generalize pat zs j = p at *
      obtain ⟨p1, p2⟩ := p
      simp only at hp0 hp1 HP
      have HO0 := Lib.hid hown
      have HE0 := Lib.hid hE
      obtain ⟨wo, hwo⟩ : ∃ wo, wo = wr := ⟨_, rfl⟩
      subst hwo
      clear hown hE
      go_wp2
      obtain ⟨V, hV0⟩ : ∃ V, V = wo.alloc (.cells #[.int .i64 p1, .int .i64 p2] 55) := ⟨_, rfl⟩
      obtain ⟨bb, hbb⟩ : ∃ bb, bb = wo.heap.size := ⟨_, rfl⟩
      have g0 : V.cell? ⟨bb, 0, none⟩ = some (.int .i64 p1) := by rw [hV0, hbb]; exact cell_at_newQ rfl rfl
      have g1 : V.cell? ⟨bb, 1, none⟩ = some (.int .i64 p2) := by rw [hV0, hbb]; exact cell_at_newQ rfl rfl
      have HOV := Lib.hid (own_ext (show Ext wo V by rw [hV0]; exact Ext.alloc (Ext.refl _) _) HO0.out)
      have HEV := Lib.hid (show Ext w V by rw [hV0]; exact Ext.alloc HE0.out _)
      rw [← hV0, ← hbb]
      clear hV0 hbb hp0 hp1 HO0 HE0
      go_loopw [6] (fun s wr => ∃ (i : Nat), i ≤ j ∧ s = .int .i64 i ∧ Ext V wr) (fun s _ => j - (intOf s).toNat)
      case atStart => exact ⟨0, Nat.zero_le _, rfl, Ext.refl _⟩
      case round =>
        obtain ⟨i, hi, rfl, hE⟩ := hrel
        have Pc0 := Ext.rebase hE (Ext.keeps g0)
        have Pc1 := Ext.rebase hE (Ext.keeps g1)
        have hEw := HEV.out.trans hE
        by_cases hij : i < j
        · obtain ⟨g, rfl, hg1, hg2⟩ := own_head HOV.out (by omega)
          obtain ⟨_, _, e1, y0, y1⟩ := (own_reads (own_ext hE HOV.out)).pair hij
          simp only [Option.some.injEq, Addr.mk.injEq, and_true] at e1
          obtain ⟨rfl, rfl⟩ := e1
          have HT := Lib.hid (fun w => pyBefore_any (pat zs i) (p1, p2) true (by simp [HB.out i hij]) w)
          have ei : pat (zs.take j) i = pat zs i := by simp [pat, List.getD, hij]
          rw [ei] at y0 y1
          clear ei
          generalize pat zs i = y at *
          obtain ⟨y1', y2'⟩ := y
          simp only [Nat.zero_add] at y0 y1 HT
          have Yc0 := Ext.keeps y0
          have Yc1 := Ext.keeps y1
          have hE0 := hE
          clear hE y0 y1 g0 g1
          have hE : Ext wr wr := Ext.refl _
          go_wp2
          have qY0 := fun s : Past wr => Yc0 s.w s.ext
          have qY1 := fun s : Past wr => Yc1 s.w s.ext
          have qP0 := fun s : Past wr => Pc0 s.w s.ext
          have qP1 := fun s : Past wr => Pc1 s.w s.ext
          refine wp_region_past wr (by first | exact hE | exact Ext.alloc hE _ | exact Ext.drew hE | exact Ext.drewN hE _) (by kernel_rfl) (by kernel_rfl) ?_
          repeat (go_big_quiet_step (((go_at_call 68; exact past_ext (HT.out _)))))
          refine wpQuiet_nil ?_
          intro _ hw'
          obtain ⟨⟨w1, hE⟩, hw''⟩ := hw'
          subst hw''
          clear qY0 qY1 qP0 qP1
          go_wp2
          go_roundw
          case rel => exact ⟨i + 1, by omega, by go_num, hE0.trans hE⟩
          case measure => simp [intOf]; omega
        · obtain rfl : i = j := by omega
          have hE0 := hE
          clear hE
          have hE : Ext wr wr := Ext.refl _
          clear g0 g1
          go_wp2
          have qP0 := fun s : Past wr => Pc0 s.w s.ext
          have qP1 := fun s : Past wr => Pc1 s.w s.ext
          refine wp_region_past wr (by first | exact hE | exact Ext.alloc hE _ | exact Ext.drew hE | exact Ext.drewN hE _) (by kernel_rfl) (by kernel_rfl) ?_
          repeat (go_big_quiet_step ((fail)))
          refine wpQuiet_nil ?_
          intro w1 hw'
          obtain ⟨⟨_, hE⟩, hw''⟩ := hw'
          subst hw''
          clear qP0 qP1
          have HO1 := Lib.hid (own_ext (hE0.trans hE) HOV.out)
          have hEw1 := hEw.trans hE
          replace Pc0 := Ext.rebase hE Pc0
          replace Pc1 := Ext.rebase hE Pc1
          clear hE hE0 hEw HOV HEV HB
          have hE : Ext w1 w1 := Ext.refl _
          go_wp2
          have qP0 := fun s : Past w1 => Pc0 s.w s.ext
          have qP1 := fun s : Past w1 => Pc1 s.w s.ext
          refine wp_region_past w1 (by first | exact hE | exact Ext.alloc hE _ | exact Ext.drew hE | exact Ext.drewN hE _) (by kernel_rfl) (by kernel_rfl) ?_
          repeat (go_big_quiet_step ((fail)))
          refine wpQuiet_nil ?_
          intro w2' hw'
          obtain ⟨⟨_, hE⟩, hw''⟩ := hw'
          subst hw''
          clear qP0 qP1
          have HO2 := Lib.hid (own_ext hE HO1.out)
          have HE2' := Lib.hid (hEw1.trans hE)
          replace Pc0 := Ext.rebase hE Pc0
          replace Pc1 := Ext.rebase hE Pc1
          clear hE hEw1 HO1
          have HR := Lib.hid (fun w' (z : Ext w2' w') => own_reads (own_ext z HO2.out))
          obtain ⟨wr, hwr⟩ : ∃ wr, wr = w2' := ⟨_, rfl⟩
          subst hwr
          rcases Nat.eq_zero_or_pos i with h0 | h0
          · subst h0
            obtain ⟨rfl, rfl⟩ : a1 = none ∧ c1 = 0 := by
              rcases HN.out with h | h
              · omega
              · exact h
            go_wp2
            go_region_held3 (fun w' => Ext wr w') (first | exact HE4.out | exact HE3.out | exact Ext.alloc HE2.out _ | exact HE2.out | (repeat (first | exact Ext.refl _ | assumption | apply Ext.alloc | apply Ext.drew | apply Ext.drewN | (refine Ext.trans ?_ (by assumption)) | (refine Ext.setCell ?_ (by (try simp) <;> omega) _)))) (first | (have t3 := H3; clear t3; refine step_app_N _ (by rfl) _ _ 59 (by rfl) wr.heap.size 55 i0 _ 2 16 Tryz.underlying59 HZI.out.1 HZI.out.2.1 HZI.out.2.2.1 HZI.out.2.2.2 rfl (by omega) (1) (.slice _ _ _) _ _ (by rfl) H3.out _ 0 _ ([]) (by rfl) (Reads.zero) (by simp) (by omega) (by unfold maxLen; omega) (by omega) (Ext.size HE3.out) ?_; intro a4 c4 w4 hown4 hg4; have H4 := Lib.hid hown4; have HE4 := Lib.hid (Ext.grown (a := wr) HE3.out hg4 (fun k hk => (H3.out.lt k hk).1)); clear hown4 hg4) | (have t2 := H2; clear t2; refine step_app_N _ (by rfl) _ _ 59 (by rfl) wr.heap.size 55 i0 _ 2 16 Tryz.underlying59 HZI.out.1 HZI.out.2.1 HZI.out.2.2.1 HZI.out.2.2.2 rfl (by omega) (1) (.slice _ _ _) _ _ (by rfl) (by first | (with_reducible exact H2.out) | exact own_ext (Ext.alloc (Ext.refl _) _) H2.out) _ 1 _ [.int .i64 p1, .int .i64 p2] (by rfl) (ones_reads2 (by first | (with_reducible assumption) | (simp; done)) (by first | (with_reducible assumption) | (simp; done))) (by simp [Value.oneCell']) (by omega) (by unfold maxLen; omega) (by omega) (Ext.size (w := wr) (by first | (with_reducible exact HE2.out) | exact Ext.alloc HE2.out _)) ?_; intro a3 c3 w3 hown3 hg3; have H3 := Lib.hid hown3; have HE3 := Lib.hid (Ext.grown (a := wr) (by first | (with_reducible exact HE2.out) | exact Ext.alloc HE2.out _) hg3 (fun k hk => (H2.out.lt k hk).1)); clear hown3 hg3) | (refine step_app_N _ (by rfl) _ _ 59 (by rfl) wr.heap.size 55 i0 _ 2 16 Tryz.underlying59 HZI.out.1 HZI.out.2.1 HZI.out.2.2.1 HZI.out.2.2.2 rfl (by omega) (0) (.slice (some ⟨_, 0, none⟩) 0 0) 0 [] (by rfl) (by first | exact own_emptyH wr rfl rfl rfl (Nat.le_refl _) | exact own_emptyH (wr.alloc (.cells #[.int .i64 p1, .int .i64 p2] 55)) rfl rfl (by simp) (by simp) | exact own_ext (show Ext (wr.alloc (.cells #[] 55)) _ from (by repeat (first | exact Ext.refl _ | assumption | apply Ext.alloc | apply Ext.drew | apply Ext.drewN | (refine Ext.trans ?_ (by assumption)) | (refine Ext.setCell ?_ (by (try simp) <;> omega) _)))) (own_emptyH wr rfl rfl rfl (Nat.le_refl _))) _ 0 _ (pv (zs.take 0)) (by rfl) (HR.out _ (by repeat (first | exact Ext.refl _ | assumption | apply Ext.alloc | apply Ext.drew | apply Ext.drewN | (refine Ext.trans ?_ (by assumption)) | (refine Ext.setCell ?_ (by (try simp) <;> omega) _)))) (pv_one _) (by omega) (by unfold maxLen; omega) (by omega) (Ext.size (w := wr) (by repeat (first | exact Ext.refl _ | assumption | apply Ext.alloc | apply Ext.drew | apply Ext.drewN | (refine Ext.trans ?_ (by assumption)) | (refine Ext.setCell ?_ (by (try simp) <;> omega) _)))) ?_; intro a2 c2 w2 hown2 hg2; simp only [List.nil_append] at hown2; have H2 := Lib.hid hown2; have HE2 := Lib.hid (Ext.grown (a := wr) (by repeat (first | exact Ext.refl _ | assumption | apply Ext.alloc | apply Ext.drew | apply Ext.drewN | (refine Ext.trans ?_ (by assumption)) | (refine Ext.setCell ?_ (by (try simp) <;> omega) _))) hg2 (fun k hk => by simp [Value.ownBlock] at hk; omega)); (try (have j0_0 := grown_keep (b := wr.heap.size) (o := 0) (v := .int .i64 p1) hg2; simp [Value.ownBlock] at j0_0)); (try (have j0_1 := grown_keep (b := wr.heap.size) (o := 1) (v := .int .i64 p2) hg2; simp [Value.ownBlock] at j0_1)); (try (have j1_0 := grown_keep (b := wr.heap.size + 1) (o := 0) (v := .int .i64 p1) hg2; simp [Value.ownBlock] at j1_0)); (try (have j1_1 := grown_keep (b := wr.heap.size + 1) (o := 1) (v := .int .i64 p2) hg2; simp [Value.ownBlock] at j1_1)); clear hown2 hg2))
            all_goals (
              go_wp2
              go_roundw
              case rel => exact ⟨1, a4, c4, by omega, by go_num, by simp, by rw [HP.out]; simpa using own_mono (Ext.size HE2'.out) H4.out, Lib.hid (.inl (by omega)), HE2'.out.trans HE4.out⟩
              case measure => simp [intOf]; omega)
          · obtain ⟨g, rfl, hg1, hg2⟩ := own_head HO2.out h0
            have hcap := (own_capQ HO2.out).1
            by_cases hcc : c1 = i
            all_goals (
              go_wp2
              go_region_held3 (fun w' => Ext wr w') (first | exact HE4.out | exact HE3.out | exact Ext.alloc HE2.out _ | exact HE2.out | (repeat (first | exact Ext.refl _ | assumption | apply Ext.alloc | apply Ext.drew | apply Ext.drewN | (refine Ext.trans ?_ (by assumption)) | (refine Ext.setCell ?_ (by (try simp) <;> omega) _)))) (first | (have t3 := H3; clear t3; refine step_app_N _ (by rfl) _ _ 59 (by rfl) wr.heap.size 55 i0 _ 2 16 Tryz.underlying59 HZI.out.1 HZI.out.2.1 HZI.out.2.2.1 HZI.out.2.2.2 rfl (by omega) (i + 1) (.slice _ _ _) _ _ (by rfl) H3.out _ 0 _ ([]) (by rfl) (Reads.zero) (by simp) (by omega) (by unfold maxLen; omega) (by omega) (Ext.size HE3.out) ?_; intro a4 c4 w4 hown4 hg4; have H4 := Lib.hid hown4; have HE4 := Lib.hid (Ext.grown (a := wr) HE3.out hg4 (fun k hk => (H3.out.lt k hk).1)); clear hown4 hg4) | (have t2 := H2; clear t2; refine step_app_N _ (by rfl) _ _ 59 (by rfl) wr.heap.size 55 i0 _ 2 16 Tryz.underlying59 HZI.out.1 HZI.out.2.1 HZI.out.2.2.1 HZI.out.2.2.2 rfl (by omega) (i + 1) (.slice _ _ _) _ _ (by rfl) (by first | (with_reducible exact H2.out) | exact own_ext (Ext.alloc (Ext.refl _) _) H2.out) _ 1 _ [.int .i64 p1, .int .i64 p2] (by rfl) (ones_reads2 (by first | (with_reducible assumption) | (simp; done)) (by first | (with_reducible assumption) | (simp; done))) (by simp [Value.oneCell']) (by omega) (by unfold maxLen; omega) (by omega) (Ext.size (w := wr) (by first | (with_reducible exact HE2.out) | exact Ext.alloc HE2.out _)) ?_; intro a3 c3 w3 hown3 hg3; have H3 := Lib.hid hown3; have HE3 := Lib.hid (Ext.grown (a := wr) (by first | (with_reducible exact HE2.out) | exact Ext.alloc HE2.out _) hg3 (fun k hk => (H2.out.lt k hk).1)); clear hown3 hg3) | (refine step_app_N _ (by rfl) _ _ 59 (by rfl) wr.heap.size 55 i0 _ 2 16 Tryz.underlying59 HZI.out.1 HZI.out.2.1 HZI.out.2.2.1 HZI.out.2.2.2 rfl (by omega) (i) (.slice (some ⟨_, 0, none⟩) 0 0) 0 [] (by rfl) (by first | exact own_emptyH wr rfl rfl rfl (Nat.le_refl _) | exact own_emptyH (wr.alloc (.cells #[.int .i64 p1, .int .i64 p2] 55)) rfl rfl (by simp) (by simp) | exact own_ext (show Ext (wr.alloc (.cells #[] 55)) _ from (by repeat (first | exact Ext.refl _ | assumption | apply Ext.alloc | apply Ext.drew | apply Ext.drewN | (refine Ext.trans ?_ (by assumption)) | (refine Ext.setCell ?_ (by (try simp) <;> omega) _)))) (own_emptyH wr rfl rfl rfl (Nat.le_refl _))) _ i _ (pv (zs.take i)) (by rfl) (HR.out _ (by repeat (first | exact Ext.refl _ | assumption | apply Ext.alloc | apply Ext.drew | apply Ext.drewN | (refine Ext.trans ?_ (by assumption)) | (refine Ext.setCell ?_ (by (try simp) <;> omega) _)))) (pv_one _) (by omega) (by unfold maxLen; omega) (by omega) (Ext.size (w := wr) (by repeat (first | exact Ext.refl _ | assumption | apply Ext.alloc | apply Ext.drew | apply Ext.drewN | (refine Ext.trans ?_ (by assumption)) | (refine Ext.setCell ?_ (by (try simp) <;> omega) _)))) ?_; intro a2 c2 w2 hown2 hg2; simp only [List.nil_append] at hown2; have H2 := Lib.hid hown2; have HE2 := Lib.hid (Ext.grown (a := wr) (by repeat (first | exact Ext.refl _ | assumption | apply Ext.alloc | apply Ext.drew | apply Ext.drewN | (refine Ext.trans ?_ (by assumption)) | (refine Ext.setCell ?_ (by (try simp) <;> omega) _))) hg2 (fun k hk => by simp [Value.ownBlock] at hk; omega)); (try (have j0_0 := grown_keep (b := wr.heap.size) (o := 0) (v := .int .i64 p1) hg2; simp [Value.ownBlock] at j0_0)); (try (have j0_1 := grown_keep (b := wr.heap.size) (o := 1) (v := .int .i64 p2) hg2; simp [Value.ownBlock] at j0_1)); (try (have j1_0 := grown_keep (b := wr.heap.size + 1) (o := 0) (v := .int .i64 p1) hg2; simp [Value.ownBlock] at j1_0)); (try (have j1_1 := grown_keep (b := wr.heap.size + 1) (o := 1) (v := .int .i64 p2) hg2; simp [Value.ownBlock] at j1_1)); clear hown2 hg2))
              all_goals (
                go_wp2
                go_roundw
                case rel => exact ⟨i + 1, a4, c4, by omega, by go_num, by simp, by rw [HP.out]; simpa using own_mono (Ext.size HE2'.out) H4.out, Lib.hid (.inl (by omega)), HE2'.out.trans HE4.out⟩
                case measure => simp [intOf]; omega))
    · obtain rfl : j = zs.length := by omega
      rw [List.take_length] at hown
      go_wp2
      go_ret
      exact ⟨a1, c1, rfl, hown, hE⟩

end Go.Proofs.YtngbdopgdcjdeaaGreatDoor

namespace Go.Proofs.YtngbdopgdcjdeaaGreatDoor
open Go.RowKit

theorem own_either {w : World} {B : Nat} {E : TypeId} {size : Nat} {a : Option Addr} {n c : Nat} {xs : List Value} (k : w.ownsRow B E size (.slice a n c) n xs) : (a = none ∧ n = 0 ∧ c = 0) ∨ ∃ g, a = some ⟨g, 0, none⟩ := by
  rcases k.2 with ⟨h, h0⟩ | ⟨g, cap, cur, hv, _⟩
  · simp only [Value.slice.injEq] at h; exact .inl h
  · simp only [Value.slice.injEq] at hv; exact .inr ⟨g, hv.1⟩
theorem ones_readsV {w : World} {g : Nat} {x : Value} (h0 : w.cell? ⟨g, 0, none⟩ = some x) : Reads w (some ⟨g, 0, none⟩) 1 1 [x] :=
  ⟨rfl, fun _ => ⟨g, 0, rfl, fun j u hj => by
    match j, hj with
    | 0, hj => simp at hj; subst hj; simpa using h0⟩⟩
/-- A slice of slices of ints: the outer row is the call's own, the inner ones are read, their values keep to M. -/
def OwnsRdM (B : Nat) (ys : List (List Int)) (M : Value → Prop) (w : World) (r : Ending) (w' : World) : Prop :=
  ∃ a c vs, r = .returned (.slice a ys.length c) ∧ w'.ownsRow B 33 1 (.slice a ys.length c) ys.length vs ∧ VA w' vs ys ∧ (∀ v ∈ vs, M v) ∧ Ext w w'
theorem memM_nil {M : Value → Prop} {vs : List Value} {x : Value} (h : ∀ v ∈ vs, M v) (hx : M x) (k : Nat) : ∀ v ∈ vs.take k ++ [x] ++ [], M v := by
  intro v hv
  simp only [List.mem_append, List.mem_singleton, List.not_mem_nil, or_false] at hv
  rcases hv with hv | rfl
  · exact h v (List.mem_of_mem_take hv)
  · exact hx
theorem memM_drop {M : Value → Prop} {vs : List Value} {x : Value} (h : ∀ v ∈ vs, M v) (hx : M x) (k : Nat) : ∀ v ∈ vs.take k ++ [x] ++ vs.drop k, M v := by
  intro v hv
  simp only [List.mem_append, List.mem_singleton] at hv
  rcases hv with (hv | rfl) | hv
  · exact h v (List.mem_of_mem_take hv)
  · exact hx
  · exact h v (List.mem_of_mem_drop hv)
theorem ints_info2 : (Tryz.prog.info? 33).map (fun i => (i.zero, i.size, i.bytes)) = some (some (.slice none 0 0), 1, 24) := by kernel_rfl
set_option maxHeartbeats 8000000 in
set_option maxRecDepth 100000 in
theorem cePutM_any (a ax : Option Addr) (n c B nx cx : Nat) (vs : List Value) (xs : List (List Int)) (x : List Int) (M : Value → Prop) (hMv : ∀ v ∈ vs, M v) (hMx : M (.slice ax nx cx)) (hn : n ≤ 100000) (hnx : nx ≤ 1000) (hln : ∀ y ∈ xs, y.length ≤ 1000) (w : World) (hB : B ≤ w.heap.size) (h : w.ownsRow B 33 1 (.slice a n c) n vs) (hv : VA w vs xs) (hx : Reads w ax 1 nx (iv x)) :
    Calls Tryz.prog 24 #[.slice a n c, .slice ax nx cx] w (OwnsRdM B (putR xs x) M w) := by
  have HLN := Lib.hid hln
  have HMV := Lib.hid hMv
  have HMX := Lib.hid hMx
  clear hln hMv hMx
  have HLZ : Hid (xs.length = n) := by show xs.length = n; have := h.1; have := hv.len; omega
  obtain ⟨i0, hz1, hz2, hz3, hz4⟩ := info_parts ints_info2
  have HZI := Lib.hid (And.intro hz1 (And.intro hz2 (And.intro hz3 hz4)))
  clear hz1 hz2 hz3 hz4
  have HX := Lib.hid (fun w' (e : Ext w w') => hx.ext e)
  have HV := Lib.hid (fun w' (e : Ext w w') => hv.ext e)
  have HOW := Lib.hid (fun w' (e : Ext w w') => own_ext e h)
  have hxl : x.length = nx := by have := hx.1; rw [iv_len] at this; omega
  have HXL := Lib.hid hxl
  have HON := Lib.hid hv.one
  clear hx hv h hxl
  go_enter Tryz.func24, Tryz.ntmps24
  go_wp2
  go_loopw [5] (fun s wr => ∃ (i : Nat), i ≤ n ∧ s = .int .i64 i ∧ Hid (∀ q, q < i → ltL (xs.getD q []) x = true) ∧ Ext w wr) (fun s _ => n - (intOf s).toNat)
  case atStart => exact ⟨0, Nat.zero_le _, rfl, Lib.hid (fun q hq => by omega), Ext.refl _⟩
  case round =>
    obtain ⟨i, hi, rfl, HQ, hE⟩ := hrel
    have hbB0 := hE.size
    by_cases hin : i < n
    · obtain ⟨m, rfl⟩ : ∃ m, n = i + 1 + m := ⟨n - i - 1, by omega⟩
      have hgt : decide ((i : Int) < (i : Int) + 1 + (m : Int)) = true := decide_eq_true (by omega)
      have hown := HOW.out _ hE
      obtain ⟨g, rfl, hg1, hg2⟩ := own_head hown (by omega)
      have hcap := (own_capQ hown).1
      obtain ⟨ai, ci, hvi, hri⟩ := VA.at i (HV.out _ hE) (by have := HLZ.out; omega)
      have hc : wr.cell? ⟨g, i, none⟩ = some (.slice ai (xs.getD i []).length ci) := (hown.cellAt i (by omega)).trans hvi
      have HK := Lib.hid (putR_at (x := x) (l := xs) i (by have := HLZ.out; omega) HQ.out)
      have HQ1 := Lib.hid (fun (e : ltL (xs.getD i []) x = true) q (hq : q < i + 1) => show ltL (xs.getD q []) x = true by
        rcases (show q < i ∨ q = i by omega) with h | h
        · exact HQ.out q h
        · subst h; exact e)
      have hlen := HLN.out (xs.getD i []) (by have := HLZ.out; rw [show xs.getD i [] = xs[i]'(by omega) by simp [List.getD, show i < xs.length by omega]]; exact List.getElem_mem _)
      generalize xs.getD i [] = z at *
      have HB1 := Lib.hid (fun w' (e : Ext wr w') => ceBefore_any ai _ z.length nx ci cx z x (by omega) (by omega) w' (hri.ext e) (HX.out _ (hE.trans e)))
      have HB2 := Lib.hid (fun w' (e : Ext wr w') => l1Same_any ai _ z.length nx ci cx z x (by omega) (by omega) w' (hri.ext e) (HX.out _ (hE.trans e)))
      have HC := Lib.hid (Ext.keeps hc)
      have hgl : g < wr.heap.size := hg2
      cases hlt : ltL z x
      · rw [hlt] at HB1
        clear HQ1
        go_wp2_with fail
        refine (HB1.out _ (Ext.refl _)).mono ?_
        rintro e w1 ⟨rfl, hb1⟩
        have e1 := hE.trans hb1
        have hc1 := HC.out _ hb1
        have hgl1 : g < w1.heap.size := Nat.lt_of_lt_of_le hgl hb1.size
        clear hc
        by_cases hzx : z = x
        · have HP := Lib.hid (show putR xs x = xs by rw [HK.out (fun _ => hlt), if_pos ⟨by have := HLZ.out; omega, hzx⟩])
          rw [decide_eq_true hzx] at HB2
          clear HK hzx hlt
          go_wp2_with fail
          refine (HB2.out _ hb1).mono ?_
          rintro e w2 ⟨rfl, hb2⟩
          have e2 := e1.trans hb2
          have hL : (putR xs x).length = i + 1 + m := by rw [HP.out]; exact HLZ.out
          have HL := Lib.hid hL
          clear hL
          go_wp2
          go_ret
          exact ⟨_, _, vs, (by rw [HL.out] <;> rfl), (by rw [HL.out]; exact HOW.out _ e2), (by rw [HP.out]; exact HV.out _ e2), HMV.out, e2⟩
        · have HP := Lib.hid (show putR xs x = xs.take i ++ ([x] ++ xs.drop i) by rw [HK.out (fun _ => hlt), if_neg (fun e => hzx e.2)])
          rw [decide_eq_false hzx] at HB2
          clear HK hzx hlt
          go_wp2_with fail
          refine (HB2.out _ hb1).mono ?_
          rintro e wr2 ⟨rfl, hb2⟩
          obtain ⟨wr, hwr⟩ : ∃ w0, w0 = wr2 := ⟨_, rfl⟩
          subst hwr
          have hEw := Lib.hid (e1.trans hb2)
          have hbB : B ≤ wr.heap.size := Nat.le_trans hB hEw.out.size
          have HL := Lib.hid (show (putR xs x).length = i + 1 + (m + 1) by rw [HP.out]; have := HLZ.out; simp; omega)
          have HO3 := Lib.hid (HOW.out _ hEw.out)
          have HRA := Lib.hid (fun w' (e : Ext wr w') => show Reads w' (some ⟨g, 0, none⟩) 1 i (vs.take i) by
            have := (own_reads (own_ext e HO3.out)).take (k := i) (by omega)
            rwa [Nat.mul_one] at this)
          have HRC := Lib.hid (fun w' (e : Ext wr w') => show Reads w' (some ⟨g, i, none⟩) 1 (m + 1) (vs.drop i) by
            have := (own_reads (own_ext e HO3.out)).drop (k := i) (by omega)
            rw [Nat.mul_one, Nat.zero_add] at this
            rwa [show i + 1 + m - i = m + 1 by omega] at this)
          have HVA := Lib.hid (fun w' (e : Ext w w') => show VA w' (vs.take i ++ [.slice ax nx cx] ++ vs.drop i) (putR xs x) by
            rw [HP.out, List.append_assoc]
            exact ((HV.out _ e).take i).append (VA.append (vs := [.slice ax nx cx]) (xs := [x]) ⟨⟨ax, cx, by rw [HXL.out], by rw [HXL.out]; exact HX.out _ e⟩, trivial⟩ ((HV.out _ e).drop i)))
          have e1n : i + 1 + m - i = m + 1 := by omega
          have e2n : ((i + 1 + m - i : Nat) : Int) = (m : Int) + 1 := by omega
          have hic2 : i ≤ c := by omega
          have hic : ¬ c = i := by omega
          have hJ1 : (i : Int) ≤ (i : Int) + 1 + (m : Int) := by omega
          have hJ2 : (0 : Int) ≤ (i : Int) := by omega
          have hJ3 : (i : Int) ≤ (c : Int) := by omega
          have hJ4 : (i : Int) + 1 + (m : Int) ≤ (c : Int) := by omega
          have hJ5 : ¬ ((i : Int) + 1 + (m : Int) < (i : Int)) := by omega
          have hJ6 : ¬ ((c : Int) < (i : Int)) := by omega
          have hJ7 : ¬ ((c : Int) < (i : Int) + 1 + (m : Int)) := by omega
          clear HB1 HB2 hri hvi hown hc1 hb2 hb1 e1 hE hgl1
          go_wp2
          go_region_held3 (fun w' => Ext wr w') (first | exact HE4.out | exact HE3.out | exact Ext.alloc HE2.out _ | exact HE2.out | (repeat (first | exact Ext.refl _ | assumption | apply Ext.alloc | apply Ext.drew | apply Ext.drewN | (refine Ext.trans ?_ (by assumption)) | (refine Ext.setCell ?_ (by (try simp) <;> omega) _)))) (first | (have t3 := H3; clear t3; refine step_app_N _ (by rfl) _ _ 31 (by rfl) wr.heap.size 33 i0 _ 1 24 Tryz.underlying31 HZI.out.1 HZI.out.2.1 HZI.out.2.2.1 HZI.out.2.2.2 rfl (by omega) (i + 1 + (m + 1)) (.slice _ _ _) _ _ (by rfl) H3.out _ _ _ (vs.drop i) (by rfl) (HRC.out _ HE3.out) (fun u hu => HON.out u (List.mem_of_mem_drop hu)) (by omega) (by unfold maxLen; omega) (by omega) (Ext.size HE3.out) ?_; intro a4 c4 w4 hown4 hg4; have H4 := Lib.hid hown4; have HE4 := Lib.hid (Ext.grown (a := wr) HE3.out hg4 (fun k hk => (H3.out.lt k hk).1)); clear hown4 hg4) | (have t2 := H2; clear t2; refine step_app_N _ (by rfl) _ _ 31 (by rfl) wr.heap.size 33 i0 _ 1 24 Tryz.underlying31 HZI.out.1 HZI.out.2.1 HZI.out.2.2.1 HZI.out.2.2.2 rfl (by omega) (i + 1) (.slice _ _ _) _ _ (by rfl) (by first | (with_reducible exact H2.out) | exact own_ext (Ext.alloc (Ext.refl _) _) H2.out) _ 1 _ [.slice ax nx cx] (by rfl) (ones_readsV (by first | (with_reducible assumption) | (simp; done))) (by simp [Value.oneCell']) (by omega) (by unfold maxLen; omega) (by omega) (Ext.size (w := wr) (by first | (with_reducible exact HE2.out) | exact Ext.alloc HE2.out _)) ?_; intro a3 c3 w3 hown3 hg3; have H3 := Lib.hid hown3; have HE3 := Lib.hid (Ext.grown (a := wr) (by first | (with_reducible exact HE2.out) | exact Ext.alloc HE2.out _) hg3 (fun k hk => (H2.out.lt k hk).1)); clear hown3 hg3) | (refine step_app_N _ (by rfl) _ _ 31 (by rfl) wr.heap.size 33 i0 _ 1 24 Tryz.underlying31 HZI.out.1 HZI.out.2.1 HZI.out.2.2.1 HZI.out.2.2.2 rfl (by omega) (i) (.slice (some ⟨_, 0, none⟩) 0 0) 0 [] (by rfl) (by first | exact own_emptyH wr rfl rfl rfl (Nat.le_refl _) | exact own_emptyH (wr.alloc (.cells #[.slice ax nx cx] 33)) rfl rfl (by simp) (by simp) | exact own_ext (show Ext (wr.alloc (.cells #[] 33)) _ from (by repeat (first | exact Ext.refl _ | assumption | apply Ext.alloc | apply Ext.drew | apply Ext.drewN | (refine Ext.trans ?_ (by assumption)) | (refine Ext.setCell ?_ (by (try simp) <;> omega) _)))) (own_emptyH wr rfl rfl rfl (Nat.le_refl _))) _ i _ (vs.take i) (by rfl) (HRA.out _ (by repeat (first | exact Ext.refl _ | assumption | apply Ext.alloc | apply Ext.drew | apply Ext.drewN | (refine Ext.trans ?_ (by assumption)) | (refine Ext.setCell ?_ (by (try simp) <;> omega) _)))) (fun u hu => HON.out u (List.mem_of_mem_take hu)) (by omega) (by unfold maxLen; omega) (by omega) (Ext.size (w := wr) (by repeat (first | exact Ext.refl _ | assumption | apply Ext.alloc | apply Ext.drew | apply Ext.drewN | (refine Ext.trans ?_ (by assumption)) | (refine Ext.setCell ?_ (by (try simp) <;> omega) _)))) ?_; intro a2 c2 w2 hown2 hg2; simp only [List.nil_append] at hown2; have H2 := Lib.hid hown2; have HE2 := Lib.hid (Ext.grown (a := wr) (by repeat (first | exact Ext.refl _ | assumption | apply Ext.alloc | apply Ext.drew | apply Ext.drewN | (refine Ext.trans ?_ (by assumption)) | (refine Ext.setCell ?_ (by (try simp) <;> omega) _))) hg2 (fun k hk => by simp [Value.ownBlock] at hk; omega)); (try (have j0_0 := grown_keep (b := wr.heap.size) (o := 0) (v := .slice ax nx cx) hg2; simp [Value.ownBlock] at j0_0)); (try (have j1_0 := grown_keep (b := wr.heap.size + 1) (o := 0) (v := .slice ax nx cx) hg2; simp [Value.ownBlock] at j1_0)); clear hown2 hg2))
          all_goals (
            go_wp2
            go_ret
            exact ⟨a4, c4, vs.take i ++ [.slice ax nx cx] ++ vs.drop i, (by rw [HL.out] <;> rfl), (by rw [HL.out]; simpa using own_mono hbB H4.out), (HVA.out _ (hEw.out.trans HE4.out)), memM_drop HMV.out HMX.out i, hEw.out.trans HE4.out⟩)
      · rw [hlt] at HB1
        have HQ2 := Lib.hid (HQ1.out hlt)
        clear HQ1 HQ HK hlt
        go_wp2_with fail
        refine (HB1.out _ (Ext.refl _)).mono ?_
        rintro e w1 ⟨rfl, hb1⟩
        have e1 := hE.trans hb1
        go_wp2
        go_roundw
        case rel => exact ⟨i + 1, by omega, by go_num, HQ2, e1⟩
        case measure => simp [intOf]; omega
    · obtain rfl : i = n := by omega
      have HP := Lib.hid (show putR xs x = xs.take i ++ ([x] ++ []) by
        have := HLZ.out
        rw [putR_at (x := x) (l := xs) i (by omega) HQ.out (fun h => by omega), if_neg (by omega), List.drop_of_length_le (by omega)])
      have HL := Lib.hid (show (putR xs x).length = i + 1 by rw [HP.out]; have := HLZ.out; simp; omega)
      clear HQ
      have hg0 : decide ((i : Int) < (i : Int)) = false := by simp
      have hEw := Lib.hid hE
      have hbB : B ≤ wr.heap.size := Nat.le_trans hB hE.size
      have HO3 := Lib.hid (HOW.out _ hE)
      have hcap := (own_capQ HO3.out).1
      have hVL : Hid (vs.length = i) := Lib.hid (by have := (HV.out _ hE).len; have := HLZ.out; omega)
      rcases own_either HO3.out with ⟨rfl, rfl, rfl⟩ | ⟨g, rfl⟩
      · have HRA := Lib.hid (fun w' (_ : Ext wr w') => show Reads w' none 1 0 (vs.take 0) from Reads.zero)
        have HVA := Lib.hid (fun w' (e : Ext w w') => show VA w' (vs.take 0 ++ [.slice ax nx cx] ++ []) (putR xs x) by
          rw [HP.out, List.append_assoc]
          exact ((HV.out _ e).take 0).append (VA.append (vs := [.slice ax nx cx]) (xs := [x]) (us := []) (ys := []) ⟨⟨ax, cx, by rw [HXL.out], by rw [HXL.out]; exact HX.out _ e⟩, trivial⟩ trivial))
        clear hE hg0
        go_wp2
        go_region_held3 (fun w' => Ext wr w') (first | exact HE4.out | exact HE3.out | exact Ext.alloc HE2.out _ | exact HE2.out | (repeat (first | exact Ext.refl _ | assumption | apply Ext.alloc | apply Ext.drew | apply Ext.drewN | (refine Ext.trans ?_ (by assumption)) | (refine Ext.setCell ?_ (by (try simp) <;> omega) _)))) (first | (have t3 := H3; clear t3; refine step_app_N _ (by rfl) _ _ 31 (by rfl) wr.heap.size 33 i0 _ 1 24 Tryz.underlying31 HZI.out.1 HZI.out.2.1 HZI.out.2.2.1 HZI.out.2.2.2 rfl (by omega) (1) (.slice _ _ _) _ _ (by rfl) H3.out _ _ _ ([]) (by rfl) (Reads.zero) (by simp) (by omega) (by unfold maxLen; omega) (by omega) (Ext.size HE3.out) ?_; intro a4 c4 w4 hown4 hg4; have H4 := Lib.hid hown4; have HE4 := Lib.hid (Ext.grown (a := wr) HE3.out hg4 (fun k hk => (H3.out.lt k hk).1)); clear hown4 hg4) | (have t2 := H2; clear t2; refine step_app_N _ (by rfl) _ _ 31 (by rfl) wr.heap.size 33 i0 _ 1 24 Tryz.underlying31 HZI.out.1 HZI.out.2.1 HZI.out.2.2.1 HZI.out.2.2.2 rfl (by omega) (1) (.slice _ _ _) _ _ (by rfl) (by first | (with_reducible exact H2.out) | exact own_ext (Ext.alloc (Ext.refl _) _) H2.out) _ 1 _ [.slice ax nx cx] (by rfl) (ones_readsV (by first | (with_reducible assumption) | (simp; done))) (by simp [Value.oneCell']) (by omega) (by unfold maxLen; omega) (by omega) (Ext.size (w := wr) (by first | (with_reducible exact HE2.out) | exact Ext.alloc HE2.out _)) ?_; intro a3 c3 w3 hown3 hg3; have H3 := Lib.hid hown3; have HE3 := Lib.hid (Ext.grown (a := wr) (by first | (with_reducible exact HE2.out) | exact Ext.alloc HE2.out _) hg3 (fun k hk => (H2.out.lt k hk).1)); clear hown3 hg3) | (refine step_app_N _ (by rfl) _ _ 31 (by rfl) wr.heap.size 33 i0 _ 1 24 Tryz.underlying31 HZI.out.1 HZI.out.2.1 HZI.out.2.2.1 HZI.out.2.2.2 rfl (by omega) (0) (.slice (some ⟨_, 0, none⟩) 0 0) 0 [] (by rfl) (by first | exact own_emptyH wr rfl rfl rfl (Nat.le_refl _) | exact own_emptyH (wr.alloc (.cells #[.slice ax nx cx] 33)) rfl rfl (by simp) (by simp) | exact own_ext (show Ext (wr.alloc (.cells #[] 33)) _ from (by repeat (first | exact Ext.refl _ | assumption | apply Ext.alloc | apply Ext.drew | apply Ext.drewN | (refine Ext.trans ?_ (by assumption)) | (refine Ext.setCell ?_ (by (try simp) <;> omega) _)))) (own_emptyH wr rfl rfl rfl (Nat.le_refl _))) _ 0 _ (vs.take 0) (by rfl) (HRA.out _ (by repeat (first | exact Ext.refl _ | assumption | apply Ext.alloc | apply Ext.drew | apply Ext.drewN | (refine Ext.trans ?_ (by assumption)) | (refine Ext.setCell ?_ (by (try simp) <;> omega) _)))) (fun u hu => HON.out u (List.mem_of_mem_take hu)) (by omega) (by unfold maxLen; omega) (by omega) (Ext.size (w := wr) (by repeat (first | exact Ext.refl _ | assumption | apply Ext.alloc | apply Ext.drew | apply Ext.drewN | (refine Ext.trans ?_ (by assumption)) | (refine Ext.setCell ?_ (by (try simp) <;> omega) _)))) ?_; intro a2 c2 w2 hown2 hg2; simp only [List.nil_append] at hown2; have H2 := Lib.hid hown2; have HE2 := Lib.hid (Ext.grown (a := wr) (by repeat (first | exact Ext.refl _ | assumption | apply Ext.alloc | apply Ext.drew | apply Ext.drewN | (refine Ext.trans ?_ (by assumption)) | (refine Ext.setCell ?_ (by (try simp) <;> omega) _))) hg2 (fun k hk => by simp [Value.ownBlock] at hk; omega)); (try (have j0_0 := grown_keep (b := wr.heap.size) (o := 0) (v := .slice ax nx cx) hg2; simp [Value.ownBlock] at j0_0)); (try (have j1_0 := grown_keep (b := wr.heap.size + 1) (o := 0) (v := .slice ax nx cx) hg2; simp [Value.ownBlock] at j1_0)); clear hown2 hg2))
        all_goals (
          go_wp2
          go_ret
          exact ⟨a4, c4, vs.take 0 ++ [.slice ax nx cx] ++ [], (by rw [HL.out] <;> rfl), (by rw [HL.out]; simpa using own_mono hbB H4.out), (HVA.out _ (hEw.out.trans HE4.out)), memM_nil HMV.out HMX.out 0, hEw.out.trans HE4.out⟩)
      · by_cases hcc : c = i
        · subst hcc
          have HRA := Lib.hid (fun w' (e : Ext wr w') => show Reads w' (some ⟨g, 0, none⟩) 1 c (vs.take c) by
            have := (own_reads (own_ext e HO3.out)).take (k := c) (by omega)
            rwa [Nat.mul_one] at this)
          have HVA := Lib.hid (fun w' (e : Ext w w') => show VA w' (vs.take c ++ [.slice ax nx cx] ++ []) (putR xs x) by
            rw [HP.out, List.append_assoc]
            exact ((HV.out _ e).take c).append (VA.append (vs := [.slice ax nx cx]) (xs := [x]) (us := []) (ys := []) ⟨⟨ax, cx, by rw [HXL.out], by rw [HXL.out]; exact HX.out _ e⟩, trivial⟩ trivial))
          have hJ1 : ¬ ((c : Int) < (c : Int)) := by omega
          have hJ2 : (0 : Int) ≤ (c : Int) := by omega
          clear hE hg0
          go_wp2
          go_region_held3 (fun w' => Ext wr w') (first | exact HE4.out | exact HE3.out | exact Ext.alloc HE2.out _ | exact HE2.out | (repeat (first | exact Ext.refl _ | assumption | apply Ext.alloc | apply Ext.drew | apply Ext.drewN | (refine Ext.trans ?_ (by assumption)) | (refine Ext.setCell ?_ (by (try simp) <;> omega) _)))) (first | (have t3 := H3; clear t3; refine step_app_N _ (by rfl) _ _ 31 (by rfl) wr.heap.size 33 i0 _ 1 24 Tryz.underlying31 HZI.out.1 HZI.out.2.1 HZI.out.2.2.1 HZI.out.2.2.2 rfl (by omega) (c + 1) (.slice _ _ _) _ _ (by rfl) H3.out _ _ _ ([]) (by rfl) (Reads.zero) (by simp) (by omega) (by unfold maxLen; omega) (by omega) (Ext.size HE3.out) ?_; intro a4 c4 w4 hown4 hg4; have H4 := Lib.hid hown4; have HE4 := Lib.hid (Ext.grown (a := wr) HE3.out hg4 (fun k hk => (H3.out.lt k hk).1)); clear hown4 hg4) | (have t2 := H2; clear t2; refine step_app_N _ (by rfl) _ _ 31 (by rfl) wr.heap.size 33 i0 _ 1 24 Tryz.underlying31 HZI.out.1 HZI.out.2.1 HZI.out.2.2.1 HZI.out.2.2.2 rfl (by omega) (c + 1) (.slice _ _ _) _ _ (by rfl) (by first | (with_reducible exact H2.out) | exact own_ext (Ext.alloc (Ext.refl _) _) H2.out) _ 1 _ [.slice ax nx cx] (by rfl) (ones_readsV (by first | (with_reducible assumption) | (simp; done))) (by simp [Value.oneCell']) (by omega) (by unfold maxLen; omega) (by omega) (Ext.size (w := wr) (by first | (with_reducible exact HE2.out) | exact Ext.alloc HE2.out _)) ?_; intro a3 c3 w3 hown3 hg3; have H3 := Lib.hid hown3; have HE3 := Lib.hid (Ext.grown (a := wr) (by first | (with_reducible exact HE2.out) | exact Ext.alloc HE2.out _) hg3 (fun k hk => (H2.out.lt k hk).1)); clear hown3 hg3) | (refine step_app_N _ (by rfl) _ _ 31 (by rfl) wr.heap.size 33 i0 _ 1 24 Tryz.underlying31 HZI.out.1 HZI.out.2.1 HZI.out.2.2.1 HZI.out.2.2.2 rfl (by omega) (c) (.slice (some ⟨_, 0, none⟩) 0 0) 0 [] (by rfl) (by first | exact own_emptyH wr rfl rfl rfl (Nat.le_refl _) | exact own_emptyH (wr.alloc (.cells #[.slice ax nx cx] 33)) rfl rfl (by simp) (by simp) | exact own_ext (show Ext (wr.alloc (.cells #[] 33)) _ from (by repeat (first | exact Ext.refl _ | assumption | apply Ext.alloc | apply Ext.drew | apply Ext.drewN | (refine Ext.trans ?_ (by assumption)) | (refine Ext.setCell ?_ (by (try simp) <;> omega) _)))) (own_emptyH wr rfl rfl rfl (Nat.le_refl _))) _ c _ (vs.take c) (by rfl) (HRA.out _ (by repeat (first | exact Ext.refl _ | assumption | apply Ext.alloc | apply Ext.drew | apply Ext.drewN | (refine Ext.trans ?_ (by assumption)) | (refine Ext.setCell ?_ (by (try simp) <;> omega) _)))) (fun u hu => HON.out u (List.mem_of_mem_take hu)) (by omega) (by unfold maxLen; omega) (by omega) (Ext.size (w := wr) (by repeat (first | exact Ext.refl _ | assumption | apply Ext.alloc | apply Ext.drew | apply Ext.drewN | (refine Ext.trans ?_ (by assumption)) | (refine Ext.setCell ?_ (by (try simp) <;> omega) _)))) ?_; intro a2 c2 w2 hown2 hg2; simp only [List.nil_append] at hown2; have H2 := Lib.hid hown2; have HE2 := Lib.hid (Ext.grown (a := wr) (by repeat (first | exact Ext.refl _ | assumption | apply Ext.alloc | apply Ext.drew | apply Ext.drewN | (refine Ext.trans ?_ (by assumption)) | (refine Ext.setCell ?_ (by (try simp) <;> omega) _))) hg2 (fun k hk => by simp [Value.ownBlock] at hk; omega)); (try (have j0_0 := grown_keep (b := wr.heap.size) (o := 0) (v := .slice ax nx cx) hg2; simp [Value.ownBlock] at j0_0)); (try (have j1_0 := grown_keep (b := wr.heap.size + 1) (o := 0) (v := .slice ax nx cx) hg2; simp [Value.ownBlock] at j1_0)); clear hown2 hg2))
          all_goals (
            go_wp2
            go_ret
            exact ⟨a4, c4, vs.take c ++ [.slice ax nx cx] ++ [], (by rw [HL.out] <;> rfl), (by rw [HL.out]; simpa using own_mono hbB H4.out), (HVA.out _ (hEw.out.trans HE4.out)), memM_nil HMV.out HMX.out c, hEw.out.trans HE4.out⟩)
        · have hic : i < c := by omega
          have HRA := Lib.hid (fun w' (e : Ext wr w') => show Reads w' (some ⟨g, 0, none⟩) 1 i (vs.take i) by
            have := (own_reads (own_ext e HO3.out)).take (k := i) (by omega)
            rwa [Nat.mul_one] at this)
          have HVA := Lib.hid (fun w' (e : Ext w w') => show VA w' (vs.take i ++ [.slice ax nx cx] ++ []) (putR xs x) by
            rw [HP.out, List.append_assoc]
            exact ((HV.out _ e).take i).append (VA.append (vs := [.slice ax nx cx]) (xs := [x]) (us := []) (ys := []) ⟨⟨ax, cx, by rw [HXL.out], by rw [HXL.out]; exact HX.out _ e⟩, trivial⟩ trivial))
          have hJ1 : ¬ ((c : Int) < (i : Int)) := by omega
          have hJ2 : (0 : Int) ≤ (i : Int) := by omega
          have hJ3 : (i : Int) ≤ (c : Int) := by omega
          clear hE hg0
          go_wp2
          go_region_held3 (fun w' => Ext wr w') (first | exact HE4.out | exact HE3.out | exact Ext.alloc HE2.out _ | exact HE2.out | (repeat (first | exact Ext.refl _ | assumption | apply Ext.alloc | apply Ext.drew | apply Ext.drewN | (refine Ext.trans ?_ (by assumption)) | (refine Ext.setCell ?_ (by (try simp) <;> omega) _)))) (first | (have t3 := H3; clear t3; refine step_app_N _ (by rfl) _ _ 31 (by rfl) wr.heap.size 33 i0 _ 1 24 Tryz.underlying31 HZI.out.1 HZI.out.2.1 HZI.out.2.2.1 HZI.out.2.2.2 rfl (by omega) (i + 1) (.slice _ _ _) _ _ (by rfl) H3.out _ _ _ ([]) (by rfl) (Reads.zero) (by simp) (by omega) (by unfold maxLen; omega) (by omega) (Ext.size HE3.out) ?_; intro a4 c4 w4 hown4 hg4; have H4 := Lib.hid hown4; have HE4 := Lib.hid (Ext.grown (a := wr) HE3.out hg4 (fun k hk => (H3.out.lt k hk).1)); clear hown4 hg4) | (have t2 := H2; clear t2; refine step_app_N _ (by rfl) _ _ 31 (by rfl) wr.heap.size 33 i0 _ 1 24 Tryz.underlying31 HZI.out.1 HZI.out.2.1 HZI.out.2.2.1 HZI.out.2.2.2 rfl (by omega) (i + 1) (.slice _ _ _) _ _ (by rfl) (by first | (with_reducible exact H2.out) | exact own_ext (Ext.alloc (Ext.refl _) _) H2.out) _ 1 _ [.slice ax nx cx] (by rfl) (ones_readsV (by first | (with_reducible assumption) | (simp; done))) (by simp [Value.oneCell']) (by omega) (by unfold maxLen; omega) (by omega) (Ext.size (w := wr) (by first | (with_reducible exact HE2.out) | exact Ext.alloc HE2.out _)) ?_; intro a3 c3 w3 hown3 hg3; have H3 := Lib.hid hown3; have HE3 := Lib.hid (Ext.grown (a := wr) (by first | (with_reducible exact HE2.out) | exact Ext.alloc HE2.out _) hg3 (fun k hk => (H2.out.lt k hk).1)); clear hown3 hg3) | (refine step_app_N _ (by rfl) _ _ 31 (by rfl) wr.heap.size 33 i0 _ 1 24 Tryz.underlying31 HZI.out.1 HZI.out.2.1 HZI.out.2.2.1 HZI.out.2.2.2 rfl (by omega) (i) (.slice (some ⟨_, 0, none⟩) 0 0) 0 [] (by rfl) (by first | exact own_emptyH wr rfl rfl rfl (Nat.le_refl _) | exact own_emptyH (wr.alloc (.cells #[.slice ax nx cx] 33)) rfl rfl (by simp) (by simp) | exact own_ext (show Ext (wr.alloc (.cells #[] 33)) _ from (by repeat (first | exact Ext.refl _ | assumption | apply Ext.alloc | apply Ext.drew | apply Ext.drewN | (refine Ext.trans ?_ (by assumption)) | (refine Ext.setCell ?_ (by (try simp) <;> omega) _)))) (own_emptyH wr rfl rfl rfl (Nat.le_refl _))) _ i _ (vs.take i) (by rfl) (HRA.out _ (by repeat (first | exact Ext.refl _ | assumption | apply Ext.alloc | apply Ext.drew | apply Ext.drewN | (refine Ext.trans ?_ (by assumption)) | (refine Ext.setCell ?_ (by (try simp) <;> omega) _)))) (fun u hu => HON.out u (List.mem_of_mem_take hu)) (by omega) (by unfold maxLen; omega) (by omega) (Ext.size (w := wr) (by repeat (first | exact Ext.refl _ | assumption | apply Ext.alloc | apply Ext.drew | apply Ext.drewN | (refine Ext.trans ?_ (by assumption)) | (refine Ext.setCell ?_ (by (try simp) <;> omega) _)))) ?_; intro a2 c2 w2 hown2 hg2; simp only [List.nil_append] at hown2; have H2 := Lib.hid hown2; have HE2 := Lib.hid (Ext.grown (a := wr) (by repeat (first | exact Ext.refl _ | assumption | apply Ext.alloc | apply Ext.drew | apply Ext.drewN | (refine Ext.trans ?_ (by assumption)) | (refine Ext.setCell ?_ (by (try simp) <;> omega) _))) hg2 (fun k hk => by simp [Value.ownBlock] at hk; omega)); (try (have j0_0 := grown_keep (b := wr.heap.size) (o := 0) (v := .slice ax nx cx) hg2; simp [Value.ownBlock] at j0_0)); (try (have j1_0 := grown_keep (b := wr.heap.size + 1) (o := 0) (v := .slice ax nx cx) hg2; simp [Value.ownBlock] at j1_0)); clear hown2 hg2))
          all_goals (
            go_wp2
            go_ret
            exact ⟨a4, c4, vs.take i ++ [.slice ax nx cx] ++ [], (by rw [HL.out] <;> rfl), (by rw [HL.out]; simpa using own_mono hbB H4.out), (HVA.out _ (hEw.out.trans HE4.out)), memM_nil HMV.out HMX.out i, hEw.out.trans HE4.out⟩)
theorem cePut_any (a ax : Option Addr) (n c B nx cx : Nat) (vs : List Value) (xs : List (List Int)) (x : List Int) (hn : n ≤ 100000) (hnx : nx ≤ 1000) (hln : ∀ y ∈ xs, y.length ≤ 1000) (w : World) (hB : B ≤ w.heap.size) (h : w.ownsRow B 33 1 (.slice a n c) n vs) (hv : VA w vs xs) (hx : Reads w ax 1 nx (iv x)) :
    Calls Tryz.prog 24 #[.slice a n c, .slice ax nx cx] w (OwnsRd B (putR xs x) w) :=
  (cePutM_any a ax n c B nx cx vs xs x (fun _ => True) (fun _ _ => trivial) trivial hn hnx hln w hB h hv hx).mono fun _ _ ⟨a1, c1, vs1, h1, h2, h3, _, h4⟩ => ⟨a1, c1, vs1, h1, h2, h3, h4⟩
end Go.Proofs.YtngbdopgdcjdeaaGreatDoor

namespace Go.Proofs.YtngbdopgdcjdeaaGreatDoor

/-- The point of a term; its coefficient. -/
def pI (zs : List (Int × Int × Int)) (k : Nat) : Int × Int := ((zs.getD k (0, 0, 0)).1, (zs.getD k (0, 0, 0)).2.1)
def cI (zs : List (Int × Int × Int)) (k : Nat) : Int := (zs.getD k (0, 0, 0)).2.2
def turnT (zs : List (Int × Int × Int)) (a b c : Nat) : Int := turnI (pI zs a) (pI zs b) (pI zs c)
/-- The height above the plane of three terms, times their turn. -/
def aboveT (zs : List (Int × Int × Int)) (a b c t : Nat) : Int :=
  (cI zs t - cI zs a) * detI ((pI zs b).1 - (pI zs a).1) ((pI zs b).2 - (pI zs a).2) ((pI zs c).1 - (pI zs a).1) ((pI zs c).2 - (pI zs a).2)
  - (cI zs b - cI zs a) * detI ((pI zs t).1 - (pI zs a).1) ((pI zs t).2 - (pI zs a).2) ((pI zs c).1 - (pI zs a).1) ((pI zs c).2 - (pI zs a).2)
  - (cI zs c - cI zs a) * detI ((pI zs b).1 - (pI zs a).1) ((pI zs b).2 - (pI zs a).2) ((pI zs t).1 - (pI zs a).1) ((pI zs t).2 - (pI zs a).2)
def hT (zs : List (Int × Int × Int)) (a b c t : Nat) : Int := if turnT zs a b c < 0 then -aboveT zs a b c t else aboveT zs a b c t
theorem above_spec (zs : List (Int × Int × Int)) (a b c t : Nat) :
    cI zs t * turnT zs a b c - cI zs a * turnI (pI zs t) (pI zs b) (pI zs c) - cI zs b * turnI (pI zs a) (pI zs t) (pI zs c) - cI zs c * turnI (pI zs a) (pI zs b) (pI zs t) = aboveT zs a b c t := by
  unfold turnT aboveT turnI detI
  generalize pI zs a = p
  generalize pI zs b = q
  generalize pI zs c = r
  generalize pI zs t = s
  grind
theorem hT_spec {zs : List (Int × Int × Int)} {a b c t : Nat} (h : turnT zs a b c ≠ 0) : aboveT zs a b c t * sgnI (turnT zs a b c) = hT zs a b c t := by
  unfold hT sgnI
  split
  · rw [if_neg (by omega)]; omega
  · rw [if_pos (by omega)]; omega

/-- The three terms have a plane, and no term is below it. -/
def cellTo (zs : List (Int × Int × Int)) (a b c : Nat) (k : Nat) : Bool := (List.range k).all fun t => decide (0 ≤ hT zs a b c t)
def cellB (zs : List (Int × Int × Int)) (a b c : Nat) : Bool := decide (turnT zs a b c ≠ 0) && cellTo zs a b c zs.length
/-- The terms on the plane, up to term k. -/
def onTo' (zs : List (Int × Int × Int)) (a b c : Nat) (k : Nat) : List Int := ((List.range k).filter fun t => decide (hT zs a b c t = 0)).map fun t : Nat => (t : Int)
def cellL (zs : List (Int × Int × Int)) (a b c : Nat) : List Int := onTo' zs a b c zs.length
theorem cellTo_succ (zs : List (Int × Int × Int)) (a b c k : Nat) : cellTo zs a b c (k + 1) = (cellTo zs a b c k && decide (0 ≤ hT zs a b c k)) := by
  simp [cellTo, List.range_succ, List.all_append]
theorem cellTo_le {zs : List (Int × Int × Int)} {a b c k n : Nat} (h : k < n) (hk : ¬ 0 ≤ hT zs a b c k) : cellTo zs a b c n = false := by
  cases e : cellTo zs a b c n
  · rfl
  · simp only [cellTo, List.all_eq_true, List.mem_range] at e
    have := e k h
    simp at this
    omega
theorem onTo'_succ (zs : List (Int × Int × Int)) (a b c k : Nat) : onTo' zs a b c (k + 1) = if hT zs a b c k = 0 then onTo' zs a b c k ++ [(k : Int)] else onTo' zs a b c k := by
  unfold onTo'
  rw [List.range_succ, List.filter_append, List.map_append]
  by_cases h : hT zs a b c k = 0 <;> simp [h]
theorem onTo'_len (zs : List (Int × Int × Int)) (a b c : Nat) : ∀ k, (onTo' zs a b c k).length ≤ k
  | 0 => by simp [onTo']
  | k + 1 => by
    have := onTo'_len zs a b c k
    rw [onTo'_succ]
    split
    · simp; omega
    · omega
theorem mem_cellL {zs : List (Int × Int × Int)} {a b c : Nat} {x : Int} : x ∈ cellL zs a b c ↔ ∃ t : Nat, t < zs.length ∧ hT zs a b c t = 0 ∧ x = t := by
  simp only [cellL, onTo', List.mem_map, List.mem_filter, List.mem_range, decide_eq_true_eq]
  constructor
  · rintro ⟨t, ⟨h1, h2⟩, rfl⟩; exact ⟨t, h1, h2, rfl⟩
  · rintro ⟨t, h1, h2, rfl⟩; exact ⟨t, ⟨h1, h2⟩, rfl⟩
theorem cellL_rise (zs : List (Int × Int × Int)) (a b c : Nat) : (cellL zs a b c).Pairwise (· < ·) := by
  unfold cellL onTo'
  rw [List.pairwise_map]
  exact ((List.pairwise_lt_range).sublist List.filter_sublist).imp fun h => by omega
theorem hT_self (zs : List (Int × Int × Int)) (a b c : Nat) : hT zs a b c a = 0 ∧ hT zs a b c b = 0 ∧ hT zs a b c c = 0 := by
  have h : ∀ t, t = a ∨ t = b ∨ t = c → aboveT zs a b c t = 0 := by
    rintro t (rfl | rfl | rfl) <;> (unfold aboveT detI; grind)
  unfold hT
  rw [h a (.inl rfl), h b (.inr (.inl rfl)), h c (.inr (.inr rfl))]
  simp

/-- A list of terms that is a cell. -/
def IsCell (zs : List (Int × Int × Int)) (x : List Int) : Prop := ∃ a b c, a < b ∧ b < c ∧ c < zs.length ∧ cellB zs a b c = true ∧ x = cellL zs a b c

/-- The plane of a cell, without its triple. -/
theorem cell_plane {zs : List (Int × Int × Int)} {x : List Int} (h : IsCell zs x) : ∃ D A B C : Int, 0 < D ∧ (∀ t : Nat, t < zs.length → 0 ≤ D * cI zs t - A * (pI zs t).1 - B * (pI zs t).2 - C) ∧
    (∀ y : Int, y ∈ x ↔ ∃ t : Nat, t < zs.length ∧ D * cI zs t - A * (pI zs t).1 - B * (pI zs t).2 - C = 0 ∧ y = t) ∧ x = ((List.range zs.length).filter fun t => decide (D * cI zs t - A * (pI zs t).1 - B * (pI zs t).2 - C = 0)).map fun t : Nat => (t : Int) := by
  obtain ⟨a, b, c, _, _, _, hB, rfl⟩ := h
  simp only [cellB, cellTo, Bool.and_eq_true, decide_eq_true_eq, List.all_eq_true, List.mem_range] at hB
  obtain ⟨hne, hall⟩ := hB
  have key : ∃ D A B C : Int, 0 < D ∧ ∀ t : Nat, hT zs a b c t = D * cI zs t - A * (pI zs t).1 - B * (pI zs t).2 - C := by
    have lin : ∀ t : Nat, aboveT zs a b c t = turnT zs a b c * cI zs t
        - ((cI zs b - cI zs a) * ((pI zs c).2 - (pI zs a).2) - (cI zs c - cI zs a) * ((pI zs b).2 - (pI zs a).2)) * (pI zs t).1
        - ((cI zs c - cI zs a) * ((pI zs b).1 - (pI zs a).1) - (cI zs b - cI zs a) * ((pI zs c).1 - (pI zs a).1)) * (pI zs t).2
        - (cI zs a * turnT zs a b c - ((cI zs b - cI zs a) * ((pI zs c).2 - (pI zs a).2) - (cI zs c - cI zs a) * ((pI zs b).2 - (pI zs a).2)) * (pI zs a).1
          - ((cI zs c - cI zs a) * ((pI zs b).1 - (pI zs a).1) - (cI zs b - cI zs a) * ((pI zs c).1 - (pI zs a).1)) * (pI zs a).2) := by
      intro t
      unfold aboveT turnT turnI detI
      generalize pI zs a = p
      generalize pI zs b = q
      generalize pI zs c = r
      generalize pI zs t = s
      grind
    generalize ((cI zs b - cI zs a) * ((pI zs c).2 - (pI zs a).2) - (cI zs c - cI zs a) * ((pI zs b).2 - (pI zs a).2)) = A at lin
    generalize ((cI zs c - cI zs a) * ((pI zs b).1 - (pI zs a).1) - (cI zs b - cI zs a) * ((pI zs c).1 - (pI zs a).1)) = B at lin
    generalize (cI zs a * turnT zs a b c - A * (pI zs a).1 - B * (pI zs a).2) = C at lin
    by_cases hs : turnT zs a b c < 0
    · refine ⟨-turnT zs a b c, -A, -B, -C, by omega, fun t => ?_⟩
      unfold hT
      rw [if_pos hs, lin t]
      grind
    · refine ⟨turnT zs a b c, A, B, C, by omega, fun t => ?_⟩
      unfold hT
      rw [if_neg hs, lin t]
  obtain ⟨D, A, B, C, hD, hl⟩ := key
  refine ⟨D, A, B, C, hD, fun t ht => ?_, fun y => ?_, ?_⟩
  · rw [← hl t]; exact hall t ht
  · rw [mem_cellL]
    constructor
    · rintro ⟨t, h1, h2, h3⟩; exact ⟨t, h1, by rw [← hl t]; exact h2, h3⟩
    · rintro ⟨t, h1, h2, h3⟩; exact ⟨t, h1, by rw [hl t]; exact h2, h3⟩
  · unfold cellL onTo'
    simp only [hl]

theorem zero_of_mul {a b : Int} (h : a ≠ 0) (e : a * b = 0) : b = 0 := by
  rcases Int.mul_eq_zero.1 e with h0 | h0
  · exact absurd h0 h
  · exact h0
/-- Two cells at one side of two common terms are one cell. -/
theorem same_side {zs : List (Int × Int × Int)} {x y : List Int} (hx : IsCell zs x) (hy : IsCell zs y) {a b r s : Nat} (hab : pI zs a ≠ pI zs b)
    (ax : (a : Int) ∈ x) (bx : (b : Int) ∈ x) (ay : (a : Int) ∈ y) (by' : (b : Int) ∈ y) (rx : (r : Int) ∈ x) (sy : (s : Int) ∈ y) (hr : 0 < turnT zs a b r) (hs : 0 < turnT zs a b s) : x = y := by
  obtain ⟨D1, A1, B1, C1, d1, p1, m1, e1⟩ := cell_plane hx
  obtain ⟨D2, A2, B2, C2, d2, p2, m2, e2⟩ := cell_plane hy
  have at1 : ∀ {t : Nat}, (t : Int) ∈ x → t < zs.length ∧ D1 * cI zs t - A1 * (pI zs t).1 - B1 * (pI zs t).2 - C1 = 0 := by
    intro t ht
    obtain ⟨u, h1, h2, h3⟩ := (m1 _).1 ht
    obtain rfl : t = u := by omega
    exact ⟨h1, h2⟩
  have at2 : ∀ {t : Nat}, (t : Int) ∈ y → t < zs.length ∧ D2 * cI zs t - A2 * (pI zs t).1 - B2 * (pI zs t).2 - C2 = 0 := by
    intro t ht
    obtain ⟨u, h1, h2, h3⟩ := (m2 _).1 ht
    obtain rfl : t = u := by omega
    exact ⟨h1, h2⟩
  -- g: the difference of the planes, an affine function
  obtain ⟨al, hal⟩ : ∃ al, al = D2 * A1 - D1 * A2 := ⟨_, rfl⟩
  obtain ⟨be, hbe⟩ : ∃ be, be = D2 * B1 - D1 * B2 := ⟨_, rfl⟩
  obtain ⟨ga, hga⟩ : ∃ ga, ga = D2 * C1 - D1 * C2 := ⟨_, rfl⟩
  have hg : ∀ t : Nat, D1 * (D2 * cI zs t - A2 * (pI zs t).1 - B2 * (pI zs t).2 - C2) - D2 * (D1 * cI zs t - A1 * (pI zs t).1 - B1 * (pI zs t).2 - C1) = al * (pI zs t).1 + be * (pI zs t).2 + ga := by
    intro t
    rw [hal, hbe, hga]
    generalize pI zs t = p
    generalize cI zs t = c
    grind
  clear hal hbe hga
  have ga0 : al * (pI zs a).1 + be * (pI zs a).2 + ga = 0 := by
    rw [← hg a, (at1 ax).2, (at2 ay).2]; simp
  have gb0 : al * (pI zs b).1 + be * (pI zs b).2 + ga = 0 := by
    rw [← hg b, (at1 bx).2, (at2 by').2]; simp
  have gr : 0 ≤ al * (pI zs r).1 + be * (pI zs r).2 + ga := by
    have := Int.mul_nonneg (show 0 ≤ D1 by omega) (p2 r (at1 rx).1)
    rw [← hg r, (at1 rx).2]; omega
  have gs : al * (pI zs s).1 + be * (pI zs s).2 + ga ≤ 0 := by
    have := Int.mul_nonneg (show 0 ≤ D2 by omega) (p1 s (at2 sy).1)
    rw [← hg s, (at2 sy).2]; omega
  have hdx : ∀ t : Nat, ((pI zs b).1 - (pI zs a).1) * (al * (pI zs t).1 + be * (pI zs t).2 + ga) = be * turnT zs a b t := by
    intro t
    unfold turnT turnI detI
    generalize pI zs t = p at *
    generalize pI zs a = q at *
    generalize pI zs b = u at *
    grind
  have hdy : ∀ t : Nat, ((pI zs b).2 - (pI zs a).2) * (al * (pI zs t).1 + be * (pI zs t).2 + ga) = -(al * turnT zs a b t) := by
    intro t
    unfold turnT turnI detI
    generalize pI zs t = p at *
    generalize pI zs a = q at *
    generalize pI zs b = u at *
    grind
  have hd : (pI zs b).1 - (pI zs a).1 ≠ 0 ∨ (pI zs b).2 - (pI zs a).2 ≠ 0 := by
    by_cases h1 : (pI zs b).1 - (pI zs a).1 = 0
    · right
      intro h2
      exact hab (Prod.ext (by omega) (by omega))
    · exact .inl h1
  have hxr := hdx r
  have hxs := hdx s
  have hyr := hdy r
  have hys := hdy s
  obtain ⟨G, hG⟩ : ∃ G, G = al * (pI zs r).1 + be * (pI zs r).2 + ga := ⟨_, rfl⟩
  obtain ⟨K, hK⟩ : ∃ K, K = al * (pI zs s).1 + be * (pI zs s).2 + ga := ⟨_, rfl⟩
  rw [← hG] at gr hxr hyr
  rw [← hK] at gs hxs hys
  have cross : G * turnT zs a b s = K * turnT zs a b r := by
    rcases hd with h | h
    · have : ((pI zs b).1 - (pI zs a).1) * (G * turnT zs a b s - K * turnT zs a b r) = 0 := by grind
      have := zero_of_mul h this
      omega
    · have : ((pI zs b).2 - (pI zs a).2) * (G * turnT zs a b s - K * turnT zs a b r) = 0 := by grind
      have := zero_of_mul h this
      omega
  have G0 : G = 0 := by
    rcases (show G = 0 ∨ 0 < G by omega) with h | h
    · exact h
    · exfalso
      have := Int.mul_pos h hs
      have k := Int.mul_nonneg (show 0 ≤ -K by omega) (show 0 ≤ turnT zs a b r by omega)
      rw [Int.neg_mul] at k
      omega
  rw [G0] at hxr hyr
  have be0 : be = 0 := zero_of_mul (show turnT zs a b r ≠ 0 by omega) (by rw [Int.mul_comm]; omega)
  have al0 : al = 0 := zero_of_mul (show turnT zs a b r ≠ 0 by omega) (by rw [Int.mul_comm]; omega)
  have gz : ga = 0 := by rw [be0, al0] at ga0; omega
  rw [e1, e2]
  congr 1
  apply List.filter_congr
  intro t _
  have hgt := hg t
  rw [al0, be0, gz] at hgt
  generalize D2 * cI zs t - A2 * (pI zs t).1 - B2 * (pI zs t).2 - C2 = h2 at *
  generalize D1 * cI zs t - A1 * (pI zs t).1 - B1 * (pI zs t).2 - C1 = h1 at *
  simp only [decide_eq_decide]
  constructor
  · intro h; rw [h] at hgt; exact zero_of_mul (show D1 ≠ 0 by omega) (by omega)
  · intro h; rw [h] at hgt; exact zero_of_mul (show D2 ≠ 0 by omega) (by omega)

end Go.Proofs.YtngbdopgdcjdeaaGreatDoor

namespace Go.Proofs.YtngbdopgdcjdeaaGreatDoor

/-- What the reference does at three terms. -/
def stepC (zs : List (Int × Int × Int)) (i j k : Nat) (acc : List (List Int)) : List (List Int) := if cellB zs i j k = true then putR acc (cellL zs i j k) else acc
/-- All cells in order. -/
def cellsL (zs : List (Int × Int × Int)) : List (List Int) := tripI (stepC zs) zs.length zs.length
/-- What the program does at three terms: the cell at the end. -/
def stepA (zs : List (Int × Int × Int)) (i j k : Nat) (acc : List (List Int)) : List (List Int) := if cellB zs i j k = true then acc ++ [cellL zs i j k] else acc
def cellsA (zs : List (Int × Int × Int)) : List (List Int) := tripI (stepA zs) zs.length zs.length
theorem mem_stepC (zs : List (Int × Int × Int)) (a b c : Nat) (acc : List (List Int)) (y : List Int) : y ∈ stepC zs a b c acc ↔ (cellB zs a b c = true ∧ y = cellL zs a b c) ∨ y ∈ acc := by
  unfold stepC
  split
  · rename_i h
    rw [mem_putR]
    simp [h]
  · rename_i h
    simp [h]
theorem mem_stepA (zs : List (Int × Int × Int)) (a b c : Nat) (acc : List (List Int)) (y : List Int) : y ∈ stepA zs a b c acc ↔ (cellB zs a b c = true ∧ y = cellL zs a b c) ∨ y ∈ acc := by
  unfold stepA
  split
  · rename_i h
    simp [h, Or.comm]
  · rename_i h
    simp [h]
theorem mem_cellsL {zs : List (Int × Int × Int)} {y : List Int} : y ∈ cellsL zs ↔ IsCell zs y := by
  unfold cellsL
  rw [mem_tripI (T := fun a b c y => cellB zs a b c = true ∧ y = cellL zs a b c) (mem_stepC zs) _ (Nat.le_refl _)]
  constructor
  · rintro ⟨a, b, c, _, h2, h3, h4, h5, h6⟩; exact ⟨a, b, c, h2, h3, h4, h5, h6⟩
  · rintro ⟨a, b, c, h2, h3, h4, h5, h6⟩; exact ⟨a, b, c, by omega, h2, h3, h4, h5, h6⟩
theorem mem_cellsA {zs : List (Int × Int × Int)} {y : List Int} : y ∈ cellsA zs ↔ IsCell zs y := by
  unfold cellsA
  rw [mem_tripI (T := fun a b c y => cellB zs a b c = true ∧ y = cellL zs a b c) (mem_stepA zs) _ (Nat.le_refl _)]
  constructor
  · rintro ⟨a, b, c, _, h2, h3, h4, h5, h6⟩; exact ⟨a, b, c, h2, h3, h4, h5, h6⟩
  · rintro ⟨a, b, c, h2, h3, h4, h5, h6⟩; exact ⟨a, b, c, by omega, h2, h3, h4, h5, h6⟩
theorem sort_stepC (zs : List (Int × Int × Int)) (a b c : Nat) (acc : List (List Int)) (h : SortL acc) : SortL (stepC zs a b c acc) := by
  unfold stepC
  split
  · exact sort_putR h
  · exact h
theorem sort_cellsL (zs : List (Int × Int × Int)) : SortL (cellsL zs) := keep_tripI (sort_stepC zs) .nil _
section
variable {S : Nat → Nat → Nat → List (List Int) → List (List Int)} (hS : ∀ a b c acc, (S a b c acc).length ≤ acc.length + 1)
include hS
theorem len_tripK {i j : Nat} {acc : List (List Int)} : ∀ d, (tripK S i j acc d).length ≤ acc.length + d
  | 0 => by simp [tripK]
  | d + 1 => by have h1 := hS i j (j + 1 + d) (tripK S i j acc d); have h2 := len_tripK (i := i) (j := j) (acc := acc) d; simp only [tripK]; omega
theorem len_tripJ {n i : Nat} {acc : List (List Int)} : ∀ d, (tripJ S n i acc d).length ≤ acc.length + d * n
  | 0 => by simp [tripJ]
  | d + 1 => by
    have h1 := len_tripK hS (i := i) (j := i + 1 + d) (acc := tripJ S n i acc d) (n - (i + 1 + d) - 1)
    have h2 := len_tripJ (n := n) (i := i) (acc := acc) d
    simp only [tripJ]
    rw [Nat.succ_mul]
    omega
theorem len_tripI {n : Nat} : ∀ i, i ≤ n → (tripI S n i).length ≤ i * (n * n)
  | 0, _ => by simp [tripI]
  | i + 1, hi => by
    have h1 := len_tripJ hS (n := n) (i := i) (acc := tripI S n i) (n - i - 1)
    have h2 := len_tripI (n := n) i (by omega)
    have h3 : (n - i - 1) * n ≤ n * n := Nat.mul_le_mul_right _ (by omega)
    simp only [tripI]
    rw [Nat.succ_mul]
    omega
end
theorem len_stepC (zs : List (Int × Int × Int)) (a b c : Nat) (acc : List (List Int)) : (stepC zs a b c acc).length ≤ acc.length + 1 := by
  unfold stepC
  split
  · exact (putR_len _ _).1
  · omega
theorem len_stepA (zs : List (Int × Int × Int)) (a b c : Nat) (acc : List (List Int)) : (stepA zs a b c acc).length ≤ acc.length + 1 := by
  unfold stepA
  split
  · simp
  · omega
/-- The rows of the walk are short, at every step. -/
def Short (n : Nat) (acc : List (List Int)) : Prop := ∀ y ∈ acc, y.length ≤ n
theorem short_stepC (zs : List (Int × Int × Int)) (a b c : Nat) (acc : List (List Int)) (h : Short zs.length acc) : Short zs.length (stepC zs a b c acc) := by
  intro y hy
  rcases (mem_stepC zs a b c acc y).1 hy with ⟨_, h1⟩ | h1
  · rw [h1]; exact onTo'_len zs a b c zs.length
  · exact h y h1
theorem short_stepA (zs : List (Int × Int × Int)) (a b c : Nat) (acc : List (List Int)) (h : Short zs.length acc) : Short zs.length (stepA zs a b c acc) := by
  intro y hy
  rcases (mem_stepA zs a b c acc y).1 hy with ⟨_, h1⟩ | h1
  · rw [h1]; exact onTo'_len zs a b c zs.length
  · exact h y h1
theorem short_nil (n : Nat) : Short n [] := fun y hy => by cases hy
/-- What the reference's ceCell hands back. -/
def ceCellL (zs : List (Int × Int × Int)) (a b c : Nat) : List Int := if cellTo zs a b c zs.length = true then cellL zs a b c else []
theorem cell_some {zs : List (Int × Int × Int)} {a b c : Nat} (ha : a < zs.length) : 0 < (cellL zs a b c).length := by
  have : (a : Int) ∈ cellL zs a b c := mem_cellL.2 ⟨a, ha, (hT_self zs a b c).1, rfl⟩
  exact List.length_pos_of_mem this
theorem ceCellL_len (zs : List (Int × Int × Int)) (a b c : Nat) : (ceCellL zs a b c).length ≤ zs.length := by
  unfold ceCellL
  split
  · exact onTo'_len zs a b c zs.length
  · simp
theorem stepC_flat {zs : List (Int × Int × Int)} {a b c : Nat} {acc : List (List Int)} (h : turnT zs a b c = 0) : stepC zs a b c acc = acc := by
  unfold stepC cellB
  simp [h]
theorem stepC_none {zs : List (Int × Int × Int)} {a b c : Nat} {acc : List (List Int)} (h : (ceCellL zs a b c).length = 0) (ha : a < zs.length) : stepC zs a b c acc = acc := by
  unfold ceCellL at h
  split at h
  · have := cell_some (zs := zs) (b := b) (c := c) ha; omega
  · rename_i h1
    unfold stepC cellB
    simp [h1]
theorem stepC_some {zs : List (Int × Int × Int)} {a b c : Nat} {acc : List (List Int)} (h0 : turnT zs a b c ≠ 0) (h : 0 < (ceCellL zs a b c).length) : stepC zs a b c acc = putR acc (ceCellL zs a b c) := by
  unfold ceCellL at h ⊢
  split at h
  · rename_i h1
    unfold stepC cellB
    simp [h1, h0]
  · simp at h

end Go.Proofs.YtngbdopgdcjdeaaGreatDoor

namespace Go.Proofs.YtngbdopgdcjdeaaGreatDoor
open Go.RowKit

end Go.Proofs.YtngbdopgdcjdeaaGreatDoor

namespace Go.Proofs.YtngbdopgdcjdeaaGreatDoor
open Go.RowKit

end Go.Proofs.YtngbdopgdcjdeaaGreatDoor

namespace Go.Proofs.YtngbdopgdcjdeaaGreatDoor
open Go.RowKit

/-- The numbers of the terms of a line with the least value at a point. -/
def lineT (a b c x y : Int) : List Int := placesTo [a + x, b + y, c] (lowI [a + x, b + y, c] 3) 3
theorem lineT_le (a b c x y : Int) : (lineT a b c x y).length ≤ 3 := placesTo_le _ _ _
theorem own_iv_nil (w : World) (B : Nat) : w.ownsRow B 3 1 (.slice none 0 0) 0 (iv []) := World.ownsRow_nil _ _ _ _
/-- A list that is told only where the arguments are valid. -/
def gL (t : Bool) (l : List Int) : List Int := if t then l else []
theorem gL_le {t : Bool} {l : List Int} {k : Nat} (h : l.length ≤ k) : (gL t l).length ≤ k := by unfold gL; split <;> simp [h]
/-- A slice that reads so, and nothing that was there has turned. -/
def ReadsInts (zs : List Int) (w : World) (r : Ending) (w' : World) : Prop := ∃ a c, r = .returned (.slice a zs.length c) ∧ Reads w' a 1 zs.length (iv zs) ∧ Ext w w'
/-- A slice of the call's own and a bool. -/
def OwnsIntsB (B : Nat) (zs : List Int) (ok : Bool) (w : World) (r : Ending) (w' : World) : Prop :=
  ∃ a c, r = .returned (.tuple #[.slice a zs.length c, .bool ok]) ∧ w'.ownsRow B 3 1 (.slice a zs.length c) zs.length (iv zs) ∧ Ext w w'

/-- Whether a point is on a line. -/
def onL (a b c x y : Int) : Bool := decide ((1 : Int) < ((lineT a b c x y).length : Int))

end Go.Proofs.YtngbdopgdcjdeaaGreatDoor

namespace Go.Proofs.YtngbdopgdcjdeaaGreatDoor
open Go.RowKit

/-- A valid term; the order of two terms; a plane polynomial. -/
def termB (i j c : Int) : Bool := inB i 0 6 && inB j 0 (6 - i) && finB c
def tbefB (i j x y : Int) : Bool := decide (i < x) || (decide (i = x) && decide (j < y))
def tstepB (zs : List (Int × Int × Int)) (k : Nat) : Bool := termB (tat zs k).1 (tat zs k).2.1 (tat zs k).2.2 && (k == 0 || tbefB (tat zs (k - 1)).1 (tat zs (k - 1)).2.1 (tat zs k).1 (tat zs k).2.1)
def plTo (zs : List (Int × Int × Int)) : Nat → Bool
  | 0 => true
  | k + 1 => plTo zs k && tstepB zs k
def planeB (zs : List (Int × Int × Int)) : Bool := inB (zs.length : Int) 1 12 && plTo zs zs.length
theorem plTo_mono {zs : List (Int × Int × Int)} : ∀ {m k : Nat}, k ≤ m → plTo zs m = true → plTo zs k = true
  | 0, k, h, _ => by obtain rfl : k = 0 := by omega
                     rfl
  | m + 1, k, h, hm => by
    rcases Nat.lt_or_ge m k with h1 | h1
    · obtain rfl : k = m + 1 := by omega
      exact hm
    · simp only [plTo, Bool.and_eq_true] at hm
      exact plTo_mono h1 hm.1
theorem plTo_bad {zs : List (Int × Int × Int)} {k n : Nat} (hk : k < n) (h : tstepB zs k = false) : plTo zs n = false := by
  cases hp : plTo zs n
  · rfl
  · have := plTo_mono (k := k + 1) (by omega) hp
    simp [plTo, h] at this
theorem termB_true {i j c : Int} : termB i j c = true ↔ (0 ≤ i ∧ i ≤ 6) ∧ (0 ≤ j ∧ j ≤ 6 - i) ∧ finB c = true := by simp [termB, inB_true, and_assoc]
theorem plane_step {zs : List (Int × Int × Int)} (h : planeB zs = true) : 1 ≤ zs.length ∧ zs.length ≤ 12 ∧ ∀ k, k < zs.length → tstepB zs k = true := by
  simp only [planeB, Bool.and_eq_true, inB_true] at h
  refine ⟨by omega, by omega, fun k hk => ?_⟩
  have := plTo_mono (k := k + 1) (by omega) h.2
  simp only [plTo, Bool.and_eq_true] at this
  exact this.2
theorem plane_term {zs : List (Int × Int × Int)} (h : planeB zs = true) {k : Nat} (hk : k < zs.length) : termB (tat zs k).1 (tat zs k).2.1 (tat zs k).2.2 = true := by
  have := (plane_step h).2.2 k hk
  simp only [tstepB, Bool.and_eq_true] at this
  exact this.1

theorem plTerm_any (i j c : Int) (w : World) :
    Calls Tryz.prog 18 #[.agg #[.int .i64 i, .int .i64 j, .int .i64 c]] w fun r w' => r = .returned (.bool (termB i j c)) ∧ Ext w w' := by
  have HA := (Has.new w #[.int .i64 i, .int .i64 j, .int .i64 c] 41)
  have Ac0 := Ext.keeps (HA 0 _ rfl)
  have Ac1 := Ext.keeps (HA 1 _ rfl)
  have Ac2 := Ext.keeps (HA 2 _ rfl)
  clear HA
  have hE : Ext (w.alloc (.cells #[.int .i64 i, .int .i64 j, .int .i64 c] 41)) (w.alloc (.cells #[.int .i64 i, .int .i64 j, .int .i64 c] 41)) := Ext.refl _
  have HF := Lib.hid (show termB i j c = (inB i 0 6 && inB j 0 (6 - i) && finB c) from rfl)
  cases h1 : inB i 0 6
  · go_enter Tryz.func18, Tryz.ntmps18
    go_wp2_with ((go_at_call 20; refine (l1In_any _ _ _ _).mono ?_; rintro e _ ⟨rfl, rfl⟩))
    go_ret
    exact ⟨ret_bool (by rw [HF.out, h1]; simp), (by repeat (first | exact Ext.refl _ | assumption | apply Ext.alloc | apply Ext.drew | apply Ext.drewN | (refine Ext.trans ?_ (by assumption)) | (refine Ext.setCell ?_ (by (try simp) <;> omega) _)))⟩
  · have b1 := inB_true.1 h1
    have e1 : IntKind.i64.wrap (6 - i) = 6 - i := wrap_i64 (by omega) (by omega)
    cases h2 : inB j 0 (6 - i)
    · go_enter Tryz.func18, Tryz.ntmps18
      go_wp2_with ((go_at_call 20; refine (l1In_any _ _ _ _).mono ?_; rintro e _ ⟨rfl, rfl⟩))
      go_ret
      exact ⟨ret_bool (by rw [HF.out, h1, h2]; simp), (by repeat (first | exact Ext.refl _ | assumption | apply Ext.alloc | apply Ext.drew | apply Ext.drewN | (refine Ext.trans ?_ (by assumption)) | (refine Ext.setCell ?_ (by (try simp) <;> omega) _)))⟩
    · go_enter Tryz.func18, Tryz.ntmps18
      go_wp2_with (first | (go_at_call 20; refine (l1In_any _ _ _ _).mono ?_; rintro e _ ⟨rfl, rfl⟩) | (go_at_call 34; refine (poFinite_any _ _).mono ?_; rintro e _ ⟨rfl, rfl⟩))
      go_ret
      exact ⟨ret_bool (by rw [HF.out, h1, h2]; simp), (by repeat (first | exact Ext.refl _ | assumption | apply Ext.alloc | apply Ext.drew | apply Ext.drewN | (refine Ext.trans ?_ (by assumption)) | (refine Ext.setCell ?_ (by (try simp) <;> omega) _)))⟩

theorem plBefore_any (i j c x y z : Int) (w : World) :
    Calls Tryz.prog 19 #[.agg #[.int .i64 i, .int .i64 j, .int .i64 c], .agg #[.int .i64 x, .int .i64 y, .int .i64 z]] w fun r w' => r = .returned (.bool (tbefB i j x y)) ∧ Ext w w' := by
  have HA := (Has.alloc (Has.new w #[.int .i64 i, .int .i64 j, .int .i64 c] 41) (.cells #[.int .i64 x, .int .i64 y, .int .i64 z] 41))
  have Ac0 := Ext.keeps (HA 0 _ rfl)
  have Ac1 := Ext.keeps (HA 1 _ rfl)
  have Ac2 := Ext.keeps (HA 2 _ rfl)
  clear HA
  have HB := (Has.new2 w (.cells #[.int .i64 i, .int .i64 j, .int .i64 c] 41) #[.int .i64 x, .int .i64 y, .int .i64 z] 41)
  have Bc0 := Ext.keeps (HB 0 _ rfl)
  have Bc1 := Ext.keeps (HB 1 _ rfl)
  have Bc2 := Ext.keeps (HB 2 _ rfl)
  clear HB
  have hE : Ext ((w.alloc (.cells #[.int .i64 i, .int .i64 j, .int .i64 c] 41)).alloc (.cells #[.int .i64 x, .int .i64 y, .int .i64 z] 41)) ((w.alloc (.cells #[.int .i64 i, .int .i64 j, .int .i64 c] 41)).alloc (.cells #[.int .i64 x, .int .i64 y, .int .i64 z] 41)) := Ext.refl _
  have HF := Lib.hid (show tbefB i j x y = (decide (i < x) || (decide (i = x) && decide (j < y))) from rfl)
  by_cases h1 : i < x
  · go_enter Tryz.func19, Tryz.ntmps19
    go_wp2
    go_ret
    exact ⟨ret_bool (by rw [HF.out]; simp [h1]), (by repeat (first | exact Ext.refl _ | assumption | apply Ext.alloc | apply Ext.drew | apply Ext.drewN | (refine Ext.trans ?_ (by assumption)) | (refine Ext.setCell ?_ (by (try simp) <;> omega) _)))⟩
  · by_cases h2 : i = x
    · subst h2
      go_enter Tryz.func19, Tryz.ntmps19
      go_wp2
      go_ret
      exact ⟨ret_bool (by rw [HF.out]; simp), (by repeat (first | exact Ext.refl _ | assumption | apply Ext.alloc | apply Ext.drew | apply Ext.drewN | (refine Ext.trans ?_ (by assumption)) | (refine Ext.setCell ?_ (by (try simp) <;> omega) _)))⟩
    · go_enter Tryz.func19, Tryz.ntmps19
      go_wp2
      go_ret
      exact ⟨ret_bool (by rw [HF.out]; simp [h1, h2]), (by repeat (first | exact Ext.refl _ | assumption | apply Ext.alloc | apply Ext.drew | apply Ext.drewN | (refine Ext.trans ?_ (by assumption)) | (refine Ext.setCell ?_ (by (try simp) <;> omega) _)))⟩

theorem compareTerms_any (i j c x y z : Int) (hi : 0 ≤ i ∧ i ≤ 6) (hj : 0 ≤ j ∧ j ≤ 6) (hx : 0 ≤ x ∧ x ≤ 6) (hy : 0 ≤ y ∧ y ≤ 6) (w : World) :
    Calls Tryz.prog 43 #[.agg #[.int .i64 i, .int .i64 j, .int .i64 c], .agg #[.int .i64 x, .int .i64 y, .int .i64 z]] w fun r w' => r = .returned (.int .i64 (if i = x then j - y else i - x)) ∧ Ext w w' := by
  have HA := (Has.alloc (Has.new w #[.int .i64 i, .int .i64 j, .int .i64 c] 41) (.cells #[.int .i64 x, .int .i64 y, .int .i64 z] 41))
  have Ac0 := Ext.keeps (HA 0 _ rfl)
  have Ac1 := Ext.keeps (HA 1 _ rfl)
  have Ac2 := Ext.keeps (HA 2 _ rfl)
  clear HA
  have HB := (Has.new2 w (.cells #[.int .i64 i, .int .i64 j, .int .i64 c] 41) #[.int .i64 x, .int .i64 y, .int .i64 z] 41)
  have Bc0 := Ext.keeps (HB 0 _ rfl)
  have Bc1 := Ext.keeps (HB 1 _ rfl)
  have Bc2 := Ext.keeps (HB 2 _ rfl)
  clear HB
  have hE : Ext ((w.alloc (.cells #[.int .i64 i, .int .i64 j, .int .i64 c] 41)).alloc (.cells #[.int .i64 x, .int .i64 y, .int .i64 z] 41)) ((w.alloc (.cells #[.int .i64 i, .int .i64 j, .int .i64 c] 41)).alloc (.cells #[.int .i64 x, .int .i64 y, .int .i64 z] 41)) := Ext.refl _
  have e1 : IntKind.i64.wrap (i - x) = i - x := wrap_i64 (by omega) (by omega)
  have e2 : IntKind.i64.wrap (j - y) = j - y := wrap_i64 (by omega) (by omega)
  by_cases h : i = x
  · rw [if_pos h]
    subst h
    go_enter Tryz.func43, Tryz.ntmps43
    go_wp2
    go_ret
    exact ⟨ret_int rfl, (by repeat (first | exact Ext.refl _ | assumption | apply Ext.alloc | apply Ext.drew | apply Ext.drewN | (refine Ext.trans ?_ (by assumption)) | (refine Ext.setCell ?_ (by (try simp) <;> omega) _)))⟩
  · rw [if_neg h]
    go_enter Tryz.func43, Tryz.ntmps43
    go_wp2
    go_ret
    exact ⟨ret_int rfl, (by repeat (first | exact Ext.refl _ | assumption | apply Ext.alloc | apply Ext.drew | apply Ext.drewN | (refine Ext.trans ?_ (by assumption)) | (refine Ext.setCell ?_ (by (try simp) <;> omega) _)))⟩

theorem termB_no {i j c : Int} (h : termB i j c = false) : i < 0 ∨ (0 ≤ i ∧ j < 0) ∨ (0 ≤ i ∧ 0 ≤ j ∧ 6 < i) ∨ (0 ≤ i ∧ i ≤ 6 ∧ 0 ≤ j ∧ 6 < j) ∨ (0 ≤ i ∧ i ≤ 6 ∧ 0 ≤ j ∧ j ≤ 6 ∧ 6 < i + j) ∨ (0 ≤ i ∧ i ≤ 6 ∧ 0 ≤ j ∧ j ≤ 6 ∧ i + j ≤ 6 ∧ finB c = false) := by
  have h6 : i < 0 ∨ (0 ≤ i ∧ j < 0) ∨ (0 ≤ i ∧ 0 ≤ j ∧ 6 < i) ∨ (0 ≤ i ∧ i ≤ 6 ∧ 0 ≤ j ∧ 6 < j) ∨ (0 ≤ i ∧ i ≤ 6 ∧ 0 ≤ j ∧ j ≤ 6 ∧ 6 < i + j) ∨ (0 ≤ i ∧ i ≤ 6 ∧ 0 ≤ j ∧ j ≤ 6 ∧ i + j ≤ 6) := by omega
  rcases h6 with h1 | h1 | h1 | h1 | h1 | h1
  · exact .inl h1
  · exact .inr (.inl h1)
  · exact .inr (.inr (.inl h1))
  · exact .inr (.inr (.inr (.inl h1)))
  · exact .inr (.inr (.inr (.inr (.inl h1))))
  · refine .inr (.inr (.inr (.inr (.inr ⟨h1.1, h1.2.1, h1.2.2.1, h1.2.2.2.1, h1.2.2.2.2, ?_⟩))))
    cases hf : finB c
    · rfl
    · have := termB_true.2 ⟨⟨h1.1, h1.2.1⟩, ⟨h1.2.2.1, by omega⟩, hf⟩
      rw [h] at this
      cases this
def cmpT (i j x y : Int) : Int := if i = x then j - y else i - x
theorem cmpT_bef {i j x y : Int} (h : tbefB i j x y = true) : cmpT i j x y < 0 := by
  simp only [tbefB, Bool.or_eq_true, Bool.and_eq_true, decide_eq_true_eq] at h
  unfold cmpT
  split <;> omega
theorem cmpT_not {i j x y : Int} (h : tbefB i j x y = false) : 0 ≤ cmpT i j x y := by
  have hn : ¬ (i < x ∨ (i = x ∧ j < y)) := fun hh => by
    have : tbefB i j x y = true := by simp only [tbefB, Bool.or_eq_true, Bool.and_eq_true, decide_eq_true_eq]; exact hh
    rw [h] at this
    cases this
  unfold cmpT
  split <;> omega
theorem plTo_at {zs : List (Int × Int × Int)} {k n : Nat} (h : plTo zs n = true) (hk : k < n) : tstepB zs k = true := by
  have := plTo_mono (k := k + 1) (by omega) h
  simp only [plTo, Bool.and_eq_true] at this
  exact this.2

set_option maxHeartbeats 2000000 in
theorem plGood_any (a : Option Addr) (n c : Nat) (zs : List (Int × Int × Int)) (hn : n ≤ 1073741824) (w : World) (h : Reads w a 3 n (tv zs)) :
    Calls Tryz.prog 9 #[.slice a n c] w fun r w' => r = .returned (.bool (planeB zs)) ∧ Ext w w' := by
  have hl : zs.length = n := by have := h.1; rw [tv_len] at this; omega
  have HS := Lib.hid (show planeB zs = (inB (n : Int) 1 12 && plTo zs n) by unfold planeB; rw [hl])
  go_enter Tryz.func9, Tryz.ntmps9
  go_wp2
  go_loopw [7] (fun t wr => ∃ k : Nat, k ≤ n ∧ t = .int .i64 k ∧ plTo zs k = true ∧ Ext w wr) (fun t _ => n - (intOf t).toNat)
  case atStart => exact ⟨0, Nat.zero_le _, rfl, rfl, Ext.refl _⟩
  case round =>
    obtain ⟨k, hk, rfl, hok, hbr⟩ := hrel
    by_cases hlt : k < n
    · obtain ⟨b, off, rfl, hp0, hp1, hp2⟩ := (Reads.ext hbr h).tri hlt
      have HA := Lib.hid (show tstepB zs k = (termB (tat zs k).1 (tat zs k).2.1 (tat zs k).2.2 && (k == 0 || tbefB (tat zs (k - 1)).1 (tat zs (k - 1)).2.1 (tat zs k).1 (tat zs k).2.1)) from rfl)
      have HN := Lib.hid (fun he : tstepB zs k = false => show planeB zs = false by rw [HS.out, plTo_bad hlt he]; simp)
      have HY := Lib.hid (fun he : tstepB zs k = true => show plTo zs (k + 1) = true by simp only [plTo]; rw [hok, he]; rfl)
      rcases Nat.eq_zero_or_pos k with hk0 | hkp
      · subst hk0
        simp only [Nat.zero_mul, Nat.add_zero] at hp0 hp1 hp2
        generalize (tat zs 0).1 = x at *
        generalize (tat zs 0).2.1 = y at *
        generalize (tat zs 0).2.2 = z at *
        clear h hl hok
        have hE : Ext wr wr := Ext.refl _
        have hT : Ext wr (wr.alloc (.cells #[.int .i64 x, .int .i64 y, .int .i64 z] 41)) := Ext.alloc hE _
        have HR := Has.new wr #[.int .i64 x, .int .i64 y, .int .i64 z] 41
        have Rc0 := Ext.keeps (HR 0 _ rfl)
        have Rc1 := Ext.keeps (HR 1 _ rfl)
        have Rc2 := Ext.keeps (HR 2 _ rfl)
        clear HR
        replace hE : Ext (wr.alloc (.cells #[.int .i64 x, .int .i64 y, .int .i64 z] 41)) (wr.alloc (.cells #[.int .i64 x, .int .i64 y, .int .i64 z] 41)) := Ext.refl _
        cases hr : termB x y z
        · go_wp2
          have qR0 := fun s : Past (wr.alloc (.cells #[.int .i64 x, .int .i64 y, .int .i64 z] 41)) => Rc0 s.w s.ext
          have qR1 := fun s : Past (wr.alloc (.cells #[.int .i64 x, .int .i64 y, .int .i64 z] 41)) => Rc1 s.w s.ext
          have qR2 := fun s : Past (wr.alloc (.cells #[.int .i64 x, .int .i64 y, .int .i64 z] 41)) => Rc2 s.w s.ext
          refine wp_region_past (wr.alloc (.cells #[.int .i64 x, .int .i64 y, .int .i64 z] 41)) (by first | exact hE | exact Ext.alloc hE _ | exact Ext.drew hE | exact Ext.drewN hE _) (by kernel_rfl) (by kernel_rfl) ?_
          repeat (go_big_quiet_step ((first | (go_at_call 18; exact past_ext (plTerm_any _ _ _ _)) | (go_at_call 19; exact past_ext (plBefore_any _ _ _ _ _ _ _)))))
          refine wpQuiet_nil ?_
          intro _ hw'
          obtain ⟨⟨w1, hE⟩, hw''⟩ := hw'
          subst hw''
          clear qR0 qR1 qR2
          go_wp2
          go_ret
          exact ⟨ret_bool (HN.out (by rw [HA.out, hr]; rfl)).symm, hbr.trans (by repeat (first | exact Ext.refl _ | assumption | apply Ext.alloc | apply Ext.drew | apply Ext.drewN | (refine Ext.trans ?_ (by assumption)) | (refine Ext.setCell ?_ (by (try simp) <;> omega) _)))⟩
        · go_wp2
          have qR0 := fun s : Past (wr.alloc (.cells #[.int .i64 x, .int .i64 y, .int .i64 z] 41)) => Rc0 s.w s.ext
          have qR1 := fun s : Past (wr.alloc (.cells #[.int .i64 x, .int .i64 y, .int .i64 z] 41)) => Rc1 s.w s.ext
          have qR2 := fun s : Past (wr.alloc (.cells #[.int .i64 x, .int .i64 y, .int .i64 z] 41)) => Rc2 s.w s.ext
          refine wp_region_past (wr.alloc (.cells #[.int .i64 x, .int .i64 y, .int .i64 z] 41)) (by first | exact hE | exact Ext.alloc hE _ | exact Ext.drew hE | exact Ext.drewN hE _) (by kernel_rfl) (by kernel_rfl) ?_
          repeat (go_big_quiet_step ((first | (go_at_call 18; exact past_ext (plTerm_any _ _ _ _)) | (go_at_call 19; exact past_ext (plBefore_any _ _ _ _ _ _ _)))))
          refine wpQuiet_nil ?_
          intro _ hw'
          obtain ⟨⟨w1, hE⟩, hw''⟩ := hw'
          subst hw''
          clear qR0 qR1 qR2
          go_wp2
          go_roundw
          case rel => exact ⟨1, by omega, by go_num, HY.out (by rw [HA.out, hr]; rfl), hbr.trans (by repeat (first | exact Ext.refl _ | assumption | apply Ext.alloc | apply Ext.drew | apply Ext.drewN | (refine Ext.trans ?_ (by assumption)) | (refine Ext.setCell ?_ (by (try simp) <;> omega) _)))⟩
          case measure => simp [intOf]; omega
      · have hkp2 := hkp
        obtain ⟨b', off', hb', hq0, hq1, hq2⟩ := (Reads.ext hbr h).tri (k := k - 1) (by omega)
        simp only [Option.some.injEq, Addr.mk.injEq, and_true] at hb'
        obtain ⟨rfl, rfl⟩ := hb'
        have hprev := plTo_at (k := k - 1) hok (by omega)
        simp only [tstepB, Bool.and_eq_true] at hprev
        have hpb := termB_true.1 hprev.1
        have u1 := hpb.1
        have v1 := hpb.2.1
        clear hprev hpb
        have hd : decide ((0 : Int) < (k : Int)) = true := by simp; omega
        have hd2 : (0 : Int) < (k : Int) := by omega
        have hk0 : (k == 0) = false := by simp; omega
        have HK0 := Lib.hid hk0
        clear hk0
        generalize (tat zs k).1 = x at *
        generalize (tat zs k).2.1 = y at *
        generalize (tat zs k).2.2 = z at *
        generalize (tat zs (k - 1)).1 = u at *
        generalize (tat zs (k - 1)).2.1 = v at *
        generalize (tat zs (k - 1)).2.2 = q at *
        clear h hl hok
        have Pc0 := Ext.keeps hq0
        have Pc1 := Ext.keeps hq1
        have Pc2 := Ext.keeps hq2
        have hE : Ext wr wr := Ext.refl _
        have hT : Ext wr (wr.alloc (.cells #[.int .i64 x, .int .i64 y, .int .i64 z] 41)) := Ext.alloc hE _
        replace Pc0 := Ext.rebase hT Pc0
        replace Pc1 := Ext.rebase hT Pc1
        replace Pc2 := Ext.rebase hT Pc2
        have HR := Has.new wr #[.int .i64 x, .int .i64 y, .int .i64 z] 41
        have Rc0 := Ext.keeps (HR 0 _ rfl)
        have Rc1 := Ext.keeps (HR 1 _ rfl)
        have Rc2 := Ext.keeps (HR 2 _ rfl)
        clear HR
        replace hE : Ext (wr.alloc (.cells #[.int .i64 x, .int .i64 y, .int .i64 z] 41)) (wr.alloc (.cells #[.int .i64 x, .int .i64 y, .int .i64 z] 41)) := Ext.refl _
        cases hr : termB x y z
        · go_wp2
          have qP0 := fun s : Past (wr.alloc (.cells #[.int .i64 x, .int .i64 y, .int .i64 z] 41)) => Pc0 s.w s.ext
          have qP1 := fun s : Past (wr.alloc (.cells #[.int .i64 x, .int .i64 y, .int .i64 z] 41)) => Pc1 s.w s.ext
          have qP2 := fun s : Past (wr.alloc (.cells #[.int .i64 x, .int .i64 y, .int .i64 z] 41)) => Pc2 s.w s.ext
          have qR0 := fun s : Past (wr.alloc (.cells #[.int .i64 x, .int .i64 y, .int .i64 z] 41)) => Rc0 s.w s.ext
          have qR1 := fun s : Past (wr.alloc (.cells #[.int .i64 x, .int .i64 y, .int .i64 z] 41)) => Rc1 s.w s.ext
          have qR2 := fun s : Past (wr.alloc (.cells #[.int .i64 x, .int .i64 y, .int .i64 z] 41)) => Rc2 s.w s.ext
          refine wp_region_past (wr.alloc (.cells #[.int .i64 x, .int .i64 y, .int .i64 z] 41)) (by first | exact hE | exact Ext.alloc hE _ | exact Ext.drew hE | exact Ext.drewN hE _) (by kernel_rfl) (by kernel_rfl) ?_
          repeat (go_big_quiet_step ((first | (go_at_call 18; exact past_ext (plTerm_any _ _ _ _)) | (go_at_call 19; exact past_ext (plBefore_any _ _ _ _ _ _ _)))))
          refine wpQuiet_nil ?_
          intro _ hw'
          obtain ⟨⟨w1, hE⟩, hw''⟩ := hw'
          subst hw''
          clear qP0 qP1 qP2 qR0 qR1 qR2
          go_wp2
          go_ret
          exact ⟨ret_bool (HN.out (by rw [HA.out, hr]; rfl)).symm, hbr.trans (by repeat (first | exact Ext.refl _ | assumption | apply Ext.alloc | apply Ext.drew | apply Ext.drewN | (refine Ext.trans ?_ (by assumption)) | (refine Ext.setCell ?_ (by (try simp) <;> omega) _)))⟩
        · cases hB : tbefB u v x y
          · have HB := Lib.hid hB
            go_wp2
            have qP0 := fun s : Past (wr.alloc (.cells #[.int .i64 x, .int .i64 y, .int .i64 z] 41)) => Pc0 s.w s.ext
            have qP1 := fun s : Past (wr.alloc (.cells #[.int .i64 x, .int .i64 y, .int .i64 z] 41)) => Pc1 s.w s.ext
            have qP2 := fun s : Past (wr.alloc (.cells #[.int .i64 x, .int .i64 y, .int .i64 z] 41)) => Pc2 s.w s.ext
            have qR0 := fun s : Past (wr.alloc (.cells #[.int .i64 x, .int .i64 y, .int .i64 z] 41)) => Rc0 s.w s.ext
            have qR1 := fun s : Past (wr.alloc (.cells #[.int .i64 x, .int .i64 y, .int .i64 z] 41)) => Rc1 s.w s.ext
            have qR2 := fun s : Past (wr.alloc (.cells #[.int .i64 x, .int .i64 y, .int .i64 z] 41)) => Rc2 s.w s.ext
            refine wp_region_past (wr.alloc (.cells #[.int .i64 x, .int .i64 y, .int .i64 z] 41)) (by first | exact hE | exact Ext.alloc hE _ | exact Ext.drew hE | exact Ext.drewN hE _) (by kernel_rfl) (by kernel_rfl) ?_
            repeat (go_big_quiet_step ((first | (go_at_call 18; exact past_ext (plTerm_any _ _ _ _)) | (go_at_call 19; exact past_ext (plBefore_any _ _ _ _ _ _ _)))))
            refine wpQuiet_nil ?_
            intro _ hw'
            obtain ⟨⟨w1, hE⟩, hw''⟩ := hw'
            subst hw''
            clear qP0 qP1 qP2 qR0 qR1 qR2
            go_wp2
            go_ret
            exact ⟨ret_bool (HN.out (by rw [HA.out, hr, HK0.out, HB.out]; rfl)).symm, hbr.trans (by repeat (first | exact Ext.refl _ | assumption | apply Ext.alloc | apply Ext.drew | apply Ext.drewN | (refine Ext.trans ?_ (by assumption)) | (refine Ext.setCell ?_ (by (try simp) <;> omega) _)))⟩
          · have HB := Lib.hid hB
            go_wp2
            have qP0 := fun s : Past (wr.alloc (.cells #[.int .i64 x, .int .i64 y, .int .i64 z] 41)) => Pc0 s.w s.ext
            have qP1 := fun s : Past (wr.alloc (.cells #[.int .i64 x, .int .i64 y, .int .i64 z] 41)) => Pc1 s.w s.ext
            have qP2 := fun s : Past (wr.alloc (.cells #[.int .i64 x, .int .i64 y, .int .i64 z] 41)) => Pc2 s.w s.ext
            have qR0 := fun s : Past (wr.alloc (.cells #[.int .i64 x, .int .i64 y, .int .i64 z] 41)) => Rc0 s.w s.ext
            have qR1 := fun s : Past (wr.alloc (.cells #[.int .i64 x, .int .i64 y, .int .i64 z] 41)) => Rc1 s.w s.ext
            have qR2 := fun s : Past (wr.alloc (.cells #[.int .i64 x, .int .i64 y, .int .i64 z] 41)) => Rc2 s.w s.ext
            refine wp_region_past (wr.alloc (.cells #[.int .i64 x, .int .i64 y, .int .i64 z] 41)) (by first | exact hE | exact Ext.alloc hE _ | exact Ext.drew hE | exact Ext.drewN hE _) (by kernel_rfl) (by kernel_rfl) ?_
            repeat (go_big_quiet_step ((first | (go_at_call 18; exact past_ext (plTerm_any _ _ _ _)) | (go_at_call 19; exact past_ext (plBefore_any _ _ _ _ _ _ _)))))
            refine wpQuiet_nil ?_
            intro _ hw'
            obtain ⟨⟨w1, hE⟩, hw''⟩ := hw'
            subst hw''
            clear qP0 qP1 qP2 qR0 qR1 qR2
            go_wp2
            go_roundw
            case rel => exact ⟨k + 1, by omega, by go_num, HY.out (by rw [HA.out, hr, HK0.out, HB.out]; rfl), hbr.trans (by repeat (first | exact Ext.refl _ | assumption | apply Ext.alloc | apply Ext.drew | apply Ext.drewN | (refine Ext.trans ?_ (by assumption)) | (refine Ext.setCell ?_ (by (try simp) <;> omega) _)))⟩
            case measure => simp [intOf]; omega
    · have hkn : Hid (plTo zs n = true) := by show plTo zs n = true; rw [show n = k by omega]; exact hok
      clear hok
      go_wp2_with ((go_at_call 20; refine (l1In_any _ _ _ _).mono ?_; rintro e _ ⟨rfl, rfl⟩))
      go_ret
      exact ⟨ret_bool (by rw [HS.out, hkn.out]; simp), hbr⟩

set_option maxHeartbeats 4000000 in
theorem isPlane_any (a : Option Addr) (n c : Nat) (zs : List (Int × Int × Int)) (hn : n ≤ 1073741824) (w : World) (h : Reads w a 3 n (tv zs)) :
    Calls Tryz.prog 30 #[.slice a n c] w fun r w' => r = .returned (.bool (planeB zs)) ∧ Ext w w' := by
  have hl : zs.length = n := by have := h.1; rw [tv_len] at this; omega
  have HS := Lib.hid (show planeB zs = (inB (n : Int) 1 12 && plTo zs n) by unfold planeB; rw [hl])
  cases hL : inB (n : Int) 1 12
  · go_enter Tryz.func30, Tryz.ntmps30
    go_wp2_with ((go_at_call 41; refine (within_any _ _ _ _).mono ?_; rintro e _ ⟨rfl, rfl⟩))
    go_ret
    exact ⟨ret_bool (by rw [HS.out, hL]; rfl), (by repeat (first | exact Ext.refl _ | assumption | apply Ext.alloc | apply Ext.drew | apply Ext.drewN | (refine Ext.trans ?_ (by assumption)) | (refine Ext.setCell ?_ (by (try simp) <;> omega) _)))⟩
  have HL := Lib.hid hL
  go_enter Tryz.func30, Tryz.ntmps30
  go_wp2_with ((go_at_call 41; refine (within_any _ _ _ _).mono ?_; rintro e _ ⟨rfl, rfl⟩))
  go_loopw [11] (fun t wr => ∃ k : Nat, k ≤ n ∧ t = .int .i64 k ∧ plTo zs k = true ∧ Ext w wr) (fun t _ => n - (intOf t).toNat)
  case atStart => exact ⟨0, Nat.zero_le _, rfl, rfl, Ext.refl _⟩
  case round =>
    obtain ⟨k, hk, rfl, hok, hbr⟩ := hrel
    by_cases hlt : k < n
    · obtain ⟨b, off, rfl, hp0, hp1, hp2⟩ := (Reads.ext hbr h).tri hlt
      have HA := Lib.hid (show tstepB zs k = (termB (tat zs k).1 (tat zs k).2.1 (tat zs k).2.2 && (k == 0 || tbefB (tat zs (k - 1)).1 (tat zs (k - 1)).2.1 (tat zs k).1 (tat zs k).2.1)) from rfl)
      have HN := Lib.hid (fun he : tstepB zs k = false => show planeB zs = false by rw [HS.out, plTo_bad hlt he]; simp)
      have HY := Lib.hid (fun he : tstepB zs k = true => show plTo zs (k + 1) = true by simp only [plTo]; rw [hok, he]; rfl)
      cases hr : termB (tat zs k).1 (tat zs k).2.1 (tat zs k).2.2
      · have HR := Lib.hid hr
        rcases termB_no hr with h1 | h1 | h1 | h1 | h1 | h1
        · clear hr
          generalize (tat zs k).1 = x at *
          generalize (tat zs k).2.1 = y at *
          generalize (tat zs k).2.2 = z at *
          generalize tat zs (k - 1) = pr at *
          clear h hl hok hL
          skip
          have hE : Ext wr wr := Ext.refl _
          have hT : Ext wr (wr.alloc (.cells #[.int .i64 x, .int .i64 y, .int .i64 z] 41)) := Ext.alloc hE _
          have HR := Has.new wr #[.int .i64 x, .int .i64 y, .int .i64 z] 41
          have Rc0 := Ext.keeps (HR 0 _ rfl)
          have Rc1 := Ext.keeps (HR 1 _ rfl)
          have Rc2 := Ext.keeps (HR 2 _ rfl)
          clear HR
          replace hE : Ext (wr.alloc (.cells #[.int .i64 x, .int .i64 y, .int .i64 z] 41)) (wr.alloc (.cells #[.int .i64 x, .int .i64 y, .int .i64 z] 41)) := Ext.refl _
          go_wp2_with ((go_at_call 42; refine (isFinite_any _ _).mono ?_; rintro e _ ⟨rfl, rfl⟩))
          go_ret
          exact ⟨ret_bool (HN.out (by rw [HA.out, HR.out]; rfl)).symm, hbr.trans (by repeat (first | exact Ext.refl _ | assumption | apply Ext.alloc | apply Ext.drew | apply Ext.drewN | (refine Ext.trans ?_ (by assumption)) | (refine Ext.setCell ?_ (by (try simp) <;> omega) _)))⟩
        · clear hr
          generalize (tat zs k).1 = x at *
          generalize (tat zs k).2.1 = y at *
          generalize (tat zs k).2.2 = z at *
          generalize tat zs (k - 1) = pr at *
          clear h hl hok hL
          skip
          have hE : Ext wr wr := Ext.refl _
          have hT : Ext wr (wr.alloc (.cells #[.int .i64 x, .int .i64 y, .int .i64 z] 41)) := Ext.alloc hE _
          have HR := Has.new wr #[.int .i64 x, .int .i64 y, .int .i64 z] 41
          have Rc0 := Ext.keeps (HR 0 _ rfl)
          have Rc1 := Ext.keeps (HR 1 _ rfl)
          have Rc2 := Ext.keeps (HR 2 _ rfl)
          clear HR
          replace hE : Ext (wr.alloc (.cells #[.int .i64 x, .int .i64 y, .int .i64 z] 41)) (wr.alloc (.cells #[.int .i64 x, .int .i64 y, .int .i64 z] 41)) := Ext.refl _
          go_wp2_with ((go_at_call 42; refine (isFinite_any _ _).mono ?_; rintro e _ ⟨rfl, rfl⟩))
          go_ret
          exact ⟨ret_bool (HN.out (by rw [HA.out, HR.out]; rfl)).symm, hbr.trans (by repeat (first | exact Ext.refl _ | assumption | apply Ext.alloc | apply Ext.drew | apply Ext.drewN | (refine Ext.trans ?_ (by assumption)) | (refine Ext.setCell ?_ (by (try simp) <;> omega) _)))⟩
        · clear hr
          generalize (tat zs k).1 = x at *
          generalize (tat zs k).2.1 = y at *
          generalize (tat zs k).2.2 = z at *
          generalize tat zs (k - 1) = pr at *
          clear h hl hok hL
          skip
          have hE : Ext wr wr := Ext.refl _
          have hT : Ext wr (wr.alloc (.cells #[.int .i64 x, .int .i64 y, .int .i64 z] 41)) := Ext.alloc hE _
          have HR := Has.new wr #[.int .i64 x, .int .i64 y, .int .i64 z] 41
          have Rc0 := Ext.keeps (HR 0 _ rfl)
          have Rc1 := Ext.keeps (HR 1 _ rfl)
          have Rc2 := Ext.keeps (HR 2 _ rfl)
          clear HR
          replace hE : Ext (wr.alloc (.cells #[.int .i64 x, .int .i64 y, .int .i64 z] 41)) (wr.alloc (.cells #[.int .i64 x, .int .i64 y, .int .i64 z] 41)) := Ext.refl _
          go_wp2_with ((go_at_call 42; refine (isFinite_any _ _).mono ?_; rintro e _ ⟨rfl, rfl⟩))
          go_ret
          exact ⟨ret_bool (HN.out (by rw [HA.out, HR.out]; rfl)).symm, hbr.trans (by repeat (first | exact Ext.refl _ | assumption | apply Ext.alloc | apply Ext.drew | apply Ext.drewN | (refine Ext.trans ?_ (by assumption)) | (refine Ext.setCell ?_ (by (try simp) <;> omega) _)))⟩
        · clear hr
          generalize (tat zs k).1 = x at *
          generalize (tat zs k).2.1 = y at *
          generalize (tat zs k).2.2 = z at *
          generalize tat zs (k - 1) = pr at *
          clear h hl hok hL
          skip
          have hE : Ext wr wr := Ext.refl _
          have hT : Ext wr (wr.alloc (.cells #[.int .i64 x, .int .i64 y, .int .i64 z] 41)) := Ext.alloc hE _
          have HR := Has.new wr #[.int .i64 x, .int .i64 y, .int .i64 z] 41
          have Rc0 := Ext.keeps (HR 0 _ rfl)
          have Rc1 := Ext.keeps (HR 1 _ rfl)
          have Rc2 := Ext.keeps (HR 2 _ rfl)
          clear HR
          replace hE : Ext (wr.alloc (.cells #[.int .i64 x, .int .i64 y, .int .i64 z] 41)) (wr.alloc (.cells #[.int .i64 x, .int .i64 y, .int .i64 z] 41)) := Ext.refl _
          go_wp2_with ((go_at_call 42; refine (isFinite_any _ _).mono ?_; rintro e _ ⟨rfl, rfl⟩))
          go_ret
          exact ⟨ret_bool (HN.out (by rw [HA.out, HR.out]; rfl)).symm, hbr.trans (by repeat (first | exact Ext.refl _ | assumption | apply Ext.alloc | apply Ext.drew | apply Ext.drewN | (refine Ext.trans ?_ (by assumption)) | (refine Ext.setCell ?_ (by (try simp) <;> omega) _)))⟩
        · clear hr
          generalize (tat zs k).1 = x at *
          generalize (tat zs k).2.1 = y at *
          generalize (tat zs k).2.2 = z at *
          generalize tat zs (k - 1) = pr at *
          clear h hl hok hL
          have e1 : IntKind.i64.wrap (x + y) = x + y := wrap_i64 (by omega) (by omega)
          have hE : Ext wr wr := Ext.refl _
          have hT : Ext wr (wr.alloc (.cells #[.int .i64 x, .int .i64 y, .int .i64 z] 41)) := Ext.alloc hE _
          have HR := Has.new wr #[.int .i64 x, .int .i64 y, .int .i64 z] 41
          have Rc0 := Ext.keeps (HR 0 _ rfl)
          have Rc1 := Ext.keeps (HR 1 _ rfl)
          have Rc2 := Ext.keeps (HR 2 _ rfl)
          clear HR
          replace hE : Ext (wr.alloc (.cells #[.int .i64 x, .int .i64 y, .int .i64 z] 41)) (wr.alloc (.cells #[.int .i64 x, .int .i64 y, .int .i64 z] 41)) := Ext.refl _
          go_wp2_with ((go_at_call 42; refine (isFinite_any _ _).mono ?_; rintro e _ ⟨rfl, rfl⟩))
          go_ret
          exact ⟨ret_bool (HN.out (by rw [HA.out, HR.out]; rfl)).symm, hbr.trans (by repeat (first | exact Ext.refl _ | assumption | apply Ext.alloc | apply Ext.drew | apply Ext.drewN | (refine Ext.trans ?_ (by assumption)) | (refine Ext.setCell ?_ (by (try simp) <;> omega) _)))⟩
        · clear hr
          generalize (tat zs k).1 = x at *
          generalize (tat zs k).2.1 = y at *
          generalize (tat zs k).2.2 = z at *
          generalize tat zs (k - 1) = pr at *
          clear h hl hok hL
          have e1 : IntKind.i64.wrap (x + y) = x + y := wrap_i64 (by omega) (by omega)
          have hE : Ext wr wr := Ext.refl _
          have hT : Ext wr (wr.alloc (.cells #[.int .i64 x, .int .i64 y, .int .i64 z] 41)) := Ext.alloc hE _
          have HR := Has.new wr #[.int .i64 x, .int .i64 y, .int .i64 z] 41
          have Rc0 := Ext.keeps (HR 0 _ rfl)
          have Rc1 := Ext.keeps (HR 1 _ rfl)
          have Rc2 := Ext.keeps (HR 2 _ rfl)
          clear HR
          replace hE : Ext (wr.alloc (.cells #[.int .i64 x, .int .i64 y, .int .i64 z] 41)) (wr.alloc (.cells #[.int .i64 x, .int .i64 y, .int .i64 z] 41)) := Ext.refl _
          go_wp2_with ((go_at_call 42; refine (isFinite_any _ _).mono ?_; rintro e _ ⟨rfl, rfl⟩))
          go_ret
          exact ⟨ret_bool (HN.out (by rw [HA.out, HR.out]; rfl)).symm, hbr.trans (by repeat (first | exact Ext.refl _ | assumption | apply Ext.alloc | apply Ext.drew | apply Ext.drewN | (refine Ext.trans ?_ (by assumption)) | (refine Ext.setCell ?_ (by (try simp) <;> omega) _)))⟩
      · have hb := termB_true.1 hr
        have HR := Lib.hid hr
        have x1 := hb.1
        have y1 := hb.2.1
        have z1 := hb.2.2
        have xa := x1.1
        have xb := x1.2
        have ya := y1.1
        have yb : (tat zs k).2.1 ≤ 6 := by omega
        have yc : (tat zs k).1 + (tat zs k).2.1 ≤ 6 := by omega
        clear hb hr
        rcases Nat.eq_zero_or_pos k with hk0 | hkp
        · subst hk0
          simp only [Nat.zero_mul, Nat.add_zero] at hp0 hp1 hp2
          generalize (tat zs 0).1 = x at *
          generalize (tat zs 0).2.1 = y at *
          generalize (tat zs 0).2.2 = z at *
          clear h hl hok hL
          have e1 : IntKind.i64.wrap (x + y) = x + y := wrap_i64 (by omega) (by omega)
          have d0 : decide (x < 0) = false := by simp; omega
          have d1 : decide (y < 0) = false := by simp; omega
          have d2 : decide (6 < x) = false := by simp; omega
          have d3 : decide (6 < y) = false := by simp; omega
          have d4 : decide (6 < x + y) = false := by simp; omega
          have hE : Ext wr wr := Ext.refl _
          have hT : Ext wr (wr.alloc (.cells #[.int .i64 x, .int .i64 y, .int .i64 z] 41)) := Ext.alloc hE _
          have HR := Has.new wr #[.int .i64 x, .int .i64 y, .int .i64 z] 41
          have Rc0 := Ext.keeps (HR 0 _ rfl)
          have Rc1 := Ext.keeps (HR 1 _ rfl)
          have Rc2 := Ext.keeps (HR 2 _ rfl)
          clear HR
          replace hE : Ext (wr.alloc (.cells #[.int .i64 x, .int .i64 y, .int .i64 z] 41)) (wr.alloc (.cells #[.int .i64 x, .int .i64 y, .int .i64 z] 41)) := Ext.refl _
          go_wp2_with ((go_at_call 42; refine (isFinite_any _ _).mono ?_; rintro e _ ⟨rfl, rfl⟩))
          have qR0 := fun s : Past (wr.alloc (.cells #[.int .i64 x, .int .i64 y, .int .i64 z] 41)) => Rc0 s.w s.ext
          have qR1 := fun s : Past (wr.alloc (.cells #[.int .i64 x, .int .i64 y, .int .i64 z] 41)) => Rc1 s.w s.ext
          have qR2 := fun s : Past (wr.alloc (.cells #[.int .i64 x, .int .i64 y, .int .i64 z] 41)) => Rc2 s.w s.ext
          refine wp_region_past (wr.alloc (.cells #[.int .i64 x, .int .i64 y, .int .i64 z] 41)) (by first | exact hE | exact Ext.alloc hE _ | exact Ext.drew hE | exact Ext.drewN hE _) (by kernel_rfl) (by kernel_rfl) ?_
          repeat (go_big_quiet_step (((go_at_call 43; exact past_ext (compareTerms_any _ _ _ _ _ _ (by omega) (by omega) (by omega) (by omega) _)))))
          refine wpQuiet_nil ?_
          intro _ hw'
          obtain ⟨⟨w1, hE⟩, hw''⟩ := hw'
          subst hw''
          clear qR0 qR1 qR2
          go_wp2
          go_roundw
          case rel => exact ⟨1, by omega, by go_num, HY.out (by rw [HA.out, HR.out]; rfl), hbr.trans (by repeat (first | exact Ext.refl _ | assumption | apply Ext.alloc | apply Ext.drew | apply Ext.drewN | (refine Ext.trans ?_ (by assumption)) | (refine Ext.setCell ?_ (by (try simp) <;> omega) _)))⟩
          case measure => simp [intOf]; omega
        · have hkp2 := hkp
          obtain ⟨b', off', hb', hq0, hq1, hq2⟩ := (Reads.ext hbr h).tri (k := k - 1) (by omega)
          simp only [Option.some.injEq, Addr.mk.injEq, and_true] at hb'
          obtain ⟨rfl, rfl⟩ := hb'
          have hprev := plTo_at (k := k - 1) hok (by omega)
          simp only [tstepB, Bool.and_eq_true] at hprev
          have hpb := termB_true.1 hprev.1
          have u1 := hpb.1
          have v1 := hpb.2.1
          clear hprev hpb
          have hd : decide ((0 : Int) < (k : Int)) = true := by simp; omega
          have hd2 : (0 : Int) < (k : Int) := by omega
          have hk0 : (k == 0) = false := by simp; omega
          have HK0 := Lib.hid hk0
          clear hk0
          have u3 := (plTo_at (k := k - 1) hok (by omega))
          clear u3
          generalize (tat zs k).1 = x at *
          generalize (tat zs k).2.1 = y at *
          generalize (tat zs k).2.2 = z at *
          generalize (tat zs (k - 1)).1 = u at *
          generalize (tat zs (k - 1)).2.1 = v at *
          generalize (tat zs (k - 1)).2.2 = q at *
          clear h hl hok hL
          have Pc0 := Ext.keeps hq0
          have Pc1 := Ext.keeps hq1
          have Pc2 := Ext.keeps hq2
          have e1 : IntKind.i64.wrap (x + y) = x + y := wrap_i64 (by omega) (by omega)
          have d0 : decide (x < 0) = false := by simp; omega
          have d1 : decide (y < 0) = false := by simp; omega
          have d2 : decide (6 < x) = false := by simp; omega
          have d3 : decide (6 < y) = false := by simp; omega
          have d4 : decide (6 < x + y) = false := by simp; omega
          have HC := Lib.hid (fun w => compareTerms_any u v q x y z u1 (by omega) x1 (by omega) w)
          obtain ⟨s0, hs0⟩ : ∃ s0, s0 = cmpT u v x y := ⟨_, rfl⟩
          have hs1 : (if u = x then v - y else u - x) = s0 := hs0.symm
          rw [hs1] at HC
          have HS0 := Lib.hid hs0
          clear hs0 hs1
          have hE : Ext wr wr := Ext.refl _
          have hT : Ext wr (wr.alloc (.cells #[.int .i64 x, .int .i64 y, .int .i64 z] 41)) := Ext.alloc hE _
          replace Pc0 := Ext.rebase hT Pc0
          replace Pc1 := Ext.rebase hT Pc1
          replace Pc2 := Ext.rebase hT Pc2
          have HR := Has.new wr #[.int .i64 x, .int .i64 y, .int .i64 z] 41
          have Rc0 := Ext.keeps (HR 0 _ rfl)
          have Rc1 := Ext.keeps (HR 1 _ rfl)
          have Rc2 := Ext.keeps (HR 2 _ rfl)
          clear HR
          replace hE : Ext (wr.alloc (.cells #[.int .i64 x, .int .i64 y, .int .i64 z] 41)) (wr.alloc (.cells #[.int .i64 x, .int .i64 y, .int .i64 z] 41)) := Ext.refl _
          cases hB : tbefB u v x y
          · have HB := Lib.hid hB
            have hc0 : 0 ≤ s0 := by rw [HS0.out]; exact cmpT_not hB
            clear hB
            go_wp2_with ((go_at_call 42; refine (isFinite_any _ _).mono ?_; rintro e _ ⟨rfl, rfl⟩))
            have qP0 := fun s : Past (wr.alloc (.cells #[.int .i64 x, .int .i64 y, .int .i64 z] 41)) => Pc0 s.w s.ext
            have qP1 := fun s : Past (wr.alloc (.cells #[.int .i64 x, .int .i64 y, .int .i64 z] 41)) => Pc1 s.w s.ext
            have qP2 := fun s : Past (wr.alloc (.cells #[.int .i64 x, .int .i64 y, .int .i64 z] 41)) => Pc2 s.w s.ext
            have qR0 := fun s : Past (wr.alloc (.cells #[.int .i64 x, .int .i64 y, .int .i64 z] 41)) => Rc0 s.w s.ext
            have qR1 := fun s : Past (wr.alloc (.cells #[.int .i64 x, .int .i64 y, .int .i64 z] 41)) => Rc1 s.w s.ext
            have qR2 := fun s : Past (wr.alloc (.cells #[.int .i64 x, .int .i64 y, .int .i64 z] 41)) => Rc2 s.w s.ext
            refine wp_region_past (wr.alloc (.cells #[.int .i64 x, .int .i64 y, .int .i64 z] 41)) (by first | exact hE | exact Ext.alloc hE _ | exact Ext.drew hE | exact Ext.drewN hE _) (by kernel_rfl) (by kernel_rfl) ?_
            repeat (go_big_quiet_step (((go_at_call 43; exact past_ext (HC.out _)))))
            refine wpQuiet_nil ?_
            intro _ hw'
            obtain ⟨⟨w1, hE⟩, hw''⟩ := hw'
            subst hw''
            clear qP0 qP1 qP2 qR0 qR1 qR2
            go_wp2
            go_ret
            exact ⟨ret_bool (HN.out (by rw [HA.out, HR.out, HK0.out, HB.out]; rfl)).symm, hbr.trans (by repeat (first | exact Ext.refl _ | assumption | apply Ext.alloc | apply Ext.drew | apply Ext.drewN | (refine Ext.trans ?_ (by assumption)) | (refine Ext.setCell ?_ (by (try simp) <;> omega) _)))⟩
          · have HB := Lib.hid hB
            have hc0 : s0 < 0 := by rw [HS0.out]; exact cmpT_bef hB
            have hc1 : decide (0 ≤ s0) = false := by simp; omega
            clear hB
            go_wp2_with ((go_at_call 42; refine (isFinite_any _ _).mono ?_; rintro e _ ⟨rfl, rfl⟩))
            have qP0 := fun s : Past (wr.alloc (.cells #[.int .i64 x, .int .i64 y, .int .i64 z] 41)) => Pc0 s.w s.ext
            have qP1 := fun s : Past (wr.alloc (.cells #[.int .i64 x, .int .i64 y, .int .i64 z] 41)) => Pc1 s.w s.ext
            have qP2 := fun s : Past (wr.alloc (.cells #[.int .i64 x, .int .i64 y, .int .i64 z] 41)) => Pc2 s.w s.ext
            have qR0 := fun s : Past (wr.alloc (.cells #[.int .i64 x, .int .i64 y, .int .i64 z] 41)) => Rc0 s.w s.ext
            have qR1 := fun s : Past (wr.alloc (.cells #[.int .i64 x, .int .i64 y, .int .i64 z] 41)) => Rc1 s.w s.ext
            have qR2 := fun s : Past (wr.alloc (.cells #[.int .i64 x, .int .i64 y, .int .i64 z] 41)) => Rc2 s.w s.ext
            refine wp_region_past (wr.alloc (.cells #[.int .i64 x, .int .i64 y, .int .i64 z] 41)) (by first | exact hE | exact Ext.alloc hE _ | exact Ext.drew hE | exact Ext.drewN hE _) (by kernel_rfl) (by kernel_rfl) ?_
            repeat (go_big_quiet_step (((go_at_call 43; exact past_ext (HC.out _)))))
            refine wpQuiet_nil ?_
            intro _ hw'
            obtain ⟨⟨w1, hE⟩, hw''⟩ := hw'
            subst hw''
            clear qP0 qP1 qP2 qR0 qR1 qR2
            go_wp2
            go_roundw
            case rel => exact ⟨k + 1, by omega, by go_num, HY.out (by rw [HA.out, HR.out, HK0.out, HB.out]; rfl), hbr.trans (by repeat (first | exact Ext.refl _ | assumption | apply Ext.alloc | apply Ext.drew | apply Ext.drewN | (refine Ext.trans ?_ (by assumption)) | (refine Ext.setCell ?_ (by (try simp) <;> omega) _)))⟩
            case measure => simp [intOf]; omega
    · have hkn : Hid (plTo zs n = true) := by show plTo zs n = true; rw [show n = k by omega]; exact hok
      clear hok
      go_wp2
      go_ret
      exact ⟨ret_bool (by rw [HS.out, hkn.out, HL.out]; rfl), hbr⟩

end Go.Proofs.YtngbdopgdcjdeaaGreatDoor

namespace Go.Proofs.YtngbdopgdcjdeaaGreatDoor
open Go.RowKit

/-- The points of the terms. -/
def ptsL (zs : List (Int × Int × Int)) : List (Int × Int) := zs.map fun t => (t.1, t.2.1)
theorem ptsL_len (zs : List (Int × Int × Int)) : (ptsL zs).length = zs.length := by simp [ptsL]
theorem ptsL_pat {zs : List (Int × Int × Int)} {k : Nat} (h : k < zs.length) : pat (ptsL zs) k = ((tat zs k).1, (tat zs k).2.1) := by
  rw [pat_eq (by rw [ptsL_len]; exact h), show tat zs k = zs[k] by simp [tat, List.getD, h]]; simp [ptsL]
theorem ptsL_pI {zs : List (Int × Int × Int)} {k : Nat} (h : k < zs.length) : pat (ptsL zs) k = pI zs k := by
  rw [ptsL_pat h]; rfl
theorem ptsL_take {zs : List (Int × Int × Int)} {k : Nat} (h : k < zs.length) : ptsL (zs.take (k + 1)) = ptsL (zs.take k) ++ [((tat zs k).1, (tat zs k).2.1)] := by
  rw [List.take_succ_eq_append_getElem h, show tat zs k = zs[k] by simp [tat, List.getD, h]]; simp only [ptsL, List.map_append, List.map_cons, List.map_nil]
theorem pts_lex {zs : List (Int × Int × Int)} (h : planeB zs = true) {i j : Nat} (hij : i < j) (hj : j < zs.length) : lexP (pI zs i) (pI zs j) := by
  obtain ⟨_, _, hs⟩ := plane_step h
  have one : ∀ k, k + 1 < zs.length → lexP (pI zs k) (pI zs (k + 1)) := by
    intro k hk
    have := hs (k + 1) hk
    simp only [tstepB, Bool.and_eq_true, Bool.or_eq_true, Nat.add_sub_cancel] at this
    have h2 := this.2.resolve_left (by simp)
    unfold tbefB at h2
    simp only [Bool.or_eq_true, Bool.and_eq_true, decide_eq_true_eq] at h2
    unfold lexP lexV pI
    unfold tat at h2
    simp only
    omega
  obtain ⟨d, rfl⟩ : ∃ d, j = i + 1 + d := ⟨j - i - 1, by omega⟩
  clear hij
  induction d with
  | zero => exact one i hj
  | succ d ih => exact lexP_trans (ih (by omega)) (one (i + 1 + d) (by omega))
theorem pts_sorted {zs : List (Int × Int × Int)} (h : planeB zs = true) : (ptsL zs).Pairwise lexP := by
  rw [List.pairwise_iff_getElem]
  intro i j hi hj hij
  rw [ptsL_len] at hi hj
  rw [← pat_eq, ← pat_eq, ptsL_pI hi, ptsL_pI hj]
  exact pts_lex h hij hj
theorem pts_bd {zs : List (Int × Int × Int)} (h : planeB zs = true) {k : Nat} (hk : k < zs.length) : (0 ≤ (pI zs k).1 ∧ 0 ≤ (pI zs k).2 ∧ (pI zs k).1 + (pI zs k).2 ≤ 6) ∧ (-1000000 ≤ cI zs k ∧ cI zs k ≤ 1000000) := by
  have := termB_true.1 (plane_term h hk)
  have h3 := finB_true.1 this.2.2
  unfold tat at this h3
  unfold pI cI
  simp only
  omega
theorem pts_PB {zs : List (Int × Int × Int)} (h : planeB zs = true) : ∀ z ∈ ptsL zs, PB z := by
  intro z hz
  obtain ⟨k, hk, rfl⟩ := List.mem_iff_getElem.1 hz
  rw [ptsL_len] at hk
  rw [← pat_eq, ptsL_pI hk]
  have := (pts_bd h hk).1
  unfold PB
  omega
theorem hullL_len {l : List (Int × Int)} : (hullL l).length ≤ l.length + l.length := by
  unfold hullL
  split
  · omega
  · have h1 := chainR_len l
    have h2 := chainR_len l.reverse
    simp at h1 h2 ⊢; omega
def gP (t : Bool) (l : List (Int × Int)) : List (Int × Int) := if t then l else []
theorem gP_le {t : Bool} {l : List (Int × Int)} {k : Nat} (h : l.length ≤ k) : (gP t l).length ≤ k := by unfold gP; split <;> simp [h]
/-- A slice of points of the call's own, and a truth. -/
def OwnsPtsB (B : Nat) (zs : List (Int × Int)) (ok : Bool) (w : World) (r : Ending) (w' : World) : Prop :=
  ∃ a c, r = .returned (.tuple #[.slice a zs.length c, .bool ok]) ∧ w'.ownsRow B 55 2 (.slice a zs.length c) zs.length (pv zs) ∧ Ext w w'
set_option maxHeartbeats 4000000 in
theorem pyHull_any (a : Option Addr) (n c : Nat) (zs : List (Int × Int)) (hn : n ≤ 1000) (hs : zs.Pairwise lexP) (hz : ∀ z ∈ zs, PB z) (w : World) (h : Reads w a 2 n (pv zs)) :
    Calls Tryz.prog 38 #[.slice a n c] w (OwnsPts w.heap.size (hullL zs) w) := by
  have hl : zs.length = n := by have := h.1; rw [pv_len] at this; omega
  subst hl
  have HZ := Lib.hid hz
  have HC := Lib.hid (pySorted_any a zs.length c zs hn hs w h)
  obtain ⟨i0, hz1, hz2, hz3, hz4⟩ := info_parts point_info
  have HZI := Lib.hid (And.intro hz1 (And.intro hz2 (And.intro hz3 hz4)))
  clear hz1 hz2 hz3 hz4 hs hz h
  go_enter Tryz.func38, Tryz.ntmps38
  go_wp2_with fail
  refine HC.out.mono ?_
  rintro e w1 ⟨a1, c1, rfl, hown1, hE1⟩
  clear HC
  by_cases h2 : zs.length < 2
  · have HH := Lib.hid (show hullL zs = zs by unfold hullL; rw [if_pos h2])
    go_wp2
    go_ret
    exact ⟨a1, c1, by rw [HH.out] <;> rfl, by rw [HH.out]; exact hown1, hE1⟩
  · have HH := Lib.hid (show hullL zs = (chainR zs).tail.reverse ++ (chainR zs.reverse).tail.reverse by unfold hullL; rw [if_neg h2])
    obtain ⟨g, rfl, hg1, hg2⟩ := own_head hown1 (by omega)
    have hne : zs ≠ [] := by rintro rfl; simp at h2
    have hne2 : zs.reverse ≠ [] := by simpa using hne
    have HP1 := Lib.hid (chainR_pos hne)
    have HP2 := Lib.hid (chainR_pos hne2)
    have HL1 := Lib.hid (show (chainR zs).length ≤ 1000 by have := chainR_len zs; omega)
    have HL2 := Lib.hid (show (chainR zs.reverse).length ≤ 1000 by have := chainR_len zs.reverse; simp at this; omega)
    have HA := Lib.hid (fun w h => pyHalf_any (some ⟨g, 0, none⟩) zs.length c1 zs (by omega) HZ.out w h)
    have HB := Lib.hid (fun a c w h => pyHalf_any a zs.length c zs.reverse (by omega) (fun z hz => HZ.out z (List.mem_reverse.1 hz)) w h)
    clear hne hne2 HZ
    generalize chainR zs = A at *
    generalize chainR zs.reverse = D at *
    go_wp2_with fail
    refine (HA.out _ (own_reads hown1)).mono ?_
    rintro e w2 ⟨a2, c2, rfl, hownA, hb2⟩
    have hown2 := own_ext hb2 hown1
    have hE2 := hE1.trans hb2
    clear hb2 HA hown1
    have HOA := Lib.hid hownA
    have HO2 := Lib.hid hown2
    clear hownA hown2
    have wz : IntKind.i64.wrap ((zs.length : Int) - 1) = (zs.length : Int) - 1 := by rw [wrap_i64] <;> omega
    go_wp2
    go_loopw [5, 6] (fun s t wr => ∃ (k : Nat) (a3 : Option Addr) (c3 : Nat), k ≤ zs.length ∧ t = .int .i64 ((zs.length : Int) - 1 - k) ∧ s = .slice a3 k c3 ∧ wr.ownsRow w2.heap.size 55 2 (.slice a3 k c3) k (pv (zs.reverse.take k)) ∧ Ext w2 wr) (fun _ t _ => (intOf t + 1).toNat)
    case atStart => exact ⟨0, none, 0, Nat.zero_le _, by simp, rfl, own_nonePt _ _, Ext.refl _⟩
    case round =>
      obtain ⟨k, a3, c3, hk, rfl, rfl, hown, hE⟩ := hrel
      by_cases hlt : k < zs.length
      · obtain ⟨m, hm⟩ : ∃ m, m = zs.length - 1 - k := ⟨_, rfl⟩
        have hmi : (zs.length : Int) - 1 - k = (m : Int) := by omega
        rw [hmi]
        obtain ⟨_, _, e1, x0, x1⟩ := (own_reads (own_ext hE HO2.out)).pair (k := m) (by omega)
        simp only [Option.some.injEq, Addr.mk.injEq, and_true] at e1
        obtain ⟨rfl, rfl⟩ := e1
        have HT := Lib.hid (show zs.reverse.take (k + 1) = zs.reverse.take k ++ [pat zs m] by
          rw [List.take_succ_eq_append_getElem (by simpa using hlt), List.getElem_reverse, pat_eq (by omega)]
          simp only [hm])
        have hmz : m < zs.length := by omega
        have HM := Lib.hid hm
        generalize pat zs m = p at *
        obtain ⟨p1, p2⟩ := p
        simp only [Nat.zero_add] at x0 x1
        clear hm hmi
        go_wp2_with (at_builtin; go_must (refine wpList_appQ rfl _ _ rfl w2 w2.heap.size _ _ _ (zs.reverse.take k) rfl (own_ext (Ext.alloc (Ext.refl _) _) hown) ⟨_, 0, none⟩ 1 1 [(p1, p2)] rfl rfl (one_cells (by simp) (by simp)) (by omega) (by omega) (by have := hE.size; simp <;> omega) (Ext.alloc hE _) (Nat.le_refl _) ?_))
        intro a4 c4 w4 hown4 hE4
        go_wp2
        go_roundw
        case rel => exact ⟨k + 1, a4, c4, by omega, congrArg (Value.int .i64) (by have := HM.out; omega), by simp, by rw [HT.out]; exact hown4, hE4⟩
        case measure => simp [intOf] <;> omega
      · obtain rfl : k = zs.length := by omega
        have e : zs.reverse.take zs.length = zs.reverse := List.take_of_length_le (by simp)
        rw [e] at hown
        have hk0 : ¬ (0 : Int) ≤ (zs.length : Int) - 1 - zs.length := by omega
        have hk1 : decide ((0 : Int) ≤ (zs.length : Int) - 1 - zs.length) = false := by simp; omega
        rw [show (zs.length : Int) - 1 - zs.length = -1 by omega] at *
        go_wp2_with fail
        refine (HB.out a3 c3 _ (own_reads hown)).mono ?_
        rintro e w3 ⟨a5, c5, rfl, hownB, hb3⟩
        have hE3 := hE.trans hb3
        have hEw := hE2.trans hE3
        obtain ⟨x, A', rfl⟩ : ∃ x A', A = x :: A' := by
          match A, HP1.out with
          | x :: A', _ => exact ⟨x, A', rfl⟩
        obtain ⟨y, D', rfl⟩ : ∃ y D', D = y :: D' := by
          match D, HP2.out with
          | y :: D', _ => exact ⟨y, D', rfl⟩
        have l1 := HL1.out
        have l2 := HL2.out
        have hownA3 := own_ext hE3 HOA.out
        simp only [List.length_reverse, List.length_cons] at hownA3 hownB l1 l2 ⊢
        obtain ⟨ga, rfl, _, _⟩ := own_head hownA3 (by omega)
        obtain ⟨gb, rfl, _, _⟩ := own_head hownB (by omega)
        have capA := (own_capQ hownA3).1
        have capB := (own_capQ hownB).1
        have HRA := Lib.hid (fun w' (z : Ext w3 w') => show Reads w' (some ⟨ga, 0, none⟩) 2 A'.length (pv A'.reverse) by
          have := (own_reads (own_ext z hownA3)).take (k := A'.length) (by omega)
          rwa [pv_pop] at this)
        have HRB := Lib.hid (fun w' (z : Ext w3 w') => show Reads w' (some ⟨gb, 0, none⟩) 2 D'.length (pv D'.reverse) by
          have := (own_reads (own_ext z hownB)).take (k := D'.length) (by omega)
          rwa [pv_pop] at this)
        have wA : IntKind.i64.wrap (A'.length : Int) = (A'.length : Int) := by rw [wrap_i64] <;> omega
        have wB : IntKind.i64.wrap (D'.length : Int) = (D'.length : Int) := by rw [wrap_i64] <;> omega
        have zA : (0 : Int) ≤ (A'.length : Int) := by omega
        have zB : (0 : Int) ≤ (D'.length : Int) := by omega
        have cA : A'.length ≤ c2 := by omega
        have cA2 : (A'.length : Int) ≤ (c2 : Int) := by omega
        have cB2 : (D'.length : Int) ≤ (c5 : Int) := by omega
        have cB : D'.length ≤ c5 := by omega
        clear hownA3 hownB HOA HO2 hown hE hb3 hE3 hE2 HP1 HP2 HL1 HL2 capA capB HB
        go_wp2
        go_region_held3 (fun w' => Ext w3 w') (first | exact HE4.out | exact HE3.out | (repeat (first | exact Ext.refl _ | assumption | apply Ext.alloc | apply Ext.drew | apply Ext.drewN | (refine Ext.trans ?_ (by assumption)) | (refine Ext.setCell ?_ (by (try simp) <;> omega) _)))) (first | (have t3 := H3; clear t3; refine step_app_N _ (by rfl) _ _ 59 (by rfl) w3.heap.size 55 i0 _ 2 16 Tryz.underlying59 HZI.out.1 HZI.out.2.1 HZI.out.2.2.1 HZI.out.2.2.2 rfl (by omega) (A'.length + D'.length) (.slice _ _ _) _ _ (by rfl) H3.out _ _ _ _ (by rfl) (HRB.out _ HE3.out) (pv_one _) (by omega) (by unfold maxLen; omega) (by omega) (Ext.size HE3.out) ?_; intro a8 c8 w8 hown8 hg8; have H4 := Lib.hid hown8; have HE4 := Lib.hid (Ext.grown (a := w3) HE3.out hg8 (fun k hk => (H3.out.lt k hk).1)); clear hown8 hg8) | (refine step_app_N _ (by rfl) _ _ 59 (by rfl) w3.heap.size 55 i0 _ 2 16 Tryz.underlying59 HZI.out.1 HZI.out.2.1 HZI.out.2.2.1 HZI.out.2.2.2 rfl (by omega) (A'.length) (.slice (some ⟨_, 0, none⟩) 0 0) 0 [] (by rfl) (own_emptyH w3 rfl rfl rfl (Nat.le_refl _)) _ _ _ _ (by rfl) (HRA.out _ (by repeat (first | exact Ext.refl _ | assumption | apply Ext.alloc | apply Ext.drew | apply Ext.drewN | (refine Ext.trans ?_ (by assumption)) | (refine Ext.setCell ?_ (by (try simp) <;> omega) _)))) (pv_one _) (by omega) (by unfold maxLen; omega) (by omega) (Ext.size (w := w3) (by repeat (first | exact Ext.refl _ | assumption | apply Ext.alloc | apply Ext.drew | apply Ext.drewN | (refine Ext.trans ?_ (by assumption)) | (refine Ext.setCell ?_ (by (try simp) <;> omega) _)))) ?_; intro a7 c7 w7 hown7 hg7; have H3 := Lib.hid hown7; have HE3 := Lib.hid (Ext.grown (a := w3) (by repeat (first | exact Ext.refl _ | assumption | apply Ext.alloc | apply Ext.drew | apply Ext.drewN | (refine Ext.trans ?_ (by assumption)) | (refine Ext.setCell ?_ (by (try simp) <;> omega) _))) hg7 (fun k hk => by simp [Value.ownBlock] at hk; omega)); clear hown7 hg7))
        go_wp2
        go_ret
        exact ⟨a8, c8, by rw [HH.out]; simp, by rw [HH.out]; simpa [pv_append] using own_mono (Ext.size hEw) H4.out, hEw.trans HE4.out⟩
set_option maxHeartbeats 1000000 in
theorem pointsOf_any (a : Option Addr) (n c : Nat) (zs : List (Int × Int × Int)) (hn : n ≤ 1000) (w : World) (h : Reads w a 3 n (tv zs)) :
    Calls Tryz.prog 44 #[.slice a n c] w (OwnsPts w.heap.size (ptsL zs) w) := by
  have hl : zs.length = n := by have := h.1; rw [tv_len] at this; omega
  subst hl
  go_enter Tryz.func44, Tryz.ntmps44
  go_wp2
  go_loopw [3, 9] (fun s t wr => ∃ (k : Nat) (a1 : Option Addr) (c1 : Nat), k ≤ zs.length ∧ t = .int .i64 k ∧ s = .slice a1 k c1 ∧ wr.ownsRow w.heap.size 55 2 (.slice a1 k c1) k (pv (ptsL (zs.take k))) ∧ Ext w wr) (fun _ t _ => zs.length - (intOf t).toNat)
  case atStart => exact ⟨0, some ⟨w.heap.size, 0, none⟩, 0, Nat.zero_le _, rfl, rfl, World.ownsRow_lit w #[] 0 (Nat.le_refl _) (by unfold maxLen; omega) rfl, (by repeat (first | exact Ext.refl _ | assumption | apply Ext.alloc | apply Ext.drew | apply Ext.drewN | (refine Ext.trans ?_ (by assumption)) | (refine Ext.setCell ?_ (by (try simp) <;> omega) _)))⟩
  case round =>
    obtain ⟨k, a1, c1, hk, rfl, rfl, hown, hE⟩ := hrel
    by_cases hlt : k < zs.length
    · obtain ⟨b, off, rfl, hp0, hp1, hp2⟩ := (Reads.ext hE h).tri hlt
      have HT := Lib.hid (ptsL_take hlt)
      generalize (tat zs k).1 = x at *
      generalize (tat zs k).2.1 = y at *
      generalize (tat zs k).2.2 = z at *
      have hsz := hE.size
      go_wp2_with (at_builtin; go_must (refine wpList_appQ rfl _ _ rfl w w.heap.size _ _ _ (ptsL (zs.take k)) rfl (own_ext (Ext.alloc (Ext.alloc (Ext.refl _) _) _) hown) ⟨_, 0, none⟩ 1 1 [(x, y)] rfl rfl (one_cells (by simp) (by simp)) (by omega) (by omega) (by simp; omega) (Ext.alloc (Ext.alloc hE _) _) (Nat.le_refl _) ?_))
      intro a4 c4 w4 hown4 hE4
      go_wp2
      go_roundw
      case rel => exact ⟨k + 1, a4, c4, by omega, by go_num, by simp, by rw [HT.out]; exact hown4, hE4⟩
      case measure => simp [intOf]; omega
    · obtain rfl : k = zs.length := by omega
      rw [List.take_length] at hown
      go_wp2
      go_ret
      exact ⟨a1, c1, by rw [ptsL_len] <;> rfl, by rw [ptsL_len]; exact hown, hE⟩
end Go.Proofs.YtngbdopgdcjdeaaGreatDoor

namespace Go.Proofs.YtngbdopgdcjdeaaGreatDoor
open Go Go.RowKit

section
variable {P : Program} {ops : Array Oper} {md : Region.Mode} {V : World}

/-- In state a, in every world that comes of V, the operation leaves v, and a world that comes of the one that it got. -/
def quietE (P : Program) (V : World) (o : Oper) (a : Act) (v : Value) : Prop := ∀ w, Ext V w → o.quietAt P a (fun w' => Ext w w') w v
def YieldsE (P : Program) (ops : Array Oper) (V : World) (o : Oper) (v : Value) (a : Act) : Prop :=
  (Region.wanted o (yielded ops a.tmps) = true ∧ quietE P V o a v) ∨ (Region.wanted o (yielded ops a.tmps) = false ∧ v = undef)
theorem YieldsE.of_same {o : Oper} {v : Value} {a a' : Act} (hy : YieldsE P ops V o v a) (he : execOp a'.eval o = execOp a.eval o)
    (hw : Region.wanted o (yielded ops a'.tmps) = Region.wanted o (yielded ops a.tmps)) : YieldsE P ops V o v a' := by
  unfold YieldsE quietE Oper.quietAt at *
  rw [he, hw]
  exact hy
def opE (P : Program) (ops : Array Oper) (V : World) (i : Nat) (K : Act → Prop) (a : Act) : Prop := ∃ o v, ops[i]? = some o ∧ YieldsE P ops V o v a ∧ K (a.put o.dst v)
theorem opE_mono {i : Nat} {a : Act} {K K' : Act → Prop} (h : ∀ a, K a → K' a) (hh : opE P ops V i K a) : opE P ops V i K' a :=
  let ⟨o, v, h1, h2, h3⟩ := hh
  ⟨o, v, h1, h2, h _ h3⟩
theorem opE_put {j : Nat} {oi oj : Oper} {v : Value} (hj : ops[j]? = some oj) (hap : oi.apart ops oj = true)
    (hsi : ∀ cs b, oi.op ≠ .select cs b) (hsj : ∀ cs b, oj.op ≠ .select cs b) {K : Act → Prop} {a : Act}
    (hy : YieldsE P ops V oi v a) (h : opE P ops V j K (a.put oi.dst v)) :
    opE P ops V j (fun a' => YieldsE P ops V oi v a' ∧ K (a'.put oi.dst v)) a := by
  obtain ⟨h1, h2, h3⟩ := Oper.apart_spec hap
  have keep : ∀ (a : Act), YieldsE P ops V oi v a → ∀ u, YieldsE P ops V oi v (a.put oj.dst u) := fun a hy u =>
    hy.of_same (execOp_put oi hsi a oj.dst u h3) (wanted_put oi a oj.dst u h3)
  obtain ⟨o, u, ho, hu, hK⟩ := h
  obtain rfl : oj = o := Option.some.inj (hj.symm.trans ho)
  refine ⟨oj, u, hj, ?_, keep a hy u, by rw [← Act.put_comm a v u h2]; exact hK⟩
  exact hu.of_same (execOp_put oj hsj a oi.dst v h1).symm (wanted_put oj a oi.dst v h1).symm

theorem alloc_at (w : World) (z : Obj) : (w.alloc z).heap[w.heap.size]? = some z := by
  show (w.heap.push z)[w.heap.size]? = some z
  exact Array.getElem?_push_size
/-- These blocks hold these objects. -/
def Boxed (β : List (Nat × Obj)) (w : World) : Prop := ∀ x ∈ β, w.heap[x.1]? = some x.2
theorem Boxed.lt {β : List (Nat × Obj)} {w : World} (h : Boxed β w) {b : Nat} (hb : b ∈ β.map (·.1)) : b < w.heap.size := by
  obtain ⟨x, hx, rfl⟩ := List.mem_map.1 hb
  exact (Array.getElem?_eq_some_iff.1 (h x hx)).1
theorem Boxed.ext {β : List (Nat × Obj)} {w w' : World} (e : Ext w w') (h : Boxed β w) : Boxed β w' := fun x hx => by
  rw [e.below.block x.1 (h.lt (List.mem_map.2 ⟨x, hx, rfl⟩))]
  exact h x hx
theorem Boxed.alloc {β : List (Nat × Obj)} {w : World} (h : Boxed β w) (z : Obj) : Boxed ((w.heap.size, z) :: β) (w.alloc z) := by
  intro x hx
  rcases List.mem_cons.1 hx with rfl | hx
  · exact alloc_at w z
  · exact Boxed.ext (Ext.alloc (Ext.refl w) z) h x hx

/-- An operation that makes a box. -/
def BoxOp (P : Program) (o : Oper) (d : Tmp) (z : Obj) : Prop :=
  o.guard = none ∧ o.dst = some d ∧ ∀ (a : Act) (w : World), (execOp a.eval o).run P w = .ok (.value (.pointer (some ⟨w.heap.size, 0, none⟩))) (w.alloc z)
theorem boxOp_alloc {o : Oper} {t : TypeId} {d : Tmp} {zs : Array Value} (hg : o.guard = none) (hd : o.dst = some d) (ho : o.op = .alloc t) (hz : ∀ w, (execOp (Act.eval ⟨#[], []⟩) ⟨some d, .alloc t, 0, "", #[], none⟩).run P w = .ok (.value (.pointer (some ⟨w.heap.size, 0, none⟩))) (w.alloc (.cells zs t))) :
    BoxOp P o d (.cells zs t) :=
  ⟨hg, hd, fun a w => by
    have := hz w
    unfold execOp at this ⊢
    rw [ho]
    exact this⟩
def ptr (b : Nat) : Value := .pointer (some ⟨b, 0, none⟩)

/-- Every order of the operations ahead of number n: boxes, and operations that read or call. -/
def headB (P : Program) (md : Region.Mode) (ops : Array Oper) (V : World) (n : Nat) (fin : List (Nat × Obj) → Array Bool → Act → Prop) : Nat → List (Nat × Obj) → Array Bool → Act → Prop
  | 0, β, l, a => fin β l a
  | k + 1, β, l, a => Region.ready md ops l ≠ [] ∧ ∀ i ∈ Region.ready md ops l, i < n ∧
    ((∃ o d z, ops[i]? = some o ∧ BoxOp P o d z ∧ ∀ b, V.heap.size ≤ b → b ∉ β.map (·.1) → headB P md ops V n fin k ((b, z) :: β) (l.setIfInBounds i true) (a.put (some d) (ptr b))) ∨
      opE P ops V i (headB P md ops V n fin k β (l.setIfInBounds i true)) a)

theorem headB_wp {n g : Nat} {fin : List (Nat × Obj) → Array Bool → Act → Prop} {Q : Exit → Act → World → Prop} (hfin : ∀ β l a w, Ext V w → Boxed β w → fin β l a → wpAny P md ops Q g l a w) :
    ∀ (k : Nat) (β : List (Nat × Obj)) (l : Array Bool) (a : Act) (w : World), Ext V w → Boxed β w → headB P md ops V n fin k β l a → wpAny P md ops Q (k + g) l a w
  | 0, β, l, a, w, hw, hB, h => by rw [Nat.zero_add]; exact hfin β l a w hw hB h
  | k + 1, β, l, a, w, hw, hB, h => by
    rw [show k + 1 + g = (k + g) + 1 by omega]
    refine ⟨fun e => absurd e h.1, fun i hi => ?_⟩
    rcases (h.2 i hi).2 with ⟨o, d, z, ho, ⟨hg, hd, hrun⟩, hK⟩ | ⟨o, v, ho, hy, hK⟩
    · unfold wpOp
      simp only [ho]
      have hwt : Region.wanted o (yielded ops a.tmps) = true := by simp [Region.wanted, hg]
      rw [if_pos hwt]
      refine .inl ?_
      unfold Oper.wp
      rw [hrun a w]
      simp only [Oper.upon, hd]
      exact headB_wp hfin k _ _ _ _ (Ext.alloc hw z) (hB.alloc z) (hK w.heap.size hw.size (fun hb => by have := hB.lt hb; omega))
    · unfold wpOp
      simp only [ho]
      rcases hy with ⟨hwt, hv⟩ | ⟨hwt, rfl⟩
      · rw [if_pos hwt]
        refine .inl (Oper.wp_of_quiet (C := fun w' => Ext w w') (Ext.refl w) (K := headB P md ops V n fin k β (l.setIfInBounds i true)) (fun a' w' hw' hK' => headB_wp hfin k _ _ _ _ (hw.trans hw') (hB.ext hw') hK') ⟨v, ?_, hK⟩)
        intro w1 hw1
        have := hv w1 (hw.trans hw1)
        unfold Oper.quietAt at this ⊢
        generalize (execOp a.eval o).run P w1 = r at *
        cases r with
        | ok nx w2 =>
          cases nx <;> simp only [Oper.quietUpon] at this ⊢ <;> try exact this
          exact ⟨this.1, this.2.mono fun e w'' ⟨he, hx⟩ => ⟨he, hw1.trans hx⟩⟩
        | halt x w2 => simp only [Oper.quietUpon] at this
      · rw [if_neg (by simp [hwt])]
        exact headB_wp hfin k _ _ _ _ hw hB hK

theorem BoxOp.of {o o' : Oper} {d : Tmp} {z : Obj} (h : BoxOp P o d z) (e : o = o') : BoxOp P o' d z := e ▸ h

/-- An operation that reads or calls may be taken first. -/
theorem headB_take {n i : Nat} {oi : Oper} {v : Value} {fin : List (Nat × Obj) → Array Bool → Act → Prop} (hi : ops[i]? = some oi) (hsel : ∀ (j : Nat) (o : Oper) cs b, ops[j]? = some o → o.op ≠ .select cs b)
    (hs : Region.sinkB md ops n = true) (hc : Region.chainB md ops n = true) (hn : n < ops.size) (hin : i < n) (hdone : ∀ β l a, fin β l a → ∀ j ∈ Region.ready md ops l, n ≤ j) :
    ∀ (k : Nat) (β : List (Nat × Obj)) (l : Array Bool) (a : Act), HeadInv md ops n l →
      (∀ j oj, ops[j]? = some oj → j ≠ i → l.getD j true = false → (∀ e ∈ oj.after, Region.binds md e = true → e.on ≠ i) → oi.apart ops oj = true) →
      i ∈ Region.ready md ops l → YieldsE P ops V oi v a → headB P md ops V n fin k β (l.setIfInBounds i true) (a.put oi.dst v) → headB P md ops V n fin (k + 1) β l a := by
  intro k
  induction k with
  | zero =>
    intro β l a inv _ hr hy H
    refine ⟨fun e => (by rw [e] at hr; cases hr), fun j hj => ?_⟩
    have hun := (mem_ready.1 hr).1
    have hjn : j < n := by
      rcases Nat.lt_or_ge j n with h | h
      · exact h
      · exact absurd hj (tail_waits hs hc hn inv _ i rfl hin hun j h)
    refine ⟨hjn, ?_⟩
    by_cases hji : j = i
    · subst hji; exact .inr ⟨oi, v, hi, hy, H⟩
    · exact absurd (hdone _ _ _ H j (ready_mono hj hji)) (by omega)
  | succ k ih =>
    intro β l a inv hfree hr hy H
    refine ⟨fun e => (by rw [e] at hr; cases hr), fun j hj => ?_⟩
    have hun := (mem_ready.1 hr).1
    have hjn : j < n := by
      rcases Nat.lt_or_ge j n with h | h
      · exact h
      · exact absurd hj (tail_waits hs hc hn inv _ i rfl hin hun j h)
    refine ⟨hjn, ?_⟩
    by_cases hji : j = i
    · subst hji; exact .inr ⟨oi, v, hi, hy, H⟩
    · obtain ⟨hjun, oj, hoj, hall⟩ := mem_ready.1 hj
      have hnot : ∀ e ∈ oj.after, Region.binds md e = true → e.on ≠ i := by
        intro e he hb heq
        have h1 := hall e he hb
        rw [heq, getD_both hun] at h1
        cases h1
      have hfree' : ∀ q oq, ops[q]? = some oq → q ≠ i → (l.setIfInBounds j true).getD q true = false → (∀ e ∈ oq.after, Region.binds md e = true → e.on ≠ i) → oi.apart ops oq = true := fun q oq hq hqi hqun hqno => by
        refine hfree q oq hq hqi ?_ hqno
        by_cases hjq : j = q
        · subst hjq; exact hjun
        · rw [getD_set_ne true hjq] at hqun; exact hqun
      have hap := hfree j oj hoj hji hjun hnot
      obtain ⟨g1, g2, g3⟩ := Oper.apart_spec hap
      rcases (H.2 j (ready_mono hj hji)).2 with ⟨o, d, z, ho, hbx, hK⟩ | hq
      · obtain rfl : oj = o := Option.some.inj (hoj.symm.trans ho)
        refine .inl ⟨oj, d, z, hoj, hbx, fun b hb1 hb2 => ?_⟩
        have hd := hbx.2.1
        have hy' : YieldsE P ops V oi v (a.put (some d) (ptr b)) := by
          rw [← hd]
          exact hy.of_same (execOp_put oi (fun cs b => hsel i oi cs b hi) a oj.dst _ g3) (wanted_put oi a oj.dst _ g3)
        refine ih _ _ _ (inv.set hj hjn) hfree' (ready_mono hr (Ne.symm hji)) hy' ?_
        rw [Array.setIfInBounds_comm _ _ hji]
        have := hK b hb1 hb2
        rw [← hd] at this ⊢
        rw [← Act.put_comm a v _ g2]
        exact this
      · have h2 := opE_put hoj hap (fun cs b => hsel i oi cs b hi) (fun cs b => hsel j oj cs b hoj) hy hq
        refine .inr (opE_mono (fun a' h3 => ih _ _ _ (inv.set hj hjn) hfree' (ready_mono hr (Ne.symm hji)) h3.1 ?_) h2)
        rw [Array.setIfInBounds_comm _ _ hji]
        exact h3.2

theorem fresh_block (n : Nat) (bs : List Nat) : ∃ b, n ≤ b ∧ b ∉ bs := by
  have : ∀ bs : List Nat, ∃ m, ∀ x ∈ bs, x < m := by
    intro bs
    induction bs with
    | nil => exact ⟨0, by simp⟩
    | cons x r ih =>
      obtain ⟨m, hm⟩ := ih
      exact ⟨max m (x + 1), fun y hy => by
        rcases List.mem_cons.1 hy with rfl | hy
        · omega
        · have := hm y hy; omega⟩
  obtain ⟨m, hm⟩ := this bs
  exact ⟨max n m, by omega, fun h => by have := hm _ h; omega⟩

/-- Only boxes are left ahead of number n. -/
def boxB (P : Program) (md : Region.Mode) (ops : Array Oper) (V : World) (n : Nat) (fin : List (Nat × Obj) → Array Bool → Act → Prop) : Nat → List (Nat × Obj) → Array Bool → Act → Prop
  | 0, β, l, a => fin β l a
  | k + 1, β, l, a => Region.ready md ops l ≠ [] ∧ ∀ i ∈ Region.ready md ops l, i < n ∧
    ∃ o d z, ops[i]? = some o ∧ BoxOp P o d z ∧ ∀ b, V.heap.size ≤ b → b ∉ β.map (·.1) → boxB P md ops V n fin k ((b, z) :: β) (l.setIfInBounds i true) (a.put (some d) (ptr b))
theorem boxB_head {n : Nat} {fin : List (Nat × Obj) → Array Bool → Act → Prop} : ∀ (k : Nat) (β : List (Nat × Obj)) (l : Array Bool) (a : Act), boxB P md ops V n fin k β l a → headB P md ops V n fin k β l a
  | 0, _, _, _, h => h
  | k + 1, _, _, _, h => ⟨h.1, fun i hi => ⟨(h.2 i hi).1, .inl (let ⟨o, d, z, h1, h2, h3⟩ := (h.2 i hi).2; ⟨o, d, z, h1, h2, fun b hb1 hb2 => boxB_head k _ _ _ (h3 b hb1 hb2)⟩)⟩⟩
theorem boxB_perm {n : Nat} {fin : List (Nat × Obj) → Array Bool → Act → Prop} (hp : ∀ β β' l a, β.Perm β' → fin β l a → fin β' l a) :
    ∀ (k : Nat) (β β' : List (Nat × Obj)) (l : Array Bool) (a : Act), β.Perm β' → boxB P md ops V n fin k β l a → boxB P md ops V n fin k β' l a
  | 0, β, β', l, a, hq, h => hp β β' l a hq h
  | k + 1, _, _, _, _, hq, h => ⟨h.1, fun i hi => ⟨(h.2 i hi).1, let ⟨o, d, z, h1, h2, h3⟩ := (h.2 i hi).2; ⟨o, d, z, h1, h2, fun b hb1 hb2 =>
      boxB_perm hp k _ _ _ _ (hq.cons _) (h3 b hb1 fun hm => hb2 ((hq.map _).mem_iff.1 hm))⟩⟩⟩
/-- A box may be made first. -/
theorem boxB_take {n i : Nat} {oi : Oper} {d : Tmp} {z : Obj} {fin : List (Nat × Obj) → Array Bool → Act → Prop} (hp : ∀ β β' l a, β.Perm β' → fin β l a → fin β' l a) (hi : ops[i]? = some oi) (hbx : BoxOp P oi d z)
    (hs : Region.sinkB md ops n = true) (hc : Region.chainB md ops n = true) (hn : n < ops.size) (hin : i < n) (hdone : ∀ β l a, fin β l a → ∀ j ∈ Region.ready md ops l, n ≤ j) :
    ∀ (k : Nat) (β : List (Nat × Obj)) (l : Array Bool) (a : Act), HeadInv md ops n l →
      (∀ j oj, ops[j]? = some oj → j ≠ i → l.getD j true = false → (∀ e ∈ oj.after, Region.binds md e = true → e.on ≠ i) → oi.apart ops oj = true) →
      i ∈ Region.ready md ops l → (∀ b, V.heap.size ≤ b → b ∉ β.map (·.1) → boxB P md ops V n fin k ((b, z) :: β) (l.setIfInBounds i true) (a.put (some d) (ptr b))) → boxB P md ops V n fin (k + 1) β l a := by
  intro k
  induction k with
  | zero =>
    intro β l a inv _ hr H
    obtain ⟨b0, hb1, hb2⟩ := fresh_block V.heap.size (β.map (·.1))
    refine ⟨fun e => (by rw [e] at hr; cases hr), fun j hj => ?_⟩
    have hun := (mem_ready.1 hr).1
    have hjn : j < n := by
      rcases Nat.lt_or_ge j n with h | h
      · exact h
      · exact absurd hj (tail_waits hs hc hn inv _ i rfl hin hun j h)
    refine ⟨hjn, ?_⟩
    by_cases hji : j = i
    · subst hji; exact ⟨oi, d, z, hi, hbx, H⟩
    · exact absurd (hdone _ _ _ (H b0 hb1 hb2) j (ready_mono hj hji)) (by omega)
  | succ k ih =>
    intro β l a inv hfree hr H
    obtain ⟨b0, hb1, hb2⟩ := fresh_block V.heap.size (β.map (·.1))
    refine ⟨fun e => (by rw [e] at hr; cases hr), fun j hj => ?_⟩
    have hun := (mem_ready.1 hr).1
    have hjn : j < n := by
      rcases Nat.lt_or_ge j n with h | h
      · exact h
      · exact absurd hj (tail_waits hs hc hn inv _ i rfl hin hun j h)
    refine ⟨hjn, ?_⟩
    by_cases hji : j = i
    · subst hji; exact ⟨oi, d, z, hi, hbx, H⟩
    · obtain ⟨hjun, oj, hoj, hall⟩ := mem_ready.1 hj
      have hnot : ∀ e ∈ oj.after, Region.binds md e = true → e.on ≠ i := by
        intro e he hb heq
        have h1 := hall e he hb
        rw [heq, getD_both hun] at h1
        cases h1
      have hfree' : ∀ q oq, ops[q]? = some oq → q ≠ i → (l.setIfInBounds j true).getD q true = false → (∀ e ∈ oq.after, Region.binds md e = true → e.on ≠ i) → oi.apart ops oq = true := fun q oq hq hqi hqun hqno => by
        refine hfree q oq hq hqi ?_ hqno
        by_cases hjq : j = q
        · subst hjq; exact hjun
        · rw [getD_set_ne true hjq] at hqun; exact hqun
      obtain ⟨_, g2, _⟩ := Oper.apart_spec (hfree j oj hoj hji hjun hnot)
      obtain ⟨o, dj, zj, ho, hbj, _⟩ := ((H b0 hb1 hb2).2 j (ready_mono hj hji)).2
      obtain rfl : oj = o := Option.some.inj (hoj.symm.trans ho)
      have hsame : ∀ o' d' z', ops[j]? = some o' → BoxOp P o' d' z' → d' = dj ∧ z' = zj := by
        intro o' d' z' ho' hb'
        obtain rfl : oj = o' := Option.some.inj (hoj.symm.trans ho')
        refine ⟨Option.some.inj (hb'.2.1.symm.trans hbj.2.1), ?_⟩
        have e := (hb'.2.2 a V).symm.trans (hbj.2.2 a V)
        simp only [Result.ok.injEq] at e
        have e2 : (V.alloc z').heap[V.heap.size]? = (V.alloc zj).heap[V.heap.size]? := by rw [e.2]
        rw [alloc_at, alloc_at] at e2
        exact Option.some.inj e2
      refine ⟨oj, dj, zj, hoj, hbj, fun b' hb'1 hb'2 => ?_⟩
      refine ih _ _ _ (inv.set hj hjn) hfree' (ready_mono hr (Ne.symm hji)) fun b hc1 hc2 => ?_
      simp only [List.map_cons, List.mem_cons, not_or] at hc2
      obtain ⟨o', d', z', ho', hb', hK'⟩ := ((H b hc1 hc2.2).2 j (ready_mono hj hji)).2
      obtain ⟨rfl, rfl⟩ := hsame o' d' z' ho' hb'
      have := hK' b' hb'1 (by simp only [List.map_cons, List.mem_cons, not_or]; exact ⟨fun e => hc2.1 e.symm, hb'2⟩)
      rw [Array.setIfInBounds_comm _ _ hji]
      have hne : ∀ q, (some d : Option Tmp) = some q → (some d' : Option Tmp) ≠ some q := by
        have := g2
        rw [hbx.2.1, hbj.2.1] at this
        exact this
      rw [Act.put_comm a _ _ hne] at this
      exact boxB_perm hp k _ _ _ _ (.swap _ _ _) this

/-- What stands behind the boxes, whatever blocks they are. -/
def tailB (V : World) (R : List (Nat × Obj) → Act → Prop) : List (Tmp × Obj) → List (Nat × Obj) → Act → Prop
  | [], β, a => R β a
  | (d, z) :: r, β, a => ∀ b, V.heap.size ≤ b → b ∉ β.map (·.1) → tailB V R r ((b, z) :: β) (a.put (some d) (ptr b))
theorem boxB_lex {n g : Nat} {R : List (Nat × Obj) → Act → Prop} (hp : ∀ β β' a, β.Perm β' → R β a → R β' a) (hs : Region.sinkB md ops n = true) (hc : Region.chainB md ops n = true) (hn : n < ops.size) :
    ∀ (zs : List (Tmp × Obj)) (l : List Oper) (k : Nat) (β : List (Nat × Obj)) (listed : Array Bool) (a : Act), (∀ j, j < l.length → l[j]? = ops[k + j]?) → k + l.length = n → HeadInv md ops n listed →
    Region.lexHead md ops g l.length k listed = true → l.length = zs.length → (∀ (j : Nat) (o : Oper) (x : Tmp × Obj), l[j]? = some o → zs[j]? = some x → BoxOp P o x.1 x.2) → tailB V R zs β a →
    boxB P md ops V n (fun β' listed' a' => Region.seqB md ops g n listed' = true ∧ R β' a') l.length β listed a
  | [], [], k, β, listed, a, _, hk, _, hB, _, _, h => by
    obtain rfl : k = n := by simpa using hk
    exact ⟨by simpa [Region.lexHead] using hB, h⟩
  | x :: zs, o :: l, k, β, listed, a, hl, hk, inv, hB, hlen, hbx, h => by
    have h0 : ops[k]? = some o := by simpa using (hl 0 (by simp)).symm
    simp only [List.length_cons, Region.lexHead, Bool.and_eq_true] at hB
    have hkn : k < n := by simp only [List.length_cons] at hk; omega
    have hr : k ∈ Region.ready md ops listed := by simpa using hB.1.1
    exact boxB_take (fun β β' l a hq hh => ⟨hh.1, hp β β' a hq hh.2⟩) h0 (hbx 0 o x rfl rfl) hs hc hn hkn (fun β listed' a' hL => seqB_ready hL.1) l.length β listed a inv (Region.free_spec h0 hB.1.2) hr fun b hb1 hb2 =>
      boxB_lex hp hs hc hn zs l (k + 1) _ _ _ (fun j hj => by have := hl (j + 1) (by simp; omega); simpa [Nat.add_assoc, Nat.add_comm 1 j] using this) (by simp only [List.length_cons] at hk; omega) (inv.set hr hkn) hB.2 (by simpa using hlen) (fun j o x h1 h2 => hbx (j + 1) o x (by simpa using h1) (by simpa using h2)) (h b hb1 hb2)
  | [], o :: l, _, _, _, _, _, _, _, _, hlen, _, _ => by simp at hlen
  | x :: zs, [], _, _, _, _, _, _, _, _, hlen, _, _ => by simp at hlen

/-- The walk of the operations that read or call, with values that hold in every world that comes of V. -/
def walkE (P : Program) (ops : Array Oper) (V : World) (R : Act → Prop) : List Oper → Act → Prop
  | [], a => R a
  | o :: rest, a => ∃ v, YieldsE P ops V o v a ∧ walkE P ops V R rest (a.put o.dst v)
theorem walkE_read {R : Act → Prop} {o : Oper} {rest : List Oper} {a : Act} {v : Value} (hw : Region.wanted o (yielded ops a.tmps) = true) (h : ∀ w, Ext V w → (execOp a.eval o).run P w = .ok (.value v) w)
    (hk : walkE P ops V R rest (a.put o.dst v)) : walkE P ops V R (o :: rest) a :=
  ⟨v, .inl ⟨hw, fun w hw' => by unfold Oper.quietAt; rw [h w hw']; exact ⟨rfl, rfl⟩⟩, hk⟩
theorem walkE_call {R : Act → Prop} {o : Oper} {rest : List Oper} {a : Act} {v : Value} {f : FuncId} {args : Array Value} (hw : Region.wanted o (yielded ops a.tmps) = true) (h : ∀ w, Ext V w → (execOp a.eval o).run P w = .ok (.enter f args) w)
    (hc : ∀ w, Ext V w → Calls P f args w fun e w' => e = .returned v ∧ Ext w w') (hk : walkE P ops V R rest (a.put o.dst v)) : walkE P ops V R (o :: rest) a :=
  ⟨v, .inl ⟨hw, fun w hw' => by unfold Oper.quietAt; rw [h w hw']; exact ⟨rfl, hc w hw'⟩⟩, hk⟩
theorem headB_lex {n g : Nat} {R : List (Nat × Obj) → Act → Prop} {zs : List (Tmp × Obj)} {lb : List Oper} (hp : ∀ β β' a, β.Perm β' → R β a → R β' a) (hsel : Region.noSelect ops = true) (hs : Region.sinkB md ops n = true) (hc : Region.chainB md ops n = true) (hn : n < ops.size)
    (hlen : lb.length = zs.length) (hbx : ∀ (j : Nat) (o : Oper) (x : Tmp × Obj), lb[j]? = some o → zs[j]? = some x → BoxOp P o x.1 x.2) :
    ∀ (l : List Oper) (k : Nat) (listed : Array Bool) (a : Act), (∀ j, j < l.length + lb.length → (l ++ lb)[j]? = ops[k + j]?) → k + (l.length + lb.length) = n → HeadInv md ops n listed →
    Region.lexHead md ops g (l.length + lb.length) k listed = true → walkE P ops V (tailB V R zs []) l a →
    headB P md ops V n (fun β' listed' a' => Region.seqB md ops g n listed' = true ∧ R β' a') (l.length + lb.length) [] listed a
  | [], k, listed, a, hl, hk, inv, hB, h => by
    simp only [List.length_nil, Nat.zero_add] at hl hk hB ⊢
    exact boxB_head _ _ _ _ (boxB_lex hp hs hc hn zs lb k [] listed a hl hk inv hB hlen hbx h)
  | o :: l, k, listed, a, hl, hk, inv, hB, ⟨v, hy, hK⟩ => by
    have h0 : ops[k]? = some o := by simpa using (hl 0 (by simp; omega)).symm
    simp only [List.length_cons] at hk hB hl ⊢
    rw [show l.length + 1 + lb.length = l.length + lb.length + 1 by omega] at hB hk ⊢
    simp only [Region.lexHead, Bool.and_eq_true] at hB
    have hkn : k < n := by omega
    have hr : k ∈ Region.ready md ops listed := by simpa using hB.1.1
    exact headB_take h0 (Region.noSelect_spec hsel) hs hc hn hkn (fun β listed' a' hL => seqB_ready hL.1) (l.length + lb.length) [] listed a inv (Region.free_spec h0 hB.1.2) hr hy
      (headB_lex hp hsel hs hc hn hlen hbx l (k + 1) _ _ (fun j hj => by have := hl (j + 1) (by omega); simpa [Nat.add_assoc, Nat.add_comm 1 j] using this) (by omega) (inv.set hr hkn) hB.2 hK)
end

def AllBox (P : Program) : List Oper → List (Tmp × Obj) → Prop
  | _, [] => True
  | [], _ :: _ => False
  | o :: l, x :: zs => BoxOp P o x.1 x.2 ∧ AllBox P l zs
theorem AllBox.get {P : Program} : ∀ {l : List Oper} {zs : List (Tmp × Obj)}, AllBox P l zs → ∀ (j : Nat) (o : Oper) (x : Tmp × Obj), l[j]? = some o → zs[j]? = some x → BoxOp P o x.1 x.2
  | _, [], _, _, _, _, _, h2 => by simp at h2
  | [], _ :: _, h, _, _, _, _, _ => h.elim
  | o :: l, x :: zs, h, 0, o', x', h1, h2 => by
    simp at h1 h2
    subst h1 h2
    exact h.1
  | o :: l, x :: zs, h, j + 1, o', x', h1, h2 => h.2.get j o' x' (by simpa using h1) (by simpa using h2)

/-- One walk of the head in the text's order, the boxes (whatever blocks they are), then the tail. -/
theorem wp_region_boxes {P : Program} {id : Nat} {Q : Exit → Act → World → Prop} {a : Act} {w : World} {l : List Oper} (n : Nat) (zs : List (Tmp × Obj)) (V : World) (hE : Ext V w) (hm : P.follows .mixedOrders = true)
    (hB : Region.lexTailB .any l.toArray (n + zs.length) = true) (hbx : AllBox P (l.drop n) zs)
    (h : walkE P l.toArray V (tailB V (fun β a' => ∀ w', Ext V w' → Boxed β w' → wpList P l.toArray Q (l.drop (n + zs.length)) a' w') zs []) (l.take n) a) : (Code.region id l.toArray true).wp P Q a w := by
  simp only [Region.lexTailB, Bool.and_eq_true, decide_eq_true_eq] at hB
  obtain ⟨⟨⟨⟨hsel, hn⟩, hs⟩, hc⟩, hlex⟩ := hB
  have hn' : n + zs.length < l.length := by simpa using hn
  have htl : (l.take n).length = n := by simp; omega
  have hbl : ((l.drop n).take zs.length).length = zs.length := by simp; omega
  have hdl : (l.drop (n + zs.length)).length = l.toArray.size - (n + zs.length) := by simp
  have inv0 : HeadInv .any l.toArray (n + zs.length) (Array.replicate l.toArray.size false) :=
    ⟨by simp, fun j oj _ hl => (by rw [getD_replicate_false] at hl; cases hl), fun t _ ht => getD_in (by simpa using ht) (getD_replicate_false _ _)⟩
  have H := headB_lex (md := .any) (g := l.toArray.size - (n + zs.length)) (R := fun β a' => ∀ w', Ext V w' → Boxed β w' → wpList P l.toArray Q (l.drop (n + zs.length)) a' w') (zs := zs) (lb := (l.drop n).take zs.length)
    (fun β β' a' hq hh w' h1 h2 => hh w' h1 fun x hx => h2 x (hq.mem_iff.1 hx)) hsel hs hc hn hbl
    (fun j o x h1 h2 => hbx.get j o x (by
      have hj : j < zs.length := (List.getElem?_eq_some_iff.1 h2).1
      rwa [List.getElem?_take_of_lt hj] at h1) h2)
    (l.take n) 0 _ a (fun j hj => by
      rw [htl, hbl] at hj
      have e : l.take n ++ (l.drop n).take zs.length = l.take (n + zs.length) := by rw [List.take_add]
      rw [e, List.getElem?_take_of_lt hj]
      simp) (by rw [htl, hbl]; omega) inv0 (by rw [htl, hbl]; exact hlex) h
  refine wp_region_any hm ?_
  have H2 := headB_wp (Q := Q) (g := l.toArray.size - (n + zs.length)) (fun β listed a' w' hw' hb' hL => by
    have := wpAny_of_seq (md := .any) (Q' := Q) (l.drop (n + zs.length)) (n + zs.length) listed a' w' (fun j => by simp [List.getElem?_drop]) (by rw [hdl]; exact hL.1) (hL.2 w' hw' hb')
    rwa [hdl] at this) _ _ _ _ { w with drawn := w.drawn + 1 } (show Ext V w.drew from hE.drew) (fun x hx => by cases hx) H
  rw [htl, hbl, show n + zs.length + (l.toArray.size - (n + zs.length)) = l.toArray.size by omega] at H2
  exact H2

theorem Has.new4 (w : World) (o o' o'' : Obj) (cs : Array Value) (t : TypeId) : Has ((((w.alloc o).alloc o').alloc o'').alloc (.cells cs t)) (w.heap.size + 1 + 1 + 1) cs.toList := by
  have h := Has.new3 (w.alloc o) o' o'' cs t
  simp at h
  exact h
theorem boxed_has {β : List (Nat × Obj)} {w : World} (h : Boxed β w) {b : Nat} {cs : Array Value} {t : TypeId} (hb : (b, .cells cs t) ∈ β) : Has w b cs.toList := fun i v hi => by
  have hh := h _ hb
  simp only at hh
  simp only [World.cell?, hh]
  simpa using hi

theorem boxed_thaw {β : List (Nat × Obj)} {w : World} (h : Boxed β w) {b o : Nat} {cs : Array Value} {t : TypeId} (hb : (b, .cells cs t) ∈ β) : w.frozen? ⟨b, o, none⟩ = false := by
  have hh := h _ hb
  simp only at hh
  simp [World.frozen?, hh]

end Go.Proofs.YtngbdopgdcjdeaaGreatDoor

namespace Go.Proofs.YtngbdopgdcjdeaaGreatDoor
open Go.RowKit

/-- What is known of a term. -/
def TermB (zs : List (Int × Int × Int)) (k : Nat) : Prop := ((0 ≤ (pI zs k).1 ∧ (pI zs k).1 ≤ 6) ∧ (0 ≤ (pI zs k).2 ∧ (pI zs k).2 ≤ 6)) ∧ (-1000000 ≤ cI zs k ∧ cI zs k ≤ 1000000)
theorem termB_of {zs : List (Int × Int × Int)} (h : planeB zs = true) {k : Nat} (hk : k < zs.length) : TermB zs k := by
  have := pts_bd h hk
  exact ⟨⟨⟨by omega, by omega⟩, ⟨by omega, by omega⟩⟩, this.2⟩
theorem TermB.PB {zs : List (Int × Int × Int)} {k : Nat} (h : TermB zs k) : PB (pI zs k) := by
  unfold TermB at h
  unfold Proofs.YtngbdopgdcjdeaaGreatDoor.PB
  omega
theorem turn_small {a b c : Int × Int} (ha : (0 ≤ a.1 ∧ a.1 ≤ 6) ∧ (0 ≤ a.2 ∧ a.2 ≤ 6)) (hb : (0 ≤ b.1 ∧ b.1 ≤ 6) ∧ (0 ≤ b.2 ∧ b.2 ≤ 6)) (hc : (0 ≤ c.1 ∧ c.1 ≤ 6) ∧ (0 ≤ c.2 ∧ c.2 ≤ 6)) : -72 ≤ turnI a b c ∧ turnI a b c ≤ 72 := by
  unfold turnI detI
  have k1 := mul_bd (A := 6) (D := 6) (a := b.1 - a.1) (d := c.2 - a.2) (by omega) (by omega) (by omega) (by omega)
  have k2 := mul_bd (A := 6) (D := 6) (a := b.2 - a.2) (d := c.1 - a.1) (by omega) (by omega) (by omega) (by omega)
  omega
theorem own_none1 (w : World) (B : Nat) : w.ownsRow B 3 1 (.slice none 0 0) 0 (iv []) := ⟨rfl, .inl ⟨rfl, rfl⟩⟩
theorem sgnI_small (n : Int) : -1 ≤ sgnI n ∧ sgnI n ≤ 1 := by
  unfold sgnI
  by_cases h : 0 < n
  · rw [if_pos h]; decide
  · rw [if_neg h]
    by_cases h2 : n < 0
    · rw [if_pos h2]; decide
    · rw [if_neg h2]; decide
/-- The three cells of a term in the slice. -/
theorem term_cells {w : World} {a : Option Addr} {n : Nat} {zs : List (Int × Int × Int)} (h : Reads w a 3 n (tv zs)) (h0 : 0 < n) : ∃ b off, a = some ⟨b, off, none⟩ ∧ ∀ k, k < n → w.cell? ⟨b, off + k * 3, none⟩ = some (.int .i64 (pI zs k).1) ∧ w.cell? ⟨b, off + k * 3 + 1, none⟩ = some (.int .i64 (pI zs k).2) ∧ w.cell? ⟨b, off + k * 3 + 2, none⟩ = some (.int .i64 (cI zs k)) := by
  have hl : zs.length = n := by have := h.1; rw [tv_len] at this; omega
  obtain ⟨b, off, hb, hc⟩ := h.2 h0
  refine ⟨b, off, hb, fun k hk => ?_⟩
  obtain ⟨p0, p1, p2⟩ := tv_at (zs := zs) (k := k) (by omega)
  exact ⟨hc _ _ p0, by rw [Nat.add_assoc]; exact hc _ _ p1, by rw [Nat.add_assoc]; exact hc _ _ p2⟩
theorem cePoint_any (x y z : Int) (w : World) :
    Calls Tryz.prog 22 #[.agg #[.int .i64 x, .int .i64 y, .int .i64 z]] w fun r w' => r = .returned (.agg #[.int .i64 x, .int .i64 y]) ∧ Ext w w' := by
  go_enter Tryz.func22, Tryz.ntmps22
  go_wp2
  refine bodyPost_ret (v := (.agg #[.int .i64 x, .int .i64 y])) (by simp [results, Tryz.results22, go_sem]) rfl ⟨rfl, (by repeat (first | exact Ext.refl _ | assumption | apply Ext.alloc | apply Ext.drew | apply Ext.drewN | (refine Ext.trans ?_ (by assumption)) | (refine Ext.setCell ?_ (by (try simp) <;> omega) _)))⟩
set_option maxHeartbeats 4000000 in
set_option maxRecDepth 100000 in
theorem ceAbove_raw (A B C D : Int × Int) (a b c d : Int) (hA : PB A) (hB : PB B) (hC : PB C) (hD : PB D) (ba : -1000000 ≤ a ∧ a ≤ 1000000) (bb : -1000000 ≤ b ∧ b ≤ 1000000) (bc : -1000000 ≤ c ∧ c ≤ 1000000) (bd : -1000000 ≤ d ∧ d ≤ 1000000)
    (t1 : -72 ≤ turnI A B C ∧ turnI A B C ≤ 72) (t2 : -72 ≤ turnI D B C ∧ turnI D B C ≤ 72) (t3 : -72 ≤ turnI A D C ∧ turnI A D C ≤ 72) (t4 : -72 ≤ turnI A B D ∧ turnI A B D ≤ 72) (w : World) :
    Calls Tryz.prog 35 #[.agg #[.int .i64 A.1, .int .i64 A.2, .int .i64 a], .agg #[.int .i64 B.1, .int .i64 B.2, .int .i64 b], .agg #[.int .i64 C.1, .int .i64 C.2, .int .i64 c], .agg #[.int .i64 D.1, .int .i64 D.2, .int .i64 d]] w fun r w' => r = .returned (.int .i64 ((d * turnI A B C - a * turnI D B C - b * turnI A D C - c * turnI A B D) * sgnI (turnI A B C))) ∧ Ext w w' := by
  go_enter Tryz.func35, Tryz.ntmps35
  go_wp2
  have HA := (Has.alloc (Has.alloc (Has.alloc (Has.new w #[.int .i64 A.1, .int .i64 A.2, .int .i64 a] 41) (.cells #[.int .i64 B.1, .int .i64 B.2, .int .i64 b] 41)) (.cells #[.int .i64 C.1, .int .i64 C.2, .int .i64 c] 41)) (.cells #[.int .i64 D.1, .int .i64 D.2, .int .i64 d] 41))
  have Ac0 := Ext.keeps (HA 0 _ rfl)
  have Ac1 := Ext.keeps (HA 1 _ rfl)
  have Ac2 := Ext.keeps (HA 2 _ rfl)
  clear HA
  have HB := (Has.alloc (Has.alloc (Has.new2 w (.cells #[.int .i64 A.1, .int .i64 A.2, .int .i64 a] 41) #[.int .i64 B.1, .int .i64 B.2, .int .i64 b] 41) (.cells #[.int .i64 C.1, .int .i64 C.2, .int .i64 c] 41)) (.cells #[.int .i64 D.1, .int .i64 D.2, .int .i64 d] 41))
  have Bc0 := Ext.keeps (HB 0 _ rfl)
  have Bc1 := Ext.keeps (HB 1 _ rfl)
  have Bc2 := Ext.keeps (HB 2 _ rfl)
  clear HB
  have HC := (Has.alloc (Has.new3 w (.cells #[.int .i64 A.1, .int .i64 A.2, .int .i64 a] 41) (.cells #[.int .i64 B.1, .int .i64 B.2, .int .i64 b] 41) #[.int .i64 C.1, .int .i64 C.2, .int .i64 c] 41) (.cells #[.int .i64 D.1, .int .i64 D.2, .int .i64 d] 41))
  have Cc0 := Ext.keeps (HC 0 _ rfl)
  have Cc1 := Ext.keeps (HC 1 _ rfl)
  have Cc2 := Ext.keeps (HC 2 _ rfl)
  clear HC
  have HD := (Has.new4 w (.cells #[.int .i64 A.1, .int .i64 A.2, .int .i64 a] 41) (.cells #[.int .i64 B.1, .int .i64 B.2, .int .i64 b] 41) (.cells #[.int .i64 C.1, .int .i64 C.2, .int .i64 c] 41) #[.int .i64 D.1, .int .i64 D.2, .int .i64 d] 41)
  have Dc0 := Ext.keeps (HD 0 _ rfl)
  have Dc1 := Ext.keeps (HD 1 _ rfl)
  have Dc2 := Ext.keeps (HD 2 _ rfl)
  clear HD
  have hE : Ext ((((w.alloc (.cells #[.int .i64 A.1, .int .i64 A.2, .int .i64 a] 41)).alloc (.cells #[.int .i64 B.1, .int .i64 B.2, .int .i64 b] 41)).alloc (.cells #[.int .i64 C.1, .int .i64 C.2, .int .i64 c] 41)).alloc (.cells #[.int .i64 D.1, .int .i64 D.2, .int .i64 d] 41)) ((((w.alloc (.cells #[.int .i64 A.1, .int .i64 A.2, .int .i64 a] 41)).alloc (.cells #[.int .i64 B.1, .int .i64 B.2, .int .i64 b] 41)).alloc (.cells #[.int .i64 C.1, .int .i64 C.2, .int .i64 c] 41)).alloc (.cells #[.int .i64 D.1, .int .i64 D.2, .int .i64 d] 41)) := Ext.refl _
  have hEw : Ext w ((((w.alloc (.cells #[.int .i64 A.1, .int .i64 A.2, .int .i64 a] 41)).alloc (.cells #[.int .i64 B.1, .int .i64 B.2, .int .i64 b] 41)).alloc (.cells #[.int .i64 C.1, .int .i64 C.2, .int .i64 c] 41)).alloc (.cells #[.int .i64 D.1, .int .i64 D.2, .int .i64 d] 41)) := (by repeat (first | exact Ext.refl _ | assumption | apply Ext.alloc | apply Ext.drew | apply Ext.drewN | (refine Ext.trans ?_ (by assumption)) | (refine Ext.setCell ?_ (by (try simp) <;> omega) _)))
  have hsz : w.heap.size + 4 ≤ ((((w.alloc (.cells #[.int .i64 A.1, .int .i64 A.2, .int .i64 a] 41)).alloc (.cells #[.int .i64 B.1, .int .i64 B.2, .int .i64 b] 41)).alloc (.cells #[.int .i64 C.1, .int .i64 C.2, .int .i64 c] 41)).alloc (.cells #[.int .i64 D.1, .int .i64 D.2, .int .i64 d] 41)).heap.size := by simp
  generalize ((((w.alloc (.cells #[.int .i64 A.1, .int .i64 A.2, .int .i64 a] 41)).alloc (.cells #[.int .i64 B.1, .int .i64 B.2, .int .i64 b] 41)).alloc (.cells #[.int .i64 C.1, .int .i64 C.2, .int .i64 c] 41)).alloc (.cells #[.int .i64 D.1, .int .i64 D.2, .int .i64 d] 41)) = V at *
  refine wp_region_boxes 8 [(9, .cells #[.int .i64 0, .int .i64 0] 55), (10, .cells #[.int .i64 0, .int .i64 0] 55), (11, .cells #[.int .i64 0, .int .i64 0] 55), (12, .cells #[.int .i64 0, .int .i64 0] 55)] V (Ext.refl _) (by kernel_rfl) (by kernel_rfl) ?_ ?_
  · simp only [List.drop_succ_cons, List.drop_zero]
    exact ⟨⟨rfl, rfl, fun a w => by simp [go_sem]⟩, ⟨rfl, rfl, fun a w => by simp [go_sem]⟩, ⟨rfl, rfl, fun a w => by simp [go_sem]⟩, ⟨rfl, rfl, fun a w => by simp [go_sem]⟩, trivial⟩
  · simp only [List.take_succ_cons, List.take_zero]
    refine ⟨.agg #[.int .i64 A.1, .int .i64 A.2, .int .i64 a], .inl ⟨rfl, fun w' hw' => by
      have g0 := Ac0 w' hw'
      have g1 := Ac1 w' hw'
      have g2 := Ac2 w' hw'
      unfold Oper.quietAt
      simp [go_sem, Oper.quietUpon, g0, g1, g2]⟩, ?_⟩
    refine ⟨.agg #[.int .i64 A.1, .int .i64 A.2], .inl ⟨rfl, fun w' hw' => by
      have hc := cePoint_any A.1 A.2 a w'
      unfold Oper.quietAt
      simp [go_sem, Oper.quietUpon]
      exact hc⟩, ?_⟩
    refine ⟨.agg #[.int .i64 B.1, .int .i64 B.2, .int .i64 b], .inl ⟨rfl, fun w' hw' => by
      have g0 := Bc0 w' hw'
      have g1 := Bc1 w' hw'
      have g2 := Bc2 w' hw'
      unfold Oper.quietAt
      simp [go_sem, Oper.quietUpon, g0, g1, g2]⟩, ?_⟩
    refine ⟨.agg #[.int .i64 B.1, .int .i64 B.2], .inl ⟨rfl, fun w' hw' => by
      have hc := cePoint_any B.1 B.2 b w'
      unfold Oper.quietAt
      simp [go_sem, Oper.quietUpon]
      exact hc⟩, ?_⟩
    refine ⟨.agg #[.int .i64 C.1, .int .i64 C.2, .int .i64 c], .inl ⟨rfl, fun w' hw' => by
      have g0 := Cc0 w' hw'
      have g1 := Cc1 w' hw'
      have g2 := Cc2 w' hw'
      unfold Oper.quietAt
      simp [go_sem, Oper.quietUpon, g0, g1, g2]⟩, ?_⟩
    refine ⟨.agg #[.int .i64 C.1, .int .i64 C.2], .inl ⟨rfl, fun w' hw' => by
      have hc := cePoint_any C.1 C.2 c w'
      unfold Oper.quietAt
      simp [go_sem, Oper.quietUpon]
      exact hc⟩, ?_⟩
    refine ⟨.agg #[.int .i64 D.1, .int .i64 D.2, .int .i64 d], .inl ⟨rfl, fun w' hw' => by
      have g0 := Dc0 w' hw'
      have g1 := Dc1 w' hw'
      have g2 := Dc2 w' hw'
      unfold Oper.quietAt
      simp [go_sem, Oper.quietUpon, g0, g1, g2]⟩, ?_⟩
    refine ⟨.agg #[.int .i64 D.1, .int .i64 D.2], .inl ⟨rfl, fun w' hw' => by
      have hc := cePoint_any D.1 D.2 d w'
      unfold Oper.quietAt
      simp [go_sem, Oper.quietUpon]
      exact hc⟩, ?_⟩
    simp only [walkE, tailB, List.length_cons, List.length_nil, Nat.reduceAdd, List.drop_succ_cons, List.drop_zero, List.map_nil, List.map_cons]
    intro b0 n0 m0 b1 n1 m1 b2 n2 m2 b3 n3 m3 v1 hE1 hB1
    simp only [List.mem_cons, List.not_mem_nil, not_or, or_false] at m1 m2 m3
    simp only [Act.put, ptr]
    have h0 := boxed_has hB1 (b := b0) (cs := #[.int .i64 0, .int .i64 0]) (t := 55) (by simp)
    have k0 := fun o => boxed_thaw (o := o) hB1 (b := b0) (cs := #[.int .i64 0, .int .i64 0]) (t := 55) (by simp)
    have g00 := h0 0 _ rfl
    have k00 := k0 0
    have g01 := h0 1 _ rfl
    have k01 := k0 1
    clear h0 k0
    have h1 := boxed_has hB1 (b := b1) (cs := #[.int .i64 0, .int .i64 0]) (t := 55) (by simp)
    have k1 := fun o => boxed_thaw (o := o) hB1 (b := b1) (cs := #[.int .i64 0, .int .i64 0]) (t := 55) (by simp)
    have g10 := h1 0 _ rfl
    have k10 := k1 0
    have g11 := h1 1 _ rfl
    have k11 := k1 1
    clear h1 k1
    have h2 := boxed_has hB1 (b := b2) (cs := #[.int .i64 0, .int .i64 0]) (t := 55) (by simp)
    have k2 := fun o => boxed_thaw (o := o) hB1 (b := b2) (cs := #[.int .i64 0, .int .i64 0]) (t := 55) (by simp)
    have g20 := h2 0 _ rfl
    have k20 := k2 0
    have g21 := h2 1 _ rfl
    have k21 := k2 1
    clear h2 k2
    have h3 := boxed_has hB1 (b := b3) (cs := #[.int .i64 0, .int .i64 0]) (t := 55) (by simp)
    have k3 := fun o => boxed_thaw (o := o) hB1 (b := b3) (cs := #[.int .i64 0, .int .i64 0]) (t := 55) (by simp)
    have g30 := h3 0 _ rfl
    have k30 := k3 0
    have g31 := h3 1 _ rfl
    have k31 := k3 1
    clear h3 k3
    go_wp2_with fail
    refine (pyTurn_any A B C hA hB hC _).mono ?_
    rintro e w2 ⟨rfl, hb⟩
    have d1 := Ne.symm m1
    have d2 := Ne.symm m2.1
    have d3 := Ne.symm m2.2
    have d4 := Ne.symm m3.1
    have d5 := Ne.symm m3.2.1
    have d6 := Ne.symm m3.2.2
    have Pc0 := Ext.keeps (hb.keep (b := b0) (o := 0) (v := .int .i64 A.1) (by simp [go_sem, *]))
    have Pc1 := Ext.keeps (hb.keep (b := b0) (o := 1) (v := .int .i64 A.2) (by simp [go_sem, *]))
    have Qc0 := Ext.keeps (hb.keep (b := b1) (o := 0) (v := .int .i64 B.1) (by simp [go_sem, *]))
    have Qc1 := Ext.keeps (hb.keep (b := b1) (o := 1) (v := .int .i64 B.2) (by simp [go_sem, *]))
    have Rc0 := Ext.keeps (hb.keep (b := b2) (o := 0) (v := .int .i64 C.1) (by simp [go_sem, *]))
    have Rc1 := Ext.keeps (hb.keep (b := b2) (o := 1) (v := .int .i64 C.2) (by simp [go_sem, *]))
    have Sc0 := Ext.keeps (hb.keep (b := b3) (o := 0) (v := .int .i64 D.1) (by simp [go_sem, *]))
    have Sc1 := Ext.keeps (hb.keep (b := b3) (o := 1) (v := .int .i64 D.2) (by simp [go_sem, *]))
    have hE9 : Ext V w2 := Ext.trans (Ext.setCell (Ext.setCell (Ext.setCell (Ext.setCell (Ext.setCell (Ext.setCell (Ext.setCell (Ext.setCell hE1 n0 _) n0 _) n1 _) n1 _) n2 _) n2 _) n3 _) n3 _) hb
    have hEV := hE9
    dsimp only
    clear hb g00 g01 g10 g11 g20 g21 g30 g31 k00 k01 k10 k11 k20 k21 k30 k31 hB1
    have hE : Ext V V := Ext.refl _
    replace hE : Ext V w2 := hE9
    have hT : Ext V w2 := hE
    replace Ac0 := Ext.rebase hT Ac0
    replace Ac1 := Ext.rebase hT Ac1
    replace Ac2 := Ext.rebase hT Ac2
    replace Bc0 := Ext.rebase hT Bc0
    replace Bc1 := Ext.rebase hT Bc1
    replace Bc2 := Ext.rebase hT Bc2
    replace Cc0 := Ext.rebase hT Cc0
    replace Cc1 := Ext.rebase hT Cc1
    replace Cc2 := Ext.rebase hT Cc2
    replace Dc0 := Ext.rebase hT Dc0
    replace Dc1 := Ext.rebase hT Dc1
    replace Dc2 := Ext.rebase hT Dc2
    clear hT
    replace hE : Ext w2 w2 := Ext.refl _
    have p1 := mul_bd (A := 1000000) (D := 72) (a := d) (d := turnI A B C) (by omega) (by omega) (by omega) (by omega)
    have p2 := mul_bd (A := 1000000) (D := 72) (a := a) (d := turnI D B C) (by omega) (by omega) (by omega) (by omega)
    have p3 := mul_bd (A := 1000000) (D := 72) (a := b) (d := turnI A D C) (by omega) (by omega) (by omega) (by omega)
    have p4 := mul_bd (A := 1000000) (D := 72) (a := c) (d := turnI A B D) (by omega) (by omega) (by omega) (by omega)
    have p5 := mul_bd (A := 288000000) (D := 1) (a := d * turnI A B C - a * turnI D B C - b * turnI A D C - c * turnI A B D) (d := sgnI (turnI A B C)) (by omega) (by omega) (sgnI_small _).1 (sgnI_small _).2
    have hEw2 : Ext w w2 := hEw.trans hEV
    go_wp2
    have qA0 := fun s : Past w2 => Ac0 s.w s.ext
    have qA1 := fun s : Past w2 => Ac1 s.w s.ext
    have qA2 := fun s : Past w2 => Ac2 s.w s.ext
    have qB0 := fun s : Past w2 => Bc0 s.w s.ext
    have qB1 := fun s : Past w2 => Bc1 s.w s.ext
    have qB2 := fun s : Past w2 => Bc2 s.w s.ext
    have qC0 := fun s : Past w2 => Cc0 s.w s.ext
    have qC1 := fun s : Past w2 => Cc1 s.w s.ext
    have qC2 := fun s : Past w2 => Cc2 s.w s.ext
    have qD0 := fun s : Past w2 => Dc0 s.w s.ext
    have qD1 := fun s : Past w2 => Dc1 s.w s.ext
    have qD2 := fun s : Past w2 => Dc2 s.w s.ext
    have qP0 := fun s : Past w2 => Pc0 s.w s.ext
    have qP1 := fun s : Past w2 => Pc1 s.w s.ext
    have qQ0 := fun s : Past w2 => Qc0 s.w s.ext
    have qQ1 := fun s : Past w2 => Qc1 s.w s.ext
    have qR0 := fun s : Past w2 => Rc0 s.w s.ext
    have qR1 := fun s : Past w2 => Rc1 s.w s.ext
    have qS0 := fun s : Past w2 => Sc0 s.w s.ext
    have qS1 := fun s : Past w2 => Sc1 s.w s.ext
    refine wp_region_past w2 (by first | exact hE | exact Ext.alloc hE _ | exact Ext.drew hE | exact Ext.drewN hE _) (by kernel_rfl) (by kernel_rfl) ?_
    repeat (go_big_quiet_step (((go_at_call 21; exact past_ext (pyTurn_any _ _ _ (by assumption) (by assumption) (by assumption) _)))))
    refine wpQuiet_nil ?_
    intro _ hw'
    obtain ⟨⟨w3, hE⟩, hw''⟩ := hw'
    subst hw''
    clear qA0 qA1 qA2 qB0 qB1 qB2 qC0 qC1 qC2 qD0 qD1 qD2 qP0 qP1 qQ0 qQ1 qR0 qR1 qS0 qS1
    go_wp2_with ((go_at_call 55; refine (l1Sign_any _ _).mono ?_; rintro e _ ⟨rfl, rfl⟩))
    go_ret
    exact ⟨rfl, hEw2.trans hE⟩
theorem ceAbove_any (zs : List (Int × Int × Int)) (i j k t : Nat) (bi : TermB zs i) (bj : TermB zs j) (bk : TermB zs k) (bt : TermB zs t) (hne : turnT zs i j k ≠ 0) (w : World) :
    Calls Tryz.prog 35 #[.agg #[.int .i64 (pI zs i).1, .int .i64 (pI zs i).2, .int .i64 (cI zs i)], .agg #[.int .i64 (pI zs j).1, .int .i64 (pI zs j).2, .int .i64 (cI zs j)], .agg #[.int .i64 (pI zs k).1, .int .i64 (pI zs k).2, .int .i64 (cI zs k)], .agg #[.int .i64 (pI zs t).1, .int .i64 (pI zs t).2, .int .i64 (cI zs t)]] w fun r w' => r = .returned (.int .i64 (hT zs i j k t)) ∧ Ext w w' := by
  rw [← hT_spec hne, ← above_spec]
  exact ceAbove_raw (pI zs i) (pI zs j) (pI zs k) (pI zs t) (cI zs i) (cI zs j) (cI zs k) (cI zs t) bi.PB bj.PB bk.PB bt.PB bi.2 bj.2 bk.2 bt.2 (turn_small bi.1 bj.1 bk.1) (turn_small bt.1 bj.1 bk.1) (turn_small bi.1 bt.1 bk.1) (turn_small bi.1 bj.1 bt.1) w
set_option maxHeartbeats 4000000 in
theorem ceCell_any (a : Option Addr) (n c : Nat) (zs : List (Int × Int × Int)) (hn : n ≤ 12) (hb : ∀ m, m < n → TermB zs m) (i j k : Nat) (hi : i < n) (hj : j < n) (hk : k < n) (hne : turnT zs i j k ≠ 0) (w : World) (h : Reads w a 3 n (tv zs)) :
    Calls Tryz.prog 23 #[.slice a n c, .int .i64 i, .int .i64 j, .int .i64 k] w (OwnsInts w.heap.size (ceCellL zs i j k) w) := by
  have hl : zs.length = n := by have := h.1; rw [tv_len] at this; omega
  obtain ⟨L, hL⟩ : ∃ L, L = ceCellL zs i j k := ⟨_, rfl⟩
  rw [← hL]
  have HL := Lib.hid hL
  have HN := Lib.hid hl
  have HB := Lib.hid (fun m (hm : m < n) => ceAbove_any zs i j k m (hb i hi) (hb j hj) (hb k hk) (hb m hm) hne)
  clear hL hl hne hb
  go_enter Tryz.func23, Tryz.ntmps23
  go_wp2
  go_loopw [9, 15] (fun s t wr => ∃ (m : Nat) (a1 : Option Addr) (c1 : Nat), m ≤ n ∧ t = .int .i64 m ∧ Hid (cellTo zs i j k m = true) ∧ s = .slice a1 (onTo' zs i j k m).length c1 ∧ wr.ownsRow w.heap.size 3 1 (.slice a1 (onTo' zs i j k m).length c1) (onTo' zs i j k m).length (iv (onTo' zs i j k m)) ∧ Ext w wr) (fun _ t _ => n - (intOf t).toNat)
  case atStart => exact ⟨0, none, 0, Nat.zero_le _, rfl, Lib.hid rfl, rfl, own_none1 _ _, Ext.refl _⟩
  case round =>
    obtain ⟨m, a1, c1, hm, rfl, HT, rfl, hown, hE⟩ := hrel
    have hple := onTo'_len zs i j k m
    by_cases hlt : m < n
    · obtain ⟨b, off, rfl, hc⟩ := term_cells (Reads.ext hE h) (by omega)
      obtain ⟨x0, x1, x2⟩ := hc m hlt
      obtain ⟨i0, i1, i2⟩ := hc i hi
      obtain ⟨j0, j1, j2⟩ := hc j hj
      obtain ⟨k0, k1, k2⟩ := hc k hk
      have HC := Lib.hid (HB.out m hlt)
      have HS := Lib.hid (onTo'_succ zs i j k m)
      have HT1 := Lib.hid (fun e : 0 ≤ hT zs i j k m => show cellTo zs i j k (m + 1) = true by rw [cellTo_succ, HT.out]; simpa using e)
      have HT0 := Lib.hid (fun e : hT zs i j k m < 0 => show L = [] by rw [HL.out]; unfold ceCellL; rw [if_neg (by rw [cellTo_le (by rw [HN.out]; exact hlt) (by omega)]; simp)])
      generalize onTo' zs i j k m = ps at *
      generalize hT zs i j k m = v at *
      have HW := Lib.hid (show Ext w wr from hE)
      have hsz := hE.size
      have him : (i : Int) < (n : Int) := by omega
      have hjm : (j : Int) < (n : Int) := by omega
      have hkm : (k : Int) < (n : Int) := by omega
      clear h hc hE
      have hE : Ext wr wr := Ext.refl _
      have hT : Ext wr (wr.alloc (.cells #[.int .i64 (pI zs m).1, .int .i64 (pI zs m).2, .int .i64 (cI zs m)] 41)) := Ext.alloc hE _
      have HR := Has.new wr #[.int .i64 (pI zs m).1, .int .i64 (pI zs m).2, .int .i64 (cI zs m)] 41
      have Rc0 := Ext.keeps (HR 0 _ rfl)
      have Rc1 := Ext.keeps (HR 1 _ rfl)
      have Rc2 := Ext.keeps (HR 2 _ rfl)
      clear HR
      replace hE : Ext (wr.alloc (.cells #[.int .i64 (pI zs m).1, .int .i64 (pI zs m).2, .int .i64 (cI zs m)] 41)) (wr.alloc (.cells #[.int .i64 (pI zs m).1, .int .i64 (pI zs m).2, .int .i64 (cI zs m)] 41)) := Ext.refl _
      have Ic0 := Ext.keeps (Ext.keep (Ext.alloc (Ext.refl wr) (.cells #[.int .i64 (pI zs m).1, .int .i64 (pI zs m).2, .int .i64 (cI zs m)] 41)) i0)
      have Ic1 := Ext.keeps (Ext.keep (Ext.alloc (Ext.refl wr) (.cells #[.int .i64 (pI zs m).1, .int .i64 (pI zs m).2, .int .i64 (cI zs m)] 41)) i1)
      have Ic2 := Ext.keeps (Ext.keep (Ext.alloc (Ext.refl wr) (.cells #[.int .i64 (pI zs m).1, .int .i64 (pI zs m).2, .int .i64 (cI zs m)] 41)) i2)
      have Jc0 := Ext.keeps (Ext.keep (Ext.alloc (Ext.refl wr) (.cells #[.int .i64 (pI zs m).1, .int .i64 (pI zs m).2, .int .i64 (cI zs m)] 41)) j0)
      have Jc1 := Ext.keeps (Ext.keep (Ext.alloc (Ext.refl wr) (.cells #[.int .i64 (pI zs m).1, .int .i64 (pI zs m).2, .int .i64 (cI zs m)] 41)) j1)
      have Jc2 := Ext.keeps (Ext.keep (Ext.alloc (Ext.refl wr) (.cells #[.int .i64 (pI zs m).1, .int .i64 (pI zs m).2, .int .i64 (cI zs m)] 41)) j2)
      have Kc0 := Ext.keeps (Ext.keep (Ext.alloc (Ext.refl wr) (.cells #[.int .i64 (pI zs m).1, .int .i64 (pI zs m).2, .int .i64 (cI zs m)] 41)) k0)
      have Kc1 := Ext.keeps (Ext.keep (Ext.alloc (Ext.refl wr) (.cells #[.int .i64 (pI zs m).1, .int .i64 (pI zs m).2, .int .i64 (cI zs m)] 41)) k1)
      have Kc2 := Ext.keeps (Ext.keep (Ext.alloc (Ext.refl wr) (.cells #[.int .i64 (pI zs m).1, .int .i64 (pI zs m).2, .int .i64 (cI zs m)] 41)) k2)
      go_wp2
      have qR0 := fun s : Past (wr.alloc (.cells #[.int .i64 (pI zs m).1, .int .i64 (pI zs m).2, .int .i64 (cI zs m)] 41)) => Rc0 s.w s.ext
      have qR1 := fun s : Past (wr.alloc (.cells #[.int .i64 (pI zs m).1, .int .i64 (pI zs m).2, .int .i64 (cI zs m)] 41)) => Rc1 s.w s.ext
      have qR2 := fun s : Past (wr.alloc (.cells #[.int .i64 (pI zs m).1, .int .i64 (pI zs m).2, .int .i64 (cI zs m)] 41)) => Rc2 s.w s.ext
      have qI0 := fun s : Past (wr.alloc (.cells #[.int .i64 (pI zs m).1, .int .i64 (pI zs m).2, .int .i64 (cI zs m)] 41)) => Ic0 s.w s.ext
      have qI1 := fun s : Past (wr.alloc (.cells #[.int .i64 (pI zs m).1, .int .i64 (pI zs m).2, .int .i64 (cI zs m)] 41)) => Ic1 s.w s.ext
      have qI2 := fun s : Past (wr.alloc (.cells #[.int .i64 (pI zs m).1, .int .i64 (pI zs m).2, .int .i64 (cI zs m)] 41)) => Ic2 s.w s.ext
      have qJ0 := fun s : Past (wr.alloc (.cells #[.int .i64 (pI zs m).1, .int .i64 (pI zs m).2, .int .i64 (cI zs m)] 41)) => Jc0 s.w s.ext
      have qJ1 := fun s : Past (wr.alloc (.cells #[.int .i64 (pI zs m).1, .int .i64 (pI zs m).2, .int .i64 (cI zs m)] 41)) => Jc1 s.w s.ext
      have qJ2 := fun s : Past (wr.alloc (.cells #[.int .i64 (pI zs m).1, .int .i64 (pI zs m).2, .int .i64 (cI zs m)] 41)) => Jc2 s.w s.ext
      have qK0 := fun s : Past (wr.alloc (.cells #[.int .i64 (pI zs m).1, .int .i64 (pI zs m).2, .int .i64 (cI zs m)] 41)) => Kc0 s.w s.ext
      have qK1 := fun s : Past (wr.alloc (.cells #[.int .i64 (pI zs m).1, .int .i64 (pI zs m).2, .int .i64 (cI zs m)] 41)) => Kc1 s.w s.ext
      have qK2 := fun s : Past (wr.alloc (.cells #[.int .i64 (pI zs m).1, .int .i64 (pI zs m).2, .int .i64 (cI zs m)] 41)) => Kc2 s.w s.ext
      refine wp_region_past (wr.alloc (.cells #[.int .i64 (pI zs m).1, .int .i64 (pI zs m).2, .int .i64 (cI zs m)] 41)) (by first | exact hE | exact Ext.alloc hE _ | exact Ext.drew hE | exact Ext.drewN hE _) (by kernel_rfl) (by kernel_rfl) ?_
      repeat (go_big_quiet_step (((go_at_call 35; exact past_ext (HC.out _)))))
      refine wpQuiet_nil ?_
      intro w2 hw'
      obtain ⟨⟨_, hE⟩, hw''⟩ := hw'
      subst hw''
      clear qR0 qR1 qR2 qI0 qI1 qI2 qJ0 qJ1 qJ2 qK0 qK1 qK2
      have hs2 := hE.size
      have HWE := Lib.hid (HW.out.trans ((Ext.alloc (Ext.refl wr) _).trans hE))
      have hown3 := own_ext ((Ext.alloc (Ext.refl wr) _).trans hE) hown
      clear hown i0 i1 i2 j0 j1 j2 k0 k1 k2 x0 x1 x2
      rcases Int.lt_trichotomy v 0 with hv | hv | hv
      · have HZ := Lib.hid (HT0.out hv)
        clear HT0 HT1 HS HC
        go_wp2
        go_ret
        exact ⟨none, 0, by rw [HZ.out] <;> rfl, by rw [HZ.out]; exact own_none1 _ _, HWE.out⟩
      · have HP := Lib.hid (HT1.out (by omega))
        have HS1 := Lib.hid (HS.out.trans (if_pos hv))
        clear HT0 HT1 HS HC
        subst hv
        simp at hs2
        go_wp2_with (at_builtin; refine wpList_app1 rfl _ _ rfl w w.heap.size _ _ _ ps (m : Int) rfl (own_ext ((Ext.refl w2).alloc _) hown3) w2.heap.size rfl (by simp) (by omega) (by simp; omega) (HWE.out.alloc _) (Nat.le_refl _) ?_)
        intro a2 c2 w4 hown4 hE4
        go_wp2
        go_roundw
        case rel => exact ⟨m + 1, a2, c2, by omega, by go_num, HP, by rw [HS1.out]; simp, by rw [HS1.out]; simpa using hown4, hE4⟩
        case measure => simp [intOf]; omega
      · have HP := Lib.hid (HT1.out (by omega))
        have HS1 := Lib.hid (HS.out.trans (if_neg (by omega)))
        clear HT0 HT1 HS HC
        go_wp2
        go_roundw
        case rel => exact ⟨m + 1, a1, c1, by omega, by go_num, HP, by rw [HS1.out], by rw [HS1.out]; exact hown3, HWE.out⟩
        case measure => simp [intOf]; omega
    · obtain rfl : m = n := by omega
      have HV := Lib.hid (show L = onTo' zs i j k m by rw [HL.out]; unfold ceCellL cellL; rw [HN.out, if_pos HT.out])
      go_wp2
      go_ret
      exact ⟨a1, c1, by rw [HV.out] <;> rfl, by rw [HV.out]; exact hown, hE⟩
end Go.Proofs.YtngbdopgdcjdeaaGreatDoor
