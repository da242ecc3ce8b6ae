/-
  The hull of points that stand in order: the program's walk.
-/
import Derived.Test.YtogbfhhioicbmaaHalf
import Derived.Test.YtogbfhhioicbmaaApp
import Derived.Lib.SliceRun
namespace Go.Proofs.Ytogbfhhioicbmaa
open Go.RowKit

/-- A row of pairs, turned round as far as its k-th pair from either end. -/
def revQ (xs : List (Int × Int)) (k : Nat) : List (Int × Int) := (List.range xs.length).map fun j => if j < k ∨ xs.length - k ≤ j then pat xs (xs.length - 1 - j) else pat xs j
theorem revQ_len (xs : List (Int × Int)) (k : Nat) : (revQ xs k).length = xs.length := by simp [revQ]
theorem revQ_at {xs : List (Int × Int)} {k j : Nat} (h : j < xs.length) : (revQ xs k)[j]? = some (if j < k ∨ xs.length - k ≤ j then pat xs (xs.length - 1 - j) else pat xs j) := by simp [revQ, h]
theorem revQ_pat {xs : List (Int × Int)} {k j : Nat} (h : j < xs.length) : pat (revQ xs k) j = if j < k ∨ xs.length - k ≤ j then pat xs (xs.length - 1 - j) else pat xs j := by
  simp only [pat, List.getD]; rw [revQ_at h]; rfl
theorem revQ_zero (xs : List (Int × Int)) : revQ xs 0 = xs := by
  refine List.ext_getElem? fun j => ?_
  by_cases hj : j < xs.length
  · rw [revQ_at hj, if_neg (by omega), pat_eq hj]; simp [hj]
  · rw [List.getElem?_eq_none (by rw [revQ_len]; omega), List.getElem?_eq_none (by omega)]
theorem revQ_step {xs : List (Int × Int)} {k : Nat} (h : k + k + 1 < xs.length) : ((revQ xs k).set k (pat (revQ xs k) (xs.length - 1 - k))).set (xs.length - 1 - k) (pat (revQ xs k) k) = revQ xs (k + 1) := by
  refine List.ext_getElem? fun j => ?_
  by_cases hj : j < xs.length
  · rw [revQ_at hj, revQ_pat (by omega), revQ_pat (by omega)]
    simp only [List.getElem?_set, List.length_set, revQ_len]
    by_cases h1 : xs.length - 1 - k = j
    · subst h1
      rw [if_pos rfl, if_pos (show xs.length - 1 - k < xs.length by omega), if_neg (show ¬ (k < k ∨ xs.length - k ≤ k) by omega), if_pos (show xs.length - 1 - k < k + 1 ∨ xs.length - (k + 1) ≤ xs.length - 1 - k by omega), show xs.length - 1 - (xs.length - 1 - k) = k by omega]
    · rw [if_neg h1]
      by_cases h2 : k = j
      · subst h2
        rw [if_pos rfl, if_pos (show k < xs.length by omega), if_neg (show ¬ (xs.length - 1 - k < k ∨ xs.length - k ≤ xs.length - 1 - k) by omega), if_pos (show k < k + 1 ∨ xs.length - (k + 1) ≤ k by omega)]
      · rw [if_neg h2, revQ_at hj]
        by_cases h3 : j < k ∨ xs.length - k ≤ j
        · rw [if_pos h3, if_pos (by omega)]
        · rw [if_neg h3, if_neg (by omega)]
  · rw [List.getElem?_eq_none (by rw [List.length_set, List.length_set, revQ_len]; omega), List.getElem?_eq_none (by rw [revQ_len]; omega)]
theorem revQ_full {xs : List (Int × Int)} {k : Nat} (h : xs.length ≤ k + k + 1) : revQ xs k = xs.reverse := by
  refine List.ext_getElem? fun j => ?_
  by_cases hj : j < xs.length
  · rw [revQ_at hj, List.getElem?_reverse hj]
    by_cases h3 : j < k ∨ xs.length - k ≤ j
    · rw [if_pos h3, pat_eq (by omega)]; simp [show xs.length - 1 - j < xs.length by omega]
    · rw [if_neg h3]
      have : xs.length - 1 - j = j := by omega
      rw [this, pat_eq hj]; simp [hj]
  · rw [List.getElem?_eq_none (by rw [revQ_len]; omega), List.getElem?_eq_none (by simp; omega)]
theorem grown_transQ {w w' w'' : World} {row : Option Nat} (h : w.grownBy w' row) (k : w'.grownBy w'' row) : w.grownBy w'' row := World.grownBy.trans h k
theorem grown_drewQ {w w' : World} {row : Option Nat} (h : w.grownBy w' row) : w.grownBy w'.drew row := ⟨h.os, h.tape, h.output, h.size, h.block⟩
theorem own_apartQ {w w' : World} {B : Nat} {E : TypeId} {size : Nat} {v : Value} {n : Nat} {xs : List Value} {row : Option Nat} (k : w.ownsRow B E size v n xs) (hg : w.grownBy w' row) (h : ∀ q, v.ownBlock = some q → row ≠ some q) : w'.ownsRow B E size v n xs := by
  rcases k with ⟨h1, h2 | ⟨g, cap, cur, hv, hb, hc, r⟩⟩
  · exact ⟨h1, .inl h2⟩
  · subst hv
    refine ⟨h1, .inr ⟨g, cap, cur, rfl, hb, ?_, r⟩⟩
    rw [hg.block g (Array.getElem?_eq_some_iff.1 hc).1 (fun e => h g rfl e.symm)]
    exact hc
theorem perm_lex {ys zs : List (Int × Int)} (hp : ys.Perm zs) (hy : ys.Pairwise (fun a b => ¬ cmpI b.1 b.2 a.1 a.2 < 0)) (hz : zs.Pairwise lexP) : ys = zs := by
  refine List.Perm.eq_of_pairwise (le := leP) (fun a b _ _ h1 h2 => leP_antisymm h1 h2) ?_ ?_ hp
  · exact hy.imp fun {a b} h => leP_of_not (fun e => h ((cmpI_lex b a).2 e))
  · exact hz.imp fun h => .inr h

theorem cloneP_any (b off n c : Nat) (zs : List (Int × Int)) (hn : n ≤ 1048576) (w : World) (h : Reads w (some ⟨b, off, none⟩) 2 n (pv zs)) :
    Calls Try.prog 118 #[.slice (some ⟨b, off, none⟩) n c] w fun r w' => ∃ a1 c1, r = .returned (.slice a1 n c1) ∧ w'.ownsRow w.heap.size 99 2 (.slice a1 n c1) n (pv zs) ∧ Ext w w' := by
  have hl : zs.length = n := by have := h.1; rw [pv_len] at this; omega
  have HC := Lib.hid h.cells
  have q : ∀ (w : World) (a : Option Addr) (n c n' c' : Nat), (binOp .eql 56 (.slice a n c) (.slice none n' c')).run Try.prog w = .ok (.bool a.isNone) w := fun w a n c n' c' => Lib.run_eql_slice_nil w _ _ a n c n' c' Try.underlying56
  clear h
  go_enter Try.func118, Try.ntmps118
  have H0 := Lib.hid (World.ownsRow_lit (base := w.heap.size) (e := 99) (size := 2) w #[] 0 (Nat.le_refl _) (by unfold maxLen; omega) rfl)
  go_wp2_with (at_builtin; go_must (refine wpList_appQ rfl _ _ rfl w w.heap.size (some ⟨w.heap.size, 0, none⟩) 0 0 [] rfl H0.out ⟨b, off, none⟩ n c zs rfl hl ?_ (by omega) hn ?_ ?_ (Nat.le_refl _) ?_))
  · intro j u hj
    exact Ext.keep ((Ext.refl w).alloc (.cells #[] 99)) (HC.out j u hj)
  · exact (Ext.refl _).alloc _
  · intro a1 c1 w2 ho2 hE2
    go_wp2
    go_ret
    exact ⟨a1, c1, by simp, by simpa using ho2, hE2⟩
set_option maxHeartbeats 2000000 in
theorem compactP_any (a : Option Addr) (n c : Nat) (zs : List (Int × Int)) (hn : n ≤ 1048576) (hs : zs.Pairwise lexP) (w : World) (h : Reads w a 2 n (pv zs)) :
    Calls Try.prog 119 #[.slice a n c] w fun r w' => r = .returned (.slice a n c) ∧ Ext w w' := by
  have hl : zs.length = n := by have := h.1; rw [pv_len] at this; omega
  subst hl
  have HS := Lib.hid hs
  clear hs
  by_cases h2 : zs.length < 2
  · go_enter Try.func119, Try.ntmps119
    go_wp2
    go_ret
    exact ⟨rfl, Ext.refl _⟩
  · go_enter Try.func119, Try.ntmps119
    go_wp2
    go_loopw [3] (fun s wr => ∃ (k : Nat), 1 ≤ k ∧ k ≤ zs.length ∧ s = .int .i64 k ∧ Ext w wr) (fun s _ => zs.length - (intOf s).toNat)
    case atStart => exact ⟨1, by omega, by omega, rfl, Ext.refl _⟩
    case round =>
      obtain ⟨k, hk1, hk, rfl, hE⟩ := hrel
      by_cases hlt : k < zs.length
      · obtain ⟨q, rfl⟩ : ∃ q, k = q + 1 := ⟨k - 1, by omega⟩
        obtain ⟨b, off, rfl, x0, x1⟩ := (Reads.ext hE h).pair hlt
        obtain ⟨_, _, e1, y0, y1⟩ := (Reads.ext hE h).pair (k := q) (by omega)
        simp only [Option.some.injEq, Addr.mk.injEq, and_true] at e1
        obtain ⟨rfl, rfl⟩ := e1
        have hlex : lexP (pat zs q) (pat zs (q + 1)) := by
          rw [pat_eq hlt, pat_eq (by omega)]
          exact (List.pairwise_iff_getElem.1 HS.out) q (q + 1) (by omega) hlt (by omega)
        generalize pat zs q = y at *
        generalize pat zs (q + 1) = x at *
        obtain ⟨y1', y2'⟩ := y
        obtain ⟨x1', x2'⟩ := x
        have hne : ¬ (x1' = y1' ∧ x2' = y2') := by
          rintro ⟨rfl, rfl⟩; exact lexP_irrefl _ hlex
        simp only at x0 x1 y0 y1
        clear hlex h HS
        have wq : IntKind.i64.wrap ((q : Int) + 1 - 1) = (q : Int) := by rw [wrap_i64] <;> omega
        have wq2 : (0 : Int) ≤ (q : Int) := by omega
        have wq3 : ((q : Int) + 1).toNat = q + 1 := by omega
        by_cases hx : x1' = y1'
        · subst hx
          have hy : ¬ x2' = y2' := fun e => hne ⟨rfl, e⟩
          have hy1 : (x2' == y2') = false := by simpa using hy
          have hy2 : decide (x2' = y2') = false := by simpa using hy
          go_wp2
          go_quiet (fail)
          go_wp2
          go_roundw
          case rel => exact ⟨q + 1 + 1, by omega, by omega, by go_num, Ext.drewN hE _⟩
          case measure => simp [intOf]; omega
        · have hy1 : (x1' == y1') = false := by simpa using hx
          have hy2 : decide (x1' = y1') = false := by simpa using hx
          go_wp2
          go_quiet (fail)
          go_wp2
          go_roundw
          case rel => exact ⟨q + 1 + 1, by omega, by omega, by go_num, Ext.drewN hE _⟩
          case measure => simp [intOf]; omega
      · go_wp2
        go_ret
        exact ⟨rfl, hE⟩
set_option maxHeartbeats 4000000 in
theorem reverseP_any (g n c B : Nat) (xs : List (Int × Int)) (hn : n ≤ 1048576) (w : World) (h : w.ownsRow B 99 2 (.slice (some ⟨g, 0, none⟩) n c) n (pv xs)) :
    Calls Try.prog 121 #[.slice (some ⟨g, 0, none⟩) n c] w fun r w' => r = .returned (.tuple #[]) ∧ w'.ownsRow B 99 2 (.slice (some ⟨g, 0, none⟩) n c) n (pv xs.reverse) ∧ w.grownBy w' (some g) := by
  have hl : xs.length = n := by have := h.1; rw [pv_len] at this; omega
  subst hl
  go_enter Try.func121, Try.ntmps121
  go_wp2
  go_loopw [2, 3] (fun s t wr => ∃ (k : Nat), k + k ≤ xs.length ∧ s = .int .i64 k ∧ t = .int .i64 ((xs.length : Int) - 1 - k) ∧ wr.ownsRow B 99 2 (.slice (some ⟨g, 0, none⟩) xs.length c) xs.length (pv (revQ xs k)) ∧ w.grownBy wr (some g)) (fun s _ _ => xs.length - (intOf s).toNat)
  case atStart => exact ⟨0, Nat.zero_le _, rfl, by simp, by rw [revQ_zero]; exact h, World.grownBy.refl _ _⟩
  case round =>
    clear h
    obtain ⟨k, hk, rfl, rfl, hown, hgr⟩ := hrel
    by_cases hlt : k + k + 1 < xs.length
    · obtain ⟨m, hm⟩ : ∃ m, m = xs.length - 1 - k := ⟨_, rfl⟩
      have hmi : (xs.length : Int) - 1 - k = (m : Int) := by omega
      rw [hmi]
      have hL := revQ_len xs k
      have hk2 := pv_at (zs := revQ xs k) (k := k) (by omega)
      have hm2 := pv_at (zs := revQ xs k) (k := m) (by omega)
      have k0 := hown.cellAt (k * 2) (by omega)
      have k1 := hown.cellAt (k * 2 + 1) (by omega)
      have m0 := hown.cellAt (m * 2) (by omega)
      have m1 := hown.cellAt (m * 2 + 1) (by omega)
      rw [hk2.1] at k0
      rw [hk2.2] at k1
      rw [hm2.1] at m0
      rw [hm2.2] at m1
      clear hk2 hm2
      have f0 := hown.frozenAt (k * 2)
      have f1 := hown.frozenAt (k * 2 + 1)
      have f2 := hown.frozenAt (m * 2)
      have f3 := hown.frozenAt (m * 2 + 1)
      have s0 := hown.stored (k * 2) (.int .i64 (pat (revQ xs k) m).1)
      have s1 := s0.1.stored (k * 2 + 1) (.int .i64 (pat (revQ xs k) m).2)
      have s2 := s1.1.stored (m * 2) (.int .i64 (pat (revQ xs k) k).1)
      have s3 := s2.1.stored (m * 2 + 1) (.int .i64 (pat (revQ xs k) k).2)
      have HS := Lib.hid (revQ_step hlt)
      rw [← hm] at HS
      have HO : Hid (((((wr.setCell ⟨g, k * 2, none⟩ (.int .i64 (pat (revQ xs k) m).1)).setCell ⟨g, k * 2 + 1, none⟩ (.int .i64 (pat (revQ xs k) m).2)).setCell ⟨g, m * 2, none⟩ (.int .i64 (pat (revQ xs k) k).1)).setCell ⟨g, m * 2 + 1, none⟩ (.int .i64 (pat (revQ xs k) k).2)).ownsRow B 99 2 (.slice (some ⟨g, 0, none⟩) xs.length c) xs.length (pv (revQ xs (k + 1)))) := by
        have h1 := s3.1
        rw [pv_set2 _ _ _ _ (by omega), pv_set2 _ _ _ _ (by simp; omega), HS.out] at h1
        exact h1
      have HG := Lib.hid (grown_transQ hgr (grown_transQ s0.2 (grown_transQ s1.2 (grown_transQ s2.2 s3.2))))
      generalize pat (revQ xs k) m = y at *
      generalize pat (revQ xs k) k = x at *
      obtain ⟨y1', y2'⟩ := y
      obtain ⟨x1', x2'⟩ := x
      simp only at k0 k1 m0 m1 HO
      have hkm : k < m := by omega
      have hmn : m < xs.length := by omega
      have HM := Lib.hid hm
      clear hm hmi hown s0 s1 s2 s3 HS hL hgr
      go_wp2
      go_region
      go_wp2
      go_roundw
      case rel => exact ⟨k + 1, by omega, by go_num, congrArg (Value.int .i64) (by have := HM.out; omega), own_ext (Ext.drew (Ext.refl _)) HO.out, grown_drewQ HG.out⟩
      case measure => simp [intOf]; omega
    · have HR := Lib.hid (revQ_full (xs := xs) (k := k) (by omega))
      rw [HR.out] at hown
      go_wp2
      go_end0
      exact ⟨rfl, hown, hgr⟩
set_option maxHeartbeats 2000000 in
theorem hull_any (b off n c : Nat) (zs : List (Int × Int)) (hn : n ≤ 1000) (hn0 : 0 < n) (hs : zs.Pairwise lexP) (hz : ∀ z ∈ zs, PB z) (w : World) (h : Reads w (some ⟨b, off, none⟩) 2 n (pv zs)) :
    Calls Try.prog 71 #[.slice (some ⟨b, off, none⟩) n c] w (OwnsPts w.heap.size (hullL zs) w) := by
  have hl : zs.length = n := by have := h.1; rw [pv_len] at this; omega
  subst hl
  have HS := Lib.hid hs
  have HZ := Lib.hid hz
  have eg : ∀ args w, (callFunc 85 args).run Try.prog w = .ok (.enter 85 args) w := enters_of Try.func85 (by kernel_rfl) rfl
  have HC := Lib.hid (fun (g c : Nat) (w1 : World) (hw : w1.ownsRow w.heap.size 99 2 (.slice (some ⟨g, 0, none⟩) zs.length c) zs.length (pv zs)) =>
    sortP_any (Q := PB) (fun x y => cmpI x.1 x.2 y.1 y.2) swoP 85 eg (fun x y w hx hy => comparePoints_grown x y hx hy w) zs HZ.out w.heap.size zs.length c g w1 (by omega) hw)
  clear eg hs hz
  go_enter Try.func71, Try.ntmps71
  go_wp2_with fail
  refine (cloneP_any b off zs.length c zs (by omega) _ h).mono ?_
  rintro e w1 ⟨a1, c1, rfl, hown1, hE1⟩
  obtain ⟨g, rfl, hg1, hg2⟩ := own_head hown1 hn0
  clear h
  go_wp2_with fail
  refine (HC.out g c1 _ hown1).mono ?_
  rintro e w2 ⟨rfl, ys, hp, hq, hown2, hgr2⟩
  obtain rfl : ys = zs := perm_lex hp hq HS.out
  have hE2 := Ext.grown hE1 hgr2 (fun k hk => by cases hk; exact hg1)
  clear hp hq hgr2 hown1 HC hE1 hg2
  go_wp2_with fail
  refine (compactP_any _ _ _ ys (by omega) HS.out _ (own_reads hown2)).mono ?_
  rintro e w3 ⟨rfl, hb3⟩
  have hown3 := own_ext hb3 hown2
  have hE3 := hE2.trans hb3
  clear hown2 hb3 hE2
  by_cases h1 : ys.length = 1
  · have HH := Lib.hid (show hullL ys = ys by unfold hullL; rw [if_pos (by omega)])
    have h1' : ((ys.length : Int) == 1) = true := by simp; omega
    have HL := Lib.hid h1
    clear h1
    go_wp2
    go_ret
    exact ⟨some ⟨g, 0, none⟩, c1, by rw [HH.out, HL.out]; rfl, by rw [HH.out]; exact hown3, hE3⟩
  · have HH := Lib.hid (show hullL ys = (chainR ys).tail.reverse ++ (chainR ys.reverse).tail.reverse by unfold hullL; rw [if_neg (by omega)])
    have h1' : ((ys.length : Int) == 1) = false := by simp; omega
    have hne : ys ≠ [] := by rintro rfl; simp at hn0
    have hne2 : ys.reverse ≠ [] := by simpa using hne
    have HZ2 := Lib.hid (fun z (hz : z ∈ ys.reverse) => HZ.out z (List.mem_reverse.1 hz))
    have hL1 : (chainR ys).tail.reverse.length ≤ 1000 := by have := chainR_len ys; simp; omega
    have hL2 : (chainR ys.reverse).tail.reverse.length ≤ 1000 := by have := chainR_len ys.reverse; simp at this ⊢; omega
    have HA := Lib.hid (fun w h => half_any (some ⟨g, 0, none⟩) ys.length c1 ys (by omega) hne HZ.out w h)
    have HB := Lib.hid (fun w h => half_any (some ⟨g, 0, none⟩) ys.length c1 ys.reverse (by omega) hne2 HZ2.out w h)
    clear hne hne2 HS HZ HZ2
    generalize (chainR ys).tail.reverse = A at *
    generalize (chainR ys.reverse).tail.reverse = D at *
    go_wp2_with fail
    refine (HA.out _ (own_reads hown3)).mono ?_
    rintro e w4 ⟨a4, c4, rfl, hownA, hb4⟩
    have hown4 := own_ext hb4 hown3
    have hE4 := hE3.trans hb4
    have hzA : ∀ q, (Value.slice a4 A.length c4).ownBlock = some q → g < q := fun q hq => by
      have t1 := (hownA.lt q hq).1
      have t2 := hown3.lt g rfl
      omega
    clear HA hb4 hown3
    go_wp2_with fail
    refine (reverseP_any g ys.length c1 w.heap.size ys (by omega) _ hown4).mono ?_
    rintro e w5 ⟨rfl, hown5, hgr5⟩
    have hownA5 := own_apartQ hownA hgr5 (fun q hq => by have := hzA q hq; simp; omega)
    have hE5 := Ext.grown hE4 hgr5 (fun k hk => by cases hk; exact hg1)
    clear hown4 hgr5 hownA hE4
    go_wp2_with fail
    refine (HB.out _ (own_reads hown5)).mono ?_
    rintro e w6 ⟨a6, c6, rfl, hownB, hb6⟩
    have hownA6 := own_mono hE3.size (own_ext hb6 hownA5)
    have hE6 := hE5.trans hb6
    have hRB := own_reads hownB
    clear HB hb6 hownA5 hownB hown5 hE5
    obtain ⟨i0, hz1, hz2, hz3, hz4⟩ := info_parts point_info
    go_wp2_with (at_builtin; go_must (refine wpList_app_any _ rfl _ _ 56 rfl w.heap.size 99 i0 _ 2 16 Try.underlying56 hz1 hz2 hz3 hz4 rfl (by decide) _ _ _ rfl hownA6 _ _ _ _ rfl hRB (pv_one _) (by unfold maxLen; omega) (by omega) hE6.size ?_))
    intro a7 c7 w7 hown7 hgr7 _
    have hE7 := Ext.grown hE6 hgr7 (fun k hk => (hownA6.lt k hk).1)
    go_wp2
    go_ret
    exact ⟨a7, c7, by rw [HH.out]; simp, by rw [HH.out]; simpa [pv_append] using hown7, hE7⟩

end Go.Proofs.Ytogbfhhioicbmaa
