/-
  The program's heights of the lower side: a map from exponents to fractions, of the call's own.
-/
import Derived.Test.YtaloegjcdllgoaaSideT
import Derived.Test.YtaloegjcdllgoaaFloat
import Derived.Maps.RangeWalk
import Derived.Maps.OwnSet
import Derived.BigQuiet
namespace Go.Proofs.Ytaloegjcdllgoaa
open Go.RowKit

set_option linter.unusedSimpArgs false
open Go.Maps
/-- How an element reads: as itself. -/
def RF (v : Value) : Option (DataW Value × List MemPlace) := some (.held v, [])
def fv (p : Int × Int) : Value := .agg #[.int .i64 p.1, .int .i64 p.2]
theorem keyI : Maps.Keyed Try.prog 3 := int_keyed Try.underlying3
theorem keyOfI {x : Int} (h : B64 x) : keyOf Try.prog 3 (.int .i64 x) = some (.int .i64 x) := keyOf_int_mk Try.underlying3 (WalkArith.wf_i64 h)
def Heights (D : DataW Value) (F : Int → Option (Int × Int)) : Prop := ∀ x, ∀ z, D.atKey (.int .i64 x) z = match F x with
  | some p => .held (fv p)
  | none => z
/-- Block b is a map from ints to fractions of the call's own: at x what F says. -/
def SideM (w : World) (b n : Nat) (F : Int → Option (Int × Int)) : Prop := ∃ D, w.ownsMap Try.prog 3 RF b n D ∧ Heights D F
def updF (F : Int → Option (Int × Int)) (x : Int) (p : Int × Int) (y : Int) : Option (Int × Int) := if y = x then some p else F y
theorem sideM_made {w : World} {b : Nat} (h : w.heap[b]? = some (.map #[] 0)) : SideM w b 0 (fun _ => none) :=
  ⟨.map [], ⟨#[], 0, h, ⟨by simp, MapKept.stamped_empty 0, by simp⟩, Nat.le_refl _, rfl⟩, fun _ _ => rfl⟩
theorem SideM.congr {w : World} {b n : Nat} {F G : Int → Option (Int × Int)} (h : SideM w b n F) (e : ∀ x, F x = G x) : SideM w b n G := by
  have : F = G := funext e
  rwa [← this]
theorem SideM.kept {w w' : World} {b n : Nat} {F : Int → Option (Int × Int)} {row : Option Nat} (h : SideM w b n F) (hg : w.grownBy w' row) (hne : some b ≠ row) : SideM w' b n F :=
  let ⟨D, h1, h2⟩ := h
  ⟨D, h1.kept hg hne, h2⟩
theorem SideM.ext {w w' : World} {b n : Nat} {F : Int → Option (Int × Int)} (h : SideM w b n F) (e : Ext w w') : SideM w' b n F := h.kept (Ext.grownBy e none) (by simp)
theorem SideM.lt {w : World} {b n : Nat} {F : Int → Option (Int × Int)} (h : SideM w b n F) : b < w.heap.size := let ⟨_, h1, _⟩ := h; h1.lt
theorem SideM.put {w : World} {b n : Nat} {F : Int → Option (Int × Int)} (h : SideM w b n F) (hn : n < maxLen) {x : Int} (hx : B64 x) (p : Int × Int) :
    ∃ w', (Instr.mapUpdate 41 (.map (some b)) (.int .i64 x) (fv p)).run Try.prog w = .ok () w' ∧ SideM w' b (n + 1) (updF F x p) ∧ w.grownBy w' (some b) := by
  obtain ⟨D, h1, h2⟩ := h
  obtain ⟨w', hrun, ho, hg⟩ := h1.update keyI Try.underlying41 hn (keyOfI hx) (show RF (fv p) = some (.held (fv p), []) from rfl)
  refine ⟨w', hrun, ⟨_, ho, fun y z => ?_⟩, hg⟩
  by_cases e : y = x
  · subst e
    rw [atKey_put_same h1.isMap (keyI.key (keyOfI hx))]
    simp [updF]
  · rw [atKey_put_other (by simpa using e), h2 y z]
    simp [updF, e]
theorem whole_det (x : Int) (w : World) :
    Calls Try.prog 50 #[.int .i64 x] w fun r w' => r = .returned (.agg #[.int .i64 x, .int .i64 1]) ∧ Ext w w' := whole_any x w
theorem take_one {C : List Int} {x : Int} (h : C[0]? = some x) : (C.take 1).reverse = [x] := by
  cases C with
  | nil => cases h
  | cons a r => simp at h; simp [h]
theorem take_two {zs C : List Int} {m : Nat} {i k : Int} (hi : C[m]? = some i) (hk : C[m + 1]? = some k) (y : Int) :
    fracAt zs y (C.take (m + 2)).reverse = if i < y ∧ y ≤ k then some (lowN (sideN zs i k y) (k - i), lowD (sideN zs i k y) (k - i)) else fracAt zs y (C.take (m + 1)).reverse := by
  obtain ⟨a0, b0⟩ := List.getElem?_eq_some_iff.1 hi
  obtain ⟨a1, b1⟩ := List.getElem?_eq_some_iff.1 hk
  rw [List.take_succ_eq_append_getElem a1, b1, List.take_succ_eq_append_getElem a0, b0]
  simp only [List.reverse_append, List.reverse_cons, List.reverse_nil, List.nil_append, List.cons_append]
  rfl
set_option maxHeartbeats 4000000 in
set_option maxRecDepth 100000 in
theorem sides_any (a : Option Addr) (n c : Nat) (zs : List Int) (hn : n ≤ 13) (hP : IsPol zs) (w : World) (h : Reads w a 1 n (iv zs)) :
    Calls Try.prog 23 #[.slice a n c] w fun r w' => ∃ b q : Nat, r = .returned (.map (some b)) ∧ w.heap.size ≤ b ∧ q ≤ 1000 ∧ SideM w' b q (fun y => fracAt zs y (cornR zs n)) ∧ Ext w w' := by
  have hl : zs.length = n := by have := h.1; rw [iv_len] at this; omega
  subst hl
  obtain ⟨C, hC⟩ : ∃ C, C = (cornR zs zs.length).reverse := ⟨_, rfl⟩
  have HR := Lib.hid (show cornR zs zs.length = C.reverse by rw [hC, List.reverse_reverse])
  have hCl : C.length ≤ 13 := by rw [hC]; have := cornR_len zs zs.length; simp; omega
  have HCm := Lib.hid (fun (m x : Nat) (hx : C[m]? = some (x : Int)) => show x < zs.length ∧ cf zs x ≠ 1000000000 by
    have h1 := List.mem_of_getElem? hx
    rw [hC, List.mem_reverse] at h1
    have := cornR_mem zs zs.length x h1
    omega)
  have HCn := Lib.hid (fun (m : Nat) (hm : m < C.length) => show ∃ x : Nat, C[m]? = some (x : Int) by
    have h1 := List.getElem_mem hm
    have h2 : C[m] ∈ cornR zs zs.length := by rw [← List.mem_reverse, ← hC]; exact h1
    have := cornR_mem zs zs.length _ h2
    obtain ⟨x, hx⟩ := Int.eq_ofNat_of_zero_le this.1
    exact ⟨x, by rw [List.getElem?_eq_getElem hm, hx]⟩)
  have HCs := Lib.hid (fun (m x y : Nat) (h0 : C[m]? = some (x : Int)) (h1 : C[m + 1]? = some (y : Int)) => show x < y by
    have hp : C.Pairwise (· < ·) := by rw [hC, List.pairwise_reverse]; exact corn_rise
    obtain ⟨a0, b0⟩ := List.getElem?_eq_some_iff.1 h0
    obtain ⟨a1, b1⟩ := List.getElem?_eq_some_iff.1 h1
    have := (List.pairwise_iff_getElem.1 hp) m (m + 1) a0 a1 (by omega)
    omega)
  have hC0 : 0 < C.length := by
    obtain ⟨t, ht⟩ := corn_head hP
    rw [hC, List.length_reverse, ht]
    simp
  have HCon := Lib.hid (fun w h => corners_any a zs.length c zs hn hP.num w h)
  rw [← hC] at HCon
  rw [HR.out]
  have HN := Lib.hid hP.num
  have HP := Lib.hid hP
  clear hC hP
  obtain ⟨pb, po, rfl, _⟩ := h.2 (by have := hCl; have h1 := HCn.out 0 hC0; obtain ⟨x, hx⟩ := h1; have := (HCm.out 0 x hx).1; omega)
  go_enter Try.func23, Try.ntmps23
  go_wp2_with fail
  refine (HCon.out _ h).mono ?_
  rintro e w2 ⟨ca, cc, rfl, ho2, hb2⟩
  have HRC := Lib.hid (own_reads ho2)
  have HH := Lib.hid (Reads.ext hb2 h)
  have HE2 := Lib.hid hb2
  have hwz := hb2.size
  clear ho2 hb2 h HCon
  obtain ⟨cb, co, rfl, hcc⟩ := HRC.out.2 (by omega)
  obtain ⟨x, hx⟩ := HCn.out 0 hC0
  have hxm := HCm.out 0 x hx
  have bx := num_bd (HN.out x hxm.1) hxm.2
  have hcx : w2.cell? ⟨cb, co, none⟩ = some (.int .i64 x) := by have := hcc 0 (.int .i64 x) (by simp [iv, hx]); simpa [Addr.add] using this
  obtain ⟨_, _, e0, hpc⟩ := HH.out.2 (by omega)
  cases e0
  have hpx := hpc x _ (cf_at hxm.1)
  have Xk := Ext.keeps hcx
  have Pk := Ext.keeps hpx
  have HX := Lib.hid hx
  have hxl := hxm.1
  generalize hz0 : cf zs x = z0 at *
  have HZ0 := Lib.hid hz0
  clear hz0 hcx hpx hcc hpc hx hxm
  go_wp2
  have hCn0 : ¬ C = [] := by intro e; rw [e] at hC0; simp at hC0
  have hxn : ¬ zs.length ≤ x := by omega
  have hS0 : Ext w2 w2.drew := Ext.drew (Ext.refl _)
  refine wp_region_T (Ext w2) 12 (by kernel_rfl) ?_
  simp only [List.length_cons, List.length_nil, Nat.reduceAdd]
  refine wpAnyT_take (i := 1) (v := .slice (some ⟨cb, co, none⟩) C.length cc) rfl (by kernel_rfl) (by kernel_rfl) (by kernel_rfl) (by kernel_rfl) (fun _ _ _ h => h) (.inl ⟨by rfl, fun _ _ => by
    simp [go_sem]⟩) hS0 ?_
  simp only [Act.put, List.setIfInBounds_toArray, List.set_cons_succ, List.set_cons_zero]
  refine wpAnyT_take (i := 2) (v := .pointer (some ⟨cb, co, none⟩)) rfl (by kernel_rfl) (by kernel_rfl) (by kernel_rfl) (by kernel_rfl) (fun _ _ _ h => h) (.inl ⟨by rfl, fun _ _ => by
    simp [go_sem, hCn0]⟩) hS0 ?_
  simp only [Act.put]
  refine wpAnyT_take (i := 3) (v := .int .i64 (x : Int)) rfl (by kernel_rfl) (by kernel_rfl) (by kernel_rfl) (by kernel_rfl) (fun _ _ _ h => h) (.inl ⟨by rfl, fun w' hw' => by
    have t0 := Xk w' hw'
    simp [go_sem, t0]⟩) hS0 ?_
  simp only [Act.put]
  refine wpAnyT_take (i := 4) (v := .slice (some ⟨pb, po, none⟩) zs.length c) rfl (by kernel_rfl) (by kernel_rfl) (by kernel_rfl) (by kernel_rfl) (fun _ _ _ h => h) (.inl ⟨by rfl, fun _ _ => by
    simp [go_sem]⟩) hS0 ?_
  simp only [Act.put]
  refine wpAnyT_take (i := 5) (v := .slice (some ⟨cb, co, none⟩) C.length cc) rfl (by kernel_rfl) (by kernel_rfl) (by kernel_rfl) (by kernel_rfl) (fun _ _ _ h => h) (.inl ⟨by rfl, fun _ _ => by
    simp [go_sem]⟩) hS0 ?_
  simp only [Act.put]
  refine wpAnyT_take (i := 6) (v := .pointer (some ⟨cb, co, none⟩)) rfl (by kernel_rfl) (by kernel_rfl) (by kernel_rfl) (by kernel_rfl) (fun _ _ _ h => h) (.inl ⟨by rfl, fun _ _ => by
    simp [go_sem, hCn0]⟩) hS0 ?_
  simp only [Act.put]
  refine wpAnyT_take (i := 7) (v := .int .i64 (x : Int)) rfl (by kernel_rfl) (by kernel_rfl) (by kernel_rfl) (by kernel_rfl) (fun _ _ _ h => h) (.inl ⟨by rfl, fun w' hw' => by
    have t0 := Xk w' hw'
    simp [go_sem, t0]⟩) hS0 ?_
  simp only [Act.put]
  refine wpAnyT_take (i := 8) (v := .pointer (some ⟨pb, po + x, none⟩)) rfl (by kernel_rfl) (by kernel_rfl) (by kernel_rfl) (by kernel_rfl) (fun _ _ _ h => h) (.inl ⟨by rfl, fun _ _ => by
    simp [go_sem, hxn]⟩) hS0 ?_
  simp only [Act.put]
  refine wpAnyT_take (i := 9) (v := .int .i64 z0) rfl (by kernel_rfl) (by kernel_rfl) (by kernel_rfl) (by kernel_rfl) (fun _ _ _ h => h) (.inl ⟨by rfl, fun w' hw' => by
    have t0 := Pk w' hw'
    simp [go_sem, t0]⟩) hS0 ?_
  simp only [Act.put]
  refine floatG (k := 2) (g := 3) (L := #[true, true, true, true, true, true, true, true, true, true, true, false, false, false]) (T := wpAnyT Try.prog .any _ _ (Ext w2) 12 3 _) [10] [(⟨0, 11, fun b => .map (some b), .map #[] 0⟩, none)] (w := w2.drew) (by kernel_rfl) (by kernel_rfl) (fun a w _ h => h) (by kernel_rfl) (by simp) ?_ hS0 ⟨by simp, by simp⟩ ?_
  · intro p hp
    simp only [List.mem_cons, List.not_mem_nil, or_false] at hp
    subst hp
    exact ⟨_, rfl, rfl, rfl, fun w => by simp [go_sem, run_makeMap]⟩
  intro ops' R' hO hR'
  have O10 := get_of (i := 10) hO.out rfl
  conv at O10 => rhs; arg 1; whnf
  clear hO
  refine chainG_call O10 rfl (fun w' e => by simp [go_sem] <;> exact ⟨rfl, rfl⟩) (fun v5 e5 => ?_)
  refine (whole_any z0 v5).mono ?_
  rintro e v6 ⟨rfl, hb⟩
  refine ⟨_, rfl, hb, ?_⟩
  simp only [Act.put, List.setIfInBounds_toArray, List.set_cons_succ, List.set_cons_zero]
  intro w6 e6
  rw [hR'.out]
  clear hR' O10
  simp only [finF, List.map_cons, List.map_nil]
  intro b n1 _ hB
  simp only [Act.put, List.setIfInBounds_toArray, List.set_cons_succ, List.set_cons_zero]
  have hE6 : Ext w2 w6 := ((Ext.trans (Ext.drew (Ext.refl w2)) e5).trans hb).trans e6
  have hM0 := sideM_made (hB (b, .map #[] 0) (by simp))
  obtain ⟨w7, hrun, hM7, hg7⟩ := hM0.put (by unfold maxLen; omega) (x := (x : Int)) ⟨by omega, by omega⟩ (z0, 1)
  simp only [fv] at hrun
  have hE7 : Ext w2 w7 := hE6.grown hg7 (by simpa using n1)
  refine wpAnyT_step (i := 11) rfl (by kernel_rfl) (fun K' hK => ?_)
  go_simp
  refine hK.out _ _ (.inr hE7) ?_
  clear hK K'
  refine wpAnyT_step (i := 12) rfl (by kernel_rfl) (fun K' hK => ?_)
  go_simp
  refine hK.out _ _ (.inl rfl) ?_
  clear hK K'
  refine wpAnyT_step (i := 13) rfl (by kernel_rfl) (fun K' hK => ?_)
  go_simp
  refine hK.out _ _ (.inr hE7) ?_
  clear hK K'
  refine wpAnyT_done (by kernel_rfl) ?_ _
  have HM7 := Lib.hid (hM7.congr (G := fun y => fracAt zs y (C.take 1).reverse) (fun y => by
    rw [take_one HX.out]
    show updF _ _ _ _ = (if y = (x : Int) then some (cf zs x, 1) else none)
    rw [HZ0.out]
    rfl))
  have hbz : w2.heap.size ≤ b := n1
  clear hCn0 hxn hM7 hM0 hrun hg7 hE6 hB e6 hb e5 hS0 Xk Pk
  go_wp2
  go_loopw [5] (fun t wr => ∃ m q : Nat, 1 ≤ m ∧ m ≤ C.length ∧ q ≤ 20 * m ∧ t = .int .i64 m ∧ SideM wr b q (fun y => fracAt zs y (C.take m).reverse) ∧ Ext w2 wr) (fun t _ => C.length - (intOf t).toNat)
  case atStart => exact ⟨1, 1, Nat.le_refl _, by omega, by omega, rfl, HM7.out, hE7⟩
  case round =>
    clear HM7 hE7 HX bx HZ0 hxl
    obtain ⟨m, q, hm1, hm, hq, rfl, hM, hE⟩ := hrel
    by_cases hlt : m < C.length
    rotate_left
    · have HM2 := Lib.hid (show SideM wr b q (fun y => fracAt zs y C.reverse) by
        have h1 := hM
        rwa [show m = C.length by omega, List.take_length] at h1)
      have HE3 := Lib.hid (HE2.out.trans hE)
      clear hM hE
      go_wp2
      go_ret
      exact ⟨b, q, rfl, by omega, by omega, HM2.out, HE3.out⟩
    · obtain ⟨k, hk⟩ := HCn.out m hlt
      obtain ⟨i, hi⟩ := HCn.out (m - 1) (by omega)
      have hkm := HCm.out m k hk
      have him := HCm.out (m - 1) i hi
      have hik := HCs.out (m - 1) i k hi (by rw [show m - 1 + 1 = m by omega]; exact hk)
      have bk := num_bd (HN.out k hkm.1) hkm.2
      have bi := num_bd (HN.out i him.1) him.2
      obtain ⟨_, _, e0, hcc⟩ := (Reads.ext hE HRC.out).2 (by omega)
      cases e0
      have hck : wr.cell? ⟨cb, co + m, none⟩ = some (.int .i64 k) := by have := hcc m (.int .i64 k) (by simp [iv, hk]); simpa [Addr.add] using this
      have hci : wr.cell? ⟨cb, co + (m - 1), none⟩ = some (.int .i64 i) := by have := hcc (m - 1) (.int .i64 i) (by simp [iv, hi]); simpa [Addr.add] using this
      obtain ⟨_, _, e0, hpc⟩ := (Reads.ext hE HH.out).2 (by omega)
      cases e0
      have HF := Lib.hid (fun y => take_two (zs := zs) (C := C) (m := m - 1) hi (by rw [show m - 1 + 1 = m by omega]; exact hk) y)
      rw [show m - 1 + 1 = m by omega, show m - 1 + 2 = m + 1 by omega] at HF
      have HM := Lib.hid hM
      have HEr := Lib.hid hE
      have hk12 : k ≤ 12 := by omega
      have hkl := hkm.1
      have hil := him.1
      clear hcc hpc hk hi hkm him hM hE
      obtain ⟨p, hp⟩ : ∃ p, p + 1 = m := ⟨m - 1, by omega⟩
      subst hp
      rw [show p + 1 - 1 = p by omega] at hci
      rw [show (((p + 1 : Nat)) : Int) = (p : Int) + 1 by omega]
      obtain ⟨wo, hwo⟩ : ∃ wo, wo = wr := ⟨_, rfl⟩
      subst hwo
      have hiw : IntKind.i64.wrap ((p : Int) + 1 - 1) = (p : Int) := by rw [show (p : Int) + 1 - 1 = p by omega]; exact wrap_i64 (by omega) (by omega)
      go_wp2
      go_quiet (fail)
      go_wp2
      go_loopw [8] (fun t wr => ∃ j q : Nat, i < j ∧ j ≤ k + 1 ∧ q ≤ 20 * p + 20 + j ∧ t = .int .i64 j ∧ SideM wr b q (fun y => if (i : Int) < y ∧ y < (j : Int) then some (lowN (sideN zs i k y) ((k : Int) - i), lowD (sideN zs i k y) ((k : Int) - i)) else fracAt zs y (C.take (p + 1)).reverse) ∧ Ext w2 wr) (fun t _ => k + 1 - (intOf t).toNat)
      case atStart => exact ⟨i + 1, q, by omega, by omega, by omega, by go_num, (HM.out.ext ((Ext.refl wo).drewN _)).congr (fun y => by rw [if_neg (by omega)]), HEr.out.drewN _⟩
      case round =>
        clear hck hci
        obtain ⟨j, u, hj1, hj2, hu, rfl, hM, hE⟩ := hrel
        by_cases hlt2 : j ≤ k
        rotate_left
        · have HM3 := Lib.hid (hM.congr (G := fun y => fracAt zs y (C.take (p + 1 + 1)).reverse) (fun y => by
            rw [HF.out y]
            by_cases hy : (i : Int) < y ∧ y ≤ (k : Int)
            · rw [if_pos (by omega), if_pos hy]
            · rw [if_neg (by omega), if_neg hy]))
          clear hM
          go_wp2
          go_roundw
          case rel => exact ⟨p + 1 + 1, u, by omega, by omega, by omega, by go_num, HM3.out, hE⟩
          case measure => simp [intOf]; omega
        · have hj12 : j ≤ 12 := by omega
          have bd := side_bd (p := cf zs i) (q := cf zs k) (i := (i : Int)) (k := (k : Int)) (j := (j : Int)) bi bk (by omega) (by omega) (by omega) (by omega)
          obtain ⟨_, _, e0, hpc⟩ := (Reads.ext hE HH.out).2 (by omega)
          cases e0
          have hpi := hpc i _ (cf_at hil)
          have hpk := hpc k _ (cf_at hkl)
          clear hpc
          have HS := Lib.hid (show sideN zs i k j = cf zs i * ((k : Int) - i) + (cf zs k - cf zs i) * ((j : Int) - i) from rfl)
          obtain ⟨V, hV⟩ : ∃ V, V = wr := ⟨_, rfl⟩
          subst hV
          have Ik := Ext.keeps hpi
          have Kk := Ext.keeps hpk
          generalize hzi : cf zs i = zi at *
          generalize hzk : cf zs k = zk at *
          have HL := Lib.hid (fun w => lowest_any (zi * ((k : Int) - i) + (zk - zi) * ((j : Int) - i)) ((k : Int) - i) (by omega) (by omega) (by omega) (by omega) (by omega) w)
          have HM := Lib.hid hM
          have HEr := Lib.hid hE
          clear hM hE hzi hzk hpi hpk
          go_wp2
          have qi := fun s : Past V => Ik s.w s.ext
          have qk := fun s : Past V => Kk s.w s.ext
          refine wp_region_past_tail 28 V (Ext.refl _) (by kernel_rfl) (by kernel_rfl) ?_
          simp only [List.take_succ_cons, List.take_zero, List.drop_succ_cons, List.drop_zero]
          repeat (go_big_quiet_step ((first | (go_at_call 51; (with_reducible exact past_ext (HL.out _))))))
          refine wpQuiet_nil ?_
          intro w5 hw'
          have E5 : Ext V w5 := by obtain ⟨s, hs⟩ := hw'; subst hs; exact s.ext
          clear hw' qi qk Ik Kk
          obtain ⟨w6, hrun, hM6, hg6⟩ := (HM.out.ext E5).put (by unfold maxLen; omega) (x := (j : Int)) ⟨by omega, by omega⟩ (lowN (zi * ((k : Int) - i) + (zk - zi) * ((j : Int) - i)) ((k : Int) - i), lowD (zi * ((k : Int) - i) + (zk - zi) * ((j : Int) - i)) ((k : Int) - i))
          rw [← HS.out] at hM6
          simp only [fv] at hrun
          have hE6 : Ext w2 w6 := (HEr.out.trans E5).grown hg6 (by simpa using hbz)
          have HM6 := Lib.hid (hM6.congr (G := fun y => if (i : Int) < y ∧ y < ((j + 1 : Nat) : Int) then some (lowN (sideN zs i k y) ((k : Int) - i), lowD (sideN zs i k y) ((k : Int) - i)) else fracAt zs y (C.take (p + 1)).reverse) (fun y => by
            simp only [updF]
            by_cases hy : y = (j : Int)
            · subst hy
              rw [if_pos rfl, if_pos (by omega)]
            · rw [if_neg hy]
              by_cases hy2 : (i : Int) < y ∧ y < (j : Int)
              · rw [if_pos hy2, if_pos (by omega)]
              · rw [if_neg hy2, if_neg (by omega)]))
          clear hM6 hg6 E5
          go_wp2
          go_roundw
          case rel => exact ⟨j + 1, u + 1, by omega, by omega, by omega, by go_num, HM6.out, hE6⟩
          case measure => simp [intOf]; omega
end Go.Proofs.Ytaloegjcdllgoaa
