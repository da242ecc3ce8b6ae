/-
  LeastCoefficients: both sides, the law's walk.
-/
import Derived.Test.YtaloegjcdllgoaaSideM
import Derived.Test.YtaloegjcdllgoaaMirror
import Derived.Maps.RangeWalk
import Derived.BigQuiet
namespace Go.Proofs.Ytaloegjcdllgoaa
open Go.RowKit

set_option linter.unusedSimpArgs false
open Go.Maps
theorem own_nilL (w : World) (B : Nat) : w.ownsRow B 3 1 (.slice none 0 0) 0 (iv []) := ⟨rfl, .inl ⟨rfl, rfl⟩⟩
/-- What stands in the row while the keys in left are still to come. -/
def LeftOk (zs ys : List Int) (left : Lit → Bool) : Prop := ∀ j : Nat, j < zs.length → cf ys j = if left (.int .i64 (j : Int)) = true then cf zs j else cf (rtl zs) j
theorem cf_ext {xs ys : List Int} (hl : xs.length = ys.length) (h : ∀ j : Nat, j < xs.length → cf xs j = cf ys j) : xs = ys := by
  refine List.ext_getElem hl fun j h1 h2 => ?_
  have := h j h1
  simpa [cf, List.getD, h1, h2] using this
theorem trivialKey {x : Int} : WideAt.IsKeyLit (.int .i64 x) := by simp [WideAt.IsKeyLit]
theorem left_step {zs ys : List Int} {left : Lit → Bool} {x : Nat} {z : Int} (hx : x < zs.length) (hl : ys.length = zs.length) (h : LeftOk zs ys left) (hz : z = cf (rtl zs) x) :
    LeftOk zs (ys.set x z) (fun l => left l && !l.sameKey (.int .i64 (x : Int))) := by
  intro j hj
  have h1 := h j hj
  by_cases e : j = x
  · subst e
    have hk : (Lit.int .i64 (j : Int)).sameKey (.int .i64 (j : Int)) = true := WideAt.sameKey_self trivialKey
    simp only [hk, Bool.not_true, Bool.and_false, Bool.false_eq_true, if_false]
    rw [← hz]
    simp [cf, List.getD, hl, hj]
  · have hk : (Lit.int .i64 (j : Int)).sameKey (.int .i64 (x : Int)) = false := sameKey_ne (by simp; omega)
    simp only [hk, Bool.not_false, Bool.and_true]
    rw [← h1]
    simp [cf, List.getD, List.getElem?_set, Ne.symm e]
theorem height_at {D : DataW Value} {F : Int → Option (Int × Int)} (h : Heights D F) {x : Int} {v : Value} (hat : ∀ zd, D.atKey (.int .i64 x) zd = .held v) : ∃ p, F x = some p ∧ v = fv p := by
  cases hf : F x with
  | none =>
    have h1 := h x (.map [])
    rw [hat, hf] at h1
    cases h1
  | some p =>
    have h1 := h x (.map [])
    rw [hat, hf] at h1
    exact ⟨p, rfl, by cases h1; rfl⟩
theorem height_none {D : DataW Value} {F : Int → Option (Int × Int)} (h : Heights D F) {x : Int} (hx : has D (.int .i64 x) = false) : F x = none := by
  cases hf : F x with
  | none => rfl
  | some p =>
    have h1 := h x (.map [])
    rw [atKey_of_not_has hx, hf] at h1
    cases h1
set_option maxHeartbeats 2000000 in
theorem spec_LeastCoefficients_any (a : Option Addr) (n c : Nat) (zs : List Int) (hn : n ≤ 1048576) (w : World) (h : Reads w a 1 n (iv zs)) :
    Calls Try.prog 5 #[.slice a n c] w (OwnsIntsB w.heap.size (gL (polyB zs) (rtl zs)) (polyB zs) w) := by
  have hl : zs.length = n := by have := h.1; rw [iv_len] at this; omega
  rcases polyB_cases zs with hp | ⟨hp, h1, h2, h3, h4⟩
  · go_enter Try.func5, Try.ntmps5
    go_wp2_with fail
    refine (poGood_any _ _ _ zs (by omega) _ h).mono ?_
    rw [hp]
    rintro e _ ⟨rfl, rfl⟩
    go_wp2
    go_ret2
    exact ⟨none, 0, by rw [hp]; rfl, by rw [hp]; exact own_nilL _ _, Ext.refl _⟩
  · obtain ⟨hP, h13⟩ := polyB_pol hp
    rw [hp]
    have hg : gL true (rtl zs) = rtl zs := rfl
    rw [hg]
    have HC := Lib.hid (fun w h => rtLeast_any a n c zs (by omega) hP.num w h)
    have HP := Lib.hid (fun w h => poGood_any a n c zs (by omega) w h)
    rw [hp] at HP
    generalize rtl zs = L at *
    clear hp h1 h2 h3 h4 hg
    go_enter Try.func5, Try.ntmps5
    go_wp2_with fail
    refine (HP.out _ h).mono ?_
    rintro e _ ⟨rfl, rfl⟩
    go_wp2_with fail
    refine (HC.out _ h).mono ?_
    rintro e w2 ⟨a2, c2, rfl, ho2, hE2⟩
    go_wp2
    go_ret2
    exact ⟨a2, c2, rfl, ho2, hE2⟩
set_option maxHeartbeats 4000000 in
set_option maxRecDepth 100000 in
theorem impl_LeastCoefficients_any (a : Option Addr) (n c : Nat) (zs : List Int) (hn : n ≤ 1048576) (w : World) (h : Reads w a 1 n (iv zs)) :
    Calls Try.prog 7 #[.slice a n c] w (OwnsIntsB w.heap.size (gL (polyB zs) (rtl zs)) (polyB zs) w) := by
  have hl : zs.length = n := by have := h.1; rw [iv_len] at this; omega
  rcases polyB_cases zs with hp | ⟨hp, h1, h2, h3, h4⟩
  · go_enter Try.func7, Try.ntmps7
    go_wp2_with fail
    refine (isPoly_any _ _ _ zs (by omega) _ h).mono ?_
    rw [hp]
    rintro e _ ⟨rfl, rfl⟩
    go_wp2
    go_ret2
    exact ⟨none, 0, by rw [hp]; rfl, by rw [hp]; exact own_nilL _ _, Ext.refl _⟩
  · skip
    obtain ⟨hP, h13⟩ := polyB_pol hp
    rw [hp]
    have hg : gL true (rtl zs) = rtl zs := rfl
    rw [hg]
    have h1z := h1
    clear hg h2 h3 h4
    subst hl
    have HS := Lib.hid (fun w h => sides_any a zs.length c zs (by omega) hP w h)
    have HG := Lib.hid (fun w h => isPoly_any a zs.length c zs (by omega) w h)
    rw [hp] at HG
    have HB := Lib.hid (fun (x : Int) p (e : fracAt zs x (cornR zs zs.length) = some p) => frac_bd (cornR zs zs.length) (fun k hk => by
      have h5 := cornR_mem zs zs.length k hk
      have h6 := hP.fin h5.1 h5.2.1 h5.2.2
      exact ⟨by omega, h6⟩) h13 p e)
    have HQ := Lib.hid (fun (x : Int) p (e : fracAt zs x (cornR zs zs.length) = some p) => frac_pos (cornR zs zs.length) corn_rise p e)
    have HV := Lib.hid (fun (j : Nat) (hj : j < zs.length) => (rtl_at hj).trans (side_rtl hP hj))
    have HL := Lib.hid (rtl_len zs)
    obtain ⟨pb, po, rfl, _⟩ := h.2 (by omega)
    clear hp hP
    go_enter Try.func7, Try.ntmps7
    go_wp2_with fail
    refine (HG.out _ h).mono ?_
    rintro e _ ⟨rfl, rfl⟩
    go_wp2_with fail
    refine (HS.out _ h).mono ?_
    rintro e w2 ⟨b, q, rfl, hb0, hq, ⟨D, hD, hH⟩, hE2⟩
    have HH := Lib.hid (Reads.ext hE2 h)
    have hbl := hD.lt
    go_wp2_with fail
    refine (cloneI_any _ _ zs.length _ zs (by omega) _ HH.out).mono ?_
    rintro e w3 ⟨a3, c3, rfl, ho3, hE3⟩
    obtain ⟨g, rfl, hg1, hg2⟩ := own_head ho3 (by omega)
    have hD3 := hD.kept (Ext.grownBy hE3 none) (by simp)
    have HE3 := Lib.hid (hE2.trans hE3)
    have hs3 := hE3.size
    have hs2 := hE2.size
    have HD := Lib.hid hH
    clear hD hE2 hE3 h HH HS HG hH
    go_wp2_with (first | (at_range; refine wpList_range_own _ rfl _ 41 rfl 3 44 keyI Try.underlying41 RF b q D rfl hD3 ?_; intro w4 hrg0 hg4 hs4) | go_in)
    go_frame
    have HE4 := Lib.hid (Ext.grown HE3.out hg4 (by simp))
    have ho4 := own_keep ho3 hg4 (by simp)
    have HLO := Lib.hid (show LeftOk zs zs (has D) from fun j hj => by
      by_cases hh : has D (.int .i64 (j : Int)) = true
      · rw [if_pos hh]
      · rw [if_neg hh, HV.out j hj, height_none HD.out (by simpa using hh)])
    go_loopw [] (fun wr => ∃ (left : Lit → Bool) (cnt : Nat) (ys : List Int), wr.ranges Try.prog 3 RF b w3.heap.size q D left cnt ∧ ys.length = zs.length ∧ Hid (LeftOk zs ys left) ∧ wr.ownsRow w2.heap.size 3 1 (.slice (some ⟨g, 0, none⟩) zs.length c3) zs.length (iv ys) ∧ Ext w wr) (fun wr => wr.rangeLeft b w3.heap.size)
    case atStart => exact ⟨_, _, zs, hrg0, rfl, HLO, ho4, HE4.out⟩
    case round =>
      clear hrg0 ho4 HE4 HLO hg4 hD3 ho3 HE3
      obtain ⟨left, cnt, ys, hrg, hyl, hLO, hown, hE⟩ := hrel
      go_wp2_with (first | (at_next; refine wpList_next_ranges _ rfl _ rfl 3 keyI RF (Value.int .i64) (fun v : Value => v) (fun key kl hk => by obtain ⟨x, rfl, _⟩ := Maps.keyOf_int_inv Try.underlying3 hk; exact ⟨x, rfl⟩) (fun v y hv => ⟨v, rfl⟩) b w3.heap.size q D left cnt rfl hrg ?_ ?_) | go_in)
      · intro hc0 hl0
        have HY := Lib.hid (show ys = rtl zs from cf_ext (by rw [hyl, HL.out]) (fun j hj => by
          have h5 := hLO.out j (by omega)
          rwa [if_neg (by rw [hl0]; simp)] at h5))
        rw [HY.out] at hown
        have HO := Lib.hid (own_mono hs2 hown)
        clear hrg hLO hown hl0
        go_wp2
        go_ret2
        exact ⟨some ⟨g, 0, none⟩, c3, by rw [HL.out]; rfl, by rw [HL.out]; exact HO.out, hE⟩
      · intro xi v kl y1 y2 w5 cnt1 hkey hlk hv hat hrg1 hlt hg5 hs5 hen
        obtain ⟨x', e0, rfl, _⟩ := Maps.keyOf_int_inv Try.underlying3 hkey
        cases e0
        simp only [RF, Option.some.injEq] at hv
        cases hv
        obtain ⟨p, hp, rfl⟩ := height_at HD.out hat
        have bp := HB.out xi p hp
        have bq := HQ.out xi p hp
        obtain ⟨x, rfl⟩ := Int.eq_ofNat_of_zero_le bp.1.1
        have hxn : x < zs.length := by omega
        have HZ : Hid (ceilI p = cf (rtl zs) x) := by
          have h5 := HV.out x hxn
          rw [hp] at h5
          exact h5.symm
        have HLS := Lib.hid (left_step hxn hyl hLO.out HZ.out)
        have hown5 := own_keep hown hg5 (by rintro s e; cases e; simp; omega)
        have hE5 := Ext.grown hE hg5 (by rintro s e; cases e; omega)
        obtain ⟨p1, p2⟩ := p
        have hb1 : (-1000000000 ≤ p1 ∧ p1 ≤ 1000000000) := bp.2.1
        have hb2 : p2 ≤ 1000000000 := bp.2.2
        have hb3 : 0 < p2 := bq
        have HLT := Lib.hid (show wr.rangeLeft b w3.heap.size = cnt from hrg.left_eq)
        have HK := Lib.hid hlt
        clear hp bp bq hlk hat hkey HZ hLO hown hE hrg hg5 hlt HB HQ HV
        generalize hcl : ceilI (p1, p2) = z at *
        simp only [fv] at hen
        go_wp2_with fail
        refine (ceil_any p1 p2 hb3 (by omega) (by omega) _).mono ?_
        rw [hcl]
        rintro e w6 ⟨rfl, hb6⟩
        have hE6 := ((Ext.refl w5).alloc (.cells #[.int .i64 p1, .int .i64 p2] 44)).trans hb6
        have hown6 := own_ext hE6 hown5
        have hrg6 := hrg1.kept (Ext.grownBy hE6 none) (by simp) (by simp)
        have HE6 := Lib.hid (hE5.trans hE6)
        have hys : ys.length = zs.length := hyl
        have hck : w6.cell? ⟨g, x, none⟩ = some (.int .i64 (cf ys x)) := by rw [hown6.cellAt x (by omega)]; exact cf_at (by omega)
        have hfo := hown6.frozenAt x
        have hst := hown6.stored x (.int .i64 z)
        rw [iv_set] at hst
        have hrg7 := hrg6.kept hst.2 (by simp; omega) (by simp; omega)
        have hE7 := Ext.grown HE6.out hst.2 (by simp; omega)
        have HRG := Lib.hid hrg7
        have HOW := Lib.hid hst.1
        have HE7 := Lib.hid hE7
        clear hrg7 hE7 hst hrg6 hrg1 hE6 hown6 hown5 hE5 hb6 HE6 hcl
        go_wp2
        go_roundw
        case rel => exact ⟨_, cnt1, ys.set x z, HRG.out, by rw [List.length_set]; exact hys, HLS, HOW.out, HE7.out⟩
        case measure => rw [HRG.out.left_eq, HLT.out]; exact HK.out
set_option maxHeartbeats 2000000 in
set_option maxRecDepth 100000 in
theorem law_LeastCoefficients (a0 : Option Addr) (n0 c0 : Nat) (zs : List Int) (w : World) (hr0 : IsRow w a0 n0 c0 zs) :
    Calls Try.prog 3 #[.slice a0 n0 c0] w fun r w' => r = .returned (.bool true) ∧ Ext w w' := by
  have h0 : Reads w a0 1 n0 (iv zs) := hr0.1
  have hc01 := hr0.2.1
  have hc02 := hr0.2.2.1
  unfold maxLen at hc02
  clear hr0
  have hl0 : zs.length = n0 := by have := h0.1; rw [iv_len] at this; omega
  by_cases hg0 : n0 ≤ 1048576
  rotate_left
  · go_enter Try.func3, Try.ntmps3
    go_wp2
    go_ret
    exact ⟨rfl, (by repeat (first | exact Ext.refl _ | assumption | apply Ext.alloc | apply Ext.drew | apply Ext.drewN | (refine Ext.trans ?_ (by assumption)) | (refine Ext.setCell ?_ (by (try simp) <;> omega) _)))⟩
  have hm0 : n0 ≤ 1048576 := by omega
  obtain ⟨L, eL⟩ : ∃ L : List Int, L = (gL (polyB zs) (rtl zs)) := ⟨_, rfl⟩
  obtain ⟨ok, eok⟩ : ∃ ok : Bool, ok = (polyB zs) := ⟨_, rfl⟩
  have hlen : L.length ≤ 1048576 := by rw [eL]; exact gL_le (by rw [rtl_len]; omega)
  have HS := Lib.hid (show ∀ (b0 : Nat) w,Reads w (some ⟨b0, 0, none⟩) 1 n0 (iv zs) → Calls Try.prog 5 #[.slice (some ⟨b0, 0, none⟩) n0 n0] w (OwnsIntsB w.heap.size L ok w) by rw [eL, eok]; intro b0 w h0; exact spec_LeastCoefficients_any _ _ _ zs (by omega) _ h0)
  have HI := Lib.hid (show ∀ (b0 : Nat) w,Reads w (some ⟨b0, 0, none⟩) 1 n0 (iv zs) → Calls Try.prog 7 #[.slice (some ⟨b0, 0, none⟩) n0 n0] w (OwnsIntsB w.heap.size L ok w) by rw [eL, eok]; intro b0 w h0; exact impl_LeastCoefficients_any _ _ _ zs (by omega) _ h0)
  clear eL eok
  go_enter Try.func3, Try.ntmps3
  have hE : Ext w w := (by repeat (first | exact Ext.refl _ | assumption | apply Ext.alloc | apply Ext.drew | apply Ext.drewN | (refine Ext.trans ?_ (by assumption)) | (refine Ext.setCell ?_ (by (try simp) <;> omega) _)))
  go_wp2_with fail
  refine (toIntS_any _ _ _ zs hm0 _ (h0.ext hE)).mono ?_
  rintro e w1 ⟨gs0, rfl, xs0, hb⟩
  have hz1 := hb.size
  replace hE := Ext.trans hE hb
  clear hb
  have xs00 := xs0
  go_wp2_with fail
  refine (HS.out _ _ (own_reads xs0)).mono ?_
  rintro e w2 ⟨sa, sc, rfl, hs, hb⟩
  have hz2 := hb.size
  replace hE := Ext.trans hE hb
  replace xs0 := own_ext hb xs0
  clear hb
  have hs0 := hs
  clear xs0
  go_wp2_with fail
  refine (toIntS_any _ _ _ zs hm0 _ (h0.ext hE)).mono ?_
  rintro e w3 ⟨gp0, rfl, xp0, hb⟩
  have hz3 := hb.size
  replace hE := Ext.trans hE hb
  replace hs := own_ext hb hs
  clear hb
  have xp00 := xp0
  go_wp2_with fail
  refine (HI.out _ _ (own_reads xp0)).mono ?_
  rintro e w4 ⟨ga, gc, rfl, hg, hb⟩
  have hz4 := hb.size
  replace hE := Ext.trans hE hb
  replace hs := own_ext hb hs
  replace xp0 := own_ext hb xp0
  clear hb
  have hg0 := hg
  go_wp2_with fail
  refine (eqIntS_same _ _ _ _ _ L (by omega) _ (own_reads hg) (own_reads hs)).mono ?_
  rintro e w5 ⟨rfl, hb⟩
  have hz5 := hb.size
  replace hE := Ext.trans hE hb
  replace hs := own_ext hb hs
  replace xp0 := own_ext hb xp0
  replace hg := own_ext hb hg
  clear hb
  go_wp2_with fail
  refine (toIntS_any _ _ _ zs hm0 _ (h0.ext hE)).mono ?_
  rintro e w6 ⟨gq0, rfl, xq0, hb⟩
  have hz6 := hb.size
  replace hE := Ext.trans hE hb
  replace hs := own_ext hb hs
  replace xp0 := own_ext hb xp0
  replace hg := own_ext hb hg
  clear hb
  have xq00 := xq0
  go_wp2_with fail
  refine (eqIntS_same _ _ _ _ _ zs (by omega) _ (own_reads xp0) (own_reads xq0)).mono ?_
  rintro e w7 ⟨rfl, hb⟩
  have hz7 := hb.size
  replace hE := Ext.trans hE hb
  replace hs := own_ext hb hs
  replace xp0 := own_ext hb xp0
  replace hg := own_ext hb hg
  replace xq0 := own_ext hb xq0
  clear hb
  clear xq0
  go_wp2_with fail
  refine (markIntS_any _ _ _ _ zs _ (by omega) (by omega) (by omega) _ xp0).mono ?_
  rintro e w8 ⟨rfl, hm, hgr⟩
  have hz8 := hgr.size
  replace hE := Ext.grown hE hgr (fun k hk => by have := (xp00.lt k hk).1; omega)
  replace hs := own_apart hs hgr (fun q hq e => by have h1 := (hs0.lt q hq); have h2 := (xp00.lt q e); omega)
  replace hg := own_apart hg hgr (fun q hq e => by have h1 := (hg0.lt q hq); have h2 := (xp00.lt q e); omega)
  clear hm hgr
  clear xp0
  go_wp2_with fail
  refine (eqIntS_same _ _ _ _ _ L (by omega) _ (own_reads hg) (own_reads hs)).mono ?_
  rintro e w9 ⟨rfl, hb⟩
  have hz9 := hb.size
  replace hE := Ext.trans hE hb
  replace hs := own_ext hb hs
  replace hg := own_ext hb hg
  clear hb
  go_wp2_with fail
  refine (markIntS_any _ _ _ _ L _ (by omega) (by omega) (by omega) _ hg).mono ?_
  rintro e w10 ⟨rfl, hm, hgr⟩
  have hz10 := hgr.size
  replace hE := Ext.grown hE hgr (fun k hk => by have := (hg0.lt k hk).1; omega)
  replace hs := own_apart hs hgr (fun q hq e => by have h1 := (hs0.lt q hq); have h2 := (hg0.lt q e); omega)
  clear hgr hg
  go_wp2_with fail
  refine (heldIntS_any _ _ _ _ (by omega) (by omega) (by omega) _ (own_reads hm)).mono ?_
  rintro e _ ⟨rfl, rfl⟩
  go_wp2_with fail
  refine (toIntS_any _ _ _ zs hm0 _ (h0.ext hE)).mono ?_
  rintro e w11 ⟨gr0, rfl, xr0, hb⟩
  have hz11 := hb.size
  replace hE := Ext.trans hE hb
  replace hs := own_ext hb hs
  replace hm := own_ext hb hm
  clear hb
  have xr00 := xr0
  go_wp2_with fail
  refine (HI.out _ _ (own_reads xr0)).mono ?_
  rintro e w12 ⟨ha, hc, rfl, hh, hb⟩
  have hz12 := hb.size
  replace hE := Ext.trans hE hb
  replace hs := own_ext hb hs
  replace hm := own_ext hb hm
  replace xr0 := own_ext hb xr0
  clear hb
  clear xr0
  go_wp2_with fail
  refine (eqIntS_same _ _ _ _ _ L (by omega) _ (own_reads hh) (own_reads hs)).mono ?_
  rintro e w13 ⟨rfl, hb⟩
  have hz13 := hb.size
  replace hE := Ext.trans hE hb
  replace hs := own_ext hb hs
  replace hm := own_ext hb hm
  replace hh := own_ext hb hh
  clear hb
  go_wp2_with fail
  refine (heldIntS_any _ _ _ _ (by omega) (by omega) (by omega) _ (own_reads hm)).mono ?_
  rintro e _ ⟨rfl, rfl⟩
  go_wp2
  go_ret
  exact ⟨rfl, hE⟩

end Go.Proofs.Ytaloegjcdllgoaa
