/-
  SameFunction: whether two polynomials have the same corners with the same coefficients.
-/
import Derived.Test.YtjaaohgknakpnaaRtLeast
import Derived.BigQuiet
namespace Go.Proofs.Ytjaaohgknakpnaa
open Go.RowKit

theorem polyB_pol {zs : List Int} (h : polyB zs = true) : IsPol zs ∧ zs.length ≤ 13 := by
  have h' := h
  simp only [polyB, Bool.and_eq_true, inB_true, bne_iff_ne] at h'
  refine ⟨⟨by omega, fun j hj => ?_, ?_⟩, by omega⟩
  · have h1 := List.all_eq_true.1 h'.1.2 zs[j] (List.getElem_mem hj)
    simpa [cf, List.getD, hj] using h1
  · have h1 := h'.2
    have h2 : zs.length - 1 < zs.length := by omega
    simpa [cf, List.getD, h2] using h1
/-- Where a slice lies in a box that a closure reads. -/
def Box (w : World) (b : Nat) (v : Value) : Prop := w.cell? ⟨b, 0, none⟩ = some v
theorem Box.ext {w w' : World} {b : Nat} {v : Value} (h : Ext w w') (k : Box w b v) : Box w' b v := h.keep k

set_option maxHeartbeats 1000000 in
theorem sameCl_any (p q : Nat) (a a' : Option Addr) (n n' c c' : Nat) (zs ys : List Int) (hn : n ≤ 1073741824) (hn' : n' ≤ 1073741824) (x : Int) (hx : 0 ≤ x) (hx1 : x < n) (hx2 : x < n') (w : World)
    (hp : Box w p (.slice a n c)) (hq : Box w q (.slice a' n' c')) (h : Reads w a 1 n (iv zs)) (h' : Reads w a' 1 n' (iv ys)) :
    Calls Try.prog 69 #[.int .i64 x, .pointer (some ⟨p, 0, none⟩), .pointer (some ⟨q, 0, none⟩)] w fun r w' => r = .returned (.bool (cf zs x != cf ys x)) ∧ Ext w w' := by
  obtain ⟨x, rfl⟩ := Int.eq_ofNat_of_zero_le hx
  have hl : zs.length = n := by have := h.1; rw [iv_len] at this; omega
  have hl' : ys.length = n' := by have := h'.1; rw [iv_len] at this; omega
  obtain ⟨b, off, rfl, hcell⟩ := h.2 (by omega)
  obtain ⟨b', off', rfl, hcell'⟩ := h'.2 (by omega)
  have hck := hcell x _ (cf_at (by omega))
  have hck' := hcell' x _ (cf_at (by omega))
  generalize cf zs x = u at *
  generalize cf ys x = v at *
  unfold Box at hp hq
  have hxn : x < n := by omega
  have hxn' : x < n' := by omega
  clear hcell hcell' h h' hl hl'
  go_enter Try.func69, Try.ntmps69
  go_wp2
  go_quiet (fail)
  go_wp2
  go_ret
  exact ⟨rfl, Ext.drewN (Ext.refl _) _⟩

/-- Which place comes out of a search, by whether there is one. -/
def FoundB (b : Bool) (w : World) (r : Ending) (w' : World) : Prop := ∃ i : Int, r = .returned (.int .i64 i) ∧ decide (0 ≤ i) = b ∧ -1 ≤ i ∧ i ≤ 1073741824 ∧ Ext w w'
theorem any_take_succ (f : Int → Bool) (zs : List Int) (k : Nat) (h : k < zs.length) : (zs.take (k + 1)).any f = ((zs.take k).any f || f (zs.getD k 0)) := by
  rw [List.take_succ_eq_append_getElem h, List.any_append]; simp [List.getD, h]
theorem any_at (f : Int → Bool) (zs : List Int) (k : Nat) (h : k < zs.length) (hf : f (zs.getD k 0) = true) : zs.any f = true :=
  List.any_eq_true.2 ⟨zs[k], List.getElem_mem h, by simpa [List.getD, h] using hf⟩

set_option maxHeartbeats 1000000 in
theorem sameIx_any (p q : Nat) (a a' la : Option Addr) (n n' c c' m lc : Nat) (zs ys l : List Int) (hn : n ≤ 1073741824) (hn' : n' ≤ 1073741824) (hm : m ≤ 1073741824) (hb : ∀ x ∈ l, 0 ≤ x ∧ x < n ∧ x < n') (w : World)
    (hp : Box w p (.slice a n c)) (hq : Box w q (.slice a' n' c')) (h : Reads w a 1 n (iv zs)) (h' : Reads w a' 1 n' (iv ys)) (hr : Reads w la 1 m (iv l)) :
    Calls Try.prog 131 #[.slice la m lc, .func (.func 69) #[] #[.pointer (some ⟨p, 0, none⟩), .pointer (some ⟨q, 0, none⟩)]] w (FoundB (l.any fun x => cf zs x != cf ys x) w) := by
  have hl : l.length = m := by have := hr.1; rw [iv_len] at this; omega
  subst hl
  obtain ⟨A, hA⟩ : ∃ A, A = l.any fun x => cf zs x != cf ys x := ⟨_, rfl⟩
  have HA := Lib.hid hA
  rw [← hA]
  have HB := Lib.hid hb
  have HQ := Lib.hid (And.intro hp hq)
  clear hA hb hp hq
  go_enter Try.func131, Try.ntmps131
  go_wp2
  go_loopw [8] (fun t wr => ∃ k : Nat, k ≤ l.length ∧ t = .int .i64 k ∧ Hid ((l.take k).any (fun x => cf zs x != cf ys x) = false) ∧ Ext w wr) (fun t _ => l.length - (intOf t).toNat)
  case atStart => exact ⟨0, Nat.zero_le _, rfl, Lib.hid (by simp), Ext.refl _⟩
  case round =>
    obtain ⟨k, hk, rfl, HG, hE⟩ := hrel
    by_cases hlt : k < l.length
    · obtain ⟨lb, loff, rfl, hcell⟩ := (Reads.ext hE hr).2 (by omega)
      have hck := hcell k _ (iv_at hlt)
      have hbx := HB.out (l.getD k 0) (by rw [List.getD, List.getElem?_eq_getElem hlt]; exact List.getElem_mem hlt)
      have H1 := Lib.hid (any_take_succ (fun x => cf zs x != cf ys x) l k hlt)
      have H2 := Lib.hid (any_at (fun x => cf zs x != cf ys x) l k hlt)
      generalize l.getD k 0 = x at *
      have HC := Lib.hid (sameCl_any p q a a' n n' c c' zs ys hn hn' x hbx.1 hbx.2.1 hbx.2.2 wr (HQ.out.1.ext hE) (HQ.out.2.ext hE) (h.ext hE) (h'.ext hE))
      clear hcell
      cases hv : (cf zs x != cf ys x) with
      | true =>
        have HT := Lib.hid (HA.out.trans (H2.out hv))
        rw [hv] at HC
        clear H1 H2 hv h h' hr
        go_wp2_with (go_at_call 69; refine HC.out.mono ?_; rintro e w' ⟨rfl, hb⟩)
        go_ret
        exact ⟨k, rfl, by rw [HT.out]; simp, by omega, by omega, hE.trans hb⟩
      | false =>
        have HS := Lib.hid (show (l.take (k + 1)).any (fun x => cf zs x != cf ys x) = false by rw [H1.out, HG.out, hv]; rfl)
        rw [hv] at HC
        clear H1 H2 hv h h' hr
        go_wp2_with (go_at_call 69; refine HC.out.mono ?_; rintro e w' ⟨rfl, hb⟩)
        go_roundw
        case rel => exact ⟨k + 1, by omega, by go_num, HS, hE.trans hb⟩
        case measure => simp [intOf]; omega
    · have HF : Hid (A = false) := by
        show A = false
        rw [HA.out]
        have := HG.out
        rwa [List.take_of_length_le (by omega)] at this
      go_wp2
      go_ret
      exact ⟨-1, rfl, by rw [HF.out]; rfl, by omega, by omega, hE⟩

theorem sameCo_any (p q : Nat) (a a' la : Option Addr) (n n' c c' m lc : Nat) (zs ys l : List Int) (hn : n ≤ 1073741824) (hn' : n' ≤ 1073741824) (hm : m ≤ 1073741824) (hb : ∀ x ∈ l, 0 ≤ x ∧ x < n ∧ x < n') (w : World)
    (hp : Box w p (.slice a n c)) (hq : Box w q (.slice a' n' c')) (h : Reads w a 1 n (iv zs)) (h' : Reads w a' 1 n' (iv ys)) (hr : Reads w la 1 m (iv l)) :
    Calls Try.prog 68 #[.slice la m lc, .func (.func 69) #[] #[.pointer (some ⟨p, 0, none⟩), .pointer (some ⟨q, 0, none⟩)]] w fun r w' => r = .returned (.bool (l.any fun x => cf zs x != cf ys x)) ∧ Ext w w' := by
  have HC := Lib.hid (sameIx_any p q a a' la n n' c c' m lc zs ys l hn hn' hm hb w hp hq h h' hr)
  generalize (l.any fun x => cf zs x != cf ys x) = A at *
  clear h h' hr hp hq hb
  go_enter Try.func68, Try.ntmps68
  go_wp2_with fail
  refine HC.out.mono ?_
  rintro e w1 ⟨i, rfl, hi, hi1, hi2, hE⟩
  cases A with
  | true =>
    have hi3 : 0 ≤ i := of_decide_eq_true hi
    clear hi HC
    go_wp2
    go_ret
    exact ⟨ret_bool (by first | (simp; done) | (simp; omega)), hE⟩
  | false =>
    have hi3 : i < 0 := by have := of_decide_eq_false hi; omega
    clear hi HC
    go_wp2
    go_ret
    exact ⟨ret_bool (by first | (simp; done) | (simp; omega)), hE⟩

/-- Whether two polynomials have the same corners with the same coefficients. -/
def sameB (zs ys : List Int) : Bool := polyB zs && polyB ys && decide (rtl zs = rtl ys)
theorem sameB_yes {zs ys : List Int} (hz : polyB zs = true) (hy : polyB ys = true) : sameB zs ys = (decide (cornR zs zs.length = cornR ys ys.length) && !(cornR zs zs.length).reverse.any (fun x => cf zs x != cf ys x)) := by
  unfold sameB
  rw [hz, hy, Bool.eq_iff_iff]
  simp only [Bool.true_and, decide_eq_true_eq, Bool.and_eq_true, Bool.not_eq_true']
  rw [same_function (polyB_pol hz).1 (polyB_pol hy).1, List.any_eq_false]
  simp only [List.mem_reverse, bne_iff_ne, Decidable.not_not]

set_option maxHeartbeats 1000000 in
theorem spec_SameFunction_any (a a' : Option Addr) (n n' c c' : Nat) (zs ys : List Int) (hn : n ≤ 1073741824) (hn' : n' ≤ 1073741824) (w : World) (h : Reads w a 1 n (iv zs)) (h' : Reads w a' 1 n' (iv ys)) :
    Calls Try.prog 20 #[.slice a n c, .slice a' n' c'] w fun r w' => r = .returned (.tuple #[.bool (sameB zs ys), .bool (polyB zs && polyB ys)]) ∧ Ext w w' := by
  have hl : zs.length = n := by have := h.1; rw [iv_len] at this; omega
  have hl' : ys.length = n' := by have := h'.1; rw [iv_len] at this; omega
  cases hz : polyB zs
  · go_enter Try.func20, Try.ntmps20
    go_wp2_with fail
    refine (poGood_any _ _ _ zs hn _ h).mono ?_
    rw [hz]
    rintro e _ ⟨rfl, rfl⟩
    go_wp2
    go_ret2
    exact ⟨by simp [sameB, hz], Ext.refl _⟩
  · cases hy : polyB ys
    · go_enter Try.func20, Try.ntmps20
      go_wp2_with fail
      refine (poGood_any _ _ _ zs hn _ h).mono ?_
      rw [hz]
      rintro e _ ⟨rfl, rfl⟩
      go_wp2_with fail
      refine (poGood_any _ _ _ ys hn' _ h').mono ?_
      rw [hy]
      rintro e _ ⟨rfl, rfl⟩
      go_wp2
      go_ret2
      exact ⟨by simp [sameB, hz, hy], Ext.refl _⟩
    · have pz := polyB_pol hz
      have py := polyB_pol hy
      obtain ⟨S, hS⟩ : ∃ S, S = sameB zs ys := ⟨_, rfl⟩
      rw [← hS]
      have HS := Lib.hid (show S = decide (rtl zs = rtl ys) by rw [hS]; simp [sameB, hz, hy])
      clear hS
      go_enter Try.func20, Try.ntmps20
      go_wp2_with fail
      refine (poGood_any _ _ _ zs hn _ h).mono ?_
      rw [hz]
      rintro e _ ⟨rfl, rfl⟩
      go_wp2_with fail
      refine (poGood_any _ _ _ ys hn' _ h').mono ?_
      rw [hy]
      rintro e _ ⟨rfl, rfl⟩
      go_wp2_with fail
      refine (rtLeast_any _ _ _ zs (by omega) pz.1.num _ h).mono ?_
      rintro e w1 ⟨a1, c1, rfl, ho1, hb1⟩
      go_wp2_with fail
      refine (rtLeast_any _ _ _ ys (by omega) py.1.num _ (h'.ext hb1)).mono ?_
      rintro e w2 ⟨a2, c2, rfl, ho2, hb2⟩
      have hr1 := rtl_len zs
      have hr2 := rtl_len ys
      have HLs := l1Same_any _ _ _ _ c1 c2 (rtl zs) (rtl ys) (by omega) (by omega) _ (own_reads (own_ext hb2 ho1)) (own_reads ho2)
      rw [← HS.out] at HLs
      have HL := Lib.hid HLs
      clear HLs hr1 hr2 HS
      go_wp2_with fail
      refine HL.out.mono ?_
      rintro e w3 ⟨rfl, hb3⟩
      go_wp2
      go_ret2
      exact ⟨by simp, (hb1.trans hb2).trans hb3⟩

set_option maxHeartbeats 1000000 in
theorem impl_SameFunction_any (a a' : Option Addr) (n n' c c' : Nat) (zs ys : List Int) (hn : n ≤ 1073741824) (hn' : n' ≤ 1073741824) (w : World) (h : Reads w a 1 n (iv zs)) (h' : Reads w a' 1 n' (iv ys)) :
    Calls Try.prog 21 #[.slice a n c, .slice a' n' c'] w fun r w' => r = .returned (.tuple #[.bool (sameB zs ys), .bool (polyB zs && polyB ys)]) ∧ Ext w w' := by
  have hl : zs.length = n := by have := h.1; rw [iv_len] at this; omega
  have hl' : ys.length = n' := by have := h'.1; rw [iv_len] at this; omega
  subst hl
  subst hl'
  have hE0 : Ext w ((w.alloc (.cells #[.slice a zs.length c] 22)).alloc (.cells #[.slice a' ys.length c'] 22)) := (by repeat (first | exact Ext.refl _ | assumption | apply Ext.alloc | apply Ext.drew | apply Ext.drewN | (refine Ext.trans ?_ (by assumption)) | (refine Ext.setCell ?_ (by (try simp) <;> omega) _)))
  replace h := h.ext hE0
  replace h' := h'.ext hE0
  cases hz : polyB zs
  · go_enter Try.func21, Try.ntmps21
    go_wp2_with fail
    refine (isPoly_any _ _ _ zs hn _ h).mono ?_
    rw [hz]
    rintro e _ ⟨rfl, rfl⟩
    go_wp2
    go_ret2
    exact ⟨by simp [sameB, hz], hE0⟩
  · cases hy : polyB ys
    · go_enter Try.func21, Try.ntmps21
      go_wp2_with fail
      refine (isPoly_any _ _ _ zs hn _ h).mono ?_
      rw [hz]
      rintro e _ ⟨rfl, rfl⟩
      go_wp2_with fail
      refine (isPoly_any _ _ _ ys hn' _ h').mono ?_
      rw [hy]
      rintro e _ ⟨rfl, rfl⟩
      go_wp2
      go_ret2
      exact ⟨by simp [sameB, hz, hy], hE0⟩
    · have pz := polyB_pol hz
      have py := polyB_pol hy
      obtain ⟨S, hS⟩ : ∃ S, S = sameB zs ys := ⟨_, rfl⟩
      rw [← hS]
      have HS := Lib.hid (hS.trans (sameB_yes hz hy))
      clear hS
      have hB1 : Box ((w.alloc (.cells #[.slice a zs.length c] 22)).alloc (.cells #[.slice a' ys.length c'] 22)) w.heap.size (.slice a zs.length c) := Ext.keep ((Ext.refl _).alloc _) (by simp)
      have hB2 : Box ((w.alloc (.cells #[.slice a zs.length c] 22)).alloc (.cells #[.slice a' ys.length c'] 22)) (w.heap.size + 1) (.slice a' ys.length c') := by unfold Box; simp
      have HB := Lib.hid (And.intro hB1 hB2)
      have hc0 := Ext.keeps (show World.cell? _ ⟨w.heap.size + 1, 0, none⟩ = some _ from hB2)
      clear hB1 hB2
      have HC1 := fun x (hx : x ∈ (cornR zs zs.length).reverse) => cornR_mem zs zs.length x (List.mem_reverse.1 hx)
      have HC2 := fun x (hx : x ∈ (cornR ys ys.length).reverse) => cornR_mem ys ys.length x (List.mem_reverse.1 hx)
      have HC := Lib.hid (And.intro HC1 HC2)
      clear HC1 HC2
      have hm1 := cornR_len zs zs.length
      have hm2 := cornR_len ys ys.length
      have HR : Hid ((cornR zs zs.length).reverse = (cornR ys ys.length).reverse ↔ cornR zs zs.length = cornR ys ys.length) := Lib.hid ⟨fun e => List.reverse_inj.1 e, fun e => by rw [e]⟩
      have hk1 : (cornR zs zs.length).reverse.length = (cornR zs zs.length).length := by simp
      have hk2 : (cornR ys ys.length).reverse.length = (cornR ys ys.length).length := by simp
      go_enter Try.func21, Try.ntmps21
      go_wp2_with fail
      refine (isPoly_any _ _ _ zs hn _ h).mono ?_
      rw [hz]
      rintro e _ ⟨rfl, rfl⟩
      go_wp2_with fail
      refine (isPoly_any _ _ _ ys hn' _ h').mono ?_
      rw [hy]
      rintro e _ ⟨rfl, rfl⟩
      go_wp2_with fail
      refine (corners_any _ _ _ zs (by omega) pz.1.num _ h).mono ?_
      rintro e w1 ⟨a1, c1, rfl, ho1, hb1⟩
      rw [List.length_reverse] at ho1
      replace hc0 := hc0 _ hb1
      have HB1 := Lib.hid (And.intro (HB.out.1.ext hb1) (HB.out.2.ext hb1))
      clear HB
      go_wp2_with fail
      refine (corners_any _ _ _ ys (by omega) py.1.num _ (h'.ext hb1)).mono ?_
      rintro e w2 ⟨a2, c2, rfl, ho2, hb2⟩
      rw [List.length_reverse] at ho2
      have ho1' := own_reads (own_ext hb2 ho1)
      go_wp2_with fail
      refine (slicesEqual_any _ _ _ _ _ _ (cornR zs zs.length).reverse (cornR ys ys.length).reverse (by omega) (by omega) _ ho1' (own_reads ho2)).mono ?_
      rw [decide_eq_decide.2 HR.out]
      by_cases hcc : cornR zs zs.length = cornR ys ys.length
      · rw [decide_eq_true hcc]
        rintro e w3 ⟨rfl, hb3⟩
        have HS2 : Hid (S = !(cornR zs zs.length).reverse.any fun x => cf zs x != cf ys x) := by
          show S = _
          rw [HS.out, decide_eq_true hcc, Bool.true_and]
        have HX := Lib.hid (fun x (hx : x ∈ (cornR zs zs.length).reverse) => show 0 ≤ x ∧ x < (zs.length : Int) ∧ x < (ys.length : Int) by
          have h1 := HC.out.1 x hx
          have h2 := HC.out.2 x (by rw [← hcc]; exact hx)
          omega)
        have h03 := hb1.trans (hb2.trans hb3)
        have hb23 := hb2.trans hb3
        have HCo := Lib.hid (sameCo_any w.heap.size (w.heap.size + 1) a a' a1 zs.length ys.length c c' _ c1 zs ys (cornR zs zs.length).reverse hn hn' (by omega) HX.out w3 (HB1.out.1.ext hb23) (HB1.out.2.ext hb23) (h.ext h03) (h'.ext h03) (ho1'.ext hb3))
        generalize ((cornR zs zs.length).reverse.any fun x => cf zs x != cf ys x) = A at *
        clear HS HX HC h h' ho1' ho2 ho1 hcc HR HB1 hk1 hk2 hm1 hm2 hc0
        go_wp2_with fail
        refine HCo.out.mono ?_
        rintro e w4 ⟨rfl, hb4⟩
        go_wp2
        go_ret2
        exact ⟨by rw [HS2.out]; simp, hE0.trans (h03.trans hb4)⟩
      · rw [decide_eq_false hcc]
        rintro e w3 ⟨rfl, hb3⟩
        have HS2 := Lib.hid (show S = false by rw [HS.out, decide_eq_false hcc, Bool.false_and])
        clear HS HC h h' ho1' ho2 ho1 HR HB1 hk1 hk2 hm1 hm2 hc0 hcc
        go_wp2
        go_ret2
        exact ⟨by rw [HS2.out]; simp, hE0.trans (hb1.trans (hb2.trans hb3))⟩

set_option maxHeartbeats 2000000 in
set_option maxRecDepth 100000 in
theorem law_SameFunction (a0 : Option Addr) (n0 c0 : Nat) (zs : List Int) (a1 : Option Addr) (n1 c1 : Nat) (ys : List Int) (w : World) (hr0 : IsRow w a0 n0 c0 zs) (hr1 : IsRow w a1 n1 c1 ys) :
    Calls Try.prog 4 #[.slice a0 n0 c0, .slice a1 n1 c1] w fun r w' => r = .returned (.bool true) ∧ Ext w w' := by
  have h0 : Reads w a0 1 n0 (iv zs) := hr0.1
  have hc01 := hr0.2.1
  have hc02 := hr0.2.2.1
  unfold maxLen at hc02
  clear hr0
  have hl0 : zs.length = n0 := by have := h0.1; rw [iv_len] at this; omega
  have h1 : Reads w a1 1 n1 (iv ys) := hr1.1
  have hc11 := hr1.2.1
  have hc12 := hr1.2.2.1
  unfold maxLen at hc12
  clear hr1
  have hl1 : ys.length = n1 := by have := h1.1; rw [iv_len] at this; omega
  by_cases hg0 : n0 ≤ 1048576
  rotate_left
  · go_enter Try.func4, Try.ntmps4
    go_wp2
    go_ret
    exact ⟨rfl, Ext.refl _⟩
  by_cases hg1 : n1 ≤ 1048576
  rotate_left
  · go_enter Try.func4, Try.ntmps4
    go_wp2
    go_ret
    exact ⟨rfl, Ext.refl _⟩
  have hm0 : n0 ≤ 1048576 := by omega
  have hm1 : n1 ≤ 1048576 := by omega
  obtain ⟨S, eS⟩ : ∃ x : Bool, x = (sameB zs ys) := ⟨_, rfl⟩
  obtain ⟨T, eT⟩ : ∃ x : Bool, x = (polyB zs && polyB ys) := ⟨_, rfl⟩
  have HS := Lib.hid (show ∀ (b0 b1 : Nat) w,Reads w (some ⟨b0, 0, none⟩) 1 n0 (iv zs) → Reads w (some ⟨b1, 0, none⟩) 1 n1 (iv ys) → Calls Try.prog 20 #[.slice (some ⟨b0, 0, none⟩) n0 n0, .slice (some ⟨b1, 0, none⟩) n1 n1] w (fun r w' => r = .returned (.tuple #[.bool S, .bool T]) ∧ Ext w w') by rw [eS, eT]; intro b0 b1 w h0 h1; exact spec_SameFunction_any _ _ _ _ _ _ zs ys (by omega) (by omega) _ h0 h1)
  have HI := Lib.hid (show ∀ (b0 b1 : Nat) w,Reads w (some ⟨b0, 0, none⟩) 1 n0 (iv zs) → Reads w (some ⟨b1, 0, none⟩) 1 n1 (iv ys) → Calls Try.prog 21 #[.slice (some ⟨b0, 0, none⟩) n0 n0, .slice (some ⟨b1, 0, none⟩) n1 n1] w (fun r w' => r = .returned (.tuple #[.bool S, .bool T]) ∧ Ext w w') by rw [eS, eT]; intro b0 b1 w h0 h1; exact impl_SameFunction_any _ _ _ _ _ _ zs ys (by omega) (by omega) _ h0 h1)
  clear eS eT
  go_enter Try.func4, Try.ntmps4
  have hE : Ext w w := Ext.refl w
  go_wp2_with fail
  refine (toIntS_any _ _ _ zs hm0 _ (h0.ext hE)).mono ?_
  rintro e w1 ⟨gs0, rfl, xs0, hb⟩
  have hz1 := hb.size
  replace hE := Ext.trans hE hb
  clear hb
  have xs00 := xs0
  go_wp2_with fail
  refine (toIntS_any _ _ _ ys hm1 _ (h1.ext hE)).mono ?_
  rintro e w2 ⟨gs1, rfl, xs1, hb⟩
  have hz2 := hb.size
  replace hE := Ext.trans hE hb
  replace xs0 := own_ext hb xs0
  clear hb
  have xs10 := xs1
  go_wp2_with fail
  refine (HS.out _ _ _ (own_reads xs0) (own_reads xs1)).mono ?_
  rintro e w3 ⟨rfl, hb⟩
  have hz3 := hb.size
  replace hE := Ext.trans hE hb
  replace xs0 := own_ext hb xs0
  replace xs1 := own_ext hb xs1
  clear hb
  clear xs0
  clear xs1
  go_wp2_with fail
  refine (toIntS_any _ _ _ zs hm0 _ (h0.ext hE)).mono ?_
  rintro e w4 ⟨gp0, rfl, xp0, hb⟩
  have hz4 := hb.size
  replace hE := Ext.trans hE hb
  clear hb
  have xp00 := xp0
  go_wp2_with fail
  refine (toIntS_any _ _ _ ys hm1 _ (h1.ext hE)).mono ?_
  rintro e w5 ⟨gp1, rfl, xp1, hb⟩
  have hz5 := hb.size
  replace hE := Ext.trans hE hb
  replace xp0 := own_ext hb xp0
  clear hb
  have xp10 := xp1
  go_wp2_with fail
  refine (HI.out _ _ _ (own_reads xp0) (own_reads xp1)).mono ?_
  rintro e w6 ⟨rfl, hb⟩
  have hz6 := hb.size
  replace hE := Ext.trans hE hb
  replace xp0 := own_ext hb xp0
  replace xp1 := own_ext hb xp1
  clear hb
  go_wp2_with fail
  refine (toIntS_any _ _ _ zs hm0 _ (h0.ext hE)).mono ?_
  rintro e w7 ⟨gq0, rfl, xq0, hb⟩
  have hz7 := hb.size
  replace hE := Ext.trans hE hb
  replace xp0 := own_ext hb xp0
  replace xp1 := own_ext hb xp1
  clear hb
  have xq00 := xq0
  go_wp2_with fail
  refine (eqIntS_same _ _ _ _ _ zs (by omega) _ (own_reads xp0) (own_reads xq0)).mono ?_
  rintro e w8 ⟨rfl, hb⟩
  have hz8 := hb.size
  replace hE := Ext.trans hE hb
  replace xp0 := own_ext hb xp0
  replace xp1 := own_ext hb xp1
  replace xq0 := own_ext hb xq0
  clear hb
  clear xq0
  go_wp2_with fail
  refine (toIntS_any _ _ _ ys hm1 _ (h1.ext hE)).mono ?_
  rintro e w9 ⟨gq1, rfl, xq1, hb⟩
  have hz9 := hb.size
  replace hE := Ext.trans hE hb
  replace xp0 := own_ext hb xp0
  replace xp1 := own_ext hb xp1
  clear hb
  have xq10 := xq1
  go_wp2_with fail
  refine (eqIntS_same _ _ _ _ _ ys (by omega) _ (own_reads xp1) (own_reads xq1)).mono ?_
  rintro e w10 ⟨rfl, hb⟩
  have hz10 := hb.size
  replace hE := Ext.trans hE hb
  replace xp0 := own_ext hb xp0
  replace xp1 := own_ext hb xp1
  replace xq1 := own_ext hb xq1
  clear hb
  clear xq1
  go_wp2
  go_ret
  exact ⟨rfl, hE⟩

end Go.Proofs.Ytjaaohgknakpnaa
