/-
  MirrorPoly; how a slice of ints is cloned and turned round.
-/
import Derived.Test.YtjaaohgknakpnaaPoly
import Derived.Test.YtjaaohgknakpnaaPlaces
import Derived.Test.YtjaaohgknakpnaaTerms
import Derived.Test.YtjaaohgknakpnaaCornW
import Derived.Test.YtjaaohgknakpnaaRtLeast
import Derived.Test.YtjaaohgknakpnaaSameFn
import Derived.Test.YtjaaohgknakpnaaScale
import Derived.Lib.SliceRun
import Derived.BigRegion
namespace Go.Proofs.Ytjaaohgknakpnaa
open Go.RowKit

theorem grown_drew {w w' : World} {row : Option Nat} (h : w.grownBy w' row) : w.grownBy w'.drew row := ⟨h.os, h.tape, h.output, h.size, h.block⟩
/-- A row whose first k elements, and whose last k, are exchanged. -/
def revTo (xs : List Int) (k : Nat) : List Int := (List.range xs.length).map fun j => if j < k ∨ xs.length - k ≤ j then xs.getD (xs.length - 1 - j) 0 else xs.getD j 0
theorem revTo_len (xs : List Int) (k : Nat) : (revTo xs k).length = xs.length := by simp [revTo]
theorem revTo_at {xs : List Int} {k j : Nat} (h : j < xs.length) : (revTo xs k)[j]? = some (if j < k ∨ xs.length - k ≤ j then xs.getD (xs.length - 1 - j) 0 else xs.getD j 0) := by simp [revTo, h]
theorem revTo_getD {xs : List Int} {k j : Nat} (h : j < xs.length) : (revTo xs k).getD j 0 = if j < k ∨ xs.length - k ≤ j then xs.getD (xs.length - 1 - j) 0 else xs.getD j 0 := by
  rw [List.getD_eq_getElem?_getD, revTo_at h]; rfl
theorem revTo_zero (xs : List Int) : revTo xs 0 = xs := by
  refine List.ext_getElem? fun j => ?_
  by_cases h : j < xs.length
  · rw [revTo_at h, if_neg (by omega)]; simp [List.getD, h]
  · rw [List.getElem?_eq_none (by rw [revTo_len]; omega), List.getElem?_eq_none (by omega)]
theorem revTo_step {xs : List Int} {k : Nat} (h : k + k + 1 < xs.length) : ((revTo xs k).set k ((revTo xs k).getD (xs.length - 1 - k) 0)).set (xs.length - 1 - k) ((revTo xs k).getD k 0) = revTo xs (k + 1) := by
  rw [revTo_getD (by omega), revTo_getD (by omega), if_neg (by omega), if_neg (by omega)]
  refine List.ext_getElem? fun j => ?_
  by_cases hj : j < xs.length
  · rw [revTo_at hj, List.getElem?_set, List.getElem?_set]
    by_cases h1 : xs.length - 1 - k = j
    · rw [if_pos h1, if_pos (by rw [List.length_set, revTo_len]; omega), if_pos (by omega)]
      have : xs.length - 1 - j = k := by omega
      rw [this]
    · rw [if_neg h1]
      by_cases h2 : k = j
      · subst h2
        rw [if_pos rfl, if_pos (by rw [revTo_len]; omega), if_pos (by omega)]
      · rw [if_neg h2, revTo_at hj]
        by_cases h3 : j < k ∨ xs.length - k ≤ j
        · rw [if_pos h3, if_pos (by omega)]
        · rw [if_neg h3, if_neg (by omega)]
  · rw [List.getElem?_eq_none (by rw [List.length_set, List.length_set, revTo_len]; omega), List.getElem?_eq_none (by rw [revTo_len]; omega)]
theorem revTo_full {xs : List Int} {k : Nat} (h : xs.length ≤ k + k + 1) : revTo xs k = xs.reverse := by
  refine List.ext_getElem? fun j => ?_
  by_cases hj : j < xs.length
  · rw [revTo_at hj, List.getElem?_reverse hj]
    have hj2 : xs.length - 1 - j < xs.length := by omega
    by_cases h3 : j < k ∨ xs.length - k ≤ j
    · rw [if_pos h3]; simp [List.getD, hj2]
    · rw [if_neg h3]
      have : xs.length - 1 - j = j := by omega
      rw [this]; simp [List.getD, hj]
  · rw [List.getElem?_eq_none (by rw [revTo_len]; omega), List.getElem?_eq_none (by simp; omega)]

/-- 'append(out, zs...)', out nil or the call's own. -/
theorem wpList_appI {w : World} {ops : Array Oper} {rest : List Oper} {o : Oper} {a : Act} {Q : Exit → Act → World → Prop} (hgd : o.guard = none) (s x : Operand)
    (ho : o.op = .call { callee := .builtin .append, args := #[s, x], argTypes := #[22, 22] })
    (W : World) (base : Nat) (a0 : Option Addr) (n c : Nat) (xs : List Int) (hs : a.eval s = .slice a0 n c) (hown : w.ownsRow base 3 1 (.slice a0 n c) n (iv xs))
    (ad : Addr) (m c' : Nat) (zs : List Int) (hx : a.eval x = .slice (some ad) m c') (hl : zs.length = m) (hr : ∀ j u, (iv zs)[j]? = some u → w.cell? (ad.add j) = some u)
    (hn : n ≤ 1048576) (hm : m ≤ 1048576) (hb : base ≤ w.heap.size) (hE : Ext W w) (hW : W.heap.size ≤ base)
    (h : ∀ a1 c1 w', w'.ownsRow base 3 1 (.slice a1 (n + m) c1) (n + m) (iv (xs ++ zs)) → Ext W w' → wpList Try.prog ops Q rest (a.put o.dst (.slice a1 (n + m) c1)) w') :
    wpList Try.prog ops Q (o :: rest) a w := by
  obtain ⟨i0, hi, hz0, hz1, hz2⟩ := info_parts int_info
  refine wpList_append_own w hgd s x 22 ho base 3 i0 (.int .i64 0) 1 8 Try.underlying22 hi hz0 hz1 hz2 rfl (by decide) _ n (iv xs) hs hown ad m c' (iv zs) hx (by rw [iv_len, hl]; omega) hr (fun u hu => ?_) ?_ ?_ hb ?_
  · simp only [iv, List.mem_map] at hu
    obtain ⟨z, _, rfl⟩ := hu
    rfl
  · unfold maxLen; omega
  · omega
  · intro v' w' h1 h2 _
    obtain ⟨a1, c1, rfl⟩ := own_form h1
    refine h a1 c1 w' ?_ (hE.grown h2 fun k hk => Nat.le_trans hW (hown.lt k hk).1)
    rw [show iv (xs ++ zs) = iv xs ++ iv zs by simp [iv]]; exact h1

theorem cloneI_any (b off n c : Nat) (zs : List Int) (hn : n ≤ 1048576) (w : World) (h : Reads w (some ⟨b, off, none⟩) 1 n (iv zs)) :
    Calls Try.prog 62 #[.slice (some ⟨b, off, none⟩) n c] w fun r w' => ∃ a1 c1, r = .returned (.slice a1 n c1) ∧ w'.ownsRow w.heap.size 3 1 (.slice a1 n c1) n (iv zs) ∧ Ext w w' := by
  have hl : zs.length = n := by have := h.1; rw [iv_len] at this; omega
  have HC := Lib.hid h.cells
  have q : ∀ (w : World) (a : Option Addr) (n c n' c' : Nat), (binOp .eql 22 (.slice a n c) (.slice none n' c')).run Try.prog w = .ok (.bool a.isNone) w := fun w a n c n' c' => Lib.run_eql_slice_nil w _ _ a n c n' c' Try.underlying22
  clear h
  go_enter Try.func62, Try.ntmps62
  have H0 := Lib.hid (World.ownsRow_lit (base := w.heap.size) (e := 3) (size := 1) w #[] 0 (Nat.le_refl _) (by unfold maxLen; omega) rfl)
  go_wp2_with (at_builtin; refine wpList_appI rfl _ _ rfl w w.heap.size (some ⟨w.heap.size, 0, none⟩) 0 0 [] rfl H0.out ⟨b, off, none⟩ n c zs rfl hl ?_ (by omega) hn ?_ ?_ (Nat.le_refl _) ?_)
  · intro j u hj
    exact Ext.keep ((Ext.refl w).alloc (.cells #[] 3)) (HC.out j u hj)
  · exact (Ext.refl _).alloc _
  · intro a1 c1 w2 ho2 hE2
    go_wp2
    go_ret
    exact ⟨a1, c1, by simp, by simpa using ho2, hE2⟩

set_option maxHeartbeats 2000000 in
theorem reverseI_any (a : Option Addr) (n c B : Nat) (xs : List Int) (hn : n ≤ 1048576) (w : World) (h : w.ownsRow B 3 1 (.slice a n c) n (iv xs)) :
    Calls Try.prog 63 #[.slice a n c] w fun r w' => r = .returned (.tuple #[]) ∧ w'.ownsRow B 3 1 (.slice a n c) n (iv xs.reverse) ∧ w.grownBy w' (Value.slice a n c).ownBlock := by
  have hl : xs.length = n := by have := h.1; rw [iv_len] at this; omega
  subst hl
  go_enter Try.func63, Try.ntmps63
  go_wp2
  go_loopw [2, 3] (fun s t wr => ∃ (k : Nat), k + k ≤ xs.length ∧ s = .int .i64 k ∧ t = .int .i64 ((xs.length : Int) - 1 - k) ∧ wr.ownsRow B 3 1 (.slice a xs.length c) xs.length (iv (revTo xs k)) ∧ w.grownBy wr (Value.slice a xs.length c).ownBlock) (fun s _ _ => xs.length - (intOf s).toNat)
  case atStart => exact ⟨0, Nat.zero_le _, rfl, by simp, by rw [revTo_zero]; exact h, World.grownBy.refl _ _⟩
  case round =>
    clear h
    obtain ⟨k, hk, rfl, rfl, hown, hgr⟩ := hrel
    by_cases hlt : k + k + 1 < xs.length
    · obtain ⟨g, rfl, hg1, hg2⟩ := own_head hown (by omega)
      obtain ⟨m, hm⟩ : ∃ m, m = xs.length - 1 - k := ⟨_, rfl⟩
      have hmi : (xs.length : Int) - 1 - k = (m : Int) := by omega
      rw [hmi]
      have hL := revTo_len xs k
      have hck := hown.cellAt k (by omega)
      have hcm := hown.cellAt m (by omega)
      rw [iv_at (by omega)] at hck hcm
      have f0 := hown.frozenAt k
      have f1 := hown.frozenAt m
      have s0 := hown.stored k (.int .i64 ((revTo xs k).getD m 0))
      have s1 := s0.1.stored m (.int .i64 ((revTo xs k).getD k 0))
      have HS := Lib.hid (revTo_step hlt)
      rw [← hm] at HS
      have HO : Hid (((wr.setCell ⟨g, k, none⟩ (.int .i64 ((revTo xs k).getD m 0))).setCell ⟨g, m, none⟩ (.int .i64 ((revTo xs k).getD k 0))).ownsRow B 3 1 (.slice (some ⟨g, 0, none⟩) xs.length c) xs.length (iv (revTo xs (k + 1)))) := by
        have h1 := s1.1
        rw [iv_set, iv_set, HS.out] at h1
        exact h1
      have HG := Lib.hid (grown_trans hgr (grown_trans s0.2 s1.2))
      generalize (revTo xs k).getD m 0 = y at *
      generalize (revTo xs k).getD k 0 = x at *
      have hkm : k < m := by omega
      have hmn : m < xs.length := by omega
      have HM := Lib.hid hm
      clear hm hmi hown s0 s1 HS hL hgr
      go_wp2
      go_region
      go_wp2
      go_roundw
      case rel => exact ⟨k + 1, by omega, by go_num, congrArg (Value.int .i64) (by have := HM.out; omega), own_ext (Ext.drew (Ext.refl _)) HO.out, grown_drew HG.out⟩
      case measure => simp [intOf]; omega
    · have HR := Lib.hid (revTo_full (xs := xs) (k := k) (by omega))
      rw [HR.out] at hown
      go_wp2
      go_end0
      exact ⟨rfl, hown, hgr⟩

/-- The last j elements, the last one first. -/
def mirTo (zs : List Int) (j : Nat) : List Int := (List.range j).map fun q => zs.getD (zs.length - 1 - q) 0
theorem mirTo_len (zs : List Int) (j : Nat) : (mirTo zs j).length = j := by simp [mirTo]
theorem mirTo_succ (zs : List Int) (j : Nat) : mirTo zs (j + 1) = mirTo zs j ++ [zs.getD (zs.length - 1 - j) 0] := by simp [mirTo, List.range_succ]
def mir (zs : List Int) : List Int := (zs.drop (firstI zs)).reverse
theorem mir_to {zs : List Int} (h : firstI zs ≤ zs.length) : mirTo zs (zs.length - firstI zs) = mir zs := by
  refine List.ext_getElem? fun j => ?_
  by_cases hj : j < zs.length - firstI zs
  · unfold mir
    rw [List.getElem?_reverse (by simp; omega)]
    simp [mirTo, hj, List.getD]
    rw [show firstI zs + (zs.length - firstI zs - 1 - j) = zs.length - 1 - j by omega]
    rw [List.getElem?_eq_getElem (by omega)]; rfl
  · rw [List.getElem?_eq_none (by rw [mirTo_len]; omega), List.getElem?_eq_none (by unfold mir; simp; omega)]
theorem own_nilI (w : World) (B : Nat) : w.ownsRow B 3 1 (.slice none 0 0) 0 (iv []) := ⟨rfl, .inl ⟨rfl, rfl⟩⟩
theorem mir_len (zs : List Int) : (mir zs).length = zs.length - firstI zs := by simp [mir]

set_option maxHeartbeats 2000000 in
theorem spec_MirrorPoly_any (a : Option Addr) (n c : Nat) (zs : List Int) (hn : n ≤ 1048576) (w : World) (h : Reads w a 1 n (iv zs)) :
    Calls Try.prog 14 #[.slice a n c] w (OwnsIntsB w.heap.size (gL (polyB zs) (mir zs)) (polyB zs) w) := by
  have hl : zs.length = n := by have := h.1; rw [iv_len] at this; omega
  rcases polyB_cases zs with hp | ⟨hp, h1, h2, h3, h4⟩
  · go_enter Try.func14, Try.ntmps14
    go_wp2_with fail
    refine (poGood_any _ _ _ zs (by omega) _ h).mono ?_
    rw [hp]
    rintro e _ ⟨rfl, rfl⟩
    go_wp2
    go_ret2
    exact ⟨none, 0, by rw [hp]; rfl, by rw [hp]; exact own_nilI _ _, Ext.refl _⟩
  · have hf := firstI_lt h1 h4
    rw [hl] at hf
    have HM := Lib.hid (mir_to (zs := zs) (by omega))
    rw [hp]
    have hg : gL true (mir zs) = mir zs := rfl
    rw [hg]
    obtain ⟨L, hL⟩ : ∃ L, L = mir zs := ⟨_, rfl⟩
    rw [← hL] at HM ⊢
    clear hg
    go_enter Try.func14, Try.ntmps14
    go_wp2_with fail
    refine (poGood_any _ _ _ zs (by omega) _ h).mono ?_
    rw [hp]
    rintro e _ ⟨rfl, rfl⟩
    go_wp2_with fail
    refine (poEnds_any _ _ _ zs (by omega) hf _ h).mono ?_
    rintro e _ ⟨rfl, rfl⟩
    obtain ⟨lo, hlo⟩ : ∃ lo, lo = firstI zs := ⟨_, rfl⟩
    rw [← hlo] at hf HM ⊢
    have hm : mir zs = (zs.drop lo).reverse := by rw [hlo]; rfl
    clear hlo hp h1 h2 h3 h4
    subst hl
    go_wp2
    go_loopw [6, 7] (fun s t wr => ∃ (j : Nat) (a1 : Option Addr) (c1 : Nat), j ≤ zs.length - lo ∧ t = .int .i64 ((zs.length : Int) - 1 - j) ∧ s = .slice a1 j c1 ∧ wr.ownsRow w.heap.size 3 1 (.slice a1 j c1) j (iv (mirTo zs j)) ∧ Ext w wr) (fun _ t _ => (intOf t - lo + 1).toNat)
    case atStart => exact ⟨0, none, 0, Nat.zero_le _, by simp, rfl, own_nilI _ _, Ext.refl _⟩
    case round =>
      obtain ⟨j, a1, c1, hj, rfl, rfl, hown, hE⟩ := hrel
      by_cases hlt : j < zs.length - lo
      · obtain ⟨q, hq⟩ : ∃ q, q = zs.length - 1 - j := ⟨_, rfl⟩
        have hqi : (zs.length : Int) - 1 - j = (q : Int) := by omega
        rw [hqi]
        have hcell := h.ext hE
        obtain ⟨b, off, rfl, _⟩ := hcell.2 (by omega)
        have hck := hcell.cells q _ (iv_at (by omega))
        have HS := Lib.hid (mirTo_succ zs j)
        rw [← hq] at HS
        have HO := Lib.hid hown
        have HE := Lib.hid hE
        generalize zs.getD q 0 = z at *
        generalize mirTo zs j = ps at *
        have hqn : q < zs.length := by omega
        have hql : (lo : Int) ≤ q := by omega
        have HQ := Lib.hid hq
        clear hcell h hown hq hE
        go_wp2_with (at_builtin; refine wpList_app1 rfl _ _ rfl w w.heap.size _ _ _ ps z rfl (HO.out.alloc _) wr.heap.size rfl (by simp) (by omega) (by have := Ext.size HE.out; simp; omega) (HE.out.alloc _) (Nat.le_refl _) ?_)
        intro a2 c2 w4 hown4 hE4
        go_wp2
        go_roundw
        case rel => exact ⟨j + 1, a2, c2, by omega, congrArg (Value.int .i64) (by have := HQ.out; omega), rfl, by rw [HS.out]; exact hown4, hE4⟩
        case measure => simp [intOf]; omega
      · have hjn : j = zs.length - lo := by omega
        subst hjn
        rw [HM.out] at hown
        go_wp2
        go_ret2
        have hle : L.length = zs.length - lo := by have := hown.1; rw [iv_len] at this; omega
        exact ⟨a1, c1, by rw [hle]; rfl, by rw [hle]; exact hown, hE⟩

set_option maxHeartbeats 2000000 in
theorem impl_MirrorPoly_any (a : Option Addr) (n c : Nat) (zs : List Int) (hn : n ≤ 1048576) (w : World) (h : Reads w a 1 n (iv zs)) (hc : n ≤ c) :
    Calls Try.prog 16 #[.slice a n c] w (OwnsIntsB w.heap.size (gL (polyB zs) (mir zs)) (polyB zs) w) := by
  have hl : zs.length = n := by have := h.1; rw [iv_len] at this; omega
  rcases polyB_cases zs with hp | ⟨hp, h1, h2, h3, h4⟩
  · go_enter Try.func16, Try.ntmps16
    go_wp2_with fail
    refine (isPoly_any _ _ _ zs (by omega) _ h).mono ?_
    rw [hp]
    rintro e _ ⟨rfl, rfl⟩
    go_wp2
    go_ret2
    exact ⟨none, 0, by rw [hp]; rfl, by rw [hp]; exact own_nilI _ _, Ext.refl _⟩
  · have hf := firstI_lt h1 h4
    rw [hl] at hf
    rw [hp]
    have hg : gL true (mir zs) = mir zs := rfl
    rw [hg]
    obtain ⟨b, off, rfl, hcl⟩ := h.2 (by omega)
    go_enter Try.func16, Try.ntmps16
    go_wp2_with fail
    refine (isPoly_any _ _ _ zs (by omega) _ h).mono ?_
    rw [hp]
    rintro e _ ⟨rfl, rfl⟩
    go_wp2_with fail
    refine (ends_any _ _ _ zs (by omega) hf _ h).mono ?_
    rintro e _ ⟨rfl, rfl⟩
    have hm : mir zs = (zs.drop (firstI zs)).reverse := rfl
    generalize mir zs = L at *
    generalize firstI zs = lo at *
    clear hp h1 h2 h3 h4
    subst hl
    have HD : Hid (Reads w (some ⟨b, off + lo, none⟩) 1 (zs.length - lo) (iv (zs.drop lo))) := by
      refine ⟨by rw [iv_len]; simp, fun _ => ⟨b, off + lo, rfl, fun j u hj => ?_⟩⟩
      have := hcl (lo + j) u (by simpa [iv] using hj)
      rw [← Nat.add_assoc] at this
      exact this
    have hlen : L.length = zs.length - lo := by rw [hm]; simp
    go_wp2_with fail
    refine (cloneI_any _ _ (zs.length - lo) _ (zs.drop lo) (by omega) _ HD.out).mono ?_
    rintro e w1 ⟨a1, c1, rfl, ho1, hE1⟩
    go_wp2_with fail
    refine (reverseI_any _ _ _ _ (zs.drop lo) (by omega) _ ho1).mono ?_
    rintro e w2 ⟨rfl, ho2, hg2⟩
    have HE2 := Lib.hid (Ext.grown hE1 hg2 (fun k hk => (ho1.lt k hk).1))
    rw [← hm] at ho2
    go_wp2
    go_ret2
    exact ⟨a1, c1, by rw [hlen]; rfl, by rw [hlen]; exact ho2, HE2.out⟩

set_option maxHeartbeats 2000000 in
set_option maxRecDepth 100000 in
theorem law_MirrorPoly (a0 : Option Addr) (n0 c0 : Nat) (zs : List Int) (w : World) (hr0 : IsRow w a0 n0 c0 zs) :
    Calls Try.prog 3 #[.slice a0 n0 c0] w fun r w' => r = .returned (.bool true) ∧ Ext w w' := by
  have h0 : Reads w a0 1 n0 (iv zs) := hr0.1
  have hc01 := hr0.2.1
  have hc02 := hr0.2.2.1
  unfold maxLen at hc02
  clear hr0
  have hl0 : zs.length = n0 := by have := h0.1; rw [iv_len] at this; omega
  by_cases hg0 : n0 ≤ 1048576
  rotate_left
  · go_enter Try.func3, Try.ntmps3
    go_wp2
    go_ret
    exact ⟨rfl, (by repeat (first | exact Ext.refl _ | assumption | apply Ext.alloc | apply Ext.drew | apply Ext.drewN | (refine Ext.trans ?_ (by assumption)) | (refine Ext.setCell ?_ (by (try simp) <;> omega) _)))⟩
  have hm0 : n0 ≤ 1048576 := by omega
  obtain ⟨L, eL⟩ : ∃ L : List Int, L = (gL (polyB zs) (mir zs)) := ⟨_, rfl⟩
  obtain ⟨ok, eok⟩ : ∃ ok : Bool, ok = (polyB zs) := ⟨_, rfl⟩
  have hlen : L.length ≤ 1048576 := by rw [eL]; exact gL_le (by rw [mir_len]; omega)
  have HS := Lib.hid (show ∀ (b0 : Nat) w,Reads w (some ⟨b0, 0, none⟩) 1 n0 (iv zs) → Calls Try.prog 14 #[.slice (some ⟨b0, 0, none⟩) n0 n0] w (OwnsIntsB w.heap.size L ok w) by rw [eL, eok]; intro b0 w h0; exact spec_MirrorPoly_any _ _ _ zs (by omega) _ h0)
  have HI := Lib.hid (show ∀ (b0 : Nat) w,Reads w (some ⟨b0, 0, none⟩) 1 n0 (iv zs) → Calls Try.prog 16 #[.slice (some ⟨b0, 0, none⟩) n0 n0] w (OwnsIntsB w.heap.size L ok w) by rw [eL, eok]; intro b0 w h0; exact impl_MirrorPoly_any _ _ _ zs (by omega) _ h0 (Nat.le_refl _))
  clear eL eok
  go_enter Try.func3, Try.ntmps3
  have hE : Ext w w := (by repeat (first | exact Ext.refl _ | assumption | apply Ext.alloc | apply Ext.drew | apply Ext.drewN | (refine Ext.trans ?_ (by assumption)) | (refine Ext.setCell ?_ (by (try simp) <;> omega) _)))
  go_wp2_with fail
  refine (toIntS_any _ _ _ zs hm0 _ (h0.ext hE)).mono ?_
  rintro e w1 ⟨gs0, rfl, xs0, hb⟩
  have hz1 := hb.size
  replace hE := Ext.trans hE hb
  clear hb
  have xs00 := xs0
  go_wp2_with fail
  refine (HS.out _ _ (own_reads xs0)).mono ?_
  rintro e w2 ⟨sa, sc, rfl, hs, hb⟩
  have hz2 := hb.size
  replace hE := Ext.trans hE hb
  replace xs0 := own_ext hb xs0
  clear hb
  have hs0 := hs
  clear xs0
  go_wp2_with fail
  refine (toIntS_any _ _ _ zs hm0 _ (h0.ext hE)).mono ?_
  rintro e w3 ⟨gp0, rfl, xp0, hb⟩
  have hz3 := hb.size
  replace hE := Ext.trans hE hb
  replace hs := own_ext hb hs
  clear hb
  have xp00 := xp0
  go_wp2_with fail
  refine (HI.out _ _ (own_reads xp0)).mono ?_
  rintro e w4 ⟨ga, gc, rfl, hg, hb⟩
  have hz4 := hb.size
  replace hE := Ext.trans hE hb
  replace hs := own_ext hb hs
  replace xp0 := own_ext hb xp0
  clear hb
  have hg0 := hg
  go_wp2_with fail
  refine (eqIntS_same _ _ _ _ _ L (by omega) _ (own_reads hg) (own_reads hs)).mono ?_
  rintro e w5 ⟨rfl, hb⟩
  have hz5 := hb.size
  replace hE := Ext.trans hE hb
  replace hs := own_ext hb hs
  replace xp0 := own_ext hb xp0
  replace hg := own_ext hb hg
  clear hb
  go_wp2_with fail
  refine (toIntS_any _ _ _ zs hm0 _ (h0.ext hE)).mono ?_
  rintro e w6 ⟨gq0, rfl, xq0, hb⟩
  have hz6 := hb.size
  replace hE := Ext.trans hE hb
  replace hs := own_ext hb hs
  replace xp0 := own_ext hb xp0
  replace hg := own_ext hb hg
  clear hb
  have xq00 := xq0
  go_wp2_with fail
  refine (eqIntS_same _ _ _ _ _ zs (by omega) _ (own_reads xp0) (own_reads xq0)).mono ?_
  rintro e w7 ⟨rfl, hb⟩
  have hz7 := hb.size
  replace hE := Ext.trans hE hb
  replace hs := own_ext hb hs
  replace xp0 := own_ext hb xp0
  replace hg := own_ext hb hg
  replace xq0 := own_ext hb xq0
  clear hb
  clear xq0
  go_wp2_with fail
  refine (markIntS_any _ _ _ _ zs _ (by omega) (by omega) (by omega) _ xp0).mono ?_
  rintro e w8 ⟨rfl, hm, hgr⟩
  have hz8 := hgr.size
  replace hE := Ext.grown hE hgr (fun k hk => by have := (xp00.lt k hk).1; omega)
  replace hs := own_apart hs hgr (fun q hq e => by have h1 := (hs0.lt q hq); have h2 := (xp00.lt q e); omega)
  replace hg := own_apart hg hgr (fun q hq e => by have h1 := (hg0.lt q hq); have h2 := (xp00.lt q e); omega)
  clear hm hgr
  clear xp0
  go_wp2_with fail
  refine (eqIntS_same _ _ _ _ _ L (by omega) _ (own_reads hg) (own_reads hs)).mono ?_
  rintro e w9 ⟨rfl, hb⟩
  have hz9 := hb.size
  replace hE := Ext.trans hE hb
  replace hs := own_ext hb hs
  replace hg := own_ext hb hg
  clear hb
  go_wp2_with fail
  refine (markIntS_any _ _ _ _ L _ (by omega) (by omega) (by omega) _ hg).mono ?_
  rintro e w10 ⟨rfl, hm, hgr⟩
  have hz10 := hgr.size
  replace hE := Ext.grown hE hgr (fun k hk => by have := (hg0.lt k hk).1; omega)
  replace hs := own_apart hs hgr (fun q hq e => by have h1 := (hs0.lt q hq); have h2 := (hg0.lt q e); omega)
  clear hgr hg
  go_wp2_with fail
  refine (heldIntS_any _ _ _ _ (by omega) (by omega) (by omega) _ (own_reads hm)).mono ?_
  rintro e _ ⟨rfl, rfl⟩
  go_wp2_with fail
  refine (toIntS_any _ _ _ zs hm0 _ (h0.ext hE)).mono ?_
  rintro e w11 ⟨gr0, rfl, xr0, hb⟩
  have hz11 := hb.size
  replace hE := Ext.trans hE hb
  replace hs := own_ext hb hs
  replace hm := own_ext hb hm
  clear hb
  have xr00 := xr0
  go_wp2_with fail
  refine (HI.out _ _ (own_reads xr0)).mono ?_
  rintro e w12 ⟨ha, hc, rfl, hh, hb⟩
  have hz12 := hb.size
  replace hE := Ext.trans hE hb
  replace hs := own_ext hb hs
  replace hm := own_ext hb hm
  replace xr0 := own_ext hb xr0
  clear hb
  clear xr0
  go_wp2_with fail
  refine (eqIntS_same _ _ _ _ _ L (by omega) _ (own_reads hh) (own_reads hs)).mono ?_
  rintro e w13 ⟨rfl, hb⟩
  have hz13 := hb.size
  replace hE := Ext.trans hE hb
  replace hs := own_ext hb hs
  replace hm := own_ext hb hm
  replace hh := own_ext hb hh
  clear hb
  go_wp2_with fail
  refine (heldIntS_any _ _ _ _ (by omega) (by omega) (by omega) _ (own_reads hm)).mono ?_
  rintro e _ ⟨rfl, rfl⟩
  go_wp2
  go_ret
  exact ⟨rfl, hE⟩

end Go.Proofs.Ytjaaohgknakpnaa
