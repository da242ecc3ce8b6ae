/-
  The reference's least coefficients: the walk.
-/
import Derived.Test.YtaloegjcdllgoaaLeast
import Derived.BigQuiet
import Derived.StillTailTactics
namespace Go.Proofs.Ytaloegjcdllgoaa
open Go.RowKit

theorem own_keep {w w' : World} {B : Nat} {E : TypeId} {size : Nat} {v : Value} {n : Nat} {xs : List Value} {row : Option Nat} (k : w.ownsRow B E size v n xs) (hg : w.grownBy w' row) (h : ∀ q, v.ownBlock = some q → row ≠ some q) : w'.ownsRow B E size v n xs := by
  refine k.kept hg ?_
  cases hv : v.ownBlock with
  | none => exact .inl rfl
  | some q => exact .inr fun e => h q hv e.symm

theorem still_same {P : Program} {f : FuncId} {args : Array Value} {w : World} {v : Value} (h : Calls P f args w fun e w' => e = .returned v ∧ w = w') : Calls P f args w fun e w' => e = .returned v ∧ w' = w :=
  h.mono fun _ _ ⟨he, hw⟩ => ⟨he, hw.symm⟩
theorem seg_bd {p q x y i : Int} (hp : -1000000 ≤ p ∧ p ≤ 1000000) (hq : -1000000 ≤ q ∧ q ≤ 1000000) (h1 : 0 ≤ x - y) (h2 : 0 ≤ y - i) (h3 : 0 < x - i) :
    -1000000 ≤ -(p * (x - y) + q * (y - i)) / (x - i) ∧ -(p * (x - y) + q * (y - i)) / (x - i) ≤ 1000000 := by
  have p1 := Int.mul_le_mul_of_nonneg_right hp.1 h1
  have p2 := Int.mul_le_mul_of_nonneg_right hp.2 h1
  have q1 := Int.mul_le_mul_of_nonneg_right hq.1 h2
  have q2 := Int.mul_le_mul_of_nonneg_right hq.2 h2
  constructor
  · refine (Int.le_ediv_iff_mul_le h3).2 ?_
    grind
  · have : -(p * (x - y) + q * (y - i)) < (1000000 + 1) * (x - i) := by grind
    have := (Int.ediv_lt_iff_lt_mul h3).2 this
    omega

set_option maxHeartbeats 4000000 in
set_option maxRecDepth 100000 in
theorem rtLeast_any (a : Option Addr) (n c : Nat) (zs : List Int) (hn : n ≤ 13) (hz : ∀ j : Nat, j < zs.length → numB (cf zs j) = true) (w : World) (h : Reads w a 1 n (iv zs)) :
    Calls Try.prog 21 #[.slice a n c] w (OwnsInts w.heap.size (rtl zs) w) := by
  obtain ⟨i0, hi, hz0, hz1, hz2⟩ := info_parts int_info
  have hl : zs.length = n := by have := h.1; rw [iv_len] at this; omega
  subst hl
  obtain ⟨C, hC⟩ : ∃ C, C = (cornR zs zs.length).reverse := ⟨_, rfl⟩
  have HR := Lib.hid (show least zs C C.length = rtl zs by rw [hC]; exact least_full zs)
  have hCl : C.length ≤ 13 := by rw [hC]; have := cornR_len zs zs.length; simp; omega
  have HCm := Lib.hid (fun (m x : Nat) (hx : C[m]? = some (x : Int)) => show x < zs.length ∧ cf zs x ≠ 1000000000 by
    have h1 := List.mem_of_getElem? hx
    rw [hC, List.mem_reverse] at h1
    have := cornR_mem zs zs.length x h1
    omega)
  have HCn := Lib.hid (fun (m : Nat) (hm : m < C.length) => show ∃ x : Nat, C[m]? = some (x : Int) by
    have h1 := List.getElem_mem hm
    have h2 : C[m] ∈ cornR zs zs.length := by rw [← List.mem_reverse, ← hC]; exact h1
    have := cornR_mem zs zs.length _ h2
    obtain ⟨x, hx⟩ := Int.eq_ofNat_of_zero_le this.1
    exact ⟨x, by rw [List.getElem?_eq_getElem hm, hx]⟩)
  have HCs := Lib.hid (fun (m x y : Nat) (h0 : C[m]? = some (x : Int)) (h1 : C[m + 1]? = some (y : Int)) => show x < y by
    have hp : C.Pairwise (· < ·) := by rw [hC, List.pairwise_reverse]; exact corn_rise
    obtain ⟨a0, b0⟩ := List.getElem?_eq_some_iff.1 h0
    obtain ⟨a1, b1⟩ := List.getElem?_eq_some_iff.1 h1
    have := (List.pairwise_iff_getElem.1 hp) m (m + 1) a0 a1 (by omega)
    omega)
  have HCon := Lib.hid (fun w h => rtCorners_any a zs.length c zs hn hz w h)
  rw [← hC] at HCon
  clear hC
  go_enter Try.func21, Try.ntmps21
  go_wp2_with (refine wpList_make_full _ rfl (.tmp 11) (.tmp 11) 22 rfl w.heap.size 3 i0 (.int .i64 0) 1 Try.underlying22 hi hz0 hz1 .i64 .i64 _ _ zs.length rfl rfl rfl rfl (by rw [hz2]; omega) (by unfold maxLen; omega) (Nat.le_refl _) ?_)
  intro w1 hown hgr
  have hb1 : Ext w w1 := Ext.of_grown hgr
  clear hi hz0 hz1 hz2
  go_wp2
  go_loopw [15] (fun s wr => ∃ (k : Nat) (ys : List Value), k ≤ zs.length ∧ s = .int .i64 k ∧ wr.ownsRow w.heap.size 3 1 (.slice (some ⟨w.heap.size, 0, none⟩) zs.length zs.length) zs.length ys ∧ Hid (ys.take k = (iv (List.replicate zs.length 1000000000)).take k) ∧ Ext w wr) (fun s _ => zs.length - (intOf s).toNat)
  case atStart => exact ⟨0, _, Nat.zero_le _, rfl, hown, Lib.hid (by simp), hb1⟩
  case round =>
    clear hown hgr hb1
    obtain ⟨k, ys, hk, rfl, hownr, HY, hbr⟩ := hrel
    have hyl : ys.length = zs.length := by have := hownr.1; omega
    by_cases hlt : k < zs.length
    · obtain ⟨old, hco⟩ : ∃ old, wr.cell? ⟨w.heap.size, k, none⟩ = some old := ⟨ys[k]'(by omega), by rw [hownr.cellAt k (by omega), List.getElem?_eq_getElem]⟩
      have hfo := hownr.frozenAt k
      have hst := hownr.stored k (.int .i64 1000000000)
      have HYL := Lib.hid hyl
      clear hownr hyl h
      go_wp2
      go_roundw
      case rel => exact ⟨k + 1, ys.set k (.int .i64 1000000000), by omega, by go_num, hst.1, Lib.hid (take_set_inf HYL.out hlt HY.out), hbr.grown hst.2 (by simp)⟩
      case measure => simp [intOf]; omega
    · have hown0 : wr.ownsRow w.heap.size 3 1 (.slice (some ⟨w.heap.size, 0, none⟩) zs.length zs.length) zs.length (iv (least zs C 0)) := by
        have h1 := HY.out
        rw [List.take_of_length_le (by omega), List.take_of_length_le (by simp [iv]; omega)] at h1
        rw [h1] at hownr
        rw [least_zero]
        exact hownr
      clear hownr HY hyl
      go_wp2_with fail
      refine (HCon.out _ (h.ext hbr)).mono ?_
      rintro e w2 ⟨ca, cc, rfl, hcown, hb2⟩
      have hE2 := hbr.trans hb2
      obtain ⟨B, hB, hCr⟩ : ∃ B, w.heap.size < B ∧ w2.ownsRow B 3 1 (.slice ca C.length cc) C.length (iv C) := ⟨_, (hown0.lt w.heap.size rfl).2, hcown⟩
      replace hown0 := own_ext hb2 hown0
      clear hcown hb2 hbr HCon
      have HK := Lib.hid (show k = zs.length by omega)
      go_wp2
      go_loopw [26] (fun s wr => ∃ (m : Nat), m ≤ C.length ∧ s = .int .i64 m ∧ wr.ownsRow w.heap.size 3 1 (.slice (some ⟨w.heap.size, 0, none⟩) zs.length zs.length) zs.length (iv (least zs C m)) ∧ Ext w wr ∧ wr.ownsRow B 3 1 (.slice ca C.length cc) C.length (iv C)) (fun s _ => C.length - (intOf s).toNat)
      case atStart => exact ⟨0, Nat.zero_le _, rfl, hown0, hE2, hCr⟩
      case round =>
        clear hown0 hE2 hCr
        obtain ⟨m, hm, rfl, hown, hE, hCr⟩ := hrel
        by_cases hlt : m < C.length
        rotate_left
        · have HM := Lib.hid (show least zs C m = rtl zs by rw [show m = C.length by omega]; exact HR.out)
          rw [HM.out] at hown
          have HL := Lib.hid (rtl_len zs)
          go_wp2
          go_ret
          exact ⟨_, _, by rw [HL.out]; rfl, by rw [HL.out]; exact hown, hE⟩
        · obtain ⟨x, hx⟩ := HCn.out m hlt
          have hxm := HCm.out m x hx
          have bx := num_bd (hz x hxm.1) hxm.2
          obtain ⟨cb, rfl, hcb, _⟩ := own_head hCr (by omega)
          have hcx : wr.cell? ⟨cb, m, none⟩ = some (.int .i64 x) := by rw [hCr.cellAt m (by omega)]; simp [iv, hx]
          obtain ⟨b, off, rfl, hcell⟩ := (Reads.ext hE h).2 (by omega)
          have hck := hcell x _ (cf_at hxm.1)
          have hcz := fun (y : Nat) (hy : y < zs.length) => hcell y _ (cf_at hy)
          have hLl : (least zs C m).length = zs.length := least_len zs C m
          obtain ⟨old, hco⟩ : ∃ old, wr.cell? ⟨w.heap.size, x, none⟩ = some old := ⟨.int .i64 (cf (least zs C m) x), by rw [hown.cellAt x (by omega)]; exact cf_at (by omega)⟩
          have hfo := hown.frozenAt x
          have hst := hown.stored x (.int .i64 (cf zs x))
          rw [iv_set] at hst
          have HC0 := Lib.hid hx
          have HCr := Lib.hid hCr
          clear hcell hLl hown hx hCr
          obtain ⟨wo, hwo⟩ : ∃ wo, wo = wr := ⟨_, rfl⟩
          subst hwo
          obtain ⟨hxlt, hxne⟩ := hxm
          by_cases hm0 : m = 0
          · have hm1 : ((m : Int) == 0) = true := by simpa using hm0
            have HM := Lib.hid hm0
            have HS : Hid ((least zs C m).set x (cf zs x) = least zs C (m + 1)) := by
              show (least zs C m).set x (cf zs x) = least zs C (m + 1)
              rw [HM.out]
              exact least_one hxlt (by have := HC0.out; rw [HM.out] at this; exact this)
            have hst2 : (wo.setCell ⟨w.heap.size, x, none⟩ (.int .i64 (cf zs x))).ownsRow w.heap.size 3 1 (.slice (some ⟨w.heap.size, 0, none⟩) zs.length zs.length) zs.length (iv (least zs C (m + 1))) := by
              rw [← HS.out]; exact hst.1
            have hst3 := hst.2
            clear hm0 hst HS
            generalize cf zs x = z at *
            clear h hxne hz HC0 hcz
            go_wp2
            go_roundw
            case rel => exact ⟨m + 1, by omega, by go_num, hst2, hE.grown hst3 (by simp), own_keep HCr.out hst3 (by rintro q e; cases e; simp; omega)⟩
            case measure => simp [intOf]; omega
          · have hm1 : ((m : Int) == 0) = false := by simpa using hm0
            have hm2 : 1 ≤ m := by omega
            obtain ⟨i, hi⟩ := HCn.out (m - 1) (by omega)
            have him := HCm.out (m - 1) i hi
            have hix := HCs.out (m - 1) i x hi (by rw [show m - 1 + 1 = m by omega]; exact HC0.out)
            have bi := num_bd (hz i him.1) him.2
            have hci : wo.cell? ⟨cb, m - 1, none⟩ = some (.int .i64 i) := by rw [HCr.out.cellAt (m - 1) (by omega)]; simp [iv, hi]
            have HI := Lib.hid hi
            have HF := Lib.hid (leastS_first (zs := zs) (C := C) (m := m) (i := i) (k := x) hxlt)
            have HL2 : Hid (leastS zs C m i x x = least zs C (m + 1)) := by
              show leastS zs C m i x x = least zs C (m + 1)
              have := leastS_last (zs := zs) (C := C) (m := m - 1) (i := i) (k := x) HI.out (by rw [show m - 1 + 1 = m by omega]; exact HC0.out)
              rwa [show m - 1 + 1 = m by omega, show m - 1 + 2 = m + 1 by omega] at this
            have hst2 : (wo.setCell ⟨w.heap.size, x, none⟩ (.int .i64 (cf zs x))).ownsRow w.heap.size 3 1 (.slice (some ⟨w.heap.size, 0, none⟩) zs.length zs.length) zs.length (iv (leastS zs C m i x (i + 1))) := by
              rw [← HF.out]; exact hst.1
            have hst3 := hst.2
            obtain ⟨him1, him2⟩ := him
            clear hm0 hst HF hi him2 hxne
            have hE0 := hE.grown hst3 (by simp)
            have hC0 := own_keep HCr.out hst3 (by rintro q e; cases e; simp; omega)
            have hcki := hcz i him1
            have hcz2 := Lib.hid hcz
            clear hcz
            have HH := Lib.hid h
            have Hz := Lib.hid hz
            clear h hz
            go_wp2
            go_loopw [9] (fun s wr => ∃ (y : Nat), i < y ∧ y ≤ x ∧ s = .int .i64 y ∧ wr.ownsRow w.heap.size 3 1 (.slice (some ⟨w.heap.size, 0, none⟩) zs.length zs.length) zs.length (iv (leastS zs C m i x y)) ∧ Ext w wr ∧ wr.ownsRow B 3 1 (.slice (some ⟨cb, 0, none⟩) C.length cc) C.length (iv C)) (fun s _ => x - (intOf s).toNat)
            case atStart => exact ⟨i + 1, by omega, by omega, by go_num, hst2, hE0, hC0⟩
            case round =>
              clear hst2 hE0 hC0 hst3 hck hcki hcz2 hci hcx hco hfo HCr hE
              obtain ⟨y, hiy, hyx, rfl, hown, hE, hC2⟩ := hrel
              have HC2 := Lib.hid hC2
              clear hC2
              by_cases hyl : y < x
              · have hcell := (Reads.ext hE HH.out).cells
                have hck := hcell x _ (cf_at hxlt)
                have hci := hcell i _ (cf_at him1)
                have hLl : (leastS zs C m i x y).length = zs.length := leastS_len zs C m i x y
                obtain ⟨old, hco⟩ : ∃ old, wr.cell? ⟨w.heap.size, y, none⟩ = some old := ⟨.int .i64 (cf (leastS zs C m i x y) y), by rw [hown.cellAt y (by omega)]; exact cf_at (by omega)⟩
                have hfo := hown.frozenAt y
                have hst := hown.stored y (.int .i64 (segL zs i x y))
                rw [iv_set, leastS_step hyl hiy] at hst
                have hseg : segL zs i x y = -(-(cf zs i * ((x : Int) - y) + cf zs x * ((y : Int) - i)) / ((x : Int) - i)) := rfl
                rw [hseg] at hst
                clear hcell hLl hown hseg
                generalize cf zs i = zi at *
                generalize cf zs x = zx at *
                have M1 := mul_bd (A := 1000000) (D := 13) bi.1 bi.2 (by omega : -13 ≤ (x : Int) - y) (by omega)
                have M2 := mul_bd (A := 1000000) (D := 13) bx.1 bx.2 (by omega : -13 ≤ (y : Int) - i) (by omega)
                have M3 := seg_bd bi bx (by omega : 0 ≤ (x : Int) - y) (by omega : 0 ≤ (y : Int) - i) (by omega)
                have HST := Lib.hid hst
                clear hst
                go_wp2
                have hyz : y < zs.length := by omega
                have e1 : IntKind.i64.wrap ((x : Int) - y) = (x : Int) - y := wrap_i64 (by omega) (by omega)
                have e2 : IntKind.i64.wrap ((y : Int) - i) = (y : Int) - i := wrap_i64 (by omega) (by omega)
                have e3 : IntKind.i64.wrap ((x : Int) - i) = (x : Int) - i := wrap_i64 (by omega) (by omega)
                have e4 : IntKind.i64.wrap (zi * ((x : Int) - y)) = zi * ((x : Int) - y) := wrap_i64 (by omega) (by omega)
                have e5 : IntKind.i64.wrap (zx * ((y : Int) - i)) = zx * ((y : Int) - i) := wrap_i64 (by omega) (by omega)
                have e6 : IntKind.i64.wrap (zi * ((x : Int) - y) + zx * ((y : Int) - i)) = zi * ((x : Int) - y) + zx * ((y : Int) - i) := wrap_i64 (by omega) (by omega)
                have e7 : IntKind.i64.wrap (-(zi * ((x : Int) - y) + zx * ((y : Int) - i))) = -(zi * ((x : Int) - y) + zx * ((y : Int) - i)) := wrap_i64 (by omega) (by omega)
                have e8 : IntKind.i64.wrap (-(-(zi * ((x : Int) - y) + zx * ((y : Int) - i)) / ((x : Int) - i))) = -(-(zi * ((x : Int) - y) + zx * ((y : Int) - i)) / ((x : Int) - i)) := wrap_i64 (by omega) (by omega)
                have HFL := fun w => still_same (frFloor_any (-(zi * ((x : Int) - y) + zx * ((y : Int) - i))) ((x : Int) - i) (by omega) (by omega) w)
                have HFl := Lib.hid HFL
                clear HFL
                refine wp_region_still_tail 26 (by kernel_rfl) (by kernel_rfl) ?_
                simp only [List.take_succ_cons, List.take_zero, List.drop_succ_cons, List.drop_zero]
                repeat still_step
                refine wpStill_step (fun K hK => ?_)
                go_simp
                refine ⟨_, HFl.out _, hK _ ?_⟩
                clear hK K
                repeat still_step
                refine wpStill_nil ?_
                change wpList _ _ _ _ _ wr.drew
                clear e1 e2 e3 e4 e5 e6 e7 e8 HFl
                go_wp2
                exact ⟨⟨y + 1, by omega, by omega, by go_num, own_ext (Ext.drew (Ext.refl _)) HST.out.1, (hE.grown HST.out.2 (by simp)).drew, own_ext (Ext.drew (Ext.refl _)) (own_keep HC2.out HST.out.2 (by rintro q e; cases e; simp; omega))⟩, by simp [intOf]; omega⟩
              · have hxy := Lib.hid (show y = x by omega)
                rw [hxy.out, HL2.out] at hown
                go_wp2
                go_roundw
                case rel => exact ⟨m + 1, by omega, by go_num, hown, hE, HC2.out⟩
                case measure => simp [intOf]; omega

end Go.Proofs.Ytaloegjcdllgoaa
