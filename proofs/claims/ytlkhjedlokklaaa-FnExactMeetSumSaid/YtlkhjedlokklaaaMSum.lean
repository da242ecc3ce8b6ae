/-
  The sum over the pairs of rays that meet.
-/
import Derived.Test.YtlkhjedlokklaaaMeet
namespace Go.Proofs.Ytlkhjedlokklaaa
open Go.RowKit

def mulI (r s : Int × Int × Int) : Int := r.2.2 * s.2.2 * absI (detI r.1 r.2.1 s.1 s.2.1)
def psum (xs ys : List (Int × Int × Int)) (ps : List (Nat × Nat)) : Nat → Int
  | 0 => 0
  | k + 1 => psum xs ys ps k + mulI (tat xs (ps.getD k (0, 0)).1) (tat ys (ps.getD k (0, 0)).2)
theorem mul3_bd {a b d : Int} (ha : 1 ≤ a ∧ a ≤ 20) (hb : 1 ≤ b ∧ b ≤ 20) (hd : 0 ≤ d ∧ d ≤ 800) : 0 ≤ a * b * d ∧ a * b * d ≤ 320000 := by
  have h1 : 0 ≤ a * b := Int.mul_nonneg (by omega) (by omega)
  have h2 : a * b ≤ 20 * 20 := Int.mul_le_mul ha.2 hb.2 (by omega) (by omega)
  refine ⟨Int.mul_nonneg h1 hd.1, ?_⟩
  have := Int.mul_le_mul h2 hd.2 hd.1 (by omega)
  omega
theorem det_bd {a b c d : Int} (ha : -20 ≤ a ∧ a ≤ 20) (hb : -20 ≤ b ∧ b ≤ 20) (hc : -20 ≤ c ∧ c ≤ 20) (hd : -20 ≤ d ∧ d ≤ 20) : 0 ≤ absI (detI a b c d) ∧ absI (detI a b c d) ≤ 800 := by
  have := detI_bd (A := 20) (C := 20) ha.1 ha.2 hb.1 hb.2 hc.1 hc.2 hd.1 hd.2
  exact ⟨absI_nonneg _, absI_le (by omega) (by omega)⟩
/-- The pairs are places of the two stars. -/
def Places (ps : List (Nat × Nat)) (n m : Nat) : Prop := ps.length ≤ 100 ∧ ∀ r ∈ ps, r.1 < n ∧ r.2 < m
theorem mul_bdP {xs ys : List (Int × Int × Int)} (hx : Small xs) (hy : Small ys) {i j : Nat} (hi : i < xs.length) (hj : j < ys.length) : 0 ≤ mulI (tat xs i) (tat ys j) ∧ mulI (tat xs i) (tat ys j) ≤ 320000 := by
  have h1 := hx.2 i hi
  have h2 := hy.2 j hj
  exact mul3_bd h1.2.2 h2.2.2 (det_bd h1.1 h1.2.1 h2.1 h2.2.1)
theorem getD_mem {ps : List (Nat × Nat)} {k : Nat} (h : k < ps.length) : ps.getD k (0, 0) ∈ ps := by
  simp [List.getD, h]
theorem psum_bd {xs ys : List (Int × Int × Int)} {ps : List (Nat × Nat)} (hx : Small xs) (hy : Small ys) (hp : Places ps xs.length ys.length) : ∀ k : Nat, k ≤ ps.length → 0 ≤ psum xs ys ps k ∧ psum xs ys ps k ≤ 320000 * (k : Int)
  | 0, _ => by simp [psum]
  | k + 1, hk => by
    have ih := psum_bd hx hy hp k (by omega)
    have hm := hp.2 _ (getD_mem (ps := ps) (k := k) (by omega))
    have hb := mul_bdP hx hy hm.1 hm.2
    simp only [psum]
    omega
theorem allP_places {xs ys : List (Int × Int × Int)} (hx : Small xs) (hy : Small ys) (p q : Int) : Places (allP xs ys p q xs.length) xs.length ys.length := by
  refine ⟨Nat.le_trans (allP_le _ _ _ _ _) (Nat.mul_le_mul hx.1 hy.1), fun r hr => allP_mem xs ys p q _ r hr⟩

set_option maxHeartbeats 4000000 in
theorem meetSum_any (a b : Option Addr) (n m c d : Nat) (xs ys : List (Int × Int × Int)) (a1 : Option Addr) (c1 B : Nat) (ps : List (Nat × Nat)) (hP : Places ps xs.length ys.length) (hsx : Small xs) (hsy : Small ys) (w1 : World) (h : Reads w1 a 3 n (tv xs)) (h' : Reads w1 b 3 m (tv ys)) (hown : OwnP w1 B (.slice a1 ps.length c1) ps) :
    Calls Try.prog 77 #[.slice a n c, .slice b m d, .slice a1 ps.length c1] w1 fun r w' => r = .returned (.int .i64 (psum xs ys ps ps.length)) ∧ Ext w1 w' := by
  have hl : xs.length = n := by have := h.1; rw [tv_len] at this; omega
  have hl' : ys.length = m := by have := h'.1; rw [tv_len] at this; omega
  have hn : n ≤ 10 := by have := hsx.1; omega
  have hm : m ≤ 10 := by have := hsy.1; omega
  have hb1 : Ext w1 w1 := Ext.refl _
  go_enter Try.func77, Try.ntmps77
  go_wp2
  go_loopw [7, 12] (fun s t wr => ∃ k : Nat, k ≤ ps.length ∧ t = .int .i64 k ∧ s = .int .i64 (psum xs ys ps k) ∧ Ext w1 wr) (fun _ t _ => ps.length - (intOf t).toNat)
  case atStart => exact ⟨0, Nat.zero_le _, rfl, rfl, Ext.refl _⟩
  case round =>
    obtain ⟨k, hk, rfl, rfl, hbr⟩ := hrel
    by_cases hlt : k < ps.length
    · have hownr := OwnP.ext hbr hown
      obtain ⟨gs, hgl, hrow, hcells⟩ := hownr
      obtain ⟨g1, rfl, _⟩ := own_head hrow (by omega)
      have hmem := hP.2 _ (getD_mem (ps := ps) (k := k) hlt)
      have hbd := psum_bd hsx hsy hP k (by omega)
      have HX := Lib.hid (show psum xs ys ps (k + 1) = psum xs ys ps k + mulI (tat xs (ps.getD k (0, 0)).1) (tat ys (ps.getD k (0, 0)).2) from rfl)
      have hps : ps[k]? = some (ps.getD k (0, 0)) := by simp [List.getD, hlt]
      obtain ⟨g, hg⟩ : ∃ g, gs[k]? = some g := ⟨_, List.getElem?_eq_getElem (by omega)⟩
      have hcc := hcells k g _ hg hps
      have hr0 := hrow.cellAt k (by omega)
      rw [show (pv gs)[k]? = some (.slice (some ⟨g, 0, none⟩) 2 2) by simp [pv, hg]] at hr0
      have hmb := mul_bdP hsx hsy hmem.1 hmem.2
      clear hgl hrow hcells hg hps hown
      generalize (ps.getD k (0, 0)).1 = i at *
      generalize (ps.getD k (0, 0)).2 = j at *
      have hbx := hsx.2 i hmem.1
      have hby := hsy.2 j hmem.2
      obtain ⟨bx, ox, rfl, hx0, hx1, hx2⟩ := (Reads.ext (hb1.trans hbr) h).tri (k := i) (by omega)
      obtain ⟨by_, oy, rfl, hy0, hy1, hy2⟩ := (Reads.ext (hb1.trans hbr) h').tri (k := j) (by omega)
      unfold mulI at HX hmb
      generalize (tat xs i).1 = x at *
      generalize (tat xs i).2.1 = y at *
      generalize (tat xs i).2.2 = z at *
      generalize (tat ys j).1 = u at *
      generalize (tat ys j).2.1 = v at *
      generalize (tat ys j).2.2 = e0 at *
      generalize psum xs ys ps k = sm at *
      have Pc0 := Ext.keeps hcc.1
      have Pc1 := Ext.keeps hcc.2
      have Xc0 := Ext.keeps hx0
      have Xc1 := Ext.keeps hx1
      have Xc2 := Ext.keeps hx2
      have Yc0 := Ext.keeps hy0
      have Yc1 := Ext.keeps hy1
      have Yc2 := Ext.keeps hy2
      have hi := hmem.1
      have hj := hmem.2
      have hlen := hP.1
      rw [hl] at hi
      rw [hl'] at hj
      clear h h' hsx hsy hP hmem hcc hx0 hx1 hx2 hy0 hy1 hy2
      have hE : Ext wr wr := Ext.refl _
      go_wp2
      have qP0 := fun s : Past wr => Pc0 s.w s.ext
      have qP1 := fun s : Past wr => Pc1 s.w s.ext
      have qX0 := fun s : Past wr => Xc0 s.w s.ext
      have qX1 := fun s : Past wr => Xc1 s.w s.ext
      have qX2 := fun s : Past wr => Xc2 s.w s.ext
      have qY0 := fun s : Past wr => Yc0 s.w s.ext
      have qY1 := fun s : Past wr => Yc1 s.w s.ext
      have qY2 := fun s : Past wr => Yc2 s.w s.ext
      refine wp_region_past wr (by first | exact hE | exact Ext.alloc hE _ | exact Ext.drew hE | exact Ext.drewN hE _) (by kernel_rfl) (by kernel_rfl) ?_
      repeat (go_big_quiet_step (((go_at_call 103; exact past_ext (multiplicity_any x y z u v e0 (by omega) (by omega) (by omega) (by omega) (by omega) (by omega) (by omega) (by omega) (by omega) (by omega) (by omega) (by omega) _)))))
      refine wpQuiet_nil ?_
      intro _ hw'
      obtain ⟨⟨w2, hE⟩, hw''⟩ := hw'
      subst hw''
      clear qP0 qP1 qX0 qX1 qX2 qY0 qY1 qY2
      go_wp2
      go_roundw
      case rel => exact ⟨k + 1, by omega, by go_num, by rw [HX.out], hbr.trans hE⟩
      case measure => simp [intOf]; omega
    · obtain rfl : k = ps.length := by omega
      go_wp2
      go_ret
      exact ⟨rfl, hb1.trans hbr⟩

set_option maxHeartbeats 4000000 in
theorem mtSum_any (a b : Option Addr) (n m c d : Nat) (xs ys : List (Int × Int × Int)) (p q : Int) (hsx : Small xs) (hsy : Small ys) (hp : -1000 ≤ p ∧ p ≤ 1000) (hq : -1000 ≤ q ∧ q ≤ 1000) (w : World) (h : Reads w a 3 n (tv xs)) (h' : Reads w b 3 m (tv ys)) :
    Calls Try.prog 75 #[.slice a n c, .slice b m d, .int .i64 p, .int .i64 q] w fun r w' => r = .returned (.int .i64 (psum xs ys (allP xs ys p q n) (allP xs ys p q n).length)) ∧ Ext w w' := by
  have hl : xs.length = n := by have := h.1; rw [tv_len] at this; omega
  have hl' : ys.length = m := by have := h'.1; rw [tv_len] at this; omega
  have hn : n ≤ 10 := by have := hsx.1; omega
  have hm : m ≤ 10 := by have := hsy.1; omega
  have hP := allP_places hsx hsy p q
  rw [hl] at hP
  have HC := Lib.hid (fun w (h : Reads w a 3 n (tv xs)) (h' : Reads w b 3 m (tv ys)) => mtPairs_any a b n m c d xs ys p q hsx hsy hp hq w h h')
  generalize allP xs ys p q n = ps at *
  go_enter Try.func75, Try.ntmps75
  go_wp2_with fail
  refine (HC.out _ h h').mono ?_
  rintro e w1 ⟨a1, c1, rfl, hown, hb1⟩
  clear HC
  rw [← hl] at hP
  go_wp2
  go_loopw [9, 18] (fun s t wr => ∃ k : Nat, k ≤ ps.length ∧ t = .int .i64 k ∧ s = .int .i64 (psum xs ys ps k) ∧ Ext w1 wr) (fun _ t _ => ps.length - (intOf t).toNat)
  case atStart => exact ⟨0, Nat.zero_le _, rfl, rfl, Ext.refl _⟩
  case round =>
    obtain ⟨k, hk, rfl, rfl, hbr⟩ := hrel
    by_cases hlt : k < ps.length
    · have hownr := OwnP.ext hbr hown
      obtain ⟨gs, hgl, hrow, hcells⟩ := hownr
      obtain ⟨g1, rfl, _⟩ := own_head hrow (by omega)
      have hmem := hP.2 _ (getD_mem (ps := ps) (k := k) hlt)
      have hbd := psum_bd hsx hsy hP k (by omega)
      have HX := Lib.hid (show psum xs ys ps (k + 1) = psum xs ys ps k + mulI (tat xs (ps.getD k (0, 0)).1) (tat ys (ps.getD k (0, 0)).2) from rfl)
      have hps : ps[k]? = some (ps.getD k (0, 0)) := by simp [List.getD, hlt]
      obtain ⟨g, hg⟩ : ∃ g, gs[k]? = some g := ⟨_, List.getElem?_eq_getElem (by omega)⟩
      have hcc := hcells k g _ hg hps
      have hr0 := hrow.cellAt k (by omega)
      rw [show (pv gs)[k]? = some (.slice (some ⟨g, 0, none⟩) 2 2) by simp [pv, hg]] at hr0
      have hmb := mul_bdP hsx hsy hmem.1 hmem.2
      clear hgl hrow hcells hg hps hown
      generalize (ps.getD k (0, 0)).1 = i at *
      generalize (ps.getD k (0, 0)).2 = j at *
      have hbx := hsx.2 i hmem.1
      have hby := hsy.2 j hmem.2
      obtain ⟨bx, ox, rfl, hx0, hx1, hx2⟩ := (Reads.ext (hb1.trans hbr) h).tri (k := i) (by omega)
      obtain ⟨by_, oy, rfl, hy0, hy1, hy2⟩ := (Reads.ext (hb1.trans hbr) h').tri (k := j) (by omega)
      unfold mulI at HX hmb
      generalize (tat xs i).1 = x at *
      generalize (tat xs i).2.1 = y at *
      generalize (tat xs i).2.2 = z at *
      generalize (tat ys j).1 = u at *
      generalize (tat ys j).2.1 = v at *
      generalize (tat ys j).2.2 = e0 at *
      generalize psum xs ys ps k = sm at *
      have Pc0 := Ext.keeps hcc.1
      have Pc1 := Ext.keeps hcc.2
      have Xc0 := Ext.keeps hx0
      have Xc1 := Ext.keeps hx1
      have Xc2 := Ext.keeps hx2
      have Yc0 := Ext.keeps hy0
      have Yc1 := Ext.keeps hy1
      have Yc2 := Ext.keeps hy2
      have hi := hmem.1
      have hj := hmem.2
      have hlen := hP.1
      rw [hl] at hi
      rw [hl'] at hj
      clear h h' hsx hsy hP hmem hcc hx0 hx1 hx2 hy0 hy1 hy2
      have hE : Ext wr wr := Ext.refl _
      go_wp2
      have qP0 := fun s : Past wr => Pc0 s.w s.ext
      have qP1 := fun s : Past wr => Pc1 s.w s.ext
      have qX0 := fun s : Past wr => Xc0 s.w s.ext
      have qX1 := fun s : Past wr => Xc1 s.w s.ext
      have qX2 := fun s : Past wr => Xc2 s.w s.ext
      have qY0 := fun s : Past wr => Yc0 s.w s.ext
      have qY1 := fun s : Past wr => Yc1 s.w s.ext
      have qY2 := fun s : Past wr => Yc2 s.w s.ext
      refine wp_region_past wr (by first | exact hE | exact Ext.alloc hE _ | exact Ext.drew hE | exact Ext.drewN hE _) (by kernel_rfl) (by kernel_rfl) ?_
      repeat (go_big_quiet_step (((go_at_call 99; exact past_ext (mtTwo_any x y z u v e0 (by omega) (by omega) (by omega) (by omega) (by omega) (by omega) (by omega) (by omega) (by omega) (by omega) (by omega) (by omega) _)))))
      refine wpQuiet_nil ?_
      intro _ hw'
      obtain ⟨⟨w2, hE⟩, hw''⟩ := hw'
      subst hw''
      clear qP0 qP1 qX0 qX1 qX2 qY0 qY1 qY2
      go_wp2
      go_roundw
      case rel => exact ⟨k + 1, by omega, by go_num, by rw [HX.out], hbr.trans hE⟩
      case measure => simp [intOf]; omega
    · obtain rfl : k = ps.length := by omega
      go_wp2
      go_ret
      exact ⟨rfl, hb1.trans hbr⟩

end Go.Proofs.Ytlkhjedlokklaaa
