/-
  SegmentLength: the fractions, the values in plain words.
-/
import Derived.Test.YtngbdopgdcjdeaaGreatSegL
import Derived.Test.YtngbdopgdcjdeaaGreatVerP
import Derived.Test.YtngbdopgdcjdeaaGreatFloat
import Derived.Test.YtngbdopgdcjdeaaGreatEndI
import Derived.Test.YtngbdopgdcjdeaaGreatCuV
import Derived.Test.YtngbdopgdcjdeaaGreatVerL
import Derived.BigQuiet
namespace Go.Proofs.YtngbdopgdcjdeaaGreat
open Go.RowKit

/-- The difference of two fractions in lowest terms. -/
def difN (a b c d : Int) : Int := lowN (a * d - c * b) (b * d)
def difD (a b c d : Int) : Int := lowD (a * d - c * b) (b * d)
theorem dif_pre {a b c d : Int} (ha : -12000000 ≤ a ∧ a ≤ 12000000) (hb : 1 ≤ b ∧ b ≤ 36) (hc : -12000000 ≤ c ∧ c ≤ 12000000) (hd : 1 ≤ d ∧ d ≤ 36) : (-864000000 ≤ a * d - c * b ∧ a * d - c * b ≤ 864000000) ∧ (0 < b * d ∧ b * d ≤ 1296) := by
  have m1 := mul_bd (A := 12000000) (D := 36) (a := a) (d := d) ha.1 ha.2 (by omega) hd.2
  have m2 := mul_bd (A := 12000000) (D := 36) (a := c) (d := b) hc.1 hc.2 (by omega) hb.2
  have m3 := mul_bd (A := 36) (D := 36) (a := b) (d := d) (by omega) hb.2 (by omega) hd.2
  have m4 := Int.mul_pos (show 0 < b by omega) (show 0 < d by omega)
  omega
theorem dif_bd {a b c d : Int} (ha : -12000000 ≤ a ∧ a ≤ 12000000) (hb : 1 ≤ b ∧ b ≤ 36) (hc : -12000000 ≤ c ∧ c ≤ 12000000) (hd : 1 ≤ d ∧ d ≤ 36) : (-864000000 ≤ difN a b c d ∧ difN a b c d ≤ 864000000) ∧ (1 ≤ difD a b c d ∧ difD a b c d ≤ 1296) := by
  have h := dif_pre ha hb hc hd
  exact low_bd h.1 h.2
theorem okM_frac {n d : Int} (h : d ≠ 0) : okM n d = fracB (lowN n d) (lowD n d) := by simp [okM, h]
set_option maxHeartbeats 1000000 in
theorem frSub_ok (a b c d : Int) (ha : -12000000 ≤ a ∧ a ≤ 12000000) (hb : 1 ≤ b ∧ b ≤ 36) (hc : -12000000 ≤ c ∧ c ≤ 12000000) (hd : 1 ≤ d ∧ d ≤ 36) (w : World) :
    Calls Tryz.prog 59 #[.agg #[.int .i64 a, .int .i64 b], .agg #[.int .i64 c, .int .i64 d]] w fun r w' => r = .returned (.tuple #[.agg #[.int .i64 (difN a b c d), .int .i64 (difD a b c d)], .bool true]) ∧ Ext w w' := by
  have HA := (Has.alloc (Has.alloc (Has.new w #[.int .i64 a, .int .i64 b] 35) (.cells #[.int .i64 c, .int .i64 d] 35)) (.cells #[.int .i64 0, .int .i64 0] 35))
  have Ac0 := Ext.keeps (HA 0 _ rfl)
  have Ac1 := Ext.keeps (HA 1 _ rfl)
  clear HA
  have HB := (Has.alloc (Has.new2 w (.cells #[.int .i64 a, .int .i64 b] 35) #[.int .i64 c, .int .i64 d] 35) (.cells #[.int .i64 0, .int .i64 0] 35))
  have Bc0 := Ext.keeps (HB 0 _ rfl)
  have Bc1 := Ext.keeps (HB 1 _ rfl)
  clear HB
  have HR := (Has.new3 w (.cells #[.int .i64 a, .int .i64 b] 35) (.cells #[.int .i64 c, .int .i64 d] 35) #[.int .i64 0, .int .i64 0] 35)
  have Rc0 := Ext.keeps (HR 0 _ rfl)
  have Rc1 := Ext.keeps (HR 1 _ rfl)
  have Rf0 := Ext.thaws (w := (((w.alloc (.cells #[.int .i64 a, .int .i64 b] 35)).alloc (.cells #[.int .i64 c, .int .i64 d] 35)).alloc (.cells #[.int .i64 0, .int .i64 0] 35))) (HR 0 _ rfl) (frozen_fresh (by simp))
  have Rf1 := Ext.thaws (w := (((w.alloc (.cells #[.int .i64 a, .int .i64 b] 35)).alloc (.cells #[.int .i64 c, .int .i64 d] 35)).alloc (.cells #[.int .i64 0, .int .i64 0] 35))) (HR 1 _ rfl) (frozen_fresh (by simp))
  clear HR
  have hE : Ext (((w.alloc (.cells #[.int .i64 a, .int .i64 b] 35)).alloc (.cells #[.int .i64 c, .int .i64 d] 35)).alloc (.cells #[.int .i64 0, .int .i64 0] 35)) (((w.alloc (.cells #[.int .i64 a, .int .i64 b] 35)).alloc (.cells #[.int .i64 c, .int .i64 d] 35)).alloc (.cells #[.int .i64 0, .int .i64 0] 35)) := Ext.refl _
  have hp := dif_pre ha hb hc hd
  have m1 := mul_bd (A := 12000000) (D := 36) (a := a) (d := d) ha.1 ha.2 (by omega) hd.2
  have m2 := mul_bd (A := 12000000) (D := 36) (a := c) (d := b) hc.1 hc.2 (by omega) hb.2
  have HM := Lib.hid (fun w => frMake_ok (a * d - c * b) (b * d) (by omega) (by omega) (by omega) (by omega) w)
  have HN := Lib.hid (show difN a b c d = lowN (a * d - c * b) (b * d) from rfl)
  have HD := Lib.hid (show difD a b c d = lowD (a * d - c * b) (b * d) from rfl)
  obtain ⟨x, hx⟩ : ∃ x, x = difN a b c d := ⟨_, rfl⟩
  obtain ⟨y, hy⟩ : ∃ y, y = difD a b c d := ⟨_, rfl⟩
  rw [← hx, ← hy]
  rw [← hx] at HN
  rw [← hy] at HD
  rw [← HN.out, ← HD.out] at HM
  clear hx hy HN HD
  go_enter Tryz.func59, Tryz.ntmps59
  go_wp2_with fail
  refine (HM.out _).mono ?_
  rintro e w1 ⟨rfl, hbb⟩
  replace hE := Ext.trans hE hbb
  go_wp2
  refine bodyPost_ret (v := .tuple #[.agg #[.int .i64 x, .int .i64 y], .bool true]) (by simp [results, Tryz.results59, go_sem, hE, Rc0, Rc1]) rfl ⟨rfl, (by repeat (first | exact Ext.refl _ | assumption | apply Ext.alloc | apply Ext.drew | apply Ext.drewN | (refine Ext.trans ?_ (by assumption)) | (refine Ext.setCell ?_ (by (try simp) <;> omega) _)))⟩
set_option maxHeartbeats 1000000 in
theorem sub_ok (a b c d : Int) (ha : -12000000 ≤ a ∧ a ≤ 12000000) (hb : 1 ≤ b ∧ b ≤ 36) (hc : -12000000 ≤ c ∧ c ≤ 12000000) (hd : 1 ≤ d ∧ d ≤ 36) (w : World) :
    Calls Tryz.prog 63 #[.agg #[.int .i64 a, .int .i64 b], .agg #[.int .i64 c, .int .i64 d]] w fun r w' => r = .returned (.agg #[.int .i64 (difN a b c d), .int .i64 (difD a b c d)]) ∧ Ext w w' := by
  have HA := (Has.alloc (Has.alloc (Has.new w #[.int .i64 a, .int .i64 b] 35) (.cells #[.int .i64 c, .int .i64 d] 35)) (.cells #[.int .i64 0, .int .i64 0] 35))
  have Ac0 := Ext.keeps (HA 0 _ rfl)
  have Ac1 := Ext.keeps (HA 1 _ rfl)
  clear HA
  have HB := (Has.alloc (Has.new2 w (.cells #[.int .i64 a, .int .i64 b] 35) #[.int .i64 c, .int .i64 d] 35) (.cells #[.int .i64 0, .int .i64 0] 35))
  have Bc0 := Ext.keeps (HB 0 _ rfl)
  have Bc1 := Ext.keeps (HB 1 _ rfl)
  clear HB
  have HR := (Has.new3 w (.cells #[.int .i64 a, .int .i64 b] 35) (.cells #[.int .i64 c, .int .i64 d] 35) #[.int .i64 0, .int .i64 0] 35)
  have Rc0 := Ext.keeps (HR 0 _ rfl)
  have Rc1 := Ext.keeps (HR 1 _ rfl)
  have Rf0 := Ext.thaws (w := (((w.alloc (.cells #[.int .i64 a, .int .i64 b] 35)).alloc (.cells #[.int .i64 c, .int .i64 d] 35)).alloc (.cells #[.int .i64 0, .int .i64 0] 35))) (HR 0 _ rfl) (frozen_fresh (by simp))
  have Rf1 := Ext.thaws (w := (((w.alloc (.cells #[.int .i64 a, .int .i64 b] 35)).alloc (.cells #[.int .i64 c, .int .i64 d] 35)).alloc (.cells #[.int .i64 0, .int .i64 0] 35))) (HR 1 _ rfl) (frozen_fresh (by simp))
  clear HR
  have hE : Ext (((w.alloc (.cells #[.int .i64 a, .int .i64 b] 35)).alloc (.cells #[.int .i64 c, .int .i64 d] 35)).alloc (.cells #[.int .i64 0, .int .i64 0] 35)) (((w.alloc (.cells #[.int .i64 a, .int .i64 b] 35)).alloc (.cells #[.int .i64 c, .int .i64 d] 35)).alloc (.cells #[.int .i64 0, .int .i64 0] 35)) := Ext.refl _
  have hp := dif_pre ha hb hc hd
  have m1 := mul_bd (A := 12000000) (D := 36) (a := a) (d := d) ha.1 ha.2 (by omega) hd.2
  have m2 := mul_bd (A := 12000000) (D := 36) (a := c) (d := b) hc.1 hc.2 (by omega) hb.2
  have HM := Lib.hid (fun w => lowest_any (a * d - c * b) (b * d) (by omega) (by omega) (by omega) (by omega) (by omega) w)
  have HN := Lib.hid (show difN a b c d = lowN (a * d - c * b) (b * d) from rfl)
  have HD := Lib.hid (show difD a b c d = lowD (a * d - c * b) (b * d) from rfl)
  obtain ⟨x, hx⟩ : ∃ x, x = difN a b c d := ⟨_, rfl⟩
  obtain ⟨y, hy⟩ : ∃ y, y = difD a b c d := ⟨_, rfl⟩
  rw [← hx, ← hy]
  rw [← hx] at HN
  rw [← hy] at HD
  rw [← HN.out, ← HD.out] at HM
  clear hx hy HN HD
  go_enter Tryz.func63, Tryz.ntmps63
  go_wp2_with fail
  refine (HM.out _).mono ?_
  rintro e w1 ⟨rfl, hbb⟩
  replace hE := Ext.trans hE hbb
  go_wp2
  refine bodyPost_ret (v := .agg #[.int .i64 x, .int .i64 y]) (by simp [results, Tryz.results63, go_sem, hE, Rc0, Rc1]) rfl ⟨rfl, (by repeat (first | exact Ext.refl _ | assumption | apply Ext.alloc | apply Ext.drew | apply Ext.drewN | (refine Ext.trans ?_ (by assumption)) | (refine Ext.setCell ?_ (by (try simp) <;> omega) _)))⟩
set_option maxHeartbeats 1000000 in
theorem frDiv_whole (a b c : Int) (ha : -864000000 ≤ a ∧ a ≤ 864000000) (hb : 1 ≤ b ∧ b ≤ 1296) (hc : -6 ≤ c ∧ c ≤ 6) (w : World) :
    Calls Tryz.prog 60 #[.agg #[.int .i64 a, .int .i64 b], .agg #[.int .i64 c, .int .i64 1]] w fun r w' => r = .returned (.tuple #[.agg #[.int .i64 (gI (okM a (b * c)) (lowN a (b * c))), .int .i64 (gI (okM a (b * c)) (lowD a (b * c)))], .bool (okM a (b * c))]) ∧ Ext w w' := by
  have HA := (Has.alloc (Has.alloc (Has.new w #[.int .i64 a, .int .i64 b] 35) (.cells #[.int .i64 c, .int .i64 1] 35)) (.cells #[.int .i64 0, .int .i64 0] 35))
  have Ac0 := Ext.keeps (HA 0 _ rfl)
  have Ac1 := Ext.keeps (HA 1 _ rfl)
  clear HA
  have HB := (Has.alloc (Has.new2 w (.cells #[.int .i64 a, .int .i64 b] 35) #[.int .i64 c, .int .i64 1] 35) (.cells #[.int .i64 0, .int .i64 0] 35))
  have Bc0 := Ext.keeps (HB 0 _ rfl)
  have Bc1 := Ext.keeps (HB 1 _ rfl)
  clear HB
  have HR := (Has.new3 w (.cells #[.int .i64 a, .int .i64 b] 35) (.cells #[.int .i64 c, .int .i64 1] 35) #[.int .i64 0, .int .i64 0] 35)
  have Rc0 := Ext.keeps (HR 0 _ rfl)
  have Rc1 := Ext.keeps (HR 1 _ rfl)
  have Rf0 := Ext.thaws (w := (((w.alloc (.cells #[.int .i64 a, .int .i64 b] 35)).alloc (.cells #[.int .i64 c, .int .i64 1] 35)).alloc (.cells #[.int .i64 0, .int .i64 0] 35))) (HR 0 _ rfl) (frozen_fresh (by simp))
  have Rf1 := Ext.thaws (w := (((w.alloc (.cells #[.int .i64 a, .int .i64 b] 35)).alloc (.cells #[.int .i64 c, .int .i64 1] 35)).alloc (.cells #[.int .i64 0, .int .i64 0] 35))) (HR 1 _ rfl) (frozen_fresh (by simp))
  clear HR
  have hE : Ext (((w.alloc (.cells #[.int .i64 a, .int .i64 b] 35)).alloc (.cells #[.int .i64 c, .int .i64 1] 35)).alloc (.cells #[.int .i64 0, .int .i64 0] 35)) (((w.alloc (.cells #[.int .i64 a, .int .i64 b] 35)).alloc (.cells #[.int .i64 c, .int .i64 1] 35)).alloc (.cells #[.int .i64 0, .int .i64 0] 35)) := Ext.refl _
  have m1 := mul_bd (A := 1296) (D := 6) (a := b) (d := c) (by omega) hb.2 hc.1 hc.2
  have HM := Lib.hid (fun w => frMake_any a (b * c) (by omega) (by omega) (by omega) (by omega) w)
  generalize gI (okM a (b * c)) (lowN a (b * c)) = x at *
  generalize gI (okM a (b * c)) (lowD a (b * c)) = y at *
  generalize okM a (b * c) = ok at *
  go_enter Tryz.func60, Tryz.ntmps60
  go_wp2_with fail
  refine (HM.out _).mono ?_
  rintro e w1 ⟨rfl, hbb⟩
  replace hE := Ext.trans hE hbb
  go_wp2
  refine bodyPost_ret (v := .tuple #[.agg #[.int .i64 x, .int .i64 y], .bool ok]) (by simp [results, Tryz.results60, go_sem, hE, Rc0, Rc1]) rfl ⟨rfl, (by repeat (first | exact Ext.refl _ | assumption | apply Ext.alloc | apply Ext.drew | apply Ext.drewN | (refine Ext.trans ?_ (by assumption)) | (refine Ext.setCell ?_ (by (try simp) <;> omega) _)))⟩
set_option maxHeartbeats 1000000 in
theorem div_whole (a b c : Int) (ha : -864000000 ≤ a ∧ a ≤ 864000000) (hb : 1 ≤ b ∧ b ≤ 1296) (hc : -6 ≤ c ∧ c ≤ 6) (hne : c ≠ 0) (w : World) :
    Calls Tryz.prog 64 #[.agg #[.int .i64 a, .int .i64 b], .agg #[.int .i64 c, .int .i64 1]] w fun r w' => r = .returned (.agg #[.int .i64 (lowN a (b * c)), .int .i64 (lowD a (b * c))]) ∧ Ext w w' := by
  have HA := (Has.alloc (Has.alloc (Has.new w #[.int .i64 a, .int .i64 b] 35) (.cells #[.int .i64 c, .int .i64 1] 35)) (.cells #[.int .i64 0, .int .i64 0] 35))
  have Ac0 := Ext.keeps (HA 0 _ rfl)
  have Ac1 := Ext.keeps (HA 1 _ rfl)
  clear HA
  have HB := (Has.alloc (Has.new2 w (.cells #[.int .i64 a, .int .i64 b] 35) #[.int .i64 c, .int .i64 1] 35) (.cells #[.int .i64 0, .int .i64 0] 35))
  have Bc0 := Ext.keeps (HB 0 _ rfl)
  have Bc1 := Ext.keeps (HB 1 _ rfl)
  clear HB
  have HR := (Has.new3 w (.cells #[.int .i64 a, .int .i64 b] 35) (.cells #[.int .i64 c, .int .i64 1] 35) #[.int .i64 0, .int .i64 0] 35)
  have Rc0 := Ext.keeps (HR 0 _ rfl)
  have Rc1 := Ext.keeps (HR 1 _ rfl)
  have Rf0 := Ext.thaws (w := (((w.alloc (.cells #[.int .i64 a, .int .i64 b] 35)).alloc (.cells #[.int .i64 c, .int .i64 1] 35)).alloc (.cells #[.int .i64 0, .int .i64 0] 35))) (HR 0 _ rfl) (frozen_fresh (by simp))
  have Rf1 := Ext.thaws (w := (((w.alloc (.cells #[.int .i64 a, .int .i64 b] 35)).alloc (.cells #[.int .i64 c, .int .i64 1] 35)).alloc (.cells #[.int .i64 0, .int .i64 0] 35))) (HR 1 _ rfl) (frozen_fresh (by simp))
  clear HR
  have hE : Ext (((w.alloc (.cells #[.int .i64 a, .int .i64 b] 35)).alloc (.cells #[.int .i64 c, .int .i64 1] 35)).alloc (.cells #[.int .i64 0, .int .i64 0] 35)) (((w.alloc (.cells #[.int .i64 a, .int .i64 b] 35)).alloc (.cells #[.int .i64 c, .int .i64 1] 35)).alloc (.cells #[.int .i64 0, .int .i64 0] 35)) := Ext.refl _
  have m1 := mul_bd (A := 1296) (D := 6) (a := b) (d := c) (by omega) hb.2 hc.1 hc.2
  have hz : b * c ≠ 0 := Int.mul_ne_zero (by omega) hne
  have HM := Lib.hid (fun w => lowest_any a (b * c) (by omega) (by omega) (by omega) (by omega) hz w)
  clear hz
  generalize lowN a (b * c) = x at *
  generalize lowD a (b * c) = y at *
  go_enter Tryz.func64, Tryz.ntmps64
  go_wp2_with fail
  refine (HM.out _).mono ?_
  rintro e w1 ⟨rfl, hbb⟩
  replace hE := Ext.trans hE hbb
  go_wp2
  refine bodyPost_ret (v := .agg #[.int .i64 x, .int .i64 y]) (by simp [results, Tryz.results64, go_sem, hE, Rc0, Rc1]) rfl ⟨rfl, (by repeat (first | exact Ext.refl _ | assumption | apply Ext.alloc | apply Ext.drew | apply Ext.drewN | (refine Ext.trans ?_ (by assumption)) | (refine Ext.setCell ?_ (by (try simp) <;> omega) _)))⟩
/-- The two cells of an inner side; the step that is gone along; the difference of the vertices. -/
def celA (zs : List (Int × Int × Int)) (i k : Int) : List Int := (cellsL zs).getD ((sidesAt zs [i, k]).getD 0 0).toNat []
def celZ (zs : List (Int × Int × Int)) (i k : Int) : List Int := (cellsL zs).getD ((sidesAt zs [i, k]).getD 1 0).toNat []
def twoB (zs : List (Int × Int × Int)) (i k : Int) : Bool := decide ((sidesAt zs [i, k]).length = 2)
def slE (zs : List (Int × Int × Int)) (i k : Int) : Int := if eX zs (celA zs i k) i.toNat k.toNat ≠ 0 then eX zs (celA zs i k) i.toNat k.toNat else eY zs (celA zs i k) i.toNat k.toNat
def slN (zs : List (Int × Int × Int)) (i k : Int) : Int := if eX zs (celA zs i k) i.toNat k.toNat ≠ 0 then difN (lowN (verX zs (celZ zs i k)) (verD zs (celZ zs i k))) (lowD (verX zs (celZ zs i k)) (verD zs (celZ zs i k))) (lowN (verX zs (celA zs i k)) (verD zs (celA zs i k))) (lowD (verX zs (celA zs i k)) (verD zs (celA zs i k))) else difN (lowN (verY zs (celZ zs i k)) (verD zs (celZ zs i k))) (lowD (verY zs (celZ zs i k)) (verD zs (celZ zs i k))) (lowN (verY zs (celA zs i k)) (verD zs (celA zs i k))) (lowD (verY zs (celA zs i k)) (verD zs (celA zs i k)))
def slD (zs : List (Int × Int × Int)) (i k : Int) : Int := if eX zs (celA zs i k) i.toNat k.toNat ≠ 0 then difD (lowN (verX zs (celZ zs i k)) (verD zs (celZ zs i k))) (lowD (verX zs (celZ zs i k)) (verD zs (celZ zs i k))) (lowN (verX zs (celA zs i k)) (verD zs (celA zs i k))) (lowD (verX zs (celA zs i k)) (verD zs (celA zs i k))) else difD (lowN (verY zs (celZ zs i k)) (verD zs (celZ zs i k))) (lowD (verY zs (celZ zs i k)) (verD zs (celZ zs i k))) (lowN (verY zs (celA zs i k)) (verD zs (celA zs i k))) (lowD (verY zs (celA zs i k)) (verD zs (celA zs i k)))
def slOk (zs : List (Int × Int × Int)) (i k : Int) : Bool := twoB zs i k && okM (slN zs i k) (slD zs i k * slE zs i k)
/-- What is known of an inner side. -/
theorem two_form {zs : List (Int × Int × Int)} (hZ : PZ zs) {i k : Int} (h : (sidesAt zs [i, k]).length = 2) : ∃ (x y : Nat) (p q : Nat), i = (x : Int) ∧ k = (y : Int) ∧ x < y ∧ y < zs.length ∧ pI zs x ≠ pI zs y ∧ sidesAt zs [i, k] = [(p : Int), (q : Int)] ∧ p < (cellsL zs).length ∧ q < (cellsL zs).length ∧ [(x : Int), (y : Int)] ∈ pairsL zs ((cellsL zs).getD p []) := by
  match hs : sidesAt zs [i, k], h with
  | [p, q], _ =>
    obtain ⟨p', hp1, hp2, hp3⟩ := atE_form (show p ∈ atE zs [i, k] (cellsL zs).length from by unfold sidesAt at hs; rw [hs]; simp)
    obtain ⟨q', hq1, hq2, _⟩ := atE_form (show q ∈ atE zs [i, k] (cellsL zs).length from by unfold sidesAt at hs; rw [hs]; simp)
    obtain ⟨x, y, hx, hy, e, _⟩ := side_way hZ.2.2 (cell_at hp2) hp3
    simp only [List.cons.injEq, and_true] at e
    obtain ⟨rfl, rfl⟩ := e
    refine ⟨x, y, p', q', rfl, rfl, hx, hy, fun e => ?_, by rw [hp1, hq1], hp2, hq2, hp3⟩
    have := hZ.2.2.inj (by omega) hy e
    omega
theorem sgE_zero {t : Bool} {v : Int} : sgE t v = 0 ↔ v = 0 := by cases t <;> simp [sgE]
theorem step_ne {zs : List (Int × Int × Int)} {x : List Int} {i j : Nat} (h : pI zs i ≠ pI zs j) (h0 : eX zs x i j = 0) : eY zs x i j ≠ 0 := by
  intro h1
  have h2 := sgE_zero.1 h0
  have h3 := sgE_zero.1 h1
  have e1 := dX_mul zs i j
  have e2 := dY_mul zs i j
  rw [h2, Int.zero_mul] at e1
  rw [h3, Int.zero_mul] at e2
  exact h (Prod.ext (by omega) (by omega))
end Go.Proofs.YtngbdopgdcjdeaaGreat
