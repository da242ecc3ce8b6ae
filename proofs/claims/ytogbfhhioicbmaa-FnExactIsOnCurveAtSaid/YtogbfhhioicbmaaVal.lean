/-
  ValueByRoots: both sides' walks.
-/
import Derived.Test.YtogbfhhioicbmaaRoots
namespace Go.Proofs.Ytogbfhhioicbmaa
open Go.RowKit

theorem low_whole {q d : Int} (hd : 0 < d) : lowN (q * d) d = q ∧ lowD (q * d) d = 1 := by
  have h1 := low_mul (n := q * d) (d := d)
  have h2 := low_gcd (n := q * d) hd
  have hG := lowG_ne (n := q * d) (d := d) (by omega)
  have e : lowN (q * d) d = q * lowD (q * d) d := by
    have h3 : lowN (q * d) d * lowG (q * d) d = (q * lowD (q * d) d) * lowG (q * d) d := by rw [h1.1, Int.mul_assoc, h1.2]
    exact Int.eq_of_mul_eq_mul_right hG h3
  have h4 : gcdI (q * lowD (q * d) d) (lowD (q * d) d) = 1 := by rw [← e]; exact h2.1
  have h5 : lowD (q * d) d = 1 := by
    have : (lowD (q * d) d).natAbs = 1 := by
      unfold gcdI at h4
      rw [Int.gcd_mul_left_left] at h4
      omega
    omega
  exact ⟨by rw [e, h5, Int.mul_one], h5⟩
theorem low_wholes {q n d : Int} (hd : 0 < d) (h : n = q * d) : lowN n d = q ∧ lowD n d = 1 := by subst h; exact low_whole hd
/-- What a root adds to the value at x. -/
def partI (x : Int) (r : Int × Int × Int) : Int := if x * r.2.1 < r.1 then r.2.2 * x else r.2.2 * r.1 / r.2.1
def partsI (x : Int) (l : List (Int × Int × Int)) : Nat → Int
  | 0 => 0
  | k + 1 => partsI x l k + partI x (tat l k)
/-- What is known of a root. -/
structure IsRt (r : Int × Int × Int) : Prop where
  ok : fracB r.1 r.2.1 = true
  num : -2000000 ≤ r.1 ∧ r.1 ≤ 2000000
  den : 1 ≤ r.2.1 ∧ r.2.1 ≤ 13
  times : 1 ≤ r.2.2 ∧ r.2.2 ≤ 13
  whole : ∃ q : Int, r.2.2 * r.1 = q * r.2.1 ∧ -2000000 ≤ q ∧ q ≤ 2000000
theorem isRt_of {a b : Int} (d : Int) (hd : 1 ≤ d ∧ d ≤ 13) (ha : -2000000 ≤ a - b ∧ a - b ≤ 2000000) : IsRt (lowN (a - b) d, lowD (a - b) d, d) := by
  have h1 := low_mul (n := a - b) (d := d)
  have h2 := low_gcd (n := a - b) (d := d) (by omega)
  have h3 : -2000000 ≤ lowN (a - b) d ∧ lowN (a - b) d ≤ 2000000 := tdiv_bd ha
  have h4 : -13 ≤ lowD (a - b) d ∧ lowD (a - b) d ≤ 13 := tdiv_bd (by omega)
  refine ⟨?_, h3, ⟨h2.2, h4.2⟩, hd, a - b, ?_, ha⟩
  · exact fracB_true.2 ⟨by show -1000000000 ≤ lowN (a - b) d ∧ lowN (a - b) d ≤ 1000000000; omega, by show 1 ≤ lowD (a - b) d ∧ lowD (a - b) d ≤ 1000000000; omega, h2.1⟩
  · show d * lowN (a - b) d = (a - b) * lowD (a - b) d
    generalize lowN (a - b) d = N at *
    generalize lowD (a - b) d = D at *
    generalize lowG (a - b) d = G at *
    rw [← h1.1, ← h1.2]
    grind
theorem rt_isRt {zs : List Int} (hp : IsPol zs) (h13 : zs.length ≤ 13) {k : Nat} (hk : k < (rts zs).length) : IsRt (tat (rts zs) k) := by
  have hI := isCorn zs
  have e : tat (rts zs) k = rootAt zs (cornR zs zs.length).reverse ((cornR zs zs.length).reverse.length - 1 - k) := by
    have hk2 : k < (cornR zs zs.length).reverse.length - 1 := by rw [rts, rtsTo_len] at hk; exact hk
    simp only [tat, rts, rtsTo]
    rw [List.getD_eq_getElem?_getD, List.getElem?_map, List.getElem?_range hk2]
    rfl
  rw [rts, rtsTo_len] at hk
  generalize (cornR zs zs.length).reverse = C at *
  obtain ⟨m, hm⟩ : ∃ m, C.length - 1 - k = m + 1 := ⟨C.length - 2 - k, by omega⟩
  obtain ⟨x, hx⟩ := hI.get m (by omega)
  obtain ⟨y, hy⟩ := hI.get (m + 1) (by omega)
  have hxy := hI.lt m x y hx hy
  have hxm := hI.mem m x hx
  have hym := hI.mem (m + 1) y hy
  have bx := num_bd (hp.num x hxm.1) hxm.2
  have by' := num_bd (hp.num y hym.1) hym.2
  rw [e, hm, rootAt_eq hx hy]
  exact isRt_of _ (by omega) (by omega)
theorem part_bd {x : Int} {r : Int × Int × Int} (h : IsRt r) (hx : -1000000 ≤ x ∧ x ≤ 1000000) : -13000000 ≤ partI x r ∧ partI x r ≤ 13000000 := by
  unfold partI
  obtain ⟨q, hq, h1, h2⟩ := h.whole
  split
  · have := h.times
    have := mul_bd (A := 13) (D := 1000000) (a := r.2.2) (d := x) (by omega) (by omega) hx.1 hx.2
    omega
  · rw [hq, Int.mul_ediv_cancel _ (by have := h.den; omega)]; omega
theorem parts_bd {x : Int} {l : List (Int × Int × Int)} (h : ∀ k, k < l.length → IsRt (tat l k)) (hx : -1000000 ≤ x ∧ x ≤ 1000000) : ∀ k, k ≤ l.length → -13000000 * (k : Int) ≤ partsI x l k ∧ partsI x l k ≤ 13000000 * (k : Int)
  | 0, _ => by simp [partsI]
  | k + 1, hk => by
    have := parts_bd h hx k (by omega)
    have := part_bd (h k (by omega)) hx
    simp only [partsI]
    omega

set_option maxHeartbeats 1000000 in
theorem MulFracs_any (a b c d p q : Int) (ha : fracB a b = true) (hc : fracB c d = true) (hN : lowN (a * c) (b * d) = p) (hD : lowD (a * c) (b * d) = q) (hok : fracB p q = true) (w : World) :
    Calls Try.prog 106 #[.agg #[.int .i64 a, .int .i64 b], .agg #[.int .i64 c, .int .i64 d]] w fun r w' => r = .returned (.tuple #[.agg #[.int .i64 p, .int .i64 q], .bool true]) ∧ Ext w w' := by
  have HA := (Has.alloc (Has.alloc (Has.new w #[.int .i64 a, .int .i64 b] 39) (.cells #[.int .i64 c, .int .i64 d] 39)) (.cells #[.int .i64 0, .int .i64 0] 39))
  have Ac0 := Ext.keeps (HA 0 _ rfl)
  have Ac1 := Ext.keeps (HA 1 _ rfl)
  clear HA
  have HB := (Has.alloc (Has.new2 w (.cells #[.int .i64 a, .int .i64 b] 39) #[.int .i64 c, .int .i64 d] 39) (.cells #[.int .i64 0, .int .i64 0] 39))
  have Bc0 := Ext.keeps (HB 0 _ rfl)
  have Bc1 := Ext.keeps (HB 1 _ rfl)
  clear HB
  have HR := (Has.new3 w (.cells #[.int .i64 a, .int .i64 b] 39) (.cells #[.int .i64 c, .int .i64 d] 39) #[.int .i64 0, .int .i64 0] 39)
  have Rc0 := Ext.keeps (HR 0 _ rfl)
  have Rc1 := Ext.keeps (HR 1 _ rfl)
  have Rf0 := Ext.thaws (w := (((w.alloc (.cells #[.int .i64 a, .int .i64 b] 39)).alloc (.cells #[.int .i64 c, .int .i64 d] 39)).alloc (.cells #[.int .i64 0, .int .i64 0] 39))) (HR 0 _ rfl) (frozen_fresh (by simp))
  have Rf1 := Ext.thaws (w := (((w.alloc (.cells #[.int .i64 a, .int .i64 b] 39)).alloc (.cells #[.int .i64 c, .int .i64 d] 39)).alloc (.cells #[.int .i64 0, .int .i64 0] 39))) (HR 1 _ rfl) (frozen_fresh (by simp))
  clear HR
  have hE : Ext (((w.alloc (.cells #[.int .i64 a, .int .i64 b] 39)).alloc (.cells #[.int .i64 c, .int .i64 d] 39)).alloc (.cells #[.int .i64 0, .int .i64 0] 39)) (((w.alloc (.cells #[.int .i64 a, .int .i64 b] 39)).alloc (.cells #[.int .i64 c, .int .i64 d] 39)).alloc (.cells #[.int .i64 0, .int .i64 0] 39)) := Ext.refl _
  have k1 := fracB_true.1 ha
  have k2 := fracB_true.1 hc
  have HM := Lib.hid (fun w => mul_any a b c d k1.1 (by omega) k2.1 (by omega) (by omega) (by omega) w)
  rw [hN, hD] at HM
  clear k1 k2 hN hD
  go_enter Try.func106, Try.ntmps106
  go_wp2_with fail
  refine (areFracs2_any _ _ _ a b c d rfl _ ?_).mono ?_
  · refine ⟨rfl, fun _ => ⟨_, _, rfl, fun j u hj => ?_⟩⟩
    match j, hj with
    | 0, hj => simp [pv] at hj; subst hj; exact cell_at_new (by simp) rfl
    | 1, hj => simp [pv] at hj; subst hj; exact cell_at_new (by simp) rfl
    | 2, hj => simp [pv] at hj; subst hj; exact cell_at_new (by simp) rfl
    | 3, hj => simp [pv] at hj; subst hj; exact cell_at_new (by simp) rfl
  rw [ha, hc]
  rintro e w1 ⟨rfl, hbb⟩
  replace hE := Ext.trans (Ext.alloc hE _) hbb
  clear hbb
  go_wp2_with fail
  refine (HM.out _).mono ?_
  rintro e w2 ⟨rfl, hbb⟩
  replace hE := Ext.trans hE hbb
  clear hbb
  go_wp2_with fail
  refine (toldFrac_any _ _ _).mono ?_
  rw [hok]
  rintro e w3 ⟨rfl, hbb⟩
  replace hE := Ext.trans hE hbb
  clear hbb
  go_wp2
  refine bodyPost_ret (v := (.tuple #[.agg #[.int .i64 p, .int .i64 q], .bool true])) (by simp [results, Try.results106, go_sem, hE, Rc0, Rc1, gI]) rfl ⟨rfl, (by repeat (first | exact Ext.refl _ | assumption | apply Ext.alloc | apply Ext.drew | apply Ext.drewN | (refine Ext.trans ?_ (by assumption)) | (refine Ext.setCell ?_ (by (try simp) <;> omega) _)))⟩

set_option maxHeartbeats 1000000 in
theorem AddFracs_any (a b c d p q : Int) (ha : fracB a b = true) (hc : fracB c d = true) (hN : lowN (a * d + c * b) (b * d) = p) (hD : lowD (a * d + c * b) (b * d) = q) (hok : fracB p q = true) (w : World) :
    Calls Try.prog 107 #[.agg #[.int .i64 a, .int .i64 b], .agg #[.int .i64 c, .int .i64 d]] w fun r w' => r = .returned (.tuple #[.agg #[.int .i64 p, .int .i64 q], .bool true]) ∧ Ext w w' := by
  have HA := (Has.alloc (Has.alloc (Has.new w #[.int .i64 a, .int .i64 b] 39) (.cells #[.int .i64 c, .int .i64 d] 39)) (.cells #[.int .i64 0, .int .i64 0] 39))
  have Ac0 := Ext.keeps (HA 0 _ rfl)
  have Ac1 := Ext.keeps (HA 1 _ rfl)
  clear HA
  have HB := (Has.alloc (Has.new2 w (.cells #[.int .i64 a, .int .i64 b] 39) #[.int .i64 c, .int .i64 d] 39) (.cells #[.int .i64 0, .int .i64 0] 39))
  have Bc0 := Ext.keeps (HB 0 _ rfl)
  have Bc1 := Ext.keeps (HB 1 _ rfl)
  clear HB
  have HR := (Has.new3 w (.cells #[.int .i64 a, .int .i64 b] 39) (.cells #[.int .i64 c, .int .i64 d] 39) #[.int .i64 0, .int .i64 0] 39)
  have Rc0 := Ext.keeps (HR 0 _ rfl)
  have Rc1 := Ext.keeps (HR 1 _ rfl)
  have Rf0 := Ext.thaws (w := (((w.alloc (.cells #[.int .i64 a, .int .i64 b] 39)).alloc (.cells #[.int .i64 c, .int .i64 d] 39)).alloc (.cells #[.int .i64 0, .int .i64 0] 39))) (HR 0 _ rfl) (frozen_fresh (by simp))
  have Rf1 := Ext.thaws (w := (((w.alloc (.cells #[.int .i64 a, .int .i64 b] 39)).alloc (.cells #[.int .i64 c, .int .i64 d] 39)).alloc (.cells #[.int .i64 0, .int .i64 0] 39))) (HR 1 _ rfl) (frozen_fresh (by simp))
  clear HR
  have hE : Ext (((w.alloc (.cells #[.int .i64 a, .int .i64 b] 39)).alloc (.cells #[.int .i64 c, .int .i64 d] 39)).alloc (.cells #[.int .i64 0, .int .i64 0] 39)) (((w.alloc (.cells #[.int .i64 a, .int .i64 b] 39)).alloc (.cells #[.int .i64 c, .int .i64 d] 39)).alloc (.cells #[.int .i64 0, .int .i64 0] 39)) := Ext.refl _
  have k1 := fracB_true.1 ha
  have k2 := fracB_true.1 hc
  have HM := Lib.hid (fun w => add_any a b c d k1.1 (by omega) k2.1 (by omega) (by omega) (by omega) w)
  rw [hN, hD] at HM
  clear k1 k2 hN hD
  go_enter Try.func107, Try.ntmps107
  go_wp2_with fail
  refine (areFracs2_any _ _ _ a b c d rfl _ ?_).mono ?_
  · refine ⟨rfl, fun _ => ⟨_, _, rfl, fun j u hj => ?_⟩⟩
    match j, hj with
    | 0, hj => simp [pv] at hj; subst hj; exact cell_at_new (by simp) rfl
    | 1, hj => simp [pv] at hj; subst hj; exact cell_at_new (by simp) rfl
    | 2, hj => simp [pv] at hj; subst hj; exact cell_at_new (by simp) rfl
    | 3, hj => simp [pv] at hj; subst hj; exact cell_at_new (by simp) rfl
  rw [ha, hc]
  rintro e w1 ⟨rfl, hbb⟩
  replace hE := Ext.trans (Ext.alloc hE _) hbb
  clear hbb
  go_wp2_with fail
  refine (HM.out _).mono ?_
  rintro e w2 ⟨rfl, hbb⟩
  replace hE := Ext.trans hE hbb
  clear hbb
  go_wp2_with fail
  refine (toldFrac_any _ _ _).mono ?_
  rw [hok]
  rintro e w3 ⟨rfl, hbb⟩
  replace hE := Ext.trans hE hbb
  clear hbb
  go_wp2
  refine bodyPost_ret (v := (.tuple #[.agg #[.int .i64 p, .int .i64 q], .bool true])) (by simp [results, Try.results107, go_sem, hE, Rc0, Rc1, gI]) rfl ⟨rfl, (by repeat (first | exact Ext.refl _ | assumption | apply Ext.alloc | apply Ext.drew | apply Ext.drewN | (refine Ext.trans ?_ (by assumption)) | (refine Ext.setCell ?_ (by (try simp) <;> omega) _)))⟩

end Go.Proofs.Ytogbfhhioicbmaa
