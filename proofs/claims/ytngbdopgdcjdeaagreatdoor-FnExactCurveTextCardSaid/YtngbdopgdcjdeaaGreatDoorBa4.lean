/-
  What the laws' walks stand on, part 4 of 4: texts of this claim's own, one behind the other. No condition.
-/
import Derived.Test.YtngbdopgdcjdeaaGreatDoorBa3
import Derived.BigQuiet
import Derived.Test.YtngbdopgdcjdeaaGreatDoorShelf
import Derived.Laws.IdiomStrings
import Derived.Lib.ItoaNum
import Derived.Lib.ItoaLen
import Derived.Lib.AppendIntMem
import Derived.Lib.LaidTab
import Derived.Deep.RegionHeld3
namespace Go.Proofs.YtngbdopgdcjdeaaGreatDoor
open Go.RowKit

theorem frozen_fresh {w : World} {cs : Array Value} {t : TypeId} {b i : Nat} (h : b = w.heap.size) : (w.alloc (.cells cs t)).frozen? ⟨b, i, none⟩ = false := by
  subst h; simp
/-- A valid fraction; what a quotient is divided by, its parts; whether it is one. -/
def fracB (x y : Int) : Bool := inB x (-1000000000) 1000000000 && inB y 1 1000000000 && (gcdI x y == 1)
theorem fracB_true {x y : Int} : fracB x y = true ↔ (-1000000000 ≤ x ∧ x ≤ 1000000000) ∧ (1 ≤ y ∧ y ≤ 1000000000) ∧ gcdI x y = 1 := by simp [fracB, inB_true, and_assoc]
theorem fracB_cases (x y : Int) : fracB x y = false ∨ (fracB x y = true ∧ (-1000000000 ≤ x ∧ x ≤ 1000000000) ∧ (1 ≤ y ∧ y ≤ 1000000000) ∧ gcdI x y = 1) := by
  cases h : fracB x y
  · exact .inl rfl
  · exact .inr ⟨rfl, fracB_true.1 h⟩
def lowG (n d : Int) : Int := if d < 0 then -gcdI n d else gcdI n d
def lowN (n d : Int) : Int := n.tdiv (lowG n d)
def lowD (n d : Int) : Int := d.tdiv (lowG n d)
def okM (n d : Int) : Bool := (d != 0) && fracB (lowN n d) (lowD n d)
theorem tdiv_bd {a b k : Int} (h : -k ≤ a ∧ a ≤ k) : -k ≤ a.tdiv b ∧ a.tdiv b ≤ k := by
  have h2 : (a.tdiv b).natAbs ≤ a.natAbs := by rw [Int.natAbs_tdiv]; exact Nat.div_le_self _ _
  omega
theorem lowG_ne {n d : Int} (h : d ≠ 0) : lowG n d ≠ 0 := by
  have := gcdI_pos_of (a := n) (b := d) (.inr h)
  unfold lowG; split <;> omega
/-- In lowest terms, over a divisor that is more than 0. -/
theorem low_gcd {n d : Int} (hd : 0 < d) : gcdI (lowN n d) (lowD n d) = 1 ∧ 1 ≤ lowD n d := by
  have hg := gcdI_pos_of (a := n) (b := d) (.inr (by omega))
  have hG : lowG n d = gcdI n d := by unfold lowG; rw [if_neg (by omega)]
  unfold lowN lowD
  rw [hG]
  have e : ((gcdI n d).natAbs : Nat) = Nat.gcd n.natAbs d.natAbs := by unfold gcdI Int.gcd; omega
  have hpos : 0 < Nat.gcd n.natAbs d.natAbs := by omega
  constructor
  · unfold gcdI
    show ((Int.gcd (n.tdiv (gcdI n d)) (d.tdiv (gcdI n d)) : Nat) : Int) = 1
    unfold Int.gcd
    rw [Int.natAbs_tdiv, Int.natAbs_tdiv, e]
    have := Nat.coprime_div_gcd_div_gcd hpos
    unfold Nat.Coprime at this
    show (((n.natAbs / n.natAbs.gcd d.natAbs).gcd (d.natAbs / n.natAbs.gcd d.natAbs) : Nat) : Int) = 1
    rw [this]; rfl
  · have h1 : gcdI n d ∣ d := by unfold gcdI; exact Int.gcd_dvd_right ..
    obtain ⟨q, hq⟩ := h1
    generalize gcdI n d = G at *
    have e2 : d.tdiv G = q := by
      rw [hq]
      exact Int.mul_tdiv_cancel_left _ (by omega)
    rw [e2]
    rcases (show 0 < q ∨ q ≤ 0 by omega) with h | h
    · omega
    · have := Int.mul_le_mul_of_nonneg_left h (show 0 ≤ G by omega)
      omega
theorem okM_of {n d : Int} (hd : 0 < d) (hn : -1000000000 ≤ n ∧ n ≤ 1000000000) (hd2 : d ≤ 1000000000) : okM n d = true := by
  have h := low_gcd (n := n) hd
  have h1 : -1000000000 ≤ lowN n d ∧ lowN n d ≤ 1000000000 := tdiv_bd hn
  have h2 : -1000000000 ≤ lowD n d ∧ lowD n d ≤ 1000000000 := tdiv_bd (by omega)
  simp only [okM, Bool.and_eq_true, bne_iff_ne]
  exact ⟨by omega, fracB_true.2 ⟨h1, ⟨h.2, h2.2⟩, h.1⟩⟩
/-- What a fraction in lowest terms stands for. -/
theorem low_mul {n d : Int} : lowN n d * lowG n d = n ∧ lowD n d * lowG n d = d := by
  have h1 : lowG n d ∣ n := by
    have : gcdI n d ∣ n := by unfold gcdI; exact Int.gcd_dvd_left ..
    unfold lowG; split
    · exact Int.neg_dvd.2 this
    · exact this
  have h2 : lowG n d ∣ d := by
    have : gcdI n d ∣ d := by unfold gcdI; exact Int.gcd_dvd_right ..
    unfold lowG; split
    · exact Int.neg_dvd.2 this
    · exact this
  exact ⟨Int.tdiv_mul_cancel h1, Int.tdiv_mul_cancel h2⟩
theorem gcdI_one (x : Int) : gcdI x 1 = 1 := by unfold gcdI; simp
theorem fracB_whole {x : Int} (h : -1000000000 ≤ x ∧ x ≤ 1000000000) : fracB x 1 = true := fracB_true.2 ⟨h, by omega, gcdI_one x⟩
theorem and_tri {a b c : Bool} : (a && b && c) = (a && (b && c)) := by cases a <;> rfl

theorem frGcd_any (a b : Int) (ha1 : -9223372036854775807 ≤ a) (ha2 : a ≤ 9223372036854775807) (hb1 : -9223372036854775807 ≤ b) (hb2 : b ≤ 9223372036854775807) (w : World) :
    Calls Tryz.prog 39 #[.int .i64 a, .int .i64 b] w fun r w' => r = .returned (.int .i64 (gcdI a b)) ∧ w = w' := by
  go_enter Tryz.func39, Tryz.ntmps39
  go_wp2
  go_loop [0, 1, 5] (fun s t _ => ∃ x y : Int, -9223372036854775807 ≤ x ∧ x ≤ 9223372036854775807 ∧ -9223372036854775807 ≤ y ∧ y ≤ 9223372036854775807 ∧ s = .int .i64 x ∧ t = .int .i64 y ∧ Hid (gcdI x y = gcdI a b)) (fun _ t _ => (intOf t).natAbs)
  case atStart => exact ⟨a, b, ha1, ha2, hb1, hb2, rfl, rfl, Lib.hid rfl⟩
  case round =>
    obtain ⟨x, y, hx, hx2, hy, hy2, rfl, rfl, HG⟩ := hrel
    by_cases hc : y = 0
    · have HY := Lib.hid hc
      subst hc
      go_wp2_with (go_at_call 58; refine (l1Abs_any _ (by omega) (by omega) _).mono ?_; rintro e _ ⟨rfl, rfl⟩)
      go_ret
      exact ⟨ret_int (by rw [← HG.out, gcdI_zero]), rfl⟩
    · have hm : (x.tmod y).natAbs < y.natAbs := by rw [Int.natAbs_tmod]; exact Nat.mod_lt _ (by omega)
      have hc2 : (y != 0) = true := by simpa using hc
      go_wp2
      go_round
      case rel => exact ⟨y, x.tmod y, hy, hy2, by omega, by omega, rfl, rfl, Lib.hid (by rw [gcdI_tmod]; exact HG.out)⟩
      case measure => simpa [intOf] using hm

theorem gcd_extF (a b : Int) (ha1 : -9223372036854775807 ≤ a) (ha2 : a ≤ 9223372036854775807) (hb1 : -9223372036854775807 ≤ b) (hb2 : b ≤ 9223372036854775807) (w : World) :
    Calls Tryz.prog 66 #[.int .i64 a, .int .i64 b] w fun r w' => r = .returned (.int .i64 (gcdI a b)) ∧ Ext w w' :=
  (gcd_any a b ha1 ha2 hb1 hb2 w).mono fun _ _ ⟨he, n, hw⟩ => ⟨he, hw ▸ Ext.drewN (Ext.refl _) n⟩

theorem frGood_any (x y : Int) (w : World) :
    Calls Tryz.prog 40 #[.agg #[.int .i64 x, .int .i64 y]] w fun r w' => r = .returned (.bool (fracB x y)) ∧ Ext w w' := by
  have HA := (Has.new w #[.int .i64 x, .int .i64 y] 35)
  have Ac0 := Ext.keeps (HA 0 _ rfl)
  have Ac1 := Ext.keeps (HA 1 _ rfl)
  clear HA
  have hE : Ext (w.alloc (.cells #[.int .i64 x, .int .i64 y] 35)) (w.alloc (.cells #[.int .i64 x, .int .i64 y] 35)) := Ext.refl _
  have HF := Lib.hid (show fracB x y = (inB x (-1000000000) 1000000000 && inB y 1 1000000000 && (gcdI x y == 1)) from rfl)
  cases h1 : inB y 1 1000000000
  · go_enter Tryz.func40, Tryz.ntmps40
    go_wp2_with ((go_at_call 20; refine (l1In_any _ _ _ _).mono ?_; rintro e _ ⟨rfl, rfl⟩))
    go_ret
    exact ⟨ret_bool (by rw [HF.out, h1]; simp), (by repeat (first | exact Ext.refl _ | assumption | apply Ext.alloc | apply Ext.drew | apply Ext.drewN | (refine Ext.trans ?_ (by assumption)) | (refine Ext.setCell ?_ (by (try simp) <;> omega) _)))⟩
  · cases h2 : inB x (-1000000000) 1000000000
    · go_enter Tryz.func40, Tryz.ntmps40
      go_wp2_with ((go_at_call 20; refine (l1In_any _ _ _ _).mono ?_; rintro e _ ⟨rfl, rfl⟩))
      go_ret
      exact ⟨ret_bool (by rw [HF.out, h1, h2]; simp), (by repeat (first | exact Ext.refl _ | assumption | apply Ext.alloc | apply Ext.drew | apply Ext.drewN | (refine Ext.trans ?_ (by assumption)) | (refine Ext.setCell ?_ (by (try simp) <;> omega) _)))⟩
    · have b1 := inB_true.1 h1
      have b2 := inB_true.1 h2
      go_enter Tryz.func40, Tryz.ntmps40
      go_wp2_with (first | (go_at_call 20; refine (l1In_any _ _ _ _).mono ?_; rintro e _ ⟨rfl, rfl⟩) | (go_at_call 39; refine (frGcd_any _ _ (by omega) (by omega) (by omega) (by omega) _).mono ?_; rintro e _ ⟨rfl, rfl⟩))
      go_ret
      exact ⟨ret_bool (by rw [HF.out, h1, h2]; simp), (by repeat (first | exact Ext.refl _ | assumption | apply Ext.alloc | apply Ext.drew | apply Ext.drewN | (refine Ext.trans ?_ (by assumption)) | (refine Ext.setCell ?_ (by (try simp) <;> omega) _)))⟩

set_option maxHeartbeats 1000000 in
theorem lowest_any (n d : Int) (n1 : -4000000000000000000 ≤ n) (n2 : n ≤ 4000000000000000000) (d1 : -4000000000000000000 ≤ d) (d2 : d ≤ 4000000000000000000) (hd : d ≠ 0) (w : World) :
    Calls Tryz.prog 53 #[.int .i64 n, .int .i64 d] w fun r w' => r = .returned (.agg #[.int .i64 (lowN n d), .int .i64 (lowD n d)]) ∧ Ext w w' := by
  have g0 := gcdI_pos_of (a := n) (b := d) (.inr hd)
  have g1 := gcdI_le (x := n) (y := d) (k := 4000000000000000000) (by omega) (by omega) (by omega) (by omega)
  have HG := Lib.hid (fun w => gcd_extF n d (by omega) (by omega) (by omega) (by omega) w)
  have HR := (Has.new w #[.int .i64 0, .int .i64 0] 35)
  have Rc0 := Ext.keeps (HR 0 _ rfl)
  have Rc1 := Ext.keeps (HR 1 _ rfl)
  have Rf0 := Ext.thaws (w := (w.alloc (.cells #[.int .i64 0, .int .i64 0] 35))) (HR 0 _ rfl) (by simp)
  have Rf1 := Ext.thaws (w := (w.alloc (.cells #[.int .i64 0, .int .i64 0] 35))) (HR 1 _ rfl) (by simp)
  clear HR
  have hE : Ext (w.alloc (.cells #[.int .i64 0, .int .i64 0] 35)) (w.alloc (.cells #[.int .i64 0, .int .i64 0] 35)) := Ext.refl _
  by_cases hneg : d < 0
  · have hG : lowG n d = (-gcdI n d) := by unfold lowG; rw [if_pos hneg]
    have eN : lowN n d = -(n.tdiv (gcdI n d)) := by unfold lowN; rw [hG, Int.tdiv_neg]
    have eD : lowD n d = -(d.tdiv (gcdI n d)) := by unfold lowD; rw [hG, Int.tdiv_neg]
    have t1 := tdiv_bd (a := n) (b := gcdI n d) (k := 4000000000000000000) ⟨by omega, by omega⟩
    have t2 := tdiv_bd (a := d) (b := gcdI n d) (k := 4000000000000000000) ⟨by omega, by omega⟩
    rw [eN, eD]
    generalize gcdI n d = g at *
    clear hG eN eD
    go_enter Tryz.func53, Tryz.ntmps53
    go_wp2_with ((go_at_call 66; refine (HG.out _).mono ?_; rintro e w' ⟨rfl, hb⟩; (first | replace hE := Ext.trans hE hb | replace hE := Ext.trans (Ext.alloc hE _) hb | replace hE := Ext.trans (Ext.alloc (Ext.alloc hE _) _) hb | replace hE := Ext.trans (Ext.drew hE) hb | replace hE := Ext.trans (Ext.alloc (Ext.alloc (Ext.alloc hE _) _) _) hb)))
    go_region
    go_wp2
    refine bodyPost_ret (v := .agg #[.int .i64 (-n.tdiv g), .int .i64 (-d.tdiv g)]) (by simp [results, Tryz.results53, go_sem, Rc0, Rc1, hE]) rfl ⟨rfl, (by repeat (first | exact Ext.refl _ | assumption | apply Ext.alloc | apply Ext.drew | apply Ext.drewN | (refine Ext.trans ?_ (by assumption)) | (refine Ext.setCell ?_ (by (try simp) <;> omega) _)))⟩
  · have hG : lowG n d = (gcdI n d) := by unfold lowG; rw [if_neg hneg]
    have eN : lowN n d = (n.tdiv (gcdI n d)) := by unfold lowN; rw [hG]
    have eD : lowD n d = (d.tdiv (gcdI n d)) := by unfold lowD; rw [hG]
    have t1 := tdiv_bd (a := n) (b := gcdI n d) (k := 4000000000000000000) ⟨by omega, by omega⟩
    have t2 := tdiv_bd (a := d) (b := gcdI n d) (k := 4000000000000000000) ⟨by omega, by omega⟩
    rw [eN, eD]
    generalize gcdI n d = g at *
    clear hG eN eD
    go_enter Tryz.func53, Tryz.ntmps53
    go_wp2_with ((go_at_call 66; refine (HG.out _).mono ?_; rintro e w' ⟨rfl, hb⟩; (first | replace hE := Ext.trans hE hb | replace hE := Ext.trans (Ext.alloc hE _) hb | replace hE := Ext.trans (Ext.alloc (Ext.alloc hE _) _) hb | replace hE := Ext.trans (Ext.drew hE) hb | replace hE := Ext.trans (Ext.alloc (Ext.alloc (Ext.alloc hE _) _) _) hb)))
    go_region
    go_wp2
    refine bodyPost_ret (v := .agg #[.int .i64 (n.tdiv g), .int .i64 (d.tdiv g)]) (by simp [results, Tryz.results53, go_sem, Rc0, Rc1, hE]) rfl ⟨rfl, (by repeat (first | exact Ext.refl _ | assumption | apply Ext.alloc | apply Ext.drew | apply Ext.drewN | (refine Ext.trans ?_ (by assumption)) | (refine Ext.setCell ?_ (by (try simp) <;> omega) _)))⟩

set_option maxHeartbeats 2000000 in
theorem frMake_any (n d : Int) (n1 : -4000000000000000000 ≤ n) (n2 : n ≤ 4000000000000000000) (d1 : -4000000000000000000 ≤ d) (d2 : d ≤ 4000000000000000000) (w : World) :
    Calls Tryz.prog 27 #[.int .i64 n, .int .i64 d] w fun r w' => r = .returned (.tuple #[.agg #[.int .i64 (gI (okM n d) (lowN n d)), .int .i64 (gI (okM n d) (lowD n d))], .bool (okM n d)]) ∧ Ext w w' := by
  have HR := (Has.new w #[.int .i64 0, .int .i64 0] 35)
  have Rc0 := Ext.keeps (HR 0 _ rfl)
  have Rc1 := Ext.keeps (HR 1 _ rfl)
  have Rf0 := Ext.thaws (w := (w.alloc (.cells #[.int .i64 0, .int .i64 0] 35))) (HR 0 _ rfl) (by simp)
  have Rf1 := Ext.thaws (w := (w.alloc (.cells #[.int .i64 0, .int .i64 0] 35))) (HR 1 _ rfl) (by simp)
  clear HR
  have hE : Ext (w.alloc (.cells #[.int .i64 0, .int .i64 0] 35)) (w.alloc (.cells #[.int .i64 0, .int .i64 0] 35)) := Ext.refl _
  by_cases hd : d = 0
  · subst hd
    have hok : okM n 0 = false := rfl
    rw [hok]
    go_enter Tryz.func27, Tryz.ntmps27
    go_wp2
    refine bodyPost_ret (v := .tuple #[.agg #[.int .i64 0, .int .i64 0], .bool false]) (by simp [results, Tryz.results27, go_sem]) rfl ⟨by simp [gI], (by repeat (first | exact Ext.refl _ | assumption | apply Ext.alloc | apply Ext.drew | apply Ext.drewN | (refine Ext.trans ?_ (by assumption)) | (refine Ext.setCell ?_ (by (try simp) <;> omega) _)))⟩
  have g0 := gcdI_pos_of (a := n) (b := d) (.inr hd)
  have g1 := gcdI_le (x := n) (y := d) (k := 4000000000000000000) (by omega) (by omega) (by omega) (by omega)
  have HG := Lib.hid (fun w => frGcd_any n d (by omega) (by omega) (by omega) (by omega) w)
  have hd2 : (d == 0) = false := by simpa using hd
  by_cases hneg : d < 0
  · have hG : lowG n d = (-gcdI n d) := by unfold lowG; rw [if_pos hneg]
    have eN : lowN n d = -(n.tdiv (gcdI n d)) := by unfold lowN; rw [hG, Int.tdiv_neg]
    have eD : lowD n d = -(d.tdiv (gcdI n d)) := by unfold lowD; rw [hG, Int.tdiv_neg]
    have t1 := tdiv_bd (a := n) (b := gcdI n d) (k := 4000000000000000000) ⟨by omega, by omega⟩
    have t2 := tdiv_bd (a := d) (b := gcdI n d) (k := 4000000000000000000) ⟨by omega, by omega⟩
    have eok : okM n d = fracB (-n.tdiv (gcdI n d)) (-d.tdiv (gcdI n d)) := by unfold okM; rw [eN, eD]; simp [hd]
    rw [eok, eN, eD]
    generalize gcdI n d = g at *
    clear hG eN eD eok
    cases hf : fracB (-n.tdiv g) (-d.tdiv g) <;> (
      go_enter Tryz.func27, Tryz.ntmps27
      go_wp2_with ((go_at_call 39; refine (HG.out _).mono ?_; rintro e _ ⟨rfl, rfl⟩))
      go_region
      go_wp2_with fail
      refine (frGood_any _ _ _).mono ?_
      rw [hf]
      rintro e w1 ⟨rfl, hb⟩
      have hE1 : Ext (w.alloc (.cells #[.int .i64 0, .int .i64 0] 35)) w1 := Ext.trans (by repeat (first | exact Ext.refl _ | assumption | apply Ext.alloc | apply Ext.drew | apply Ext.drewN | (refine Ext.trans ?_ (by assumption)) | (refine Ext.setCell ?_ (by (try simp) <;> omega) _))) hb
      have Rk0 := Rc0 _ hE1
      have Rk1 := Rc1 _ hE1
      have Rg0 := Rf0 _ hE1
      have Rg1 := Rf1 _ hE1
      have hbf := hb.facts
      go_wp2
      refine bodyPost_ret (v := .tuple #[.agg #[.int .i64 (gI (fracB (-n.tdiv g) (-d.tdiv g)) (-n.tdiv g)), .int .i64 (gI (fracB (-n.tdiv g) (-d.tdiv g)) (-d.tdiv g))], .bool (fracB (-n.tdiv g) (-d.tdiv g))]) (by simp [results, Tryz.results27, go_sem, Rk0, Rk1, hf, gI]) rfl ⟨by simp [hf], (by repeat (first | exact Ext.refl _ | assumption | apply Ext.alloc | apply Ext.drew | apply Ext.drewN | (refine Ext.trans ?_ (by assumption)) | (refine Ext.setCell ?_ (by (try simp) <;> omega) _)))⟩)
  · have hG : lowG n d = (gcdI n d) := by unfold lowG; rw [if_neg hneg]
    have eN : lowN n d = (n.tdiv (gcdI n d)) := by unfold lowN; rw [hG]
    have eD : lowD n d = (d.tdiv (gcdI n d)) := by unfold lowD; rw [hG]
    have t1 := tdiv_bd (a := n) (b := gcdI n d) (k := 4000000000000000000) ⟨by omega, by omega⟩
    have t2 := tdiv_bd (a := d) (b := gcdI n d) (k := 4000000000000000000) ⟨by omega, by omega⟩
    have eok : okM n d = fracB (n.tdiv (gcdI n d)) (d.tdiv (gcdI n d)) := by unfold okM; rw [eN, eD]; simp [hd]
    rw [eok, eN, eD]
    generalize gcdI n d = g at *
    clear hG eN eD eok
    cases hf : fracB (n.tdiv g) (d.tdiv g) <;> (
      go_enter Tryz.func27, Tryz.ntmps27
      go_wp2_with ((go_at_call 39; refine (HG.out _).mono ?_; rintro e _ ⟨rfl, rfl⟩))
      go_region
      go_wp2_with fail
      refine (frGood_any _ _ _).mono ?_
      rw [hf]
      rintro e w1 ⟨rfl, hb⟩
      have hE1 : Ext (w.alloc (.cells #[.int .i64 0, .int .i64 0] 35)) w1 := Ext.trans (by repeat (first | exact Ext.refl _ | assumption | apply Ext.alloc | apply Ext.drew | apply Ext.drewN | (refine Ext.trans ?_ (by assumption)) | (refine Ext.setCell ?_ (by (try simp) <;> omega) _))) hb
      have Rk0 := Rc0 _ hE1
      have Rk1 := Rc1 _ hE1
      have Rg0 := Rf0 _ hE1
      have Rg1 := Rf1 _ hE1
      have hbf := hb.facts
      go_wp2
      refine bodyPost_ret (v := .tuple #[.agg #[.int .i64 (gI (fracB (n.tdiv g) (d.tdiv g)) (n.tdiv g)), .int .i64 (gI (fracB (n.tdiv g) (d.tdiv g)) (d.tdiv g))], .bool (fracB (n.tdiv g) (d.tdiv g))]) (by simp [results, Tryz.results27, go_sem, Rk0, Rk1, hf, gI]) rfl ⟨by simp [hf], (by repeat (first | exact Ext.refl _ | assumption | apply Ext.alloc | apply Ext.drew | apply Ext.drewN | (refine Ext.trans ?_ (by assumption)) | (refine Ext.setCell ?_ (by (try simp) <;> omega) _)))⟩)

end Go.Proofs.YtngbdopgdcjdeaaGreatDoor

namespace Go.Proofs.YtngbdopgdcjdeaaGreatDoor
open Go.RowKit

theorem turn_back {P Q R x : Int × Int} (u : lexP P Q) (d : lexP R Q) (h0 : turnI P Q R = 0) (s1 : 0 ≤ turnI P Q x) (s : 0 < turnI Q R x) : False := by
  have e1 : (P.1 - Q.1) * turnI Q R x = (R.1 - Q.1) * (-turnI P Q x) := by unfold turnI detI at *; grind
  have e2 : (P.2 - Q.2) * turnI Q R x = (R.2 - Q.2) * (-turnI P Q x) := by unfold turnI detI at *; grind
  unfold lexP lexV at u d
  generalize turnI Q R x = S at *
  generalize turnI P Q x = T at *
  have key : ∀ v r : Int, v < 0 → r ≤ 0 → v * S = r * (-T) → False := by
    intro v r hv hr e
    have l1 : 0 < (-v) * S := Int.mul_pos (by omega) s
    have l2 : 0 ≤ (-r) * T := Int.mul_nonneg (by omega) s1
    have e3 : (-v) * S = -(v * S) := by grind
    have e4 : (-r) * T = r * (-T) := by grind
    omega
  rcases u with u | ⟨u1, u2⟩
  · exact key (P.1 - Q.1) (R.1 - Q.1) (by omega) (by omega) e1
  · rcases d with d | ⟨d1, d2⟩
    · have hT : T = 0 := by
        have h1 : (R.1 - Q.1) * (-T) = 0 := by rw [← e1, show P.1 - Q.1 = 0 by omega, Int.zero_mul]
        rcases Int.mul_eq_zero.1 h1 with h2 | h2 <;> omega
      have l1 : 0 < (Q.2 - P.2) * S := Int.mul_pos (by omega) s
      have e3 : (Q.2 - P.2) * S = -((P.2 - Q.2) * S) := by grind
      have e5 : (P.2 - Q.2) * S = 0 := by rw [e2, hT]; simp
      omega
    · exact key (P.2 - Q.2) (R.2 - Q.2) (by omega) (by omega) e2
theorem hull_turn {l : List (Int × Int)} {m n : Nat} {H : List (Int × Int)} (h : HullW l m n H) (h3 : 3 ≤ m + n) : 0 < turnI (H.getD 0 (0, 0)) (H.getD 1 (0, 0)) (H.getD 2 (0, 0)) := by
  have hm := h.hm
  rcases Nat.lt_or_ge 1 m with h1 | h1
  · exact h.strict 0 (by omega)
  · obtain rfl : m = 1 := by omega
    have e1 : (0 + 1) % (1 + n) = 1 := Nat.mod_eq_of_lt (by omega)
    have e2 : (1 + 1) % (1 + n) = 2 := Nat.mod_eq_of_lt (by omega)
    have u := h.up 0 (by omega)
    have d := h.down 1 (by omega) (by omega)
    have s := h.strictB 1 (by omega) (by omega)
    have s0 := h.sup 0 (by omega) _ (h.mem 2 (by omega))
    have s1 := h.sup 0 (by omega) _ (h.mem ((1 + 2) % (1 + n)) (Nat.mod_lt _ (by omega)))
    rw [e1] at u s0 s1
    rw [e2] at d
    rcases Int.lt_or_eq_of_le s0 with hh | hh
    · exact hh
    · exact absurd (turn_back u d hh.symm s1 s) not_false
/-- The vertex over three terms: its two numerators, over the turn. -/
def vX (B C A : Int × Int) (a b c : Int) : Int := (a - b) * (C.2 - A.2) - (a - c) * (B.2 - A.2)
def vY (B C A : Int × Int) (a b c : Int) : Int := (a - c) * (B.1 - A.1) - (a - b) * (C.1 - A.1)
/-- The number of corner k's term. -/
def corN (zs : List (Int × Int × Int)) (x : List Int) (k : Nat) : Nat := ((cornC zs x).getD k 0).toNat
def verX (zs : List (Int × Int × Int)) (x : List Int) : Int := vX (pI zs (corN zs x 1)) (pI zs (corN zs x 2)) (pI zs (corN zs x 0)) (cI zs (corN zs x 0)) (cI zs (corN zs x 1)) (cI zs (corN zs x 2))
def verY (zs : List (Int × Int × Int)) (x : List Int) : Int := vY (pI zs (corN zs x 1)) (pI zs (corN zs x 2)) (pI zs (corN zs x 0)) (cI zs (corN zs x 0)) (cI zs (corN zs x 1)) (cI zs (corN zs x 2))
def verD (zs : List (Int × Int × Int)) (x : List Int) : Int := turnI (pI zs (corN zs x 0)) (pI zs (corN zs x 1)) (pI zs (corN zs x 2))
/-- What is known of the first three corners of a cell. -/
theorem corn_three {zs : List (Int × Int × Int)} (hZ : PZ zs) {x : List Int} (hx : IsCell zs x) : 3 ≤ (cornC zs x).length ∧ (∀ k, k < 3 → corN zs x k < zs.length ∧ (cornC zs x).getD k 0 = (corN zs x k : Int) ∧ (hullC zs x).getD k (0, 0) = pI zs (corN zs x k)) ∧ 0 < verD zs x := by
  obtain ⟨m, n, hH, hl, h3⟩ := corn_len hZ.2.2 hx
  have hk : ∀ k, k < 3 → corN zs x k < zs.length ∧ (cornC zs x).getD k 0 = (corN zs x k : Int) ∧ (hullC zs x).getD k (0, 0) = pI zs (corN zs x k) := by
    intro k hk
    obtain ⟨t, h1, _, h2, h4⟩ := corn_term hZ.2.2 hx (k := k) (by omega)
    have e : corN zs x k = t := by unfold corN; rw [h4, Int.toNat_natCast]
    rw [e]
    exact ⟨h1, h4, h2⟩
  refine ⟨by omega, hk, ?_⟩
  have := hull_turn hH h3
  rw [(hk 0 (by omega)).2.2, (hk 1 (by omega)).2.2, (hk 2 (by omega)).2.2] at this
  exact this
set_option maxHeartbeats 4000000 in
set_option maxRecDepth 100000 in
theorem vertex_any (B0 g : Nat) (a0 : Option Addr) (n c k : Nat) (zs : List (Int × Int × Int)) (hZ : PZ zs) (hk : k < (cellsL zs).length) (w : World) (h : SubD w B0 g a0 n c zs) :
    Calls Tryz.prog 32 #[.pointer (some ⟨g, 0, none⟩), .int .i64 k] w fun r w' => r = .returned (.agg #[.int .i64 (lowN (verX zs ((cellsL zs).getD k [])) (verD zs ((cellsL zs).getD k []))), .int .i64 (lowD (verX zs ((cellsL zs).getD k [])) (verD zs ((cellsL zs).getD k []))), .int .i64 (lowN (verY zs ((cellsL zs).getD k [])) (verD zs ((cellsL zs).getD k []))), .int .i64 (lowD (verY zs ((cellsL zs).getD k [])) (verD zs ((cellsL zs).getD k [])))]) ∧ Ext w w' := by
  have hl := subD_len h
  have hx := cell_at hk
  obtain ⟨hm3, hcn, hD⟩ := corn_three hZ hx
  have hso := h.of
  obtain ⟨pa, pc, s, e, b, m, B1, ps, qs, h1, h2, h3, h4, h5, h6, h7, h8, h9⟩ := h
  have hc0 := h1.c0
  have hc2 := h1.c2
  have hgl := h1.lt
  obtain ⟨sa, sc, rfl⟩ := h5.form
  have hps : ps.length = (cellsL zs).length := by rw [← h6, List.length_map]
  have hva := h5.va
  rw [h6] at hva
  obtain ⟨ak, ck, hvk, hrk⟩ := hva.at k hk
  obtain ⟨gc, rfl, _, hgc2⟩ := own_head h5.1 (by omega)
  have hck := (h5.1.cellAt k (by omega)).trans hvk
  rw [hps] at hc2
  have hn12 : n ≤ 12 := by rw [← hl]; exact hZ.1
  obtain ⟨i2, ci, _⟩ := hcn 0 (by omega)
  obtain ⟨j2, cj, _⟩ := hcn 1 (by omega)
  obtain ⟨k2, ck2, _⟩ := hcn 2 (by omega)
  obtain ⟨ad, off, rfl, hc⟩ := term_cells h3 (by omega)
  have fA := hc _ (show corN zs ((cellsL zs).getD k []) 0 < n by omega)
  have fB := hc _ (show corN zs ((cellsL zs).getD k []) 1 < n by omega)
  have fC := hc _ (show corN zs ((cellsL zs).getD k []) 2 < n by omega)
  have bA := hZ.2.1 _ i2
  have bB := hZ.2.1 _ j2
  have bC := hZ.2.1 _ k2
  unfold TermB at bA bB bC
  have HZ := Lib.hid hZ
  have HX := Lib.hid hx
  have HRK := Lib.hid hrk
  have HSO := Lib.hid hso
  have HVX := Lib.hid (show verX zs ((cellsL zs).getD k []) = vX _ _ _ _ _ _ from rfl)
  have HVY := Lib.hid (show verY zs ((cellsL zs).getD k []) = vY _ _ _ _ _ _ from rfl)
  have HVD := Lib.hid (show verD zs ((cellsL zs).getD k []) = turnI _ _ _ from rfl)
  have hkN : (k : Int) < ((cellsL zs).length : Int) := by omega
  obtain ⟨N, hN⟩ : ∃ N, N = (cellsL zs).length := ⟨_, rfl⟩
  rw [← hN] at hc2 hkN
  clear hN h1 h2 h3 h4 h5 h6 h7 h8 h9 hps hva hvk hrk hso hc hcn hk hx hZ
  have HL := Lib.hid hl
  clear hl
  generalize (cellsL zs).getD k [] = x at *
  obtain ⟨N1, hN1⟩ : ∃ z, z = lowN (verX zs x) (verD zs x) := ⟨_, rfl⟩
  obtain ⟨D1, hD1⟩ : ∃ z, z = lowD (verX zs x) (verD zs x) := ⟨_, rfl⟩
  obtain ⟨N2, hN2⟩ : ∃ z, z = lowN (verY zs x) (verD zs x) := ⟨_, rfl⟩
  obtain ⟨D2, hD2⟩ : ∃ z, z = lowD (verY zs x) (verD zs x) := ⟨_, rfl⟩
  rw [← hN1, ← hD1, ← hN2, ← hD2]
  rw [HVX.out, HVD.out] at hN1 hD1
  rw [HVY.out, HVD.out] at hN2 hD2
  rw [HVD.out] at hD
  unfold vX turnI at hN1 hD1
  unfold vY turnI at hN2 hD2
  unfold turnI at hD
  have HN1 := Lib.hid hN1
  have HD1 := Lib.hid hD1
  have HN2 := Lib.hid hN2
  have HD2 := Lib.hid hD2
  clear hN1 hD1 hN2 hD2 HVX HVY HVD
  have HS := (Has.new w #[.int .i64 0, .int .i64 0, .int .i64 0, .int .i64 0] 37)
  have Sc0 := Ext.keeps (HS 0 _ rfl)
  have Sc1 := Ext.keeps (HS 1 _ rfl)
  have Sc2 := Ext.keeps (HS 2 _ rfl)
  have Sc3 := Ext.keeps (HS 3 _ rfl)
  have Sf0 := Ext.thaws (w := (w.alloc (.cells #[.int .i64 0, .int .i64 0, .int .i64 0, .int .i64 0] 37))) (HS 0 _ rfl) (by simp)
  have Sf1 := Ext.thaws (w := (w.alloc (.cells #[.int .i64 0, .int .i64 0, .int .i64 0, .int .i64 0] 37))) (HS 1 _ rfl) (by simp)
  have Sf2 := Ext.thaws (w := (w.alloc (.cells #[.int .i64 0, .int .i64 0, .int .i64 0, .int .i64 0] 37))) (HS 2 _ rfl) (by simp)
  have Sf3 := Ext.thaws (w := (w.alloc (.cells #[.int .i64 0, .int .i64 0, .int .i64 0, .int .i64 0] 37))) (HS 3 _ rfl) (by simp)
  clear HS
  have hE : Ext (w.alloc (.cells #[.int .i64 0, .int .i64 0, .int .i64 0, .int .i64 0] 37)) (w.alloc (.cells #[.int .i64 0, .int .i64 0, .int .i64 0, .int .i64 0] 37)) := Ext.refl _
  go_enter Tryz.func32, Tryz.ntmps32
  go_wp2_with fail
  refine (corners_any g (some ⟨ad, off, none⟩) ak n c x.length ck zs HZ.out x HX.out (w.alloc (.cells #[.int .i64 0, .int .i64 0, .int .i64 0, .int .i64 0] 37)) (SubOf.ext (by repeat (first | exact Ext.refl _ | assumption | apply Ext.alloc | apply Ext.drew | apply Ext.drewN | (refine Ext.trans ?_ (by assumption)) | (refine Ext.setCell ?_ (by (try simp) <;> omega) _))) HSO.out) (Reads.ext (by repeat (first | exact Ext.refl _ | assumption | apply Ext.alloc | apply Ext.drew | apply Ext.drewN | (refine Ext.trans ?_ (by assumption)) | (refine Ext.setCell ?_ (by (try simp) <;> omega) _))) HRK.out)).mono ?_
  rintro e w1 ⟨a1, c1, rfl, ho1, hE1⟩
  obtain ⟨cb, rfl, hcb, _⟩ := own_head ho1 (by omega)
  have k0 := (ho1.cellAt 0 (by rw [Nat.mul_one]; omega)).trans (iv_at (zs := cornC zs x) (k := 0) (by omega))
  have k1 := (ho1.cellAt 1 (by rw [Nat.mul_one]; omega)).trans (iv_at (zs := cornC zs x) (k := 1) (by omega))
  have k2' := (ho1.cellAt 2 (by rw [Nat.mul_one]; omega)).trans (iv_at (zs := cornC zs x) (k := 2) (by omega))
  rw [ci] at k0
  rw [cj] at k1
  rw [ck2] at k2'
  have hEw : Ext w w1 := Ext.trans (by repeat (first | exact Ext.refl _ | assumption | apply Ext.alloc | apply Ext.drew | apply Ext.drewN | (refine Ext.trans ?_ (by assumption)) | (refine Ext.setCell ?_ (by (try simp) <;> omega) _))) hE1
  replace Sc0 := Ext.rebase hE1 Sc0
  replace Sf0 := Ext.rebase hE1 Sf0
  replace Sc1 := Ext.rebase hE1 Sc1
  replace Sf1 := Ext.rebase hE1 Sf1
  replace Sc2 := Ext.rebase hE1 Sc2
  replace Sf2 := Ext.rebase hE1 Sf2
  replace Sc3 := Ext.rebase hE1 Sc3
  replace Sf3 := Ext.rebase hE1 Sf3
  have Gc0 := Ext.keeps (hEw.keep hc0)
  have Kc0 := Ext.keeps k0
  have Kc1 := Ext.keeps k1
  have Kc2 := Ext.keeps k2'
  have HEw := Lib.hid hEw
  have hM0 : (0 : Int) < ((cornC zs x).length : Int) := by omega
  have hM1 : (1 : Int) < ((cornC zs x).length : Int) := by omega
  have hM2 : (2 : Int) < ((cornC zs x).length : Int) := by omega
  have hN0 : 0 < (cornC zs x).length := by omega
  have hN1 : 1 < (cornC zs x).length := by omega
  have hN2 : 2 < (cornC zs x).length := by omega
  obtain ⟨fA0, fA1, fA2⟩ := fA
  obtain ⟨fB0, fB1, fB2⟩ := fB
  obtain ⟨fC0, fC1, fC2⟩ := fC
  have Ac0 := Ext.keeps (hEw.keep fA0)
  have Ac1 := Ext.keeps (hEw.keep fA1)
  have Ac2 := Ext.keeps (hEw.keep fA2)
  have Bc0 := Ext.keeps (hEw.keep fB0)
  have Bc1 := Ext.keeps (hEw.keep fB1)
  have Bc2 := Ext.keeps (hEw.keep fB2)
  have Cc0 := Ext.keeps (hEw.keep fC0)
  have Cc1 := Ext.keeps (hEw.keep fC1)
  have Cc2 := Ext.keeps (hEw.keep fC2)
  clear hE ho1 hE1 hEw hc0 hc2 hck k0 k1 k2' fA0 fA1 fA2 fB0 fB1 fB2 fC0 fC1 fC2 ci cj ck2 HRK HSO HX HZ hgc2 hgl hkN hcb
  generalize pI zs (corN zs x 0) = A at *
  generalize pI zs (corN zs x 1) = B at *
  generalize pI zs (corN zs x 2) = C at *
  generalize cI zs (corN zs x 0) = a at *
  generalize cI zs (corN zs x 1) = b at *
  generalize cI zs (corN zs x 2) = c' at *
  have hl := HL.out
  have hi3 : (corN zs x 0 : Int) < (n : Int) := by omega
  have hj3 : (corN zs x 1 : Int) < (n : Int) := by omega
  have hk3 : (corN zs x 2 : Int) < (n : Int) := by omega
  clear hl HL
  generalize corN zs x 0 = i at *
  generalize corN zs x 1 = j at *
  generalize corN zs x 2 = l at *
  generalize (cornC zs x).length = M at *
  have hAB : (-6 ≤ B.1 - A.1 ∧ B.1 - A.1 ≤ 6) ∧ (-6 ≤ B.2 - A.2 ∧ B.2 - A.2 ≤ 6) := by omega
  have hAC : (-6 ≤ C.1 - A.1 ∧ C.1 - A.1 ≤ 6) ∧ (-6 ≤ C.2 - A.2 ∧ C.2 - A.2 ≤ 6) := by omega
  go_wp2
  refine wp_region_order 27 [(6, .cells #[.int .i64 0, .int .i64 0, .int .i64 0] 41), (7, .cells #[.int .i64 0, .int .i64 0, .int .i64 0] 41), (8, .cells #[.int .i64 0, .int .i64 0, .int .i64 0] 41)] 3 (fun m => ⟨m - 24, if m = 30 then 29 else if m = 31 then 38 else 47, .cells #[.int .i64 0, .int .i64 0, .int .i64 0] 41, ok3, cellsOf 41⟩) w1 (Ext.refl _) (by kernel_rfl) (by kernel_rfl) rfl ?_ ?_
  · simp only [List.drop_succ_cons, List.drop_zero]
    exact ⟨⟨rfl, rfl, fun a w => by simp [go_sem]⟩, ⟨rfl, rfl, fun a w => by simp [go_sem]⟩, ⟨rfl, rfl, fun a w => by simp [go_sem]⟩, trivial⟩
  · simp only [List.take_succ_cons, List.take_zero]
    refine walkE_read (v := .pointer (some ⟨g, 0, none⟩)) rfl (fun w' hw' => by simp [go_sem]) ?_
    simp only [Act.put, List.setIfInBounds_toArray, List.set_cons_succ, List.set_cons_zero]
    refine walkE_read (v := .pointer (some ⟨g, 0, none⟩)) rfl (fun w' hw' => by simp [go_sem]) ?_
    simp only [Act.put, List.setIfInBounds_toArray, List.set_cons_succ, List.set_cons_zero]
    refine walkE_read (v := .pointer (some ⟨g, 0, none⟩)) rfl (fun w' hw' => by simp [go_sem]) ?_
    simp only [Act.put, List.setIfInBounds_toArray, List.set_cons_succ, List.set_cons_zero]
    refine walkE_read (v := .slice (some ⟨ad, off, none⟩) n c) rfl (fun w' hw' => by have g0 := Gc0 w' hw'; simp [go_sem, g0]) ?_
    simp only [Act.put, List.setIfInBounds_toArray, List.set_cons_succ, List.set_cons_zero]
    refine walkE_read (v := .slice (some ⟨cb, 0, none⟩) M c1) rfl (fun w' hw' => by simp [go_sem]) ?_
    simp only [Act.put, List.setIfInBounds_toArray, List.set_cons_succ, List.set_cons_zero]
    refine walkE_read (v := .pointer (some ⟨cb, 0, none⟩)) rfl (fun w' hw' => by simp [go_sem, hN0]) ?_
    simp only [Act.put, List.setIfInBounds_toArray, List.set_cons_succ, List.set_cons_zero]
    refine walkE_read (v := .int .i64 i) rfl (fun w' hw' => by have g0 := Kc0 w' hw'; simp [go_sem, g0]) ?_
    simp only [Act.put, List.setIfInBounds_toArray, List.set_cons_succ, List.set_cons_zero]
    refine walkE_read (v := .pointer (some ⟨ad, off + i * 3, none⟩)) rfl (fun w' hw' => by simp [go_sem, hi3]) ?_
    simp only [Act.put, List.setIfInBounds_toArray, List.set_cons_succ, List.set_cons_zero]
    refine walkE_read (v := .agg #[.int .i64 A.1, .int .i64 A.2, .int .i64 a]) rfl (fun w' hw' => by have g0 := Ac0 w' hw'; have g1 := Ac1 w' hw'; have g2 := Ac2 w' hw'; simp [go_sem, g0, g1, g2]) ?_
    simp only [Act.put, List.setIfInBounds_toArray, List.set_cons_succ, List.set_cons_zero]
    refine walkE_read (v := .pointer (some ⟨g, 0, none⟩)) rfl (fun w' hw' => by simp [go_sem]) ?_
    simp only [Act.put, List.setIfInBounds_toArray, List.set_cons_succ, List.set_cons_zero]
    refine walkE_read (v := .pointer (some ⟨g, 0, none⟩)) rfl (fun w' hw' => by simp [go_sem]) ?_
    simp only [Act.put, List.setIfInBounds_toArray, List.set_cons_succ, List.set_cons_zero]
    refine walkE_read (v := .pointer (some ⟨g, 0, none⟩)) rfl (fun w' hw' => by simp [go_sem]) ?_
    simp only [Act.put, List.setIfInBounds_toArray, List.set_cons_succ, List.set_cons_zero]
    refine walkE_read (v := .slice (some ⟨ad, off, none⟩) n c) rfl (fun w' hw' => by have g0 := Gc0 w' hw'; simp [go_sem, g0]) ?_
    simp only [Act.put, List.setIfInBounds_toArray, List.set_cons_succ, List.set_cons_zero]
    refine walkE_read (v := .slice (some ⟨cb, 0, none⟩) M c1) rfl (fun w' hw' => by simp [go_sem]) ?_
    simp only [Act.put, List.setIfInBounds_toArray, List.set_cons_succ, List.set_cons_zero]
    refine walkE_read (v := .pointer (some ⟨cb, 1, none⟩)) rfl (fun w' hw' => by simp [go_sem, hM1]) ?_
    simp only [Act.put, List.setIfInBounds_toArray, List.set_cons_succ, List.set_cons_zero]
    refine walkE_read (v := .int .i64 j) rfl (fun w' hw' => by have g0 := Kc1 w' hw'; simp [go_sem, g0]) ?_
    simp only [Act.put, List.setIfInBounds_toArray, List.set_cons_succ, List.set_cons_zero]
    refine walkE_read (v := .pointer (some ⟨ad, off + j * 3, none⟩)) rfl (fun w' hw' => by simp [go_sem, hj3]) ?_
    simp only [Act.put, List.setIfInBounds_toArray, List.set_cons_succ, List.set_cons_zero]
    refine walkE_read (v := .agg #[.int .i64 B.1, .int .i64 B.2, .int .i64 b]) rfl (fun w' hw' => by have g0 := Bc0 w' hw'; have g1 := Bc1 w' hw'; have g2 := Bc2 w' hw'; simp [go_sem, g0, g1, g2]) ?_
    simp only [Act.put, List.setIfInBounds_toArray, List.set_cons_succ, List.set_cons_zero]
    refine walkE_read (v := .pointer (some ⟨g, 0, none⟩)) rfl (fun w' hw' => by simp [go_sem]) ?_
    simp only [Act.put, List.setIfInBounds_toArray, List.set_cons_succ, List.set_cons_zero]
    refine walkE_read (v := .pointer (some ⟨g, 0, none⟩)) rfl (fun w' hw' => by simp [go_sem]) ?_
    simp only [Act.put, List.setIfInBounds_toArray, List.set_cons_succ, List.set_cons_zero]
    refine walkE_read (v := .pointer (some ⟨g, 0, none⟩)) rfl (fun w' hw' => by simp [go_sem]) ?_
    simp only [Act.put, List.setIfInBounds_toArray, List.set_cons_succ, List.set_cons_zero]
    refine walkE_read (v := .slice (some ⟨ad, off, none⟩) n c) rfl (fun w' hw' => by have g0 := Gc0 w' hw'; simp [go_sem, g0]) ?_
    simp only [Act.put, List.setIfInBounds_toArray, List.set_cons_succ, List.set_cons_zero]
    refine walkE_read (v := .slice (some ⟨cb, 0, none⟩) M c1) rfl (fun w' hw' => by simp [go_sem]) ?_
    simp only [Act.put, List.setIfInBounds_toArray, List.set_cons_succ, List.set_cons_zero]
    refine walkE_read (v := .pointer (some ⟨cb, 2, none⟩)) rfl (fun w' hw' => by simp [go_sem, hM2]) ?_
    simp only [Act.put, List.setIfInBounds_toArray, List.set_cons_succ, List.set_cons_zero]
    refine walkE_read (v := .int .i64 l) rfl (fun w' hw' => by have g0 := Kc2 w' hw'; simp [go_sem, g0]) ?_
    simp only [Act.put, List.setIfInBounds_toArray, List.set_cons_succ, List.set_cons_zero]
    refine walkE_read (v := .pointer (some ⟨ad, off + l * 3, none⟩)) rfl (fun w' hw' => by simp [go_sem, hk3]) ?_
    simp only [Act.put, List.setIfInBounds_toArray, List.set_cons_succ, List.set_cons_zero]
    refine walkE_read (v := .agg #[.int .i64 C.1, .int .i64 C.2, .int .i64 c']) rfl (fun w' hw' => by have g0 := Cc0 w' hw'; have g1 := Cc1 w' hw'; have g2 := Cc2 w' hw'; simp [go_sem, g0, g1, g2]) ?_
    simp only [Act.put, List.setIfInBounds_toArray, List.set_cons_succ, List.set_cons_zero]
    simp only [walkE, tailB, storesE, List.length_cons, List.length_nil, Nat.reduceAdd, List.map_nil, List.map_cons]
    intro x0 n0 m0 x1 n1 m1 x2 n2 m2
    simp only [List.mem_cons, List.not_mem_nil, not_or, or_false] at m1 m2
    refine ⟨x0, .cells #[.int .i64 A.1, .int .i64 A.2, .int .i64 a] 41, ⟨_, rfl, store_term _ _ _ _ _ _, n0, rfl, by simp, ⟨_, _, _, rfl⟩, rfl⟩, fun j' b' h1 h2 h3 => by
      have h5 : j' < 33 := h2
      have h4 : j' = 31 ∨ j' = 32 := by omega
      rcases h4 with rfl | rfl
      · have h6 := ptr_inj (show ptr x1 = ptr b' from h3)
        omega
      · have h6 := ptr_inj (show ptr x2 = ptr b' from h3)
        omega, ?_⟩
    refine ⟨x1, .cells #[.int .i64 B.1, .int .i64 B.2, .int .i64 b] 41, ⟨_, rfl, store_term _ _ _ _ _ _, n1, rfl, by simp [upd, *], ⟨_, _, _, rfl⟩, rfl⟩, fun j' b' h1 h2 h3 => by
      have h5 : j' < 33 := h2
      have h4 : j' = 32 := by omega
      rcases h4 with rfl
      · have h6 := ptr_inj (show ptr x2 = ptr b' from h3)
        omega, ?_⟩
    refine ⟨x2, .cells #[.int .i64 C.1, .int .i64 C.2, .int .i64 c'] 41, ⟨_, rfl, store_term _ _ _ _ _ _, n2, rfl, by simp [upd, *], ⟨_, _, _, rfl⟩, rfl⟩, fun j' b' h1 h2 h3 => by
      have h5 : j' < 33 := h2
      omega, ?_⟩
    intro v hE1 hB1
    simp only [Act.put, List.setIfInBounds_toArray, List.set_cons_succ, List.set_cons_zero]
    simp only [ptr]
    have d1 := Ne.symm m1
    have d2 := Ne.symm m2.1
    have d3 := Ne.symm m2.2
    have h0 := boxed_has hB1 (b := x0) (cs := #[.int .i64 A.1, .int .i64 A.2, .int .i64 a]) (t := 41) (by simp [upd, *])
    have f00 := Ext.keeps (h0 0 _ rfl)
    have f01 := Ext.keeps (h0 1 _ rfl)
    have f02 := Ext.keeps (h0 2 _ rfl)
    clear h0
    have h1 := boxed_has hB1 (b := x1) (cs := #[.int .i64 B.1, .int .i64 B.2, .int .i64 b]) (t := 41) (by simp [upd, *])
    have f10 := Ext.keeps (h1 0 _ rfl)
    have f11 := Ext.keeps (h1 1 _ rfl)
    have f12 := Ext.keeps (h1 2 _ rfl)
    clear h1
    have h2 := boxed_has hB1 (b := x2) (cs := #[.int .i64 C.1, .int .i64 C.2, .int .i64 c']) (t := 41) (by simp [upd, *])
    have f20 := Ext.keeps (h2 0 _ rfl)
    have f21 := Ext.keeps (h2 1 _ rfl)
    have f22 := Ext.keeps (h2 2 _ rfl)
    clear h2
    replace Sc0 := Ext.rebase hE1 Sc0
    replace Sf0 := Ext.rebase hE1 Sf0
    replace Sc1 := Ext.rebase hE1 Sc1
    replace Sf1 := Ext.rebase hE1 Sf1
    replace Sc2 := Ext.rebase hE1 Sc2
    replace Sf2 := Ext.rebase hE1 Sf2
    replace Sc3 := Ext.rebase hE1 Sc3
    replace Sf3 := Ext.rebase hE1 Sf3
    have HEV := Lib.hid (HEw.out.trans hE1)
    clear hB1 n0 n1 n2 m0 m1 m2 d1 d2 d3 hE1 HEw Gc0 Kc0 Kc1 Kc2 Ac0 Ac1 Ac2 Bc0 Bc1 Bc2 Cc0 Cc1 Cc2
    go_wp2
    refine wp_region_order 22 [(9, .cells #[.int .i64 0, .int .i64 0] 55), (10, .cells #[.int .i64 0, .int .i64 0] 55)] 2 (fun m => ⟨m - 15, if m = 24 then 58 else 69, .cells #[.int .i64 0, .int .i64 0] 55, ok2, cellsOf 55⟩) v (Ext.refl _) (by kernel_rfl) (by kernel_rfl) rfl ?_ ?_
    · simp only [List.drop_succ_cons, List.drop_zero]
      exact ⟨⟨rfl, rfl, fun a w => by simp [go_sem]⟩, ⟨rfl, rfl, fun a w => by simp [go_sem]⟩, trivial⟩
    · simp only [List.take_succ_cons, List.take_zero]
      refine walkE_read (v := .pointer (some ⟨x1, 0, none⟩)) rfl (fun w' hw' => by simp [go_sem]) ?_
      simp only [Act.put, List.setIfInBounds_toArray, List.set_cons_succ, List.set_cons_zero]
      refine walkE_read (v := .int .i64 B.1) rfl (fun w' hw' => by have g0 := f10 w' hw'; simp [go_sem, g0]) ?_
      simp only [Act.put, List.setIfInBounds_toArray, List.set_cons_succ, List.set_cons_zero]
      refine walkE_read (v := .pointer (some ⟨x0, 0, none⟩)) rfl (fun w' hw' => by simp [go_sem]) ?_
      simp only [Act.put, List.setIfInBounds_toArray, List.set_cons_succ, List.set_cons_zero]
      refine walkE_read (v := .int .i64 A.1) rfl (fun w' hw' => by have g0 := f00 w' hw'; simp [go_sem, g0]) ?_
      simp only [Act.put, List.setIfInBounds_toArray, List.set_cons_succ, List.set_cons_zero]
      refine walkE_read (v := .int .i64 (B.1 - A.1)) rfl (fun w' hw' => by simp [go_sem]; exact wrap_i64 (by omega) (by omega)) ?_
      simp only [Act.put, List.setIfInBounds_toArray, List.set_cons_succ, List.set_cons_zero]
      refine walkE_read (v := .pointer (some ⟨x1, 1, none⟩)) rfl (fun w' hw' => by simp [go_sem]) ?_
      simp only [Act.put, List.setIfInBounds_toArray, List.set_cons_succ, List.set_cons_zero]
      refine walkE_read (v := .int .i64 B.2) rfl (fun w' hw' => by have g0 := f11 w' hw'; simp [go_sem, g0]) ?_
      simp only [Act.put, List.setIfInBounds_toArray, List.set_cons_succ, List.set_cons_zero]
      refine walkE_read (v := .pointer (some ⟨x0, 1, none⟩)) rfl (fun w' hw' => by simp [go_sem]) ?_
      simp only [Act.put, List.setIfInBounds_toArray, List.set_cons_succ, List.set_cons_zero]
      refine walkE_read (v := .int .i64 A.2) rfl (fun w' hw' => by have g0 := f01 w' hw'; simp [go_sem, g0]) ?_
      simp only [Act.put, List.setIfInBounds_toArray, List.set_cons_succ, List.set_cons_zero]
      refine walkE_read (v := .int .i64 (B.2 - A.2)) rfl (fun w' hw' => by simp [go_sem]; exact wrap_i64 (by omega) (by omega)) ?_
      simp only [Act.put, List.setIfInBounds_toArray, List.set_cons_succ, List.set_cons_zero]
      refine walkE_read (v := .agg #[.int .i64 (B.1 - A.1), .int .i64 (B.2 - A.2)]) rfl (fun w' hw' => by simp [go_sem]) ?_
      simp only [Act.put, List.setIfInBounds_toArray, List.set_cons_succ, List.set_cons_zero]
      refine walkE_read (v := .pointer (some ⟨x2, 0, none⟩)) rfl (fun w' hw' => by simp [go_sem]) ?_
      simp only [Act.put, List.setIfInBounds_toArray, List.set_cons_succ, List.set_cons_zero]
      refine walkE_read (v := .int .i64 C.1) rfl (fun w' hw' => by have g0 := f20 w' hw'; simp [go_sem, g0]) ?_
      simp only [Act.put, List.setIfInBounds_toArray, List.set_cons_succ, List.set_cons_zero]
      refine walkE_read (v := .pointer (some ⟨x0, 0, none⟩)) rfl (fun w' hw' => by simp [go_sem]) ?_
      simp only [Act.put, List.setIfInBounds_toArray, List.set_cons_succ, List.set_cons_zero]
      refine walkE_read (v := .int .i64 A.1) rfl (fun w' hw' => by have g0 := f00 w' hw'; simp [go_sem, g0]) ?_
      simp only [Act.put, List.setIfInBounds_toArray, List.set_cons_succ, List.set_cons_zero]
      refine walkE_read (v := .int .i64 (C.1 - A.1)) rfl (fun w' hw' => by simp [go_sem]; exact wrap_i64 (by omega) (by omega)) ?_
      simp only [Act.put, List.setIfInBounds_toArray, List.set_cons_succ, List.set_cons_zero]
      refine walkE_read (v := .pointer (some ⟨x2, 1, none⟩)) rfl (fun w' hw' => by simp [go_sem]) ?_
      simp only [Act.put, List.setIfInBounds_toArray, List.set_cons_succ, List.set_cons_zero]
      refine walkE_read (v := .int .i64 C.2) rfl (fun w' hw' => by have g0 := f21 w' hw'; simp [go_sem, g0]) ?_
      simp only [Act.put, List.setIfInBounds_toArray, List.set_cons_succ, List.set_cons_zero]
      refine walkE_read (v := .pointer (some ⟨x0, 1, none⟩)) rfl (fun w' hw' => by simp [go_sem]) ?_
      simp only [Act.put, List.setIfInBounds_toArray, List.set_cons_succ, List.set_cons_zero]
      refine walkE_read (v := .int .i64 A.2) rfl (fun w' hw' => by have g0 := f01 w' hw'; simp [go_sem, g0]) ?_
      simp only [Act.put, List.setIfInBounds_toArray, List.set_cons_succ, List.set_cons_zero]
      refine walkE_read (v := .int .i64 (C.2 - A.2)) rfl (fun w' hw' => by simp [go_sem]; exact wrap_i64 (by omega) (by omega)) ?_
      simp only [Act.put, List.setIfInBounds_toArray, List.set_cons_succ, List.set_cons_zero]
      refine walkE_read (v := .agg #[.int .i64 (C.1 - A.1), .int .i64 (C.2 - A.2)]) rfl (fun w' hw' => by simp [go_sem]) ?_
      simp only [Act.put, List.setIfInBounds_toArray, List.set_cons_succ, List.set_cons_zero]
      simp only [walkE, tailB, storesE, List.length_cons, List.length_nil, Nat.reduceAdd, List.map_nil, List.map_cons]
      intro y0 n0 m0 y1 n1 m1
      simp only [List.mem_cons, List.not_mem_nil, or_false] at m1
      refine ⟨y0, .cells #[.int .i64 (B.1 - A.1), .int .i64 (B.2 - A.2)] 55, ⟨_, rfl, store_point _ _ _ _ _ _, n0, rfl, by simp, ⟨_, _, rfl⟩, rfl⟩, fun j' b' h1 h2 h3 => by
        have h5 : j' < 26 := h2
        have h4 : j' = 25 := by omega
        rcases h4 with rfl
        · have h6 := ptr_inj (show ptr y1 = ptr b' from h3)
          omega, ?_⟩
      refine ⟨y1, .cells #[.int .i64 (C.1 - A.1), .int .i64 (C.2 - A.2)] 55, ⟨_, rfl, store_point _ _ _ _ _ _, n1, rfl, by simp [upd, *], ⟨_, _, rfl⟩, rfl⟩, fun j' b' h1 h2 h3 => by
        have h5 : j' < 26 := h2
        omega, ?_⟩
      intro u hE1 hB1
      simp only [Act.put, List.setIfInBounds_toArray, List.set_cons_succ, List.set_cons_zero]
      simp only [ptr]
      have d1 := Ne.symm m1
      have h0 := boxed_has hB1 (b := y0) (cs := #[.int .i64 (B.1 - A.1), .int .i64 (B.2 - A.2)]) (t := 55) (by simp [upd, *])
      have Y0c0 := Ext.keeps (h0 0 _ rfl)
      have z00 := h0 0 _ rfl
      have Y0c1 := Ext.keeps (h0 1 _ rfl)
      have z01 := h0 1 _ rfl
      clear h0
      have h1 := boxed_has hB1 (b := y1) (cs := #[.int .i64 (C.1 - A.1), .int .i64 (C.2 - A.2)]) (t := 55) (by simp [upd, *])
      have Y1c0 := Ext.keeps (h1 0 _ rfl)
      have z10 := h1 0 _ rfl
      have Y1c1 := Ext.keeps (h1 1 _ rfl)
      have z11 := h1 1 _ rfl
      clear h1
      have X0c0 := Ext.rebase hE1 f02
      have X1c0 := Ext.rebase hE1 f12
      have X2c0 := Ext.rebase hE1 f22
      replace Sc0 := Ext.rebase hE1 Sc0
      replace Sf0 := Ext.rebase hE1 Sf0
      replace Sc1 := Ext.rebase hE1 Sc1
      replace Sf1 := Ext.rebase hE1 Sf1
      replace Sc2 := Ext.rebase hE1 Sc2
      replace Sf2 := Ext.rebase hE1 Sf2
      replace Sc3 := Ext.rebase hE1 Sc3
      replace Sf3 := Ext.rebase hE1 Sf3
      have HE3 := Lib.hid (HEV.out.trans hE1)
      clear hE1 hB1 n0 n1 m0 m1 d1 HEV f00 f01 f02 f10 f11 f12 f20 f21 f22
      have hdb := det_bd6 hAB hAC
      generalize B.1 - A.1 = r1 at *
      generalize B.2 - A.2 = r2 at *
      generalize C.1 - A.1 = s1 at *
      generalize C.2 - A.2 = s2 at *
      go_wp2_with fail
      refine (cross_any r1 r2 s1 s2 (by omega) (by omega) (by omega) (by omega) (by omega) (by omega) (by omega) (by omega) u).mono ?_
      rintro e w5 ⟨rfl, hE5⟩
      generalize detI r1 r2 s1 s2 = D at *
      replace X0c0 := Ext.rebase hE5 X0c0
      replace X1c0 := Ext.rebase hE5 X1c0
      replace X2c0 := Ext.rebase hE5 X2c0
      replace Y0c0 := Ext.rebase hE5 Y0c0
      replace Y0c1 := Ext.rebase hE5 Y0c1
      replace Y1c0 := Ext.rebase hE5 Y1c0
      replace Y1c1 := Ext.rebase hE5 Y1c1
      replace Sc0 := Ext.rebase hE5 Sc0
      replace Sf0 := Ext.rebase hE5 Sf0
      replace Sc1 := Ext.rebase hE5 Sc1
      replace Sf1 := Ext.rebase hE5 Sf1
      replace Sc2 := Ext.rebase hE5 Sc2
      replace Sf2 := Ext.rebase hE5 Sf2
      replace Sc3 := Ext.rebase hE5 Sc3
      replace Sf3 := Ext.rebase hE5 Sf3
      have HE5 := Lib.hid (HE3.out.trans hE5)
      clear hE5 HE3 z00 z01 z10 z11
      have p1 := mul_bd (A := 2000000) (D := 6) (a := a - b) (d := s2) (by omega) (by omega) (by omega) (by omega)
      have p2 := mul_bd (A := 2000000) (D := 6) (a := a - c') (d := r2) (by omega) (by omega) (by omega) (by omega)
      have p3 := mul_bd (A := 2000000) (D := 6) (a := a - c') (d := r1) (by omega) (by omega) (by omega) (by omega)
      have p4 := mul_bd (A := 2000000) (D := 6) (a := a - b) (d := s1) (by omega) (by omega) (by omega) (by omega)
      have HLX := Lib.hid (fun s : Past w5 => lowest_any ((a - b) * s2 - (a - c') * r2) D (by omega) (by omega) (by omega) (by omega) (by omega) s.w)
      have HLY := Lib.hid (fun s : Past w5 => lowest_any ((a - c') * r1 - (a - b) * s1) D (by omega) (by omega) (by omega) (by omega) (by omega) s.w)
      have hE : Ext w5 w5 := Ext.refl _
      go_wp2
      have qX00 := fun s : Past w5 => X0c0 s.w s.ext
      have qX10 := fun s : Past w5 => X1c0 s.w s.ext
      have qX20 := fun s : Past w5 => X2c0 s.w s.ext
      have qY00 := fun s : Past w5 => Y0c0 s.w s.ext
      have qY01 := fun s : Past w5 => Y0c1 s.w s.ext
      have qY10 := fun s : Past w5 => Y1c0 s.w s.ext
      have qY11 := fun s : Past w5 => Y1c1 s.w s.ext
      refine wp_region_past_tail 39 w5 (by first | exact hE | exact Ext.alloc hE _ | exact Ext.drew hE | exact Ext.drewN hE _) (by kernel_rfl) (by kernel_rfl) ?_
      simp only [List.take_succ_cons, List.take_zero, List.drop_succ_cons, List.drop_zero]
      repeat (go_big_quiet_step ((first | (go_at_call 53; with_reducible exact past_ext (HLX.out _)) | (go_at_call 53; with_reducible exact past_ext (HLY.out _)))))
      refine wpQuiet_nil ?_
      intro _ hw'
      obtain ⟨⟨w6, hE⟩, hw''⟩ := hw'
      subst hw''
      clear qX00 qX10 qX20 qY00 qY01 qY10 qY11
      have e0 := Sc0 _ hE
      have g0 := Sf0 _ hE
      have e1 := Sc1 _ hE
      have g1 := Sf1 _ hE
      have e2 := Sc2 _ hE
      have g2 := Sf2 _ hE
      have e3 := Sc3 _ hE
      have g3 := Sf3 _ hE
      have HE6 := Lib.hid (HE5.out.trans hE)
      have hsz6 := HE6.out.size
      clear Sc0 Sf0 Sc1 Sf1 Sc2 Sf2 Sc3 Sf3 X0c0 X1c0 X2c0 Y0c0 Y0c1 Y1c0 Y1c1 HLX HLY p1 p2 p3 p4 hE
      rw [← HN1.out, ← HD1.out, ← HN2.out, ← HD2.out]
      go_wp2
      refine bodyPost_ret (v := .agg #[.int .i64 N1, .int .i64 D1, .int .i64 N2, .int .i64 D2]) (by simp [results, Tryz.results32, go_sem, *]) rfl ⟨rfl, ?_⟩
      have hE := HE6.out
      exact (by repeat (first | exact Ext.refl _ | assumption | apply Ext.alloc | apply Ext.drew | apply Ext.drewN | (refine Ext.trans ?_ (by assumption)) | (refine Ext.setCell ?_ (by (try simp) <;> omega) _)))
end Go.Proofs.YtngbdopgdcjdeaaGreatDoor

namespace Go.Proofs.YtngbdopgdcjdeaaGreatDoor
open Go.RowKit

def askB (zs : List (Int × Int × Int)) (i : Int) : Bool := inB i 0 (((cellsL zs).length : Int) - 1)
end Go.Proofs.YtngbdopgdcjdeaaGreatDoor

namespace Go.Proofs.YtngbdopgdcjdeaaGreatDoor
/-- The length of the lattice side between two terms. -/
def sideI (zs : List (Int × Int × Int)) (i k : Nat) : Int := gcdI ((pI zs i).1 - (pI zs k).1) ((pI zs i).2 - (pI zs k).2)
theorem gcdI_swap (a b c d : Int) : gcdI (b - a) (d - c) = gcdI (a - b) (c - d) := by
  rw [← gcdI_absI, ← gcdI_absI (a - b)]
  congr 1 <;> (unfold absI; omega)

end Go.Proofs.YtngbdopgdcjdeaaGreatDoor

namespace Go.Proofs.YtngbdopgdcjdeaaGreatDoor

theorem pos_bd {x u : Int} (h0 : 0 ≤ x) (h6 : x ≤ 6) : x * u ≤ 6 * maxI u 0 := by
  unfold maxI
  rcases Int.lt_or_le 0 u with h | h
  · have := Int.mul_le_mul_of_nonneg_right h6 (show 0 ≤ u by omega)
    split <;> omega
  · have h1 := Int.mul_nonneg h0 (show 0 ≤ -u by omega)
    have h2 : x * -u = -(x * u) := by grind
    split <;> omega
theorem turn_36 {a b c : Int × Int} (ha : (0 ≤ a.1 ∧ a.1 ≤ 6) ∧ (0 ≤ a.2 ∧ a.2 ≤ 6)) (hb : (0 ≤ b.1 ∧ b.1 ≤ 6) ∧ (0 ≤ b.2 ∧ b.2 ≤ 6)) (hc : (0 ≤ c.1 ∧ c.1 ≤ 6) ∧ (0 ≤ c.2 ∧ c.2 ≤ 6)) : turnI a b c ≤ 36 := by
  have e : turnI a b c = a.1 * (b.2 - c.2) + b.1 * (c.2 - a.2) + c.1 * (a.2 - b.2) := by unfold turnI detI; grind
  have h1 := pos_bd (u := b.2 - c.2) ha.1.1 ha.1.2
  have h2 := pos_bd (u := c.2 - a.2) hb.1.1 hb.1.2
  have h3 := pos_bd (u := a.2 - b.2) hc.1.1 hc.1.2
  rw [e]
  unfold maxI at h1 h2 h3
  omega
theorem mil_bd {a u : Int} (h : -1000000 ≤ a ∧ a ≤ 1000000) : -(1000000 * absI u) ≤ a * u ∧ a * u ≤ 1000000 * absI u := by
  unfold absI
  rcases Int.lt_or_le u 0 with h1 | h1
  · have k1 := Int.mul_nonneg (show 0 ≤ 1000000 - a by omega) (show 0 ≤ -u by omega)
    have k2 := Int.mul_nonneg (show 0 ≤ 1000000 + a by omega) (show 0 ≤ -u by omega)
    have e1 : (1000000 - a) * -u = -(1000000 * u) + a * u := by grind
    have e2 : (1000000 + a) * -u = -(1000000 * u) - a * u := by grind
    omega
  · have k1 := Int.mul_nonneg (show 0 ≤ 1000000 - a by omega) h1
    have k2 := Int.mul_nonneg (show 0 ≤ 1000000 + a by omega) h1
    have e1 : (1000000 - a) * u = 1000000 * u - a * u := by grind
    have e2 : (1000000 + a) * u = 1000000 * u + a * u := by grind
    omega
theorem three_bd {a b c u v z : Int} (ha : -1000000 ≤ a ∧ a ≤ 1000000) (hb : -1000000 ≤ b ∧ b ≤ 1000000) (hc : -1000000 ≤ c ∧ c ≤ 1000000) (hu : 0 ≤ u ∧ u ≤ 6) (hv : 0 ≤ v ∧ v ≤ 6) (hz : 0 ≤ z ∧ z ≤ 6) :
    -12000000 ≤ a * (u - v) + b * (z - u) + c * (v - z) ∧ a * (u - v) + b * (z - u) + c * (v - z) ≤ 12000000 := by
  have h1 := mil_bd (u := u - v) ha
  have h2 := mil_bd (u := z - u) hb
  have h3 := mil_bd (u := v - z) hc
  unfold absI at h1 h2 h3
  omega
theorem vX_bd {A B C : Int × Int} {a b c : Int} (ha : (0 ≤ A.1 ∧ A.1 ≤ 6) ∧ (0 ≤ A.2 ∧ A.2 ≤ 6)) (hb : (0 ≤ B.1 ∧ B.1 ≤ 6) ∧ (0 ≤ B.2 ∧ B.2 ≤ 6)) (hc : (0 ≤ C.1 ∧ C.1 ≤ 6) ∧ (0 ≤ C.2 ∧ C.2 ≤ 6)) (ka : -1000000 ≤ a ∧ a ≤ 1000000) (kb : -1000000 ≤ b ∧ b ≤ 1000000) (kc : -1000000 ≤ c ∧ c ≤ 1000000) :
    (-12000000 ≤ vX B C A a b c ∧ vX B C A a b c ≤ 12000000) ∧ (-12000000 ≤ vY B C A a b c ∧ vY B C A a b c ≤ 12000000) := by
  constructor
  · have e : vX B C A a b c = a * (C.2 - B.2) + b * (A.2 - C.2) + c * (B.2 - A.2) := by unfold vX; grind
    rw [e]
    exact three_bd ka kb kc hc.2 hb.2 ha.2
  · have e : vY B C A a b c = a * (B.1 - C.1) + c * (A.1 - B.1) + b * (C.1 - A.1) := by unfold vY; grind
    rw [e]
    exact three_bd ka kc kb hb.1 hc.1 ha.1
/-- The sizes of a vertex: the numerators, the divisor. -/
theorem ver_bd {zs : List (Int × Int × Int)} (hZ : PZ zs) {x : List Int} (hx : IsCell zs x) : (-12000000 ≤ verX zs x ∧ verX zs x ≤ 12000000) ∧ (-12000000 ≤ verY zs x ∧ verY zs x ≤ 12000000) ∧ (0 < verD zs x ∧ verD zs x ≤ 36) := by
  obtain ⟨_, hk, hD⟩ := corn_three hZ hx
  have b0 := hZ.2.1 _ (hk 0 (by omega)).1
  have b1 := hZ.2.1 _ (hk 1 (by omega)).1
  have b2 := hZ.2.1 _ (hk 2 (by omega)).1
  have h := vX_bd b0.1 b1.1 b2.1 b0.2 b1.2 b2.2
  exact ⟨h.1, h.2, hD, turn_36 b0.1 b1.1 b2.1⟩
/-- The parts in lowest terms. -/
theorem low_bd {n d k m : Int} (hn : -k ≤ n ∧ n ≤ k) (hd : 0 < d ∧ d ≤ m) : (-k ≤ lowN n d ∧ lowN n d ≤ k) ∧ (1 ≤ lowD n d ∧ lowD n d ≤ m) := by
  have h1 := tdiv_bd (b := lowG n d) hn
  have h2 := tdiv_bd (b := lowG n d) (show -m ≤ d ∧ d ≤ m by omega)
  exact ⟨h1, (low_gcd hd.1).2, h2.2⟩

end Go.Proofs.YtngbdopgdcjdeaaGreatDoor

namespace Go.Proofs.YtngbdopgdcjdeaaGreatDoor
open Go.RowKit

theorem frMake_ok (n d : Int) (n1 : -1000000000 ≤ n) (n2 : n ≤ 1000000000) (d1 : 0 < d) (d2 : d ≤ 1000000000) (w : World) :
    Calls Tryz.prog 27 #[.int .i64 n, .int .i64 d] w fun r w' => r = .returned (.tuple #[.agg #[.int .i64 (lowN n d), .int .i64 (lowD n d)], .bool true]) ∧ Ext w w' := by
  have h := frMake_any n d (by omega) (by omega) (by omega) (by omega) w
  rw [okM_of d1 ⟨n1, n2⟩ d2] at h
  exact h
theorem vY_comm (B C A : Int × Int) (a b c : Int) : vY B C A a b c = (B.1 - A.1) * (a - c) - (C.1 - A.1) * (a - b) := by unfold vY; rw [Int.mul_comm (a - c), Int.mul_comm (a - b)]
theorem ext_new {w w' : World} {cs : Array Value} {t : TypeId} (h : Ext (w.alloc (.cells cs t)) w') {i : Nat} {v : Value} (hi : cs[i]? = some v) : w'.cell? ⟨w.heap.size, i, none⟩ = some v ∧ w'.frozen? ⟨w.heap.size, i, none⟩ = false :=
  ⟨h.keep (Has.new w cs t i v (by simpa using hi)), by rw [h.frozen _ _ (by simp)]; simp⟩
set_option maxHeartbeats 4000000 in
set_option maxRecDepth 100000 in
theorem cuVertex_any (a ax : Option Addr) (n c nx cx : Nat) (zs : List (Int × Int × Int)) (hZ : PZ zs) (x : List Int) (hx : IsCell zs x) (w : World) (h : Reads w a 3 n (tv zs)) (hxr : Reads w ax 1 nx (iv x)) :
    Calls Tryz.prog 11 #[.slice a n c, .slice ax nx cx] w fun r w' => r = .returned (.agg #[.int .i64 (lowN (verX zs x) (verD zs x)), .int .i64 (lowD (verX zs x) (verD zs x)), .int .i64 (lowN (verY zs x) (verD zs x)), .int .i64 (lowD (verY zs x) (verD zs x))]) ∧ Ext w w' := by
  have hl : zs.length = n := by have := h.1; rw [tv_len] at this; omega
  have hlx : x.length = nx := by have := hxr.1; rw [iv_len] at this; omega
  obtain ⟨hm3, hcn, hD⟩ := corn_three hZ hx
  rw [cornC_len] at hm3
  have hvb := ver_bd hZ hx
  have hn12 : n ≤ 12 := by rw [← hl]; exact hZ.1
  obtain ⟨i2, _, hi⟩ := hcn 0 (by omega)
  obtain ⟨j2, _, hj⟩ := hcn 1 (by omega)
  obtain ⟨k2, _, hk⟩ := hcn 2 (by omega)
  obtain ⟨ad, off, rfl, hc⟩ := term_cells h (by omega)
  have fA := hc _ (show corN zs x 0 < n by omega)
  have fB := hc _ (show corN zs x 1 < n by omega)
  have fC := hc _ (show corN zs x 2 < n by omega)
  have bA := hZ.2.1 _ i2
  have bB := hZ.2.1 _ j2
  have bC := hZ.2.1 _ k2
  have pA := bA.PB
  have pB := bB.PB
  have pC := bC.PB
  unfold TermB at bA bB bC
  have HF := Lib.hid (fun t (ht : t < n) w' (e : Reads w' (some ⟨ad, off, none⟩) 3 n (tv zs)) => ceFind_any (some ⟨ad, off, none⟩) n c zs hn12 hZ.2.2 t ht w' e)
  have HF0 := Lib.hid (HF.out _ (show corN zs x 0 < n by omega))
  have HF1 := Lib.hid (HF.out _ (show corN zs x 1 < n by omega))
  have HF2 := Lib.hid (HF.out _ (show corN zs x 2 < n by omega))
  have HZ := Lib.hid hZ
  have HX := Lib.hid hx
  have HP := Lib.hid hxr
  have HR := Lib.hid h
  have HVX := Lib.hid (show verX zs x = vX _ _ _ _ _ _ from rfl)
  have HVY := Lib.hid (show verY zs x = vY _ _ _ _ _ _ from rfl)
  have HVD := Lib.hid (show verD zs x = turnI _ _ _ from rfl)
  have hi3 : (corN zs x 0 : Int) < (n : Int) := by omega
  have hj3 : (corN zs x 1 : Int) < (n : Int) := by omega
  have hk3 : (corN zs x 2 : Int) < (n : Int) := by omega
  clear hc hcn hx hZ h hxr HF hD hl
  obtain ⟨N1, hN1⟩ : ∃ z, z = lowN (verX zs x) (verD zs x) := ⟨_, rfl⟩
  obtain ⟨D1, hD1⟩ : ∃ z, z = lowD (verX zs x) (verD zs x) := ⟨_, rfl⟩
  obtain ⟨N2, hN2⟩ : ∃ z, z = lowN (verY zs x) (verD zs x) := ⟨_, rfl⟩
  obtain ⟨D2, hD2⟩ : ∃ z, z = lowD (verY zs x) (verD zs x) := ⟨_, rfl⟩
  rw [← hN1, ← hD1, ← hN2, ← hD2]
  rw [HVX.out, HVD.out] at hN1 hD1
  rw [HVY.out, HVD.out] at hN2 hD2
  rw [HVX.out, HVY.out, HVD.out] at hvb
  unfold vX at hN1 hD1 hvb
  rw [vY_comm] at hN2 hD2 hvb
  have HN1 := Lib.hid hN1
  have HD1 := Lib.hid hD1
  have HN2 := Lib.hid hN2
  have HD2 := Lib.hid hD2
  clear hN1 hD1 hN2 hD2
  have HS := (Has.new w #[.int .i64 0, .int .i64 0, .int .i64 0, .int .i64 0] 37)
  have Sc0 := Ext.keeps (HS 0 _ rfl)
  have Sc1 := Ext.keeps (HS 1 _ rfl)
  have Sc2 := Ext.keeps (HS 2 _ rfl)
  have Sc3 := Ext.keeps (HS 3 _ rfl)
  have Sf0 := Ext.thaws (w := (w.alloc (.cells #[.int .i64 0, .int .i64 0, .int .i64 0, .int .i64 0] 37))) (HS 0 _ rfl) (by simp)
  have Sf1 := Ext.thaws (w := (w.alloc (.cells #[.int .i64 0, .int .i64 0, .int .i64 0, .int .i64 0] 37))) (HS 1 _ rfl) (by simp)
  have Sf2 := Ext.thaws (w := (w.alloc (.cells #[.int .i64 0, .int .i64 0, .int .i64 0, .int .i64 0] 37))) (HS 2 _ rfl) (by simp)
  have Sf3 := Ext.thaws (w := (w.alloc (.cells #[.int .i64 0, .int .i64 0, .int .i64 0, .int .i64 0] 37))) (HS 3 _ rfl) (by simp)
  clear HS
  have hE : Ext (w.alloc (.cells #[.int .i64 0, .int .i64 0, .int .i64 0, .int .i64 0] 37)) (w.alloc (.cells #[.int .i64 0, .int .i64 0, .int .i64 0, .int .i64 0] 37)) := Ext.refl _
  go_enter Tryz.func11, Tryz.ntmps11
  go_wp2_with fail
  refine (cePolygon_any (some ⟨ad, off, none⟩) ax n c nx cx zs HZ.out x HX.out (w.alloc (.cells #[.int .i64 0, .int .i64 0, .int .i64 0, .int .i64 0] 37)) (Reads.ext (by repeat (first | exact Ext.refl _ | assumption | apply Ext.alloc | apply Ext.drew | apply Ext.drewN | (refine Ext.trans ?_ (by assumption)) | (refine Ext.setCell ?_ (by (try simp) <;> omega) _))) HR.out) (Reads.ext (by repeat (first | exact Ext.refl _ | assumption | apply Ext.alloc | apply Ext.drew | apply Ext.drewN | (refine Ext.trans ?_ (by assumption)) | (refine Ext.setCell ?_ (by (try simp) <;> omega) _))) HP.out)).mono ?_
  rintro e w1 ⟨a1, c1, rfl, ho1, hE1⟩
  obtain ⟨cb, rfl, hcb, _⟩ := own_head ho1 (by omega)
  have k00 : w1.cell? ⟨cb, 0, none⟩ = some (.int .i64 (pI zs (corN zs x 0)).1) := by rw [← hi]; exact (ho1.cellAt 0 (by omega)).trans (pv_at (zs := hullC zs x) (k := 0) (by omega)).1
  have k01 : w1.cell? ⟨cb, 1, none⟩ = some (.int .i64 (pI zs (corN zs x 0)).2) := by rw [← hi]; exact (ho1.cellAt 1 (by omega)).trans (pv_at (zs := hullC zs x) (k := 0) (by omega)).2
  have k10 : w1.cell? ⟨cb, 2, none⟩ = some (.int .i64 (pI zs (corN zs x 1)).1) := by rw [← hj]; exact (ho1.cellAt 2 (by omega)).trans (pv_at (zs := hullC zs x) (k := 1) (by omega)).1
  have k11 : w1.cell? ⟨cb, 3, none⟩ = some (.int .i64 (pI zs (corN zs x 1)).2) := by rw [← hj]; exact (ho1.cellAt 3 (by omega)).trans (pv_at (zs := hullC zs x) (k := 1) (by omega)).2
  have k20 : w1.cell? ⟨cb, 4, none⟩ = some (.int .i64 (pI zs (corN zs x 2)).1) := by rw [← hk]; exact (ho1.cellAt 4 (by omega)).trans (pv_at (zs := hullC zs x) (k := 2) (by omega)).1
  have k21 : w1.cell? ⟨cb, 5, none⟩ = some (.int .i64 (pI zs (corN zs x 2)).2) := by rw [← hk]; exact (ho1.cellAt 5 (by omega)).trans (pv_at (zs := hullC zs x) (k := 2) (by omega)).2
  have hEw : Ext w w1 := Ext.trans (by repeat (first | exact Ext.refl _ | assumption | apply Ext.alloc | apply Ext.drew | apply Ext.drewN | (refine Ext.trans ?_ (by assumption)) | (refine Ext.setCell ?_ (by (try simp) <;> omega) _))) hE1
  replace Sc0 := Ext.rebase hE1 Sc0
  replace Sf0 := Ext.rebase hE1 Sf0
  replace Sc1 := Ext.rebase hE1 Sc1
  replace Sf1 := Ext.rebase hE1 Sf1
  replace Sc2 := Ext.rebase hE1 Sc2
  replace Sf2 := Ext.rebase hE1 Sf2
  replace Sc3 := Ext.rebase hE1 Sc3
  replace Sf3 := Ext.rebase hE1 Sf3
  have K0c0 := Ext.keeps k00
  have K0c1 := Ext.keeps k01
  have K1c0 := Ext.keeps k10
  have K1c1 := Ext.keeps k11
  have K2c0 := Ext.keeps k20
  have K2c1 := Ext.keeps k21
  have HEw := Lib.hid hEw
  have HR1 := Lib.hid (Reads.ext hEw HR.out)
  have hM0 : 0 < (hullC zs x).length := by omega
  have hM1 : (1 : Int) < ((hullC zs x).length : Int) := by omega
  have hM2 : (2 : Int) < ((hullC zs x).length : Int) := by omega
  obtain ⟨fA0, fA1, fA2⟩ := fA
  obtain ⟨fB0, fB1, fB2⟩ := fB
  obtain ⟨fC0, fC1, fC2⟩ := fC
  have Ac0 := Ext.keeps (hEw.keep fA0)
  have Ac1 := Ext.keeps (hEw.keep fA1)
  have Ac2 := Ext.keeps (hEw.keep fA2)
  have Bc0 := Ext.keeps (hEw.keep fB0)
  have Bc1 := Ext.keeps (hEw.keep fB1)
  have Bc2 := Ext.keeps (hEw.keep fB2)
  have Cc0 := Ext.keeps (hEw.keep fC0)
  have Cc1 := Ext.keeps (hEw.keep fC1)
  have Cc2 := Ext.keeps (hEw.keep fC2)
  have HG0 := Lib.hid (fun w' (e : Ext w1 w') => HF0.out w' (Reads.ext e HR1.out))
  have HG1 := Lib.hid (fun w' (e : Ext w1 w') => HF1.out w' (Reads.ext e HR1.out))
  have HG2 := Lib.hid (fun w' (e : Ext w1 w') => HF2.out w' (Reads.ext e HR1.out))
  clear hE ho1 hE1 hEw k00 k01 k10 k11 k20 k21 fA0 fA1 fA2 fB0 fB1 fB2 fC0 fC1 fC2 hi hj hk HX HZ hcb HVX HVY HVD HF0 HF1 HF2 HP HR HR1 i2 j2 k2 hm3 hlx hn12
  generalize pI zs (corN zs x 0) = A at *
  generalize pI zs (corN zs x 1) = B at *
  generalize pI zs (corN zs x 2) = C at *
  generalize cI zs (corN zs x 0) = a at *
  generalize cI zs (corN zs x 1) = b at *
  generalize cI zs (corN zs x 2) = c' at *
  generalize corN zs x 0 = i at *
  generalize corN zs x 1 = j at *
  generalize corN zs x 2 = l at *
  generalize (hullC zs x).length = M at *
  have hAB : (-6 ≤ B.1 - A.1 ∧ B.1 - A.1 ≤ 6) ∧ (-6 ≤ B.2 - A.2 ∧ B.2 - A.2 ≤ 6) := by omega
  have hAC : (-6 ≤ C.1 - A.1 ∧ C.1 - A.1 ≤ 6) ∧ (-6 ≤ C.2 - A.2 ∧ C.2 - A.2 ≤ 6) := by omega
  go_wp2
  refine wp_region_order 24 [(6, .cells #[.int .i64 0, .int .i64 0, .int .i64 0] 41), (7, .cells #[.int .i64 0, .int .i64 0, .int .i64 0] 41), (8, .cells #[.int .i64 0, .int .i64 0, .int .i64 0] 41)] 3 (fun m => ⟨m - 21, if m = 27 then 24 else if m = 28 then 32 else 40, .cells #[.int .i64 0, .int .i64 0, .int .i64 0] 41, ok3, cellsOf 41⟩) w1 (Ext.refl _) (by kernel_rfl) (by kernel_rfl) rfl ?_ ?_
  · simp only [List.drop_succ_cons, List.drop_zero]
    exact ⟨⟨rfl, rfl, fun a w => by simp [go_sem]⟩, ⟨rfl, rfl, fun a w => by simp [go_sem]⟩, ⟨rfl, rfl, fun a w => by simp [go_sem]⟩, trivial⟩
  · simp only [List.take_succ_cons, List.take_zero]
    refine walkE_read (v := .slice (some ⟨ad, off, none⟩) n c) rfl (fun w' hw' => by simp [go_sem]) ?_
    simp only [Act.put, List.setIfInBounds_toArray, List.set_cons_succ, List.set_cons_zero]
    refine walkE_read (v := .slice (some ⟨ad, off, none⟩) n c) rfl (fun w' hw' => by simp [go_sem]) ?_
    simp only [Act.put, List.setIfInBounds_toArray, List.set_cons_succ, List.set_cons_zero]
    refine walkE_read (v := .slice (some ⟨cb, 0, none⟩) M c1) rfl (fun w' hw' => by simp [go_sem]) ?_
    simp only [Act.put, List.setIfInBounds_toArray, List.set_cons_succ, List.set_cons_zero]
    refine walkE_read (v := .pointer (some ⟨cb, 0, none⟩)) rfl (fun w' hw' => by simp [go_sem, hM0]) ?_
    simp only [Act.put, List.setIfInBounds_toArray, List.set_cons_succ, List.set_cons_zero]
    refine walkE_read (v := .agg #[.int .i64 A.1, .int .i64 A.2]) rfl (fun w' hw' => by have g0 := K0c0 w' hw'; have g1 := K0c1 w' hw'; simp [go_sem, g0, g1]) ?_
    simp only [Act.put, List.setIfInBounds_toArray, List.set_cons_succ, List.set_cons_zero]
    refine ⟨.int .i64 (i : Int), .inl ⟨rfl, fun w' hw' => by
      have hc := HG0.out w' hw'
      unfold Oper.quietAt
      simp [go_sem, Oper.quietUpon]
      exact hc⟩, ?_⟩
    simp only [Act.put, List.setIfInBounds_toArray, List.set_cons_succ, List.set_cons_zero]
    refine walkE_read (v := .pointer (some ⟨ad, off + i * 3, none⟩)) rfl (fun w' hw' => by simp [go_sem, hi3]) ?_
    simp only [Act.put, List.setIfInBounds_toArray, List.set_cons_succ, List.set_cons_zero]
    refine walkE_read (v := .agg #[.int .i64 A.1, .int .i64 A.2, .int .i64 a]) rfl (fun w' hw' => by have g0 := Ac0 w' hw'; have g1 := Ac1 w' hw'; have g2 := Ac2 w' hw'; simp [go_sem, g0, g1, g2]) ?_
    simp only [Act.put, List.setIfInBounds_toArray, List.set_cons_succ, List.set_cons_zero]
    refine walkE_read (v := .slice (some ⟨ad, off, none⟩) n c) rfl (fun w' hw' => by simp [go_sem]) ?_
    simp only [Act.put, List.setIfInBounds_toArray, List.set_cons_succ, List.set_cons_zero]
    refine walkE_read (v := .slice (some ⟨ad, off, none⟩) n c) rfl (fun w' hw' => by simp [go_sem]) ?_
    simp only [Act.put, List.setIfInBounds_toArray, List.set_cons_succ, List.set_cons_zero]
    refine walkE_read (v := .slice (some ⟨cb, 0, none⟩) M c1) rfl (fun w' hw' => by simp [go_sem]) ?_
    simp only [Act.put, List.setIfInBounds_toArray, List.set_cons_succ, List.set_cons_zero]
    refine walkE_read (v := .pointer (some ⟨cb, 2, none⟩)) rfl (fun w' hw' => by simp [go_sem, hM1]) ?_
    simp only [Act.put, List.setIfInBounds_toArray, List.set_cons_succ, List.set_cons_zero]
    refine walkE_read (v := .agg #[.int .i64 B.1, .int .i64 B.2]) rfl (fun w' hw' => by have g0 := K1c0 w' hw'; have g1 := K1c1 w' hw'; simp [go_sem, g0, g1]) ?_
    simp only [Act.put, List.setIfInBounds_toArray, List.set_cons_succ, List.set_cons_zero]
    refine ⟨.int .i64 (j : Int), .inl ⟨rfl, fun w' hw' => by
      have hc := HG1.out w' hw'
      unfold Oper.quietAt
      simp [go_sem, Oper.quietUpon]
      exact hc⟩, ?_⟩
    simp only [Act.put, List.setIfInBounds_toArray, List.set_cons_succ, List.set_cons_zero]
    refine walkE_read (v := .pointer (some ⟨ad, off + j * 3, none⟩)) rfl (fun w' hw' => by simp [go_sem, hj3]) ?_
    simp only [Act.put, List.setIfInBounds_toArray, List.set_cons_succ, List.set_cons_zero]
    refine walkE_read (v := .agg #[.int .i64 B.1, .int .i64 B.2, .int .i64 b]) rfl (fun w' hw' => by have g0 := Bc0 w' hw'; have g1 := Bc1 w' hw'; have g2 := Bc2 w' hw'; simp [go_sem, g0, g1, g2]) ?_
    simp only [Act.put, List.setIfInBounds_toArray, List.set_cons_succ, List.set_cons_zero]
    refine walkE_read (v := .slice (some ⟨ad, off, none⟩) n c) rfl (fun w' hw' => by simp [go_sem]) ?_
    simp only [Act.put, List.setIfInBounds_toArray, List.set_cons_succ, List.set_cons_zero]
    refine walkE_read (v := .slice (some ⟨ad, off, none⟩) n c) rfl (fun w' hw' => by simp [go_sem]) ?_
    simp only [Act.put, List.setIfInBounds_toArray, List.set_cons_succ, List.set_cons_zero]
    refine walkE_read (v := .slice (some ⟨cb, 0, none⟩) M c1) rfl (fun w' hw' => by simp [go_sem]) ?_
    simp only [Act.put, List.setIfInBounds_toArray, List.set_cons_succ, List.set_cons_zero]
    refine walkE_read (v := .pointer (some ⟨cb, 4, none⟩)) rfl (fun w' hw' => by simp [go_sem, hM2]) ?_
    simp only [Act.put, List.setIfInBounds_toArray, List.set_cons_succ, List.set_cons_zero]
    refine walkE_read (v := .agg #[.int .i64 C.1, .int .i64 C.2]) rfl (fun w' hw' => by have g0 := K2c0 w' hw'; have g1 := K2c1 w' hw'; simp [go_sem, g0, g1]) ?_
    simp only [Act.put, List.setIfInBounds_toArray, List.set_cons_succ, List.set_cons_zero]
    refine ⟨.int .i64 (l : Int), .inl ⟨rfl, fun w' hw' => by
      have hc := HG2.out w' hw'
      unfold Oper.quietAt
      simp [go_sem, Oper.quietUpon]
      exact hc⟩, ?_⟩
    simp only [Act.put, List.setIfInBounds_toArray, List.set_cons_succ, List.set_cons_zero]
    refine walkE_read (v := .pointer (some ⟨ad, off + l * 3, none⟩)) rfl (fun w' hw' => by simp [go_sem, hk3]) ?_
    simp only [Act.put, List.setIfInBounds_toArray, List.set_cons_succ, List.set_cons_zero]
    refine walkE_read (v := .agg #[.int .i64 C.1, .int .i64 C.2, .int .i64 c']) rfl (fun w' hw' => by have g0 := Cc0 w' hw'; have g1 := Cc1 w' hw'; have g2 := Cc2 w' hw'; simp [go_sem, g0, g1, g2]) ?_
    simp only [Act.put, List.setIfInBounds_toArray, List.set_cons_succ, List.set_cons_zero]
    simp only [walkE, tailB, storesE, List.length_cons, List.length_nil, Nat.reduceAdd, List.map_nil, List.map_cons]
    intro x0 n0 m0 x1 n1 m1 x2 n2 m2
    simp only [List.mem_cons, List.not_mem_nil, not_or, or_false] at m1 m2
    refine ⟨x0, .cells #[.int .i64 A.1, .int .i64 A.2, .int .i64 a] 41, ⟨_, rfl, store_term _ _ _ _ _ _, n0, rfl, by simp, ⟨_, _, _, rfl⟩, rfl⟩, fun j' b' h1 h2 h3 => by
      have h5 : j' < 30 := h2
      have h4 : j' = 28 ∨ j' = 29 := by omega
      rcases h4 with rfl | rfl
      · have h6 := ptr_inj (show ptr x1 = ptr b' from h3)
        omega
      · have h6 := ptr_inj (show ptr x2 = ptr b' from h3)
        omega, ?_⟩
    refine ⟨x1, .cells #[.int .i64 B.1, .int .i64 B.2, .int .i64 b] 41, ⟨_, rfl, store_term _ _ _ _ _ _, n1, rfl, by simp [upd, *], ⟨_, _, _, rfl⟩, rfl⟩, fun j' b' h1 h2 h3 => by
      have h5 : j' < 30 := h2
      have h4 : j' = 29 := by omega
      rcases h4 with rfl
      · have h6 := ptr_inj (show ptr x2 = ptr b' from h3)
        omega, ?_⟩
    refine ⟨x2, .cells #[.int .i64 C.1, .int .i64 C.2, .int .i64 c'] 41, ⟨_, rfl, store_term _ _ _ _ _ _, n2, rfl, by simp [upd, *], ⟨_, _, _, rfl⟩, rfl⟩, fun j' b' h1 h2 h3 => by
      have h5 : j' < 30 := h2
      omega, ?_⟩
    intro v hE1 hB1
    simp only [Act.put, List.setIfInBounds_toArray, List.set_cons_succ, List.set_cons_zero]
    simp only [ptr]
    have d1 := Ne.symm m1
    have d2 := Ne.symm m2.1
    have d3 := Ne.symm m2.2
    have h0 := boxed_has hB1 (b := x0) (cs := #[.int .i64 A.1, .int .i64 A.2, .int .i64 a]) (t := 41) (by simp [upd, *])
    have X0c0 := Ext.keeps (h0 0 _ rfl)
    have X0c1 := Ext.keeps (h0 1 _ rfl)
    have X0c2 := Ext.keeps (h0 2 _ rfl)
    clear h0
    have h1 := boxed_has hB1 (b := x1) (cs := #[.int .i64 B.1, .int .i64 B.2, .int .i64 b]) (t := 41) (by simp [upd, *])
    have X1c0 := Ext.keeps (h1 0 _ rfl)
    have X1c1 := Ext.keeps (h1 1 _ rfl)
    have X1c2 := Ext.keeps (h1 2 _ rfl)
    clear h1
    have h2 := boxed_has hB1 (b := x2) (cs := #[.int .i64 C.1, .int .i64 C.2, .int .i64 c']) (t := 41) (by simp [upd, *])
    have X2c0 := Ext.keeps (h2 0 _ rfl)
    have X2c1 := Ext.keeps (h2 1 _ rfl)
    have X2c2 := Ext.keeps (h2 2 _ rfl)
    clear h2
    replace Sc0 := Ext.rebase hE1 Sc0
    replace Sf0 := Ext.rebase hE1 Sf0
    replace Sc1 := Ext.rebase hE1 Sc1
    replace Sf1 := Ext.rebase hE1 Sf1
    replace Sc2 := Ext.rebase hE1 Sc2
    replace Sf2 := Ext.rebase hE1 Sf2
    replace Sc3 := Ext.rebase hE1 Sc3
    replace Sf3 := Ext.rebase hE1 Sf3
    replace K0c0 := Ext.rebase hE1 K0c0
    replace K0c1 := Ext.rebase hE1 K0c1
    replace K1c0 := Ext.rebase hE1 K1c0
    replace K1c1 := Ext.rebase hE1 K1c1
    replace K2c0 := Ext.rebase hE1 K2c0
    replace K2c1 := Ext.rebase hE1 K2c1
    have HEV := Lib.hid (HEw.out.trans hE1)
    clear hB1 n0 n1 n2 m0 m1 m2 d1 d2 d3 hE1 HEw Ac0 Ac1 Ac2 Bc0 Bc1 Bc2 Cc0 Cc1 Cc2 HG0 HG1 HG2
    have hE : Ext v v := Ext.refl _
    go_wp2
    have qK00 := fun s : Past v => K0c0 s.w s.ext
    have qK01 := fun s : Past v => K0c1 s.w s.ext
    have qK10 := fun s : Past v => K1c0 s.w s.ext
    have qK11 := fun s : Past v => K1c1 s.w s.ext
    have qK20 := fun s : Past v => K2c0 s.w s.ext
    have qK21 := fun s : Past v => K2c1 s.w s.ext
    refine wp_region_past v (by first | exact hE | exact Ext.alloc hE _ | exact Ext.drew hE | exact Ext.drewN hE _) (by kernel_rfl) (by kernel_rfl) ?_
    repeat (go_big_quiet_step (((go_at_call 21; exact past_ext (pyTurn_any A B C pA pB pC _)))))
    refine wpQuiet_nil ?_
    intro w3 hw'
    obtain ⟨⟨_, hE⟩, hw''⟩ := hw'
    subst hw''
    clear qK00 qK01 qK10 qK11 qK20 qK21
    replace X0c0 := Ext.rebase hE X0c0
    replace X0c1 := Ext.rebase hE X0c1
    replace X0c2 := Ext.rebase hE X0c2
    replace X1c0 := Ext.rebase hE X1c0
    replace X1c1 := Ext.rebase hE X1c1
    replace X1c2 := Ext.rebase hE X1c2
    replace X2c0 := Ext.rebase hE X2c0
    replace X2c1 := Ext.rebase hE X2c1
    replace X2c2 := Ext.rebase hE X2c2
    replace Sc0 := Ext.rebase hE Sc0
    replace Sf0 := Ext.rebase hE Sf0
    replace Sc1 := Ext.rebase hE Sc1
    replace Sf1 := Ext.rebase hE Sf1
    replace Sc2 := Ext.rebase hE Sc2
    replace Sf2 := Ext.rebase hE Sf2
    replace Sc3 := Ext.rebase hE Sc3
    replace Sf3 := Ext.rebase hE Sf3
    have HE3 := Lib.hid (HEV.out.trans hE)
    clear hE HEV K0c0 K0c1 K1c0 K1c1 K2c0 K2c1
    have HMX2 := Lib.hid (frMake_ok ((a - b) * (C.2 - A.2) - (a - c') * (B.2 - A.2)) (turnI A B C) (by omega) (by omega) (by omega) (by omega))
    have HMY2 := Lib.hid (frMake_ok ((B.1 - A.1) * (a - c') - (C.1 - A.1) * (a - b)) (turnI A B C) (by omega) (by omega) (by omega) (by omega))
    have p1 := mul_bd (A := 2000000) (D := 6) (a := a - b) (d := C.2 - A.2) (by omega) (by omega) (by omega) (by omega)
    have p2 := mul_bd (A := 2000000) (D := 6) (a := a - c') (d := B.2 - A.2) (by omega) (by omega) (by omega) (by omega)
    have p3 := mul_bd (A := 6) (D := 2000000) (a := B.1 - A.1) (d := a - c') (by omega) (by omega) (by omega) (by omega)
    have p4 := mul_bd (A := 6) (D := 2000000) (a := C.1 - A.1) (d := a - b) (by omega) (by omega) (by omega) (by omega)
    clear hvb
    generalize turnI A B C = D at *
    have l00 := X0c0 _ (Ext.refl w3)
    have l01 := X0c1 _ (Ext.refl w3)
    have l02 := X0c2 _ (Ext.refl w3)
    have l10 := X1c0 _ (Ext.refl w3)
    have l11 := X1c1 _ (Ext.refl w3)
    have l12 := X1c2 _ (Ext.refl w3)
    have l20 := X2c0 _ (Ext.refl w3)
    have l21 := X2c1 _ (Ext.refl w3)
    have l22 := X2c2 _ (Ext.refl w3)
    go_wp2_with fail
    refine (HMX2.out _).mono ?_
    rintro e w4 ⟨rfl, hE4⟩
    rw [← HN1.out, ← HD1.out]
    have hE5 : Ext w3 (w4.alloc (.cells #[.int .i64 N1, .int .i64 D1] 35)) := Ext.alloc hE4 _
    replace l00 := X0c0 _ hE5
    replace l01 := X0c1 _ hE5
    replace l02 := X0c2 _ hE5
    replace l10 := X1c0 _ hE5
    replace l11 := X1c1 _ hE5
    replace l12 := X1c2 _ hE5
    replace l20 := X2c0 _ hE5
    replace l21 := X2c1 _ hE5
    replace l22 := X2c2 _ hE5
    go_wp2_with fail
    refine (HMY2.out _).mono ?_
    rintro e w6 ⟨rfl, hE6⟩
    rw [← HN2.out, ← HD2.out]
    have G0 := (ext_new (cs := #[.int .i64 N1, .int .i64 D1]) (t := 35) hE6 (i := 0) (v := .int .i64 N1) rfl).1
    have G1 := (ext_new (cs := #[.int .i64 N1, .int .i64 D1]) (t := 35) hE6 (i := 1) (v := .int .i64 D1) rfl).1
    have hE7 := hE5.trans hE6
    have e0 := Sc0 _ hE7
    have g0 := Sf0 _ hE7
    have e1 := Sc1 _ hE7
    have g1 := Sf1 _ hE7
    have e2 := Sc2 _ hE7
    have g2 := Sf2 _ hE7
    have e3 := Sc3 _ hE7
    have g3 := Sf3 _ hE7
    have hs8 := lt_of_cell e0
    have hs9 := lt_of_cell G0
    have HE7 := Lib.hid (HE3.out.trans hE7)
    have hs6 := HE7.out.size
    have hs7 := hE6.size
    simp at hs7
    clear l00 X0c0 l01 X0c1 l02 X0c2 l10 X1c0 l11 X1c1 l12 X1c2 l20 X2c0 l21 X2c1 l22 X2c2 Sc0 Sf0 Sc1 Sf1 Sc2 Sf2 Sc3 Sf3 hE4 hE5 hE6 hE7 HMX2 HMY2 p1 p2 p3 p4
    go_wp2
    refine bodyPost_ret (v := .agg #[.int .i64 N1, .int .i64 D1, .int .i64 N2, .int .i64 D2]) (by simp [results, Tryz.results11, go_sem, *]) rfl ⟨rfl, ?_⟩
    have hE := HE7.out
    exact (by repeat (first | exact Ext.refl _ | assumption | apply Ext.alloc | apply Ext.drew | apply Ext.drewN | (refine Ext.trans ?_ (by assumption)) | (refine Ext.setCell ?_ (by (try simp) <;> omega) _)))
end Go.Proofs.YtngbdopgdcjdeaaGreatDoor

namespace Go.Proofs.YtngbdopgdcjdeaaGreatDoor
open Go.RowKit

/-- What a slice of quadruples holds, as cells. -/
def qv : List (Int × Int × Int × Int) → List Value
  | [] => []
  | r :: rs => .int .i64 r.1 :: .int .i64 r.2.1 :: .int .i64 r.2.2.1 :: .int .i64 r.2.2.2 :: qv rs
theorem qv_len : ∀ zs : List (Int × Int × Int × Int), (qv zs).length = zs.length * 4
  | [] => rfl
  | _ :: rs => by simp only [qv, List.length_cons, qv_len rs]; omega
/-- The quadruple at a place. -/
def qat (zs : List (Int × Int × Int × Int)) (k : Nat) : Int × Int × Int × Int := zs.getD k (0, 0, 0, 0)
theorem qv_at : ∀ {zs : List (Int × Int × Int × Int)} {k : Nat}, k < zs.length → (qv zs)[k * 4]? = some (.int .i64 (qat zs k).1) ∧ (qv zs)[k * 4 + 1]? = some (.int .i64 (qat zs k).2.1) ∧ (qv zs)[k * 4 + 2]? = some (.int .i64 (qat zs k).2.2.1) ∧ (qv zs)[k * 4 + 3]? = some (.int .i64 (qat zs k).2.2.2)
  | [], _, h => by simp at h
  | r :: rs, 0, _ => ⟨rfl, rfl, rfl, rfl⟩
  | r :: rs, k + 1, h => by
    have ih := qv_at (zs := rs) (k := k) (by simpa using h)
    have e : (k + 1) * 4 = k * 4 + 1 + 1 + 1 + 1 := by omega
    have e2 : qat (r :: rs) (k + 1) = qat rs k := by simp [qat, List.getD]
    rw [e, e2]
    exact ih
theorem qv_append : ∀ xs ys : List (Int × Int × Int × Int), qv (xs ++ ys) = qv xs ++ qv ys
  | [], _ => rfl
  | r :: rs, ys => by simp [qv, qv_append rs ys]
theorem qv_set4 : ∀ (l : List (Int × Int × Int × Int)) (j : Nat) (a b c d : Int), j < l.length → (((((qv l).set (j * 4) (.int .i64 a)).set (j * 4 + 1) (.int .i64 b)).set (j * 4 + 2) (.int .i64 c)).set (j * 4 + 3) (.int .i64 d)) = qv (l.set j (a, b, c, d))
  | [], _, _, _, _, _, h => by simp at h
  | r :: rs, 0, _, _, _, _, _ => rfl
  | r :: rs, j + 1, a, b, c, d, h => by
    have ih := qv_set4 rs j a b c d (by simpa using h)
    have e : (j + 1) * 4 = j * 4 + 1 + 1 + 1 + 1 := by omega
    rw [e]
    simp only [qv, List.set_cons_succ]
    exact congrArg _ (congrArg _ (congrArg _ (congrArg _ ih)))
theorem qv_one : ∀ (zs : List (Int × Int × Int × Int)) (u : Value), u ∈ qv zs → u.oneCell' = true
  | [], u, h => by simp [qv] at h
  | r :: rs, u, h => by
    simp only [qv, List.mem_cons] at h
    rcases h with rfl | rfl | rfl | rfl | h
    · rfl
    · rfl
    · rfl
    · rfl
    · exact qv_one rs u h
/-- The marks that a law lays into a slice of quadruples. -/
def qmarks (k : Int) (n : Nat) : List (Int × Int × Int × Int) := (List.range n).map fun i : Nat => (k + 4 * (i : Int), k + 4 * (i : Int) + 1, k + 4 * (i : Int) + 1 + 1, k + 4 * (i : Int) + 1 + 1 + 1)
theorem qmarks_len (k : Int) (n : Nat) : (qmarks k n).length = n := by simp [qmarks]
theorem qmarks_at {k : Int} {n i : Nat} (h : i < n) : qat (qmarks k n) i = (k + 4 * (i : Int), k + 4 * (i : Int) + 1, k + 4 * (i : Int) + 1 + 1, k + 4 * (i : Int) + 1 + 1 + 1) := by simp [qat, qmarks, List.getD, h]
theorem qmarks_step {zs : List (Int × Int × Int × Int)} {k : Int} {i : Nat} (h : i < zs.length) : ((qmarks k i ++ zs.drop i).set i (k + 4 * (i : Int), k + 4 * (i : Int) + 1, k + 4 * (i : Int) + 1 + 1, k + 4 * (i : Int) + 1 + 1 + 1)) = qmarks k (i + 1) ++ zs.drop (i + 1) := by
  have e : (qmarks k i).length = i := qmarks_len k i
  rw [List.set_append_right _ _ (by omega), e, Nat.sub_self, List.drop_eq_getElem_cons h, List.set_cons_zero]
  simp [qmarks, List.range_succ]
/-- The cells of a slice of quadruples, read at a place. -/
theorem Reads.quad {w : World} {a : Option Addr} {n : Nat} {zs : List (Int × Int × Int × Int)} (h : Reads w a 4 n (qv zs)) {k : Nat} (hk : k < n) :
    ∃ b off, a = some ⟨b, off, none⟩ ∧ w.cell? ⟨b, off + k * 4, none⟩ = some (.int .i64 (qat zs k).1) ∧ w.cell? ⟨b, off + k * 4 + 1, none⟩ = some (.int .i64 (qat zs k).2.1) ∧ w.cell? ⟨b, off + k * 4 + 2, none⟩ = some (.int .i64 (qat zs k).2.2.1) ∧ w.cell? ⟨b, off + k * 4 + 3, none⟩ = some (.int .i64 (qat zs k).2.2.2) := by
  have hl : zs.length = n := by have := h.1; rw [qv_len] at this; omega
  obtain ⟨b, off, ha, hc⟩ := h.2 (by omega)
  have h3 := qv_at (zs := zs) (k := k) (by omega)
  exact ⟨b, off, ha, hc _ _ h3.1, hc _ _ h3.2.1, hc _ _ h3.2.2.1, hc _ _ h3.2.2.2⟩
theorem spot_info : (Tryz.prog.info? 37).map (fun i => (i.zero, i.size, i.bytes)) = some (some (.agg #[.int .i64 0, .int .i64 0, .int .i64 0, .int .i64 0]), 4, 32) := by kernel_rfl
theorem own_noneSp (w : World) (B : Nat) : w.ownsRow B 37 4 (.slice none 0 0) 0 (qv []) := ⟨rfl, .inl ⟨rfl, rfl⟩⟩
/-- 'append(out, spots..)', out nil or the call's own. -/
theorem wpList_appS {w : World} {ops : Array Oper} {rest : List Oper} {o : Oper} {a : Act} {Q : Exit → Act → World → Prop} (hgd : o.guard = none) (s x : Operand)
    (ho : o.op = .call { callee := .builtin .append, args := #[s, x], argTypes := #[47, 47] })
    (W : World) (base : Nat) (a0 : Option Addr) (n c : Nat) (xs : List (Int × Int × Int × Int)) (hs : a.eval s = .slice a0 n c) (hown : w.ownsRow base 37 4 (.slice a0 n c) n (qv xs))
    (ad : Addr) (m c' : Nat) (zs : List (Int × Int × Int × Int)) (hx : a.eval x = .slice (some ad) m c') (hl : zs.length = m) (hr : ∀ j u, (qv zs)[j]? = some u → w.cell? (ad.add j) = some u)
    (hn : n ≤ 1048576) (hm : m ≤ 1048576) (hb : base ≤ w.heap.size) (hE : Ext W w) (hW : W.heap.size ≤ base)
    (h : ∀ a1 c1 w', w'.ownsRow base 37 4 (.slice a1 (n + m) c1) (n + m) (qv (xs ++ zs)) → Ext W w' → wpList Tryz.prog ops Q rest (a.put o.dst (.slice a1 (n + m) c1)) w') :
    wpList Tryz.prog ops Q (o :: rest) a w := by
  obtain ⟨i0, hi, hz0, hz1, hz2⟩ := info_parts spot_info
  refine wpList_append_own w hgd s x 47 ho base 37 i0 (.agg #[.int .i64 0, .int .i64 0, .int .i64 0, .int .i64 0]) 4 32 Tryz.underlying47 hi hz0 hz1 hz2 rfl (by decide) _ n (qv xs) hs hown ad m c' (qv zs) hx (by rw [qv_len, hl]) hr (qv_one zs) ?_ ?_ hb ?_
  · unfold maxLen; omega
  · omega
  · intro v' w' h1 h2 _
    obtain ⟨a1, c1, rfl⟩ := own_form h1
    refine h a1 c1 w' ?_ (hE.grown h2 fun k hk => Nat.le_trans hW (hown.lt k hk).1)
    rw [qv_append]; exact h1
/-- The cells of one spot that lies alone in a block. -/
theorem one_cells4 {w : World} {g : Nat} {x y z u : Int} (h0 : w.cell? ⟨g, 0, none⟩ = some (.int .i64 x)) (h1 : w.cell? ⟨g, 1, none⟩ = some (.int .i64 y)) (h2 : w.cell? ⟨g, 2, none⟩ = some (.int .i64 z)) (h3 : w.cell? ⟨g, 3, none⟩ = some (.int .i64 u)) : ∀ (j : Nat) (v : Value), (qv [(x, y, z, u)])[j]? = some v → w.cell? ((⟨g, 0, none⟩ : Addr).add j) = some v := by
  intro j v hj
  match j, hj with
  | 0, hj => simp [qv] at hj; subst hj; simpa [Addr.add] using h0
  | 1, hj => simp [qv] at hj; subst hj; simpa [Addr.add] using h1
  | 2, hj => simp [qv] at hj; subst hj; simpa [Addr.add] using h2
  | 3, hj => simp [qv] at hj; subst hj; simpa [Addr.add] using h3
end Go.Proofs.YtngbdopgdcjdeaaGreatDoor

namespace Go.Proofs.YtngbdopgdcjdeaaGreatDoor
open Go.RowKit

/-- The vertices of the cells. -/
def verQ (zs : List (Int × Int × Int)) (x : List Int) : Int × Int × Int × Int := (lowN (verX zs x) (verD zs x), lowD (verX zs x) (verD zs x), lowN (verY zs x) (verD zs x), lowD (verY zs x) (verD zs x))
def versL (zs : List (Int × Int × Int)) : List (Int × Int × Int × Int) := (cellsL zs).map (verQ zs)
def gQ (t : Bool) (l : List (Int × Int × Int × Int)) : List (Int × Int × Int × Int) := if t then l else []
theorem gQ_le {t : Bool} {l : List (Int × Int × Int × Int)} {k : Nat} (h : t = true → l.length ≤ k) : (gQ t l).length ≤ k := by
  cases t
  · simp [gQ]
  · simpa [gQ] using h rfl
theorem vers_take {zs : List (Int × Int × Int)} {k : Nat} (h : k < (cellsL zs).length) : ((cellsL zs).take (k + 1)).map (verQ zs) = ((cellsL zs).take k).map (verQ zs) ++ [verQ zs ((cellsL zs).getD k [])] := by
  rw [List.take_succ_eq_append_getElem h, List.map_append]
  simp [List.getD, h]
/-- A slice of spots of the call's own; with a truth. -/
def OwnsSp (B : Nat) (zs : List (Int × Int × Int × Int)) (w : World) (r : Ending) (w' : World) : Prop :=
  ∃ a c, r = .returned (.slice a zs.length c) ∧ w'.ownsRow B 37 4 (.slice a zs.length c) zs.length (qv zs) ∧ Ext w w'
def OwnsSpB (B : Nat) (zs : List (Int × Int × Int × Int)) (ok : Bool) (w : World) (r : Ending) (w' : World) : Prop :=
  ∃ a c, r = .returned (.tuple #[.slice a zs.length c, .bool ok]) ∧ w'.ownsRow B 37 4 (.slice a zs.length c) zs.length (qv zs) ∧ Ext w w'
set_option maxHeartbeats 2000000 in
theorem vertices_any (B g : Nat) (a : Option Addr) (n c : Nat) (zs : List (Int × Int × Int)) (hZ : PZ zs) (w : World) (h : SubD w B g a n c zs) :
    Calls Tryz.prog 15 #[.pointer (some ⟨g, 0, none⟩)] w (OwnsSp w.heap.size (versL zs) w) := by
  have HD := Lib.hid h
  have hN2 := cells_most hZ
  obtain ⟨pa, pc, s, e, b, mm, B1, ps0, qs, hsg, _, _, _, hol, hqs, _⟩ := h
  obtain ⟨ea, ec, rfl⟩ := hol.form
  have hc2 := hsg.c2
  have hgl := hsg.lt
  have hps : ps0.length = (cellsL zs).length := by rw [← hqs, List.length_map]
  rw [hps] at hc2
  have HZ := Lib.hid hZ
  clear hsg hol hqs hZ hps
  obtain ⟨N, hN⟩ : ∃ N, N = (cellsL zs).length := ⟨_, rfl⟩
  rw [← hN] at hc2 hN2
  have HN := Lib.hid hN
  clear hN
  have HL := Lib.hid (show versL zs = ((cellsL zs).take N).map (verQ zs) by rw [HN.out, List.take_length]; rfl)
  have HLL := Lib.hid (show (versL zs).length = N by unfold versL; rw [List.length_map, HN.out])
  go_enter Tryz.func15, Tryz.ntmps15
  go_wp2
  go_loopw [3, 11] (fun s t wr => ∃ (k : Nat) (a1 : Option Addr) (c1 : Nat), k ≤ N ∧ t = .int .i64 k ∧ s = .slice a1 k c1 ∧ wr.ownsRow w.heap.size 37 4 (.slice a1 k c1) k (qv (((cellsL zs).take k).map (verQ zs))) ∧ Ext w wr) (fun _ t _ => N - (intOf t).toNat)
  case atStart => exact ⟨0, _, 0, Nat.zero_le _, rfl, rfl, own_empty _ _ _ _ (Nat.le_refl _), Ext.alloc (Ext.refl _) _⟩
  case round =>
    obtain ⟨k, a1, c1, hk, rfl, rfl, hown, hE⟩ := hrel
    by_cases hlt : k < N
    · have hko : k < (cellsL zs).length := by rw [← HN.out]; exact hlt
      have HT := Lib.hid (vers_take hko)
      have HKO := Lib.hid hko
      clear hko
      have HOW := Lib.hid hown
      have HEE := Lib.hid hE
      have HDr := Lib.hid (HD.out.ext hE)
      have hsz := hE.size
      clear hown hE
      go_wp2_with fail
      refine (vertex_any B g a n c k zs HZ.out HKO.out wr HDr.out).mono ?_
      rintro e w2 ⟨rfl, hb⟩
      have HE2 := Lib.hid (HEE.out.trans hb)
      have HO2 := Lib.hid (own_ext hb HOW.out)
      have hs2 := HE2.out.size
      clear hb HOW HEE HDr HKO
      have HT2 := Lib.hid (show ((cellsL zs).take (k + 1)).map (verQ zs) = ((cellsL zs).take k).map (verQ zs) ++ [(_, _, _, _)] from HT.out)
      clear HT
      generalize ((cellsL zs).take k).map (verQ zs) = ps at *
      generalize (cellsL zs).getD k [] = x at *
      generalize lowN (verX zs x) (verD zs x) = y0 at *
      generalize lowD (verX zs x) (verD zs x) = y1 at *
      generalize lowN (verY zs x) (verD zs x) = y2 at *
      generalize lowD (verY zs x) (verD zs x) = y3 at *
      go_wp2_with (at_builtin; go_must (refine wpList_appS rfl _ _ rfl w w.heap.size _ _ _ ps rfl (own_ext (Ext.alloc (Ext.refl _) _) HO2.out) ⟨_, 0, none⟩ 1 1 [(y0, y1, y2, y3)] rfl rfl (one_cells4 (by simp) (by simp) (by simp) (by simp)) (by omega) (by omega) (by simp; omega) (Ext.alloc HE2.out _) (Nat.le_refl _) ?_))
      intro a4 c4 w4 hown4 hE4
      go_wp2
      go_roundw
      case rel => exact ⟨k + 1, a4, c4, by omega, by go_num, by simp, by rw [HT2.out]; exact hown4, hE4⟩
      case measure => simp [intOf]; omega
    · obtain rfl : k = N := by omega
      rw [← HL.out] at hown
      have HO := Lib.hid hown
      have HE := Lib.hid hE
      clear hown hE
      go_wp2
      go_ret
      exact ⟨a1, c1, by rw [HLL.out] <;> rfl, by rw [HLL.out]; exact HO.out, HE.out⟩
end Go.Proofs.YtngbdopgdcjdeaaGreatDoor

namespace Go.Proofs.YtngbdopgdcjdeaaGreatDoor
open Go.RowKit

def gR (t : Bool) (l : List (List Int)) : List (List Int) := if t then l else []
theorem gR_len {t : Bool} {l : List (List Int)} {k : Nat} (h : t = true → l.length ≤ k) : (gR t l).length ≤ k := by
  cases t
  · simp [gR]
  · simpa [gR] using h rfl
theorem gR_mem {t : Bool} {l : List (List Int)} {k : Nat} (h : t = true → ∀ y ∈ l, y.length ≤ k) : ∀ y ∈ gR t l, y.length ≤ k := by
  cases t
  · simp [gR]
  · simpa [gR] using h rfl
/-- A slice of slices of ints, all of the call's own, and a truth. -/
def OwnsLB (B : Nat) (ys : List (List Int)) (ok : Bool) (w : World) (r : Ending) (w' : World) : Prop := ∃ s ps, r = .returned (.tuple #[s, .bool ok]) ∧ OwnL w' B s ps ∧ ps.map (·.2) = ys ∧ Ext w w'
/-- A slice of slices of ints that reads so, and a truth. -/
def RdLB (ys : List (List Int)) (ok : Bool) (w : World) (r : Ending) (w' : World) : Prop := ∃ s, r = .returned (.tuple #[s, .bool ok]) ∧ RdL w' s ys ∧ Ext w w'
theorem cells_rows {zs : List (Int × Int × Int)} (hZ : PZ zs) : ∀ y ∈ cellsL zs, y.length ≤ 12 := fun _ hy => Nat.le_trans (cell_len (mem_cellsL.1 hy)) hZ.1
theorem once_rows {zs : List (Int × Int × Int)} (hZ : PZ zs) : ∀ y ∈ onceL zs, y.length ≤ 12 := fun y hy => by
  obtain ⟨i, j, _, _, rfl⟩ := once_form hZ.2.2 hy
  simp
theorem twice_rows {zs : List (Int × Int × Int)} (hZ : PZ zs) : ∀ y ∈ twiceL zs, y.length ≤ 12 := fun y hy => by
  rw [twice_filter hZ.2.2] at hy
  exact once_rows hZ y (List.mem_filter.1 hy).1
theorem twice_len2 {zs : List (Int × Int × Int)} (hZ : PZ zs) : (twiceL zs).length ≤ 48000 := by
  rw [twice_filter hZ.2.2]
  exact Nat.le_trans (List.length_filter_le _ _) (onceL_len hZ)
end Go.Proofs.YtngbdopgdcjdeaaGreatDoor

namespace Go.Proofs.YtngbdopgdcjdeaaGreatDoor
open Go.RowKit

/-- A text from its bytes. -/
def txt (l : List UInt8) : ByteArray := ⟨l.toArray⟩
@[go_sem] theorem txt_size (l : List UInt8) : (txt l).size = l.length := by simp [txt, ByteArray.size]
theorem txt_app (a b : List UInt8) : txt a ++ txt b = txt (a ++ b) := by
  apply ByteArray.ext
  simp [txt, ByteArray.data_append]
theorem digits_len {u : Nat} (h : u < 1000000000000000000) : (Lib.decDigits u).length ≤ 21 := by
  have := Lib.itoa_length_le (u : Int) (by omega) (by omega)
  unfold Lib.itoa at this
  rwa [if_neg (by omega), Int.toNat_natCast] at this
/-- A conversion at a step of a region that draws its order. -/
theorem step_conv {{P : Program}} (w : World) {{ops : Array Oper}} {{o : Oper}} {{a : Act}} {{K : Act → World → Prop}} {{Q : Exit → Act → World → Prop}} {{E : Prop}} (hgd : o.guard = none) (s : Operand) (t u : TypeId)
    (ho : o.op = .convert t u s) (v r : Value) (hs : a.eval s = v) (hr : (convert t u v).run P w = .ok r w) (h : K (a.put o.dst r) w) :
    if Region.wanted o (yielded ops a.tmps) = true then Oper.wp P o a w K Q else E := by
  have hw : Region.wanted o (yielded ops a.tmps) = true := by simp [Region.wanted, hgd]
  rw [if_pos hw]
  unfold Oper.wp execOp
  simp only [ho, Sem.run_bind, Sem.run_pure, Result.andThen_ok, hs, hr]
  exact h
theorem num_conv (g d cap : Nat) (w : World) (hd : d < 10) (h : w.cell? ⟨g, 0, none⟩ = some (.int .u8 (48 + (d : Int)))) :
    (convert 76 9 (.slice (some ⟨g, 0, none⟩) 1 cap)).run Tryz.prog w = .ok (.string ⟨#[UInt8.ofNat (48 + d)]⟩) w := by
  have := run_convert_bytes_back (P := Tryz.prog) w 76 9 5 ⟨g, 0, none⟩ cap [UInt8.ofNat (48 + d)] Tryz.underlying76 Tryz.underlying5 Tryz.underlying9 (fun j hj => by
    obtain rfl : j = 0 := by simp at hj; omega
    have e : ((UInt8.ofNat (48 + d)).toNat : Int) = 48 + (d : Int) := by
      rw [UInt8.toNat_ofNat', Nat.mod_eq_of_lt (by omega)]; omega
    show w.cell? ⟨g, 0, none⟩ = some (.int .u8 ((UInt8.ofNat (48 + d)).toNat : Int))
    rw [e]
    exact h)
  simpa using this
theorem wrap_digit {{d : Nat}} (h : d < 10) : IntKind.u8.wrap (48 + (d : Int)) = 48 + (d : Int) := by
  simp only [IntKind.wrap, IntKind.signed, IntKind.bits]
  first | omega | (simp; omega)
set_option maxRecDepth 100000 in
theorem l1Num_any : ∀ (u : Nat), u < 1000000000000000000 → ∀ (w : World),
    Calls Tryz.prog 29 #[.int .i64 (u : Int)] w fun r w' => r = .returned (.string (txt (Lib.decDigits u))) ∧ Ext w w' := by
  intro u
  induction u using Nat.strongRecOn with
  | ind u ih =>
    intro hu w
    by_cases h10 : u < 10
    · have hg : decide ((u : Int) < 10) = true := by simp; omega
      have hw1 : IntKind.i64.wrap (48 + (u : Int)) = 48 + (u : Int) := by rw [wrap_i64] <;> omega
      have hw2 := wrap_digit h10
      have hcv := num_conv w.heap.size u 1 (w.alloc (.cells #[.int .u8 (48 + (u : Int))] 5)) h10 (by simp)
      have HD := Lib.hid (show txt (Lib.decDigits u) = ⟨#[UInt8.ofNat (48 + u)]⟩ by rw [Lib.decDigits_one h10]; rfl)
      generalize UInt8.ofNat (48 + u) = cb at *
      clear ih
      go_enter Tryz.func29, Tryz.ntmps29
      go_wp2
      go_ret
      exact ⟨by rw [HD.out] <;> rfl, (by repeat (first | exact Ext.refl _ | assumption | apply Ext.alloc | apply Ext.drew | apply Ext.drewN | (refine Ext.trans ?_ (by assumption)) | (refine Ext.setCell ?_ (by (try simp) <;> omega) _)))⟩
    · obtain ⟨q, hq⟩ : ∃ q, q = u / 10 := ⟨_, rfl⟩
      obtain ⟨d, hd⟩ : ∃ d, d = u % 10 := ⟨_, rfl⟩
      have hd10 : d < 10 := by omega
      have hg : decide ((u : Int) < 10) = false := by simp; omega
      have IH := Lib.hid (ih q (by omega) (by omega))
      have HD := Lib.hid (show txt (Lib.decDigits u) = txt (Lib.decDigits q) ++ ⟨#[UInt8.ofNat (48 + d)]⟩ by rw [Lib.decDigits, dif_neg h10, ← hq, ← hd, ← txt_app]; rfl)
      have hlq := digits_len (show q < 1000000000000000000 by omega)
      have hm : Int.tmod (u : Int) 10 = (d : Int) := by rw [Int.tmod_eq_emod_of_nonneg (by omega)]; omega
      have hdv : Int.tdiv (u : Int) 10 = (q : Int) := by rw [Int.tdiv_eq_ediv_of_nonneg (by omega)]; omega
      have hw1 : IntKind.i64.wrap (48 + (d : Int)) = 48 + (d : Int) := by rw [wrap_i64] <;> omega
      have hwq : IntKind.i64.wrap (q : Int) = (q : Int) := by rw [wrap_i64] <;> omega
      have hwd : IntKind.i64.wrap (d : Int) = (d : Int) := by rw [wrap_i64] <;> omega
      have hw2 := wrap_digit hd10
      have HD10 := Lib.hid hd10
      have hcv : ∀ (v : World) (g : Nat), v.cell? ⟨g, 0, none⟩ = some (.int .u8 (48 + (d : Int))) → (convert 76 9 (.slice (some ⟨g, 0, none⟩) 1 1)).run Tryz.prog v = .ok (.string ⟨#[UInt8.ofNat (48 + d)]⟩) v := fun v g h => num_conv g d 1 v hd10 h
      generalize UInt8.ofNat (48 + d) = cb at *
      clear ih hq hd
      go_enter Tryz.func29, Tryz.ntmps29
      go_wp2
      go_region_with (first | (go_at_call 29; refine (IH.out _).mono ?_; rintro e wc ⟨rfl, hb⟩; (try (have hck := Ext.keep (b := w.heap.size) (o := 0) (v := .int .u8 (48 + (d : Int))) hb; simp at hck))))
      all_goals (
        go_wp2
        go_ret
        exact ⟨by rw [HD.out] <;> rfl, (by repeat (first | exact Ext.refl _ | assumption | apply Ext.alloc | apply Ext.drew | apply Ext.drewN | (refine Ext.trans ?_ (by assumption)) | (refine Ext.setCell ?_ (by (try simp) <;> omega) _)))⟩)
theorem itoa_neg {{n : Int}} (h : n < 0) : Lib.itoa n = 45 :: Lib.decDigits n.natAbs := if_pos h
theorem itoa_pos {{n : Int}} (h : ¬ n < 0) : Lib.itoa n = Lib.decDigits n.toNat := if_neg h
theorem l1Int_any (n : Int) (h0 : -1000000000000000 ≤ n) (h1 : n ≤ 1000000000000000) (w : World) :
    Calls Tryz.prog 28 #[.int .i64 n] w fun r w' => r = .returned (.string (txt (Lib.itoa n))) ∧ Ext w w' := by
  by_cases hn : n < 0
  · obtain ⟨u, hu⟩ : ∃ u : Nat, n = - (u : Int) := ⟨n.natAbs, by omega⟩
    have HI := Lib.hid (show txt (Lib.itoa n) = ⟨#[45]⟩ ++ txt (Lib.decDigits u) by rw [itoa_neg hn, show n.natAbs = u by omega]; exact (txt_app [45] _).symm)
    have HN := Lib.hid (l1Num_any u (by omega))
    have hl := digits_len (show u < 1000000000000000000 by omega)
    have hw : IntKind.i64.wrap (u : Int) = (u : Int) := by rw [wrap_i64] <;> omega
    subst hu
    go_enter Tryz.func28, Tryz.ntmps28
    go_wp2_with fail
    refine (HN.out _).mono ?_
    rintro e wc ⟨rfl, hb⟩
    go_wp2
    go_ret
    exact ⟨by rw [HI.out] <;> rfl, (by repeat (first | exact Ext.refl _ | assumption | apply Ext.alloc | apply Ext.drew | apply Ext.drewN | (refine Ext.trans ?_ (by assumption)) | (refine Ext.setCell ?_ (by (try simp) <;> omega) _)))⟩
  · obtain ⟨u, rfl⟩ : ∃ u : Nat, n = (u : Int) := ⟨n.toNat, by omega⟩
    have HI := Lib.hid (show txt (Lib.itoa (u : Int)) = txt (Lib.decDigits u) by rw [itoa_pos hn, Int.toNat_natCast])
    have HN := Lib.hid (l1Num_any u (by omega))
    go_enter Tryz.func28, Tryz.ntmps28
    go_wp2_with fail
    refine (HN.out _).mono ?_
    rintro e wc ⟨rfl, hb⟩
    go_wp2
    go_ret
    exact ⟨by rw [HI.out] <;> rfl, (by repeat (first | exact Ext.refl _ | assumption | apply Ext.alloc | apply Ext.drew | apply Ext.drewN | (refine Ext.trans ?_ (by assumption)) | (refine Ext.setCell ?_ (by (try simp) <;> omega) _)))⟩
/-- The table of the library's own, whatever is made behind. -/
def Tab (w : World) : Prop := ∀ w', Ext w w' → Lib.TabIs Tryz.prog w' "internal/strconv.uint64pow10" .u64 Lib.pow10Tab
theorem Tab.of {{w : World}} (h : Lib.TabIs Tryz.prog w "internal/strconv.uint64pow10" .u64 Lib.pow10Tab) : Tab w := Lib.tabBelow_of_tabIs h
theorem Tab.ext {{w w' : World}} (h : Tab w) (e : Ext w w') : Tab w' := fun v k => h v (e.trans k)
theorem itoa_len {{n : Int}} (h0 : -1000000000000000 ≤ n) (h1 : n ≤ 1000000000000000) : (Lib.itoa n).length ≤ 21 := Lib.itoa_length_le n (by omega) (by omega)
theorem itoa_any (n : Int) (h0 : -1000000000000000 ≤ n) (h1 : n ≤ 1000000000000000) (w : World) (ht : Tab w) :
    Calls Tryz.prog 33 #[.int .i64 n] w fun r w' => r = .returned (.string (txt (Lib.itoa n))) ∧ Ext w w' := by
  have := Any.strconv_Itoa layItoa n (by omega) (by omega) w (ht w (Ext.refl w))
  change Calls Tryz.prog 33 _ _ _ at this
  refine this.mono fun e w' ⟨he, k, os, hw⟩ => ⟨he, ?_⟩
  rw [hw]
  exact Lib.below_grow _ w (Nat.le_refl _) k os
end Go.Proofs.YtngbdopgdcjdeaaGreatDoor

namespace Go.Proofs.YtngbdopgdcjdeaaGreatDoor
open Go.RowKit

/-- A line's text. -/
def lineTx (a b c : Int) : ByteArray := txt (Lib.itoa a) ++ ⟨#[32]⟩ ++ txt (Lib.itoa b) ++ ⟨#[32]⟩ ++ txt (Lib.itoa c)
theorem fin3_bd {{a b c : Int}} (h : fin3 a b c = true) : (-1000000 ≤ a ∧ a ≤ 1000000) ∧ (-1000000 ≤ b ∧ b ≤ 1000000) ∧ (-1000000 ≤ c ∧ c ≤ 1000000) := by
  simp [fin3, finB, inB] at h
  omega
/-- A text that is told only where it is valid. -/
def gS (t : Bool) (x : ByteArray) : ByteArray := if t then x else ⟨#[]⟩
end Go.Proofs.YtngbdopgdcjdeaaGreatDoor

namespace Go.Proofs.YtngbdopgdcjdeaaGreatDoor
open Go.RowKit

theorem l1Num_int (n : Int) (h0 : 0 ≤ n) (h1 : n ≤ 1000000000000000) (w : World) :
    Calls Tryz.prog 29 #[.int .i64 n] w fun r w' => r = .returned (.string (txt (Lib.itoa n))) ∧ Ext w w' := by
  obtain ⟨u, rfl⟩ : ∃ u : Nat, n = (u : Int) := ⟨n.toNat, by omega⟩
  rw [itoa_pos (by omega), Int.toNat_natCast]
  exact l1Num_any u (by omega) w
/-- A fraction's text. -/
def fracT (x y : Int) : ByteArray := if y = 1 then txt (Lib.itoa x) else txt (Lib.itoa x) ++ ⟨#[47]⟩ ++ txt (Lib.itoa y)
theorem fracT_one {{x y : Int}} (h : y = 1) : fracT x y = txt (Lib.itoa x) := if_pos h
theorem fracT_two {{x y : Int}} (h : ¬ y = 1) : fracT x y = txt (Lib.itoa x) ++ ⟨#[47]⟩ ++ txt (Lib.itoa y) := if_neg h
set_option maxRecDepth 100000 in
theorem frText_any (x y : Int) (hx : -1000000000 ≤ x ∧ x ≤ 1000000000) (hy : 1 ≤ y ∧ y ≤ 1000000000) (w : World) :
    Calls Tryz.prog 12 #[.agg #[.int .i64 x, .int .i64 y]] w fun r w' => r = .returned (.string (fracT x y)) ∧ Ext w w' := by
  have la := itoa_len (n := x) (by omega) (by omega)
  have lb := itoa_len (n := y) (by omega) (by omega)
  obtain ⟨V, hV⟩ : ∃ V, V = w.alloc (.cells #[.int .i64 x, .int .i64 y] 35) := ⟨_, rfl⟩
  have HEV := Lib.hid (show Ext w V by rw [hV]; exact Ext.alloc (Ext.refl _) _)
  have Rc0 := Ext.keeps (w := V) (b := w.heap.size) (o := 0) (v := .int .i64 x) (by rw [hV]; simp)
  have Rc1 := Ext.keeps (w := V) (b := w.heap.size) (o := 1) (v := .int .i64 y) (by rw [hV]; simp)
  have Hx := Lib.hid (fun w' (e : Ext V w') => l1Int_any x (by omega) (by omega) w')
  have Hy := Lib.hid (fun w' (e : Ext V w') => l1Num_int y (by omega) (by omega) w')
  clear hx hy
  by_cases h1 : y = 1
  · have HT := Lib.hid (fracT_one (x := x) h1)
    have hy1 : decide (y = 1) = true := decide_eq_true h1
    have hy2 : (y == 1) = true := by simpa using h1
    clear h1
    go_enter Tryz.func12, Tryz.ntmps12
    go_wp2_with fail
    rw [← hV]
    refine (Hx.out _ (Ext.refl _)).mono ?_
    rintro e w1 ⟨rfl, hb1⟩
    have h1 := HEV.out.trans hb1
    go_wp2
    go_ret
    exact ⟨by rw [HT.out] <;> rfl, h1⟩
  · have HT := Lib.hid (fracT_two (x := x) h1)
    have hy1 : decide (y = 1) = false := decide_eq_false h1
    have hy2 : (y == 1) = false := by simpa using h1
    clear h1
    go_enter Tryz.func12, Tryz.ntmps12
    go_wp2
    rw [← hV]
    have HV := Lib.hid hV
    clear hV
    have qR0 := fun s : Past V => Rc0 s.w s.ext
    have qR1 := fun s : Past V => Rc1 s.w s.ext
    refine wp_region_past V (Ext.refl _) (by kernel_rfl) (by kernel_rfl) ?_
    repeat (go_big_quiet_step ((first | (go_at_call 28; (with_reducible exact past_ext (Hx.out _ (Past.ext _)))) | (go_at_call 29; (with_reducible exact past_ext (Hy.out _ (Past.ext _)))))))
    refine wpQuiet_nil ?_
    intro w1 hw'
    obtain ⟨⟨_, hE⟩, hw''⟩ := hw'
    subst hw''
    clear qR0 qR1
    go_wp2
    go_ret
    exact ⟨by rw [HT.out] <;> rfl, HEV.out.trans hE⟩
set_option maxRecDepth 100000 in
theorem fracText_any (x y : Int) (hx : -1000000000 ≤ x ∧ x ≤ 1000000000) (hy : 1 ≤ y ∧ y ≤ 1000000000) (w : World) (ht : Tab w) :
    Calls Tryz.prog 16 #[.agg #[.int .i64 x, .int .i64 y]] w fun r w' => r = .returned (.string (fracT x y)) ∧ Ext w w' := by
  have la := itoa_len (n := x) (by omega) (by omega)
  have lb := itoa_len (n := y) (by omega) (by omega)
  obtain ⟨V, hV⟩ : ∃ V, V = w.alloc (.cells #[.int .i64 x, .int .i64 y] 35) := ⟨_, rfl⟩
  have HEV := Lib.hid (show Ext w V by rw [hV]; exact Ext.alloc (Ext.refl _) _)
  have Rc0 := Ext.keeps (w := V) (b := w.heap.size) (o := 0) (v := .int .i64 x) (by rw [hV]; simp)
  have Rc1 := Ext.keeps (w := V) (b := w.heap.size) (o := 1) (v := .int .i64 y) (by rw [hV]; simp)
  have Hx := Lib.hid (fun w' (e : Ext V w') => itoa_any x (by omega) (by omega) w' (ht.ext (HEV.out.trans e)))
  have Hy := Lib.hid (fun w' (e : Ext V w') => itoa_any y (by omega) (by omega) w' (ht.ext (HEV.out.trans e)))
  clear ht hx hy
  by_cases h1 : y = 1
  · have HT := Lib.hid (fracT_one (x := x) h1)
    have hy1 : decide (y = 1) = true := decide_eq_true h1
    have hy2 : (y == 1) = true := by simpa using h1
    clear h1
    go_enter Tryz.func16, Tryz.ntmps16
    go_wp2_with fail
    rw [← hV]
    refine (Hx.out _ (Ext.refl _)).mono ?_
    rintro e w1 ⟨rfl, hb1⟩
    have h1 := HEV.out.trans hb1
    go_wp2
    go_ret
    exact ⟨by rw [HT.out] <;> rfl, h1⟩
  · have HT := Lib.hid (fracT_two (x := x) h1)
    have hy1 : decide (y = 1) = false := decide_eq_false h1
    have hy2 : (y == 1) = false := by simpa using h1
    clear h1
    go_enter Tryz.func16, Tryz.ntmps16
    go_wp2
    rw [← hV]
    have HV := Lib.hid hV
    clear hV
    have qR0 := fun s : Past V => Rc0 s.w s.ext
    have qR1 := fun s : Past V => Rc1 s.w s.ext
    refine wp_region_past V (Ext.refl _) (by kernel_rfl) (by kernel_rfl) ?_
    repeat (go_big_quiet_step ((first | (go_at_call 33; (with_reducible exact past_ext (Hx.out _ (Past.ext _)))) | (go_at_call 33; (with_reducible exact past_ext (Hy.out _ (Past.ext _)))))))
    refine wpQuiet_nil ?_
    intro w1 hw'
    obtain ⟨⟨_, hE⟩, hw''⟩ := hw'
    subst hw''
    clear qR0 qR1
    go_wp2
    go_ret
    exact ⟨by rw [HT.out] <;> rfl, HEV.out.trans hE⟩
end Go.Proofs.YtngbdopgdcjdeaaGreatDoor
