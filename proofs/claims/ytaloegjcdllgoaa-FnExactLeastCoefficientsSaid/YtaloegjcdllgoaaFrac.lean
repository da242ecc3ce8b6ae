/-
  Fractions: what both sides compute.
-/
import Derived.Test.YtaloegjcdllgoaaNum
import Derived.Test.YtaloegjcdllgoaaPair
import Derived.BigQuiet
namespace Go.Proofs.Ytaloegjcdllgoaa
open Go.RowKit

theorem frozen_fresh {w : World} {cs : Array Value} {t : TypeId} {b i : Nat} (h : b = w.heap.size) : (w.alloc (.cells cs t)).frozen? ⟨b, i, none⟩ = false := by
  subst h; simp
/-- A valid fraction; what a quotient is divided by, its parts; whether it is one. -/
def fracB (x y : Int) : Bool := inB x (-1000000000) 1000000000 && inB y 1 1000000000 && (gcdI x y == 1)
theorem fracB_true {x y : Int} : fracB x y = true ↔ (-1000000000 ≤ x ∧ x ≤ 1000000000) ∧ (1 ≤ y ∧ y ≤ 1000000000) ∧ gcdI x y = 1 := by simp [fracB, inB_true, and_assoc]
theorem fracB_cases (x y : Int) : fracB x y = false ∨ (fracB x y = true ∧ (-1000000000 ≤ x ∧ x ≤ 1000000000) ∧ (1 ≤ y ∧ y ≤ 1000000000) ∧ gcdI x y = 1) := by
  cases h : fracB x y
  · exact .inl rfl
  · exact .inr ⟨rfl, fracB_true.1 h⟩
def lowG (n d : Int) : Int := if d < 0 then -gcdI n d else gcdI n d
def lowN (n d : Int) : Int := n.tdiv (lowG n d)
def lowD (n d : Int) : Int := d.tdiv (lowG n d)
def okM (n d : Int) : Bool := (d != 0) && fracB (lowN n d) (lowD n d)
theorem tdiv_bd {a b k : Int} (h : -k ≤ a ∧ a ≤ k) : -k ≤ a.tdiv b ∧ a.tdiv b ≤ k := by
  have h2 : (a.tdiv b).natAbs ≤ a.natAbs := by rw [Int.natAbs_tdiv]; exact Nat.div_le_self _ _
  omega
theorem lowG_ne {n d : Int} (h : d ≠ 0) : lowG n d ≠ 0 := by
  have := gcdI_pos_of (a := n) (b := d) (.inr h)
  unfold lowG; split <;> omega
/-- In lowest terms, over a divisor that is more than 0. -/
theorem low_gcd {n d : Int} (hd : 0 < d) : gcdI (lowN n d) (lowD n d) = 1 ∧ 1 ≤ lowD n d := by
  have hg := gcdI_pos_of (a := n) (b := d) (.inr (by omega))
  have hG : lowG n d = gcdI n d := by unfold lowG; rw [if_neg (by omega)]
  unfold lowN lowD
  rw [hG]
  have e : ((gcdI n d).natAbs : Nat) = Nat.gcd n.natAbs d.natAbs := by unfold gcdI Int.gcd; omega
  have hpos : 0 < Nat.gcd n.natAbs d.natAbs := by omega
  constructor
  · unfold gcdI
    show ((Int.gcd (n.tdiv (gcdI n d)) (d.tdiv (gcdI n d)) : Nat) : Int) = 1
    unfold Int.gcd
    rw [Int.natAbs_tdiv, Int.natAbs_tdiv, e]
    have := Nat.coprime_div_gcd_div_gcd hpos
    unfold Nat.Coprime at this
    show (((n.natAbs / n.natAbs.gcd d.natAbs).gcd (d.natAbs / n.natAbs.gcd d.natAbs) : Nat) : Int) = 1
    rw [this]; rfl
  · have h1 : gcdI n d ∣ d := by unfold gcdI; exact Int.gcd_dvd_right ..
    obtain ⟨q, hq⟩ := h1
    generalize gcdI n d = G at *
    have e2 : d.tdiv G = q := by
      rw [hq]
      exact Int.mul_tdiv_cancel_left _ (by omega)
    rw [e2]
    rcases (show 0 < q ∨ q ≤ 0 by omega) with h | h
    · omega
    · have := Int.mul_le_mul_of_nonneg_left h (show 0 ≤ G by omega)
      omega
theorem okM_of {n d : Int} (hd : 0 < d) (hn : -1000000000 ≤ n ∧ n ≤ 1000000000) (hd2 : d ≤ 1000000000) : okM n d = true := by
  have h := low_gcd (n := n) hd
  have h1 : -1000000000 ≤ lowN n d ∧ lowN n d ≤ 1000000000 := tdiv_bd hn
  have h2 : -1000000000 ≤ lowD n d ∧ lowD n d ≤ 1000000000 := tdiv_bd (by omega)
  simp only [okM, Bool.and_eq_true, bne_iff_ne]
  exact ⟨by omega, fracB_true.2 ⟨h1, ⟨h.2, h2.2⟩, h.1⟩⟩
/-- What a fraction in lowest terms stands for. -/
theorem low_mul {n d : Int} : lowN n d * lowG n d = n ∧ lowD n d * lowG n d = d := by
  have h1 : lowG n d ∣ n := by
    have : gcdI n d ∣ n := by unfold gcdI; exact Int.gcd_dvd_left ..
    unfold lowG; split
    · exact Int.neg_dvd.2 this
    · exact this
  have h2 : lowG n d ∣ d := by
    have : gcdI n d ∣ d := by unfold gcdI; exact Int.gcd_dvd_right ..
    unfold lowG; split
    · exact Int.neg_dvd.2 this
    · exact this
  exact ⟨Int.tdiv_mul_cancel h1, Int.tdiv_mul_cancel h2⟩
theorem gcdI_one (x : Int) : gcdI x 1 = 1 := by unfold gcdI; simp
theorem fracB_whole {x : Int} (h : -1000000000 ≤ x ∧ x ≤ 1000000000) : fracB x 1 = true := fracB_true.2 ⟨h, by omega, gcdI_one x⟩
theorem and_tri {a b c : Bool} : (a && b && c) = (a && (b && c)) := by cases a <;> rfl

theorem gcd_extF (a b : Int) (ha1 : -9223372036854775807 ≤ a) (ha2 : a ≤ 9223372036854775807) (hb1 : -9223372036854775807 ≤ b) (hb2 : b ≤ 9223372036854775807) (w : World) :
    Calls Try.prog 67 #[.int .i64 a, .int .i64 b] w fun r w' => r = .returned (.int .i64 (gcdI a b)) ∧ Ext w w' :=
  (gcd_any a b ha1 ha2 hb1 hb2 w).mono fun _ _ ⟨he, n, hw⟩ => ⟨he, hw ▸ Ext.drewN (Ext.refl _) n⟩

set_option maxHeartbeats 1000000 in
theorem lowest_any (n d : Int) (n1 : -4000000000000000000 ≤ n) (n2 : n ≤ 4000000000000000000) (d1 : -4000000000000000000 ≤ d) (d2 : d ≤ 4000000000000000000) (hd : d ≠ 0) (w : World) :
    Calls Try.prog 51 #[.int .i64 n, .int .i64 d] w fun r w' => r = .returned (.agg #[.int .i64 (lowN n d), .int .i64 (lowD n d)]) ∧ Ext w w' := by
  have g0 := gcdI_pos_of (a := n) (b := d) (.inr hd)
  have g1 := gcdI_le (x := n) (y := d) (k := 4000000000000000000) (by omega) (by omega) (by omega) (by omega)
  have HG := Lib.hid (fun w => gcd_extF n d (by omega) (by omega) (by omega) (by omega) w)
  have HR := (Has.new w #[.int .i64 0, .int .i64 0] 44)
  have Rc0 := Ext.keeps (HR 0 _ rfl)
  have Rc1 := Ext.keeps (HR 1 _ rfl)
  have Rf0 := Ext.thaws (w := (w.alloc (.cells #[.int .i64 0, .int .i64 0] 44))) (HR 0 _ rfl) (by simp)
  have Rf1 := Ext.thaws (w := (w.alloc (.cells #[.int .i64 0, .int .i64 0] 44))) (HR 1 _ rfl) (by simp)
  clear HR
  have hE : Ext (w.alloc (.cells #[.int .i64 0, .int .i64 0] 44)) (w.alloc (.cells #[.int .i64 0, .int .i64 0] 44)) := Ext.refl _
  by_cases hneg : d < 0
  · have hG : lowG n d = (-gcdI n d) := by unfold lowG; rw [if_pos hneg]
    have eN : lowN n d = -(n.tdiv (gcdI n d)) := by unfold lowN; rw [hG, Int.tdiv_neg]
    have eD : lowD n d = -(d.tdiv (gcdI n d)) := by unfold lowD; rw [hG, Int.tdiv_neg]
    have t1 := tdiv_bd (a := n) (b := gcdI n d) (k := 4000000000000000000) ⟨by omega, by omega⟩
    have t2 := tdiv_bd (a := d) (b := gcdI n d) (k := 4000000000000000000) ⟨by omega, by omega⟩
    rw [eN, eD]
    generalize gcdI n d = g at *
    clear hG eN eD
    go_enter Try.func51, Try.ntmps51
    go_wp2_with ((go_at_call 67; refine (HG.out _).mono ?_; rintro e w' ⟨rfl, hb⟩; (first | replace hE := Ext.trans hE hb | replace hE := Ext.trans (Ext.alloc hE _) hb | replace hE := Ext.trans (Ext.alloc (Ext.alloc hE _) _) hb | replace hE := Ext.trans (Ext.drew hE) hb | replace hE := Ext.trans (Ext.alloc (Ext.alloc (Ext.alloc hE _) _) _) hb)))
    go_region
    go_wp2
    refine bodyPost_ret (v := .agg #[.int .i64 (-n.tdiv g), .int .i64 (-d.tdiv g)]) (by simp [results, Try.results51, go_sem, Rc0, Rc1, hE]) rfl ⟨rfl, (by repeat (first | exact Ext.refl _ | assumption | apply Ext.alloc | apply Ext.drew | apply Ext.drewN | (refine Ext.trans ?_ (by assumption)) | (refine Ext.setCell ?_ (by (try simp) <;> omega) _)))⟩
  · have hG : lowG n d = (gcdI n d) := by unfold lowG; rw [if_neg hneg]
    have eN : lowN n d = (n.tdiv (gcdI n d)) := by unfold lowN; rw [hG]
    have eD : lowD n d = (d.tdiv (gcdI n d)) := by unfold lowD; rw [hG]
    have t1 := tdiv_bd (a := n) (b := gcdI n d) (k := 4000000000000000000) ⟨by omega, by omega⟩
    have t2 := tdiv_bd (a := d) (b := gcdI n d) (k := 4000000000000000000) ⟨by omega, by omega⟩
    rw [eN, eD]
    generalize gcdI n d = g at *
    clear hG eN eD
    go_enter Try.func51, Try.ntmps51
    go_wp2_with ((go_at_call 67; refine (HG.out _).mono ?_; rintro e w' ⟨rfl, hb⟩; (first | replace hE := Ext.trans hE hb | replace hE := Ext.trans (Ext.alloc hE _) hb | replace hE := Ext.trans (Ext.alloc (Ext.alloc hE _) _) hb | replace hE := Ext.trans (Ext.drew hE) hb | replace hE := Ext.trans (Ext.alloc (Ext.alloc (Ext.alloc hE _) _) _) hb)))
    go_region
    go_wp2
    refine bodyPost_ret (v := .agg #[.int .i64 (n.tdiv g), .int .i64 (d.tdiv g)]) (by simp [results, Try.results51, go_sem, Rc0, Rc1, hE]) rfl ⟨rfl, (by repeat (first | exact Ext.refl _ | assumption | apply Ext.alloc | apply Ext.drew | apply Ext.drewN | (refine Ext.trans ?_ (by assumption)) | (refine Ext.setCell ?_ (by (try simp) <;> omega) _)))⟩

theorem whole_any (x : Int) (w : World) :
    Calls Try.prog 50 #[.int .i64 x] w fun r w' => r = .returned (.agg #[.int .i64 x, .int .i64 1]) ∧ Ext w w' := by
  go_enter Try.func50, Try.ntmps50
  go_wp2
  refine bodyPost_ret (v := .agg #[.int .i64 x, .int .i64 1]) (by simp [results, Try.results50, go_sem]) rfl ⟨rfl, (by repeat (first | exact Ext.refl _ | assumption | apply Ext.alloc | apply Ext.drew | apply Ext.drewN | (refine Ext.trans ?_ (by assumption)) | (refine Ext.setCell ?_ (by (try simp) <;> omega) _)))⟩

end Go.Proofs.Ytaloegjcdllgoaa
