/-
  The sum of a star: what both sides compute.
-/
import Derived.Test.YtaloegjcdllgoaaStarLaw
namespace Go.Proofs.Ytaloegjcdllgoaa
open Go.RowKit

/-- The sum of the first k rays, by parts. -/
def sX (zs : List (Int × Int × Int)) : Nat → Int
  | 0 => 0
  | k + 1 => sX zs k + (tat zs k).2.2 * (tat zs k).1
def sY (zs : List (Int × Int × Int)) : Nat → Int
  | 0 => 0
  | k + 1 => sY zs k + (tat zs k).2.2 * (tat zs k).2.1
/-- What is known of the rays of a star. -/
def Small (zs : List (Int × Int × Int)) : Prop := zs.length ≤ 10 ∧ ∀ k, k < zs.length → (-20 ≤ (tat zs k).1 ∧ (tat zs k).1 ≤ 20) ∧ (-20 ≤ (tat zs k).2.1 ∧ (tat zs k).2.1 ≤ 20) ∧ (1 ≤ (tat zs k).2.2 ∧ (tat zs k).2.2 ≤ 20)
theorem prod_bd {a b : Int} (ha : 1 ≤ a ∧ a ≤ 20) (hb : -20 ≤ b ∧ b ≤ 20) : -400 ≤ a * b ∧ a * b ≤ 400 := by
  obtain ⟨a1, a2⟩ := ha
  obtain ⟨b1, b2⟩ := hb
  constructor
  · have h1 : a * (-20) ≤ a * b := Int.mul_le_mul_of_nonneg_left b1 (by omega)
    omega
  · have h1 : a * b ≤ a * 20 := Int.mul_le_mul_of_nonneg_left b2 (by omega)
    omega
theorem sX_bd {zs : List (Int × Int × Int)} (h : Small zs) : ∀ k : Nat, k ≤ zs.length → -(400 * (k : Int)) ≤ sX zs k ∧ sX zs k ≤ 400 * (k : Int)
  | 0, _ => by simp [sX]
  | k + 1, hk => by
    have ih := sX_bd h k (by omega)
    have hp := h.2 k (by omega)
    have hq := prod_bd hp.2.2 hp.1
    simp only [sX]
    omega
theorem sY_bd {zs : List (Int × Int × Int)} (h : Small zs) : ∀ k : Nat, k ≤ zs.length → -(400 * (k : Int)) ≤ sY zs k ∧ sY zs k ≤ 400 * (k : Int)
  | 0, _ => by simp [sY]
  | k + 1, hk => by
    have ih := sY_bd h k (by omega)
    have hp := h.2 k (by omega)
    have hq := prod_bd hp.2.2 hp.2.1
    simp only [sY]
    omega

/-- A box of two numbers that the call may write. -/
def Box2 (w : World) (b : Nat) (x y : Int) : Prop := Has w b [.int .i64 x, .int .i64 y] ∧ ∀ i, w.frozen? ⟨b, i, none⟩ = false
theorem Box2.lt {w : World} {b : Nat} {x y : Int} (h : Box2 w b x y) : b < w.heap.size := by
  rcases Nat.lt_or_ge b w.heap.size with hlt | hge
  · exact hlt
  · have h0 := h.1 0 _ rfl
    simp [World.cell?, Array.getElem?_eq_none hge] at h0
theorem Box2.ext {w w' : World} {b : Nat} {x y : Int} (h : Ext w w') (k : Box2 w b x y) : Box2 w' b x y := ⟨Has.ext h k.1, fun i => by rw [h.frozen b i k.lt]; exact k.2 i⟩
theorem Box2.set {w : World} {b : Nat} {x y : Int} (k : Box2 w b x y) (u v : Int) : Box2 ((w.setCell ⟨b, 0, none⟩ (.int .i64 u)).setCell ⟨b, 1, none⟩ (.int .i64 v)) b u v := by
  have h0 := k.1 0 _ rfl
  have h1 := k.1 1 _ rfl
  refine ⟨fun i z hi => ?_, fun i => by simpa using k.2 i⟩
  match i, hi with
  | 0, hi =>
    obtain rfl : Value.int .i64 u = z := by simpa using hi
    rw [World.cell?_setCell_other _ _ _ _ (by simp), World.cell?_setCell_same _ _ _ h0]
  | 1, hi =>
    obtain rfl : Value.int .i64 v = z := by simpa using hi
    rw [World.cell?_setCell_same _ _ _ (u := .int .i64 y) (by rw [World.cell?_setCell_other _ _ _ _ (by simp)]; exact h1)]
  | i + 2, hi => simp at hi
theorem Box2.new (w : World) (x y : Int) (t : TypeId) : Box2 (w.alloc (.cells #[.int .i64 x, .int .i64 y] t)) w.heap.size x y :=
  ⟨Has.new w _ t, fun i => by simp⟩
theorem Box2.far {w : World} {b : Nat} {x y : Int} (k : Box2 w b x y) {p : Addr} (hp : p.block ≠ b) (u : Value) : Box2 (w.setCell p u) b x y := by
  refine ⟨fun i z hi => ?_, fun i => by simpa using k.2 i⟩
  rw [World.cell?_setCell_other _ _ _ _ (by rintro rfl; exact hp rfl)]
  exact k.1 i z hi

theorem plus_any (a b c d : Int) (ha : -1000000000 ≤ a ∧ a ≤ 1000000000) (hb : -1000000000 ≤ b ∧ b ≤ 1000000000) (hc : -1000000000 ≤ c ∧ c ≤ 1000000000) (hd : -1000000000 ≤ d ∧ d ≤ 1000000000) (w : World) :
    Calls Try.prog 34 #[.agg #[.int .i64 a, .int .i64 b], .agg #[.int .i64 c, .int .i64 d]] w fun r w' => r = .returned (.agg #[.int .i64 (a + c), .int .i64 (b + d)]) ∧ Ext w w' := by
  have HA := (Has.alloc (Has.new w #[.int .i64 a, .int .i64 b] 49) (.cells #[.int .i64 c, .int .i64 d] 49))
  have Ac0 := Ext.keeps (HA 0 _ rfl)
  have Ac1 := Ext.keeps (HA 1 _ rfl)
  clear HA
  have HB := (Has.new2 w (.cells #[.int .i64 a, .int .i64 b] 49) #[.int .i64 c, .int .i64 d] 49)
  have Bc0 := Ext.keeps (HB 0 _ rfl)
  have Bc1 := Ext.keeps (HB 1 _ rfl)
  clear HB
  have hE : Ext ((w.alloc (.cells #[.int .i64 a, .int .i64 b] 49)).alloc (.cells #[.int .i64 c, .int .i64 d] 49)) ((w.alloc (.cells #[.int .i64 a, .int .i64 b] 49)).alloc (.cells #[.int .i64 c, .int .i64 d] 49)) := Ext.refl _
  go_enter Try.func34, Try.ntmps34
  go_wp2
  refine bodyPost_ret (v := .agg #[.int .i64 (a + c), .int .i64 (b + d)]) (by simp [results, Try.results34, go_sem]) rfl ⟨rfl, (by repeat (first | exact Ext.refl _ | assumption | apply Ext.alloc | apply Ext.drew | apply Ext.drewN | (refine Ext.trans ?_ (by assumption)) | (refine Ext.setCell ?_ (by (try simp) <;> omega) _)))⟩

set_option maxHeartbeats 1000000 in
theorem stSum_any (a : Option Addr) (n c : Nat) (zs : List (Int × Int × Int)) (hs : Small zs) (w : World) (h : Reads w a 3 n (tv zs)) :
    Calls Try.prog 55 #[.slice a n c] w fun r w' => r = .returned (.tuple #[.int .i64 (sX zs n), .int .i64 (sY zs n)]) ∧ Ext w w' := by
  have hl : zs.length = n := by have := h.1; rw [tv_len] at this; omega
  have hn := hs.1
  go_enter Try.func55, Try.ntmps55
  go_wp2
  go_loopw [4, 5, 10] (fun x y t wr => ∃ k : Nat, k ≤ n ∧ t = .int .i64 k ∧ x = .int .i64 (sX zs k) ∧ y = .int .i64 (sY zs k) ∧ Ext w wr) (fun _ _ t _ => n - (intOf t).toNat)
  case atStart => exact ⟨0, Nat.zero_le _, rfl, rfl, rfl, Ext.refl _⟩
  case round =>
    obtain ⟨k, hk, rfl, rfl, rfl, hbr⟩ := hrel
    by_cases hlt : k < n
    · obtain ⟨b, off, rfl, hp0, hp1, hp2⟩ := (Reads.ext hbr h).tri hlt
      have B1 := sX_bd hs k (by omega)
      have B2 := sY_bd hs k (by omega)
      have HX := Lib.hid (show sX zs (k + 1) = sX zs k + (tat zs k).2.2 * (tat zs k).1 from rfl)
      have HY := Lib.hid (show sY zs (k + 1) = sY zs k + (tat zs k).2.2 * (tat zs k).2.1 from rfl)
      have hb := hs.2 k (by omega)
      have P1 := prod_bd hb.2.2 hb.1
      have P2 := prod_bd hb.2.2 hb.2.1
      generalize (tat zs k).1 = x at *
      generalize (tat zs k).2.1 = y at *
      generalize (tat zs k).2.2 = z at *
      generalize sX zs k = s at *
      generalize sY zs k = t at *
      clear h hs
      have hE : Ext wr wr := Ext.refl _
      have hT : Ext wr (wr.alloc (.cells #[.int .i64 x, .int .i64 y, .int .i64 z] 52)) := Ext.alloc hE _
      have HR := Has.new wr #[.int .i64 x, .int .i64 y, .int .i64 z] 52
      have Rc0 := Ext.keeps (HR 0 _ rfl)
      have Rc1 := Ext.keeps (HR 1 _ rfl)
      have Rc2 := Ext.keeps (HR 2 _ rfl)
      clear HR
      replace hE : Ext (wr.alloc (.cells #[.int .i64 x, .int .i64 y, .int .i64 z] 52)) (wr.alloc (.cells #[.int .i64 x, .int .i64 y, .int .i64 z] 52)) := Ext.refl _
      go_wp2
      go_roundw
      case rel => exact ⟨k + 1, by omega, by go_num, by rw [HX.out], by rw [HY.out], hbr.trans (by repeat (first | exact Ext.refl _ | assumption | apply Ext.alloc | apply Ext.drew | apply Ext.drewN | (refine Ext.trans ?_ (by assumption)) | (refine Ext.setCell ?_ (by (try simp) <;> omega) _)))⟩
      case measure => simp [intOf]; omega
    · obtain rfl : k = n := by omega
      go_wp2
      go_ret2
      exact ⟨rfl, hbr⟩

set_option maxHeartbeats 1000000 in
theorem starSum_any (a : Option Addr) (n c : Nat) (zs : List (Int × Int × Int)) (hs : Small zs) (w : World) (h : Reads w a 3 n (tv zs)) :
    Calls Try.prog 59 #[.slice a n c] w fun r w' => r = .returned (.agg #[.int .i64 (sX zs n), .int .i64 (sY zs n)]) ∧ Ext w w' := by
  have hl : zs.length = n := by have := h.1; rw [tv_len] at this; omega
  have hn := hs.1
  go_enter Try.func59, Try.ntmps59
  have hE : Ext w w := Ext.refl _
  go_wp2
  go_loopw [9] (fun t wr => ∃ k : Nat, k ≤ n ∧ t = .int .i64 k ∧ Box2 wr w.heap.size 0 0 ∧ Box2 wr (w.heap.size + 1) (sX zs k) (sY zs k) ∧ Ext w wr) (fun t _ => n - (intOf t).toNat)
  case atStart =>
    refine ⟨0, Nat.zero_le _, rfl, ?_, ?_, (by repeat (first | exact Ext.refl _ | assumption | apply Ext.alloc | apply Ext.drew | apply Ext.drewN | (refine Ext.trans ?_ (by assumption)) | (refine Ext.setCell ?_ (by (try simp) <;> omega) _)))⟩
    · exact Box2.ext ((Ext.refl _).alloc _) (Box2.new w 0 0 _)
    · have := Box2.new (w.alloc (.cells #[.int .i64 0, .int .i64 0] 49)) 0 0 49
      rw [World.size_alloc] at this
      exact this
  case round =>
    obtain ⟨k, hk, rfl, hR, hO, hbr⟩ := hrel
    by_cases hlt : k < n
    · obtain ⟨b, off, rfl, hp0, hp1, hp2⟩ := (Reads.ext hbr h).tri hlt
      have B1 := sX_bd hs k (by omega)
      have B2 := sY_bd hs k (by omega)
      have HX := Lib.hid (show sX zs (k + 1) = sX zs k + (tat zs k).2.2 * (tat zs k).1 from rfl)
      have HY := Lib.hid (show sY zs (k + 1) = sY zs k + (tat zs k).2.2 * (tat zs k).2.1 from rfl)
      have hb := hs.2 k (by omega)
      have P1 := prod_bd hb.2.2 hb.1
      have P2 := prod_bd hb.2.2 hb.2.1
      generalize (tat zs k).1 = x at *
      generalize (tat zs k).2.1 = y at *
      generalize (tat zs k).2.2 = z at *
      generalize sX zs k = s at *
      generalize sY zs k = t at *
      clear h hs
      have Oc0 := Ext.keeps (hO.1 0 _ rfl)
      have Oc1 := Ext.keeps (hO.1 1 _ rfl)
      have Of0 := Ext.thaws (hO.1 0 _ rfl) (hO.2 0)
      have Of1 := Ext.thaws (hO.1 1 _ rfl) (hO.2 1)
      have hE : Ext wr wr := Ext.refl _
      have hT : Ext wr (wr.alloc (.cells #[.int .i64 x, .int .i64 y, .int .i64 z] 52)) := Ext.alloc hE _
      replace Oc0 := Ext.rebase hT Oc0
      replace Oc1 := Ext.rebase hT Oc1
      have HV := Has.new wr #[.int .i64 x, .int .i64 y, .int .i64 z] 52
      have Vc0 := Ext.keeps (HV 0 _ rfl)
      have Vc1 := Ext.keeps (HV 1 _ rfl)
      have Vc2 := Ext.keeps (HV 2 _ rfl)
      clear HV
      replace hE : Ext (wr.alloc (.cells #[.int .i64 x, .int .i64 y, .int .i64 z] 52)) (wr.alloc (.cells #[.int .i64 x, .int .i64 y, .int .i64 z] 52)) := Ext.refl _
      go_wp2_with fail
      refine (plus_any s t (z * x) (z * y) (by omega) (by omega) (by omega) (by omega) _).mono ?_
      rintro e w2 ⟨rfl, hb2⟩
      have hE2 : Ext wr w2 := ((Ext.refl wr).alloc _).trans hb2
      replace Oc0 := Oc0 _ hb2
      replace Oc1 := Oc1 _ hb2
      replace Of0 := Of0 _ hE2
      replace Of1 := Of1 _ hE2
      have hO2 := hO.ext hE2
      have hR2 := hR.ext hE2
      go_wp2
      go_roundw
      case rel => exact ⟨k + 1, by omega, by go_num, (hR2.far (by simp) _).far (by simp) _, by rw [HX.out, HY.out]; exact hO2.set _ _, ((hbr.trans hE2).setCell (by simp) _).setCell (by simp) _⟩
      case measure => simp [intOf]; omega
    · obtain rfl : k = n := by omega
      have Oc0 := hO.1 0 _ rfl
      have Oc1 := hO.1 1 _ rfl
      have Rc0 := hR.1 0 _ rfl
      have Rc1 := hR.1 1 _ rfl
      have Rf0 := hR.2 0
      have Rf1 := hR.2 1
      have hF := (hR.set (sX zs k) (sY zs k)).1
      have Fc0 := hF 0 _ rfl
      have Fc1 := hF 1 _ rfl
      clear hF
      go_wp2
      refine bodyPost_ret (v := .agg #[.int .i64 (sX zs k), .int .i64 (sY zs k)]) (by simp [results, Try.results59, go_sem, Fc0, Fc1]) rfl ⟨rfl, (hbr.setCell (by simp) _).setCell (by simp) _⟩

end Go.Proofs.Ytaloegjcdllgoaa
