/-
  The sum of a star: what both sides compute.
-/
import Derived.Test.YtgoaedhgkkbajaaDoorStarLaw
namespace Go.Proofs.YtgoaedhgkkbajaaDoor
open Go.RowKit

/-- The sum of the first k rays, by parts. -/
def sX (zs : List (Int × Int × Int)) : Nat → Int
  | 0 => 0
  | k + 1 => sX zs k + (tat zs k).2.2 * (tat zs k).1
def sY (zs : List (Int × Int × Int)) : Nat → Int
  | 0 => 0
  | k + 1 => sY zs k + (tat zs k).2.2 * (tat zs k).2.1
/-- What is known of the rays of a star. -/
def Small (zs : List (Int × Int × Int)) : Prop := zs.length ≤ 10 ∧ ∀ k, k < zs.length → (-20 ≤ (tat zs k).1 ∧ (tat zs k).1 ≤ 20) ∧ (-20 ≤ (tat zs k).2.1 ∧ (tat zs k).2.1 ≤ 20) ∧ (1 ≤ (tat zs k).2.2 ∧ (tat zs k).2.2 ≤ 20)
theorem prod_bd {a b : Int} (ha : 1 ≤ a ∧ a ≤ 20) (hb : -20 ≤ b ∧ b ≤ 20) : -400 ≤ a * b ∧ a * b ≤ 400 := by
  obtain ⟨a1, a2⟩ := ha
  obtain ⟨b1, b2⟩ := hb
  constructor
  · have h1 : a * (-20) ≤ a * b := Int.mul_le_mul_of_nonneg_left b1 (by omega)
    omega
  · have h1 : a * b ≤ a * 20 := Int.mul_le_mul_of_nonneg_left b2 (by omega)
    omega
theorem sX_bd {zs : List (Int × Int × Int)} (h : Small zs) : ∀ k : Nat, k ≤ zs.length → -(400 * (k : Int)) ≤ sX zs k ∧ sX zs k ≤ 400 * (k : Int)
  | 0, _ => by simp [sX]
  | k + 1, hk => by
    have ih := sX_bd h k (by omega)
    have hp := h.2 k (by omega)
    have hq := prod_bd hp.2.2 hp.1
    simp only [sX]
    omega
theorem sY_bd {zs : List (Int × Int × Int)} (h : Small zs) : ∀ k : Nat, k ≤ zs.length → -(400 * (k : Int)) ≤ sY zs k ∧ sY zs k ≤ 400 * (k : Int)
  | 0, _ => by simp [sY]
  | k + 1, hk => by
    have ih := sY_bd h k (by omega)
    have hp := h.2 k (by omega)
    have hq := prod_bd hp.2.2 hp.2.1
    simp only [sY]
    omega

/-- A box of two numbers that the call may write. -/
def Box2 (w : World) (b : Nat) (x y : Int) : Prop := Has w b [.int .i64 x, .int .i64 y] ∧ ∀ i, w.frozen? ⟨b, i, none⟩ = false
theorem Box2.lt {w : World} {b : Nat} {x y : Int} (h : Box2 w b x y) : b < w.heap.size := by
  rcases Nat.lt_or_ge b w.heap.size with hlt | hge
  · exact hlt
  · have h0 := h.1 0 _ rfl
    simp [World.cell?, Array.getElem?_eq_none hge] at h0
theorem Box2.ext {w w' : World} {b : Nat} {x y : Int} (h : Ext w w') (k : Box2 w b x y) : Box2 w' b x y := ⟨Has.ext h k.1, fun i => by rw [h.frozen b i k.lt]; exact k.2 i⟩
theorem Box2.set {w : World} {b : Nat} {x y : Int} (k : Box2 w b x y) (u v : Int) : Box2 ((w.setCell ⟨b, 0, none⟩ (.int .i64 u)).setCell ⟨b, 1, none⟩ (.int .i64 v)) b u v := by
  have h0 := k.1 0 _ rfl
  have h1 := k.1 1 _ rfl
  refine ⟨fun i z hi => ?_, fun i => by simpa using k.2 i⟩
  match i, hi with
  | 0, hi =>
    obtain rfl : Value.int .i64 u = z := by simpa using hi
    rw [World.cell?_setCell_other _ _ _ _ (by simp), World.cell?_setCell_same _ _ _ h0]
  | 1, hi =>
    obtain rfl : Value.int .i64 v = z := by simpa using hi
    rw [World.cell?_setCell_same _ _ _ (u := .int .i64 y) (by rw [World.cell?_setCell_other _ _ _ _ (by simp)]; exact h1)]
  | i + 2, hi => simp at hi
theorem Box2.new (w : World) (x y : Int) (t : TypeId) : Box2 (w.alloc (.cells #[.int .i64 x, .int .i64 y] t)) w.heap.size x y :=
  ⟨Has.new w _ t, fun i => by simp⟩
theorem Box2.far {w : World} {b : Nat} {x y : Int} (k : Box2 w b x y) {p : Addr} (hp : p.block ≠ b) (u : Value) : Box2 (w.setCell p u) b x y := by
  refine ⟨fun i z hi => ?_, fun i => by simpa using k.2 i⟩
  rw [World.cell?_setCell_other _ _ _ _ (by rintro rfl; exact hp rfl)]
  exact k.1 i z hi

end Go.Proofs.YtgoaedhgkkbajaaDoor
