/-
  The reference's least coefficients: the walk.
-/
import Derived.Test.YtgoaedhgkkbajaaDoorLeast
import Derived.BigQuiet
import Derived.StillTailTactics
namespace Go.Proofs.YtgoaedhgkkbajaaDoor
open Go.RowKit

theorem own_keep {w w' : World} {B : Nat} {E : TypeId} {size : Nat} {v : Value} {n : Nat} {xs : List Value} {row : Option Nat} (k : w.ownsRow B E size v n xs) (hg : w.grownBy w' row) (h : ∀ q, v.ownBlock = some q → row ≠ some q) : w'.ownsRow B E size v n xs := by
  refine k.kept hg ?_
  cases hv : v.ownBlock with
  | none => exact .inl rfl
  | some q => exact .inr fun e => h q hv e.symm

theorem still_same {P : Program} {f : FuncId} {args : Array Value} {w : World} {v : Value} (h : Calls P f args w fun e w' => e = .returned v ∧ w = w') : Calls P f args w fun e w' => e = .returned v ∧ w' = w :=
  h.mono fun _ _ ⟨he, hw⟩ => ⟨he, hw.symm⟩
theorem seg_bd {p q x y i : Int} (hp : -1000000 ≤ p ∧ p ≤ 1000000) (hq : -1000000 ≤ q ∧ q ≤ 1000000) (h1 : 0 ≤ x - y) (h2 : 0 ≤ y - i) (h3 : 0 < x - i) :
    -1000000 ≤ -(p * (x - y) + q * (y - i)) / (x - i) ∧ -(p * (x - y) + q * (y - i)) / (x - i) ≤ 1000000 := by
  have p1 := Int.mul_le_mul_of_nonneg_right hp.1 h1
  have p2 := Int.mul_le_mul_of_nonneg_right hp.2 h1
  have q1 := Int.mul_le_mul_of_nonneg_right hq.1 h2
  have q2 := Int.mul_le_mul_of_nonneg_right hq.2 h2
  constructor
  · refine (Int.le_ediv_iff_mul_le h3).2 ?_
    grind
  · have : -(p * (x - y) + q * (y - i)) < (1000000 + 1) * (x - i) := by grind
    have := (Int.ediv_lt_iff_lt_mul h3).2 this
    omega

end Go.Proofs.YtgoaedhgkkbajaaDoor
