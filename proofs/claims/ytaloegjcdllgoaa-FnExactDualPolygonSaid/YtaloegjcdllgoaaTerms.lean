/-
  The contracts of the functions on the terms of a line at a point; their laws.
-/
import Derived.Test.YtaloegjcdllgoaaLine2
import Derived.Test.YtaloegjcdllgoaaPlaces
namespace Go.Proofs.Ytaloegjcdllgoaa
open Go.RowKit

/-- The numbers of the terms of a line with the least value at a point. -/
def lineT (a b c x y : Int) : List Int := placesTo [a + x, b + y, c] (lowI [a + x, b + y, c] 3) 3
theorem lineT_le (a b c x y : Int) : (lineT a b c x y).length ≤ 3 := placesTo_le _ _ _
theorem own_iv_nil (w : World) (B : Nat) : w.ownsRow B 3 1 (.slice none 0 0) 0 (iv []) := World.ownsRow_nil _ _ _ _
/-- A list that is told only where the arguments are valid. -/
def gL (t : Bool) (l : List Int) : List Int := if t then l else []
theorem gL_le {t : Bool} {l : List Int} {k : Nat} (h : l.length ≤ k) : (gL t l).length ≤ k := by unfold gL; split <;> simp [h]
/-- A slice that reads so, and nothing that was there has turned. -/
def ReadsInts (zs : List Int) (w : World) (r : Ending) (w' : World) : Prop := ∃ a c, r = .returned (.slice a zs.length c) ∧ Reads w' a 1 zs.length (iv zs) ∧ Ext w w'
/-- A slice of the call's own and a bool. -/
def OwnsIntsB (B : Nat) (zs : List Int) (ok : Bool) (w : World) (r : Ending) (w' : World) : Prop :=
  ∃ a c, r = .returned (.tuple #[.slice a zs.length c, .bool ok]) ∧ w'.ownsRow B 3 1 (.slice a zs.length c) zs.length (iv zs) ∧ Ext w w'

/-- Whether a point is on a line. -/
def onL (a b c x y : Int) : Bool := decide ((1 : Int) < ((lineT a b c x y).length : Int))

end Go.Proofs.Ytaloegjcdllgoaa
