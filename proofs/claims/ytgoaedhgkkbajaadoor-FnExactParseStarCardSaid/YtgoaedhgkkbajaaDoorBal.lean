/-
  StarSum, IsBalanced, SupportOf.
-/
import Derived.Test.YtgoaedhgkkbajaaDoorSum
namespace Go.Proofs.YtgoaedhgkkbajaaDoor
open Go.RowKit

theorem small_of {zs : List (Int × Int × Int)} : starB zs = false ∨ (starB zs = true ∧ Small zs) := by
  rcases starB_cases zs with h | ⟨h, h1, h2⟩
  · exact .inl h
  · exact .inr ⟨h, h1, h2⟩
/-- A star whose sum is zero. -/
def balB (zs : List (Int × Int × Int)) : Bool := (sX zs zs.length == 0) && (sY zs zs.length == 0)

end Go.Proofs.YtgoaedhgkkbajaaDoor
