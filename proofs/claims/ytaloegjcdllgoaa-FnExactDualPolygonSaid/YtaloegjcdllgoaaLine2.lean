/-
  The contracts of the functions on lines: lines through points, meeting points, moves.
-/
import Derived.Test.YtaloegjcdllgoaaLine
namespace Go.Proofs.Ytaloegjcdllgoaa
open Go.RowKit

