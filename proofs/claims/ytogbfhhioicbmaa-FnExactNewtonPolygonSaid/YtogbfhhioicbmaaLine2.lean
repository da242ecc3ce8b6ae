/-
  The contracts of the functions on lines: lines through points, meeting points, moves.
-/
import Derived.Test.YtogbfhhioicbmaaLine
namespace Go.Proofs.Ytogbfhhioicbmaa
open Go.RowKit

