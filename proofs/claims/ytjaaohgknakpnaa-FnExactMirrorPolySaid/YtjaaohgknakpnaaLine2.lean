/-
  The contracts of the functions on lines: lines through points, meeting points, moves.
-/
import Derived.Test.YtjaaohgknakpnaaLine
namespace Go.Proofs.Ytjaaohgknakpnaa
open Go.RowKit

