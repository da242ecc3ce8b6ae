/-
  The contracts of the functions on lines: validity, centres, meeting points, moves.
-/
import Derived.Test.YtjaaohgknakpnaaNum
import Derived.Test.YtjaaohgknakpnaaConv
namespace Go.Proofs.Ytjaaohgknakpnaa
open Go.RowKit

end Go.Proofs.Ytjaaohgknakpnaa
