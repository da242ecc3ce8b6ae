/-
  The laws on stars: the walk of each law.
-/
import Derived.Test.YtjaaohgknakpnaaStar
import Derived.Test.YtjaaohgknakpnaaOpen3
namespace Go.Proofs.Ytjaaohgknakpnaa
open Go.RowKit

end Go.Proofs.Ytjaaohgknakpnaa
