/-
  The contracts of the functions on lines: validity, centres, meeting points, moves.
-/
import Derived.Test.YtogbfhhioicbmaaNum
import Derived.Test.YtogbfhhioicbmaaConv
namespace Go.Proofs.Ytogbfhhioicbmaa
open Go.RowKit

end Go.Proofs.Ytogbfhhioicbmaa
