/-
  The laws on stars: the walk of each law.
-/
import Derived.Test.YtogbfhhioicbmaaStar
import Derived.Test.YtogbfhhioicbmaaOpen3
namespace Go.Proofs.Ytogbfhhioicbmaa
open Go.RowKit

end Go.Proofs.Ytogbfhhioicbmaa
