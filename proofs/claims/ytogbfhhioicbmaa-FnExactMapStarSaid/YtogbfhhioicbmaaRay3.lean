/-
  The contracts of primitive rays and of moved rays; their laws.
-/
import Derived.Test.YtogbfhhioicbmaaRay
namespace Go.Proofs.Ytogbfhhioicbmaa
open Go.RowKit

end Go.Proofs.Ytogbfhhioicbmaa
