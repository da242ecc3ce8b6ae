/-
  The laws on stars: the walk of each law.
-/
import Derived.Test.YtaloegjcdllgoaaStar
import Derived.Test.YtaloegjcdllgoaaOpen3
namespace Go.Proofs.Ytaloegjcdllgoaa
open Go.RowKit

end Go.Proofs.Ytaloegjcdllgoaa
