/-
  The contracts of the functions on lines: validity, centres, meeting points, moves.
-/
import Derived.Test.YtaloegjcdllgoaaNum
import Derived.Test.YtaloegjcdllgoaaConv
namespace Go.Proofs.Ytaloegjcdllgoaa
open Go.RowKit

end Go.Proofs.Ytaloegjcdllgoaa
