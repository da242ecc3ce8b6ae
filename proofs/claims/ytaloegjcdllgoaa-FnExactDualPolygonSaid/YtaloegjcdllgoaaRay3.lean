/-
  The contracts of primitive rays and of moved rays; their laws.
-/
import Derived.Test.YtaloegjcdllgoaaRay
namespace Go.Proofs.Ytaloegjcdllgoaa
open Go.RowKit

end Go.Proofs.Ytaloegjcdllgoaa
