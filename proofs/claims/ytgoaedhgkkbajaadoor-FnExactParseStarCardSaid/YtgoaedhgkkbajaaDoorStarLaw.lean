/-
  The laws on stars: the walk of each law.
-/
import Derived.Test.YtgoaedhgkkbajaaDoorStar
import Derived.Test.YtgoaedhgkkbajaaDoorOpen3
namespace Go.Proofs.YtgoaedhgkkbajaaDoor
open Go.RowKit

end Go.Proofs.YtgoaedhgkkbajaaDoor
