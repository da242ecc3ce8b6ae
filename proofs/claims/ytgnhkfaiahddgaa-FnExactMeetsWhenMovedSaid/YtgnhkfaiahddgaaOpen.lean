/-
  What the proofs of the rows share: how an argument that came in is opened.
-/
import Derived.Test.YtgnhkfaiahddgaaRows
import Derived.Test.YtgnhkfaiahddgaaWorld
import Derived.Test.YtgnhkfaiahddgaaPlain
import Derived.ProofKit
import Derived.OpenShut
import Derived.ShutString
import Derived.ChangeOld
import Derived.Below
import Derived.Lib.SmallJoins
import Derived.Deep.Slices
import Derived.Deep.Fields
import Derived.ChangeSame
namespace Go.Proofs.Ytgnhkfaiahddgaa
open Go.ChangeShapes Go.WideShapes Go.ChangeAt Go.RowKit Go.Joins Go.Deep

theorem own : ownKnob Try.prog.godebug = none := by kernel_rfl
theorem laidOut : laidOutB Try.prog = true := by kernel_rfl

theorem b64 {n : Int} (h : (Lit.int .i64 n).wf = true) : B64 n := by
  simp [Lit.wf, IntKind.min, IntKind.max, IntKind.signed, IntKind.bits] at h
  exact ⟨by omega, by omega⟩

end Go.Proofs.Ytgnhkfaiahddgaa
