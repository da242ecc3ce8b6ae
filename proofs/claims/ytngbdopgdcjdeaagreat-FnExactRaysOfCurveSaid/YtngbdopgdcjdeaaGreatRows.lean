/-
  No cell of these rows narrows 'for every input' (looked for: loops, veiled, ifaces, maps, wideKeys, modest, calm, conditions, laid).
  DERIVED. THE GIVEN ROWS OF THIS SEAT. 7 by the template 'for every input the law returns true; each argument reads behind the call as it read before'; 0 by the template 'total and deterministic' (their statements: YtngbdopgdcjdeaaGreatTotals.lean).
  GIVEN WITH THE SEED: the statements are not yours to turn. If you find one false, say at which input.
  Laid BY PROGRAM, IN A SANDBOX (cutbox-rows.mjs): the forced cells as the released guide's own fill.sh prints them over the translation c7d6670af28e6a23… (all of the seat's roots in one cut). By AI agents, Wed Nov 11 2026. No macro, syntax, notation, axiom, sorry.
-/
import Derived.Test.YtngbdopgdcjdeaaGreatChecked
import GoSem.Claim
import GoSem.ClaimJoined
import GoSem.ClaimMapViews
import Derived.JoinedTies
import Derived.KernelRfl
namespace Go.Proofs.YtngbdopgdcjdeaaGreat
/- THE CELL 'sum', in the pinned program and in every row, IS THE sha256 OF THE DUMP (.gsa) THAT YtngbdopgdcjdeaaGreatProg.lean LOADS. Nothing in Lean hashes anything: it is a label: what it is worth is what the hold of that sum in a sandbox is worth. -/
noncomputable def Tryz.pinned : Pinned := { name := "ytngbdopgdcjdeaagreat", sum := "c7d6670af28e6a2396236dbdb66925e6efea3359aaf6b3463d108b90634e0f26", checked := Tryz.checked }
namespace Rows
def none {H : Type} : Left H := { results := [], args := [] }

/-- 'laws.FnExactRaysOfCurve': WHATEVER THE INPUT: true; the input reads as it did. -/
def fnExactRaysOfCurveSpec : ChangeSpec := { name := "fnExactRaysOfCurve", fn := fun _ => fun
  | [d] => { results := [.lit (.bool true)], args := [d] }
  | _ => none }
def fnExactRaysOfCurveRow : OpenClaim := { program := "ytngbdopgdcjdeaagreat", sum := "c7d6670af28e6a2396236dbdb66925e6efea3359aaf6b3463d108b90634e0f26", func := "loop.example/g01056/laws.FnExactRaysOfCurve", spec := "fnExactRaysOfCurve", unfollowed := true, recurses := true, plainKeys := false, apart := false }
def FnExactRaysOfCurveSaid : Prop := fnExactRaysOfCurveRow.holds Tryz.pinned (OpenSpec.ofChange fnExactRaysOfCurveSpec)

/-- ITS FALSE NEIGHBOUR: 'it returns false'. Refute it at one input. -/
def fnExactRaysOfCurveWrong : ChangeSpec := { name := "fnExactRaysOfCurve", fn := fun _ => fun
  | [d] => { results := [.lit (.bool false)], args := [d] }
  | _ => none }
def FnExactRaysOfCurveWrongFalsely : Prop := fnExactRaysOfCurveRow.holds Tryz.pinned (OpenSpec.ofChange fnExactRaysOfCurveWrong)

/-- 'laws.FnExactVertexOf': WHATEVER THE INPUT: true; the input reads as it did. -/
def fnExactVertexOfSpec : ChangeSpec := { name := "fnExactVertexOf", fn := fun _ => fun
  | [d1, d2] => { results := [.lit (.bool true)], args := [d1, d2] }
  | _ => none }
def fnExactVertexOfRow : OpenClaim := { program := "ytngbdopgdcjdeaagreat", sum := "c7d6670af28e6a2396236dbdb66925e6efea3359aaf6b3463d108b90634e0f26", func := "loop.example/g01056/laws.FnExactVertexOf", spec := "fnExactVertexOf", unfollowed := true, recurses := true, plainKeys := false, apart := false }
def FnExactVertexOfSaid : Prop := fnExactVertexOfRow.holds Tryz.pinned (OpenSpec.ofChange fnExactVertexOfSpec)

/-- ITS FALSE NEIGHBOUR: 'it returns false'. Refute it at one input. -/
def fnExactVertexOfWrong : ChangeSpec := { name := "fnExactVertexOf", fn := fun _ => fun
  | [d1, d2] => { results := [.lit (.bool false)], args := [d1, d2] }
  | _ => none }
def FnExactVertexOfWrongFalsely : Prop := fnExactVertexOfRow.holds Tryz.pinned (OpenSpec.ofChange fnExactVertexOfWrong)

/-- 'laws.FnExactBalanceAt': WHATEVER THE INPUT: true; the input reads as it did. -/
def fnExactBalanceAtSpec : ChangeSpec := { name := "fnExactBalanceAt", fn := fun _ => fun
  | [d1, d2] => { results := [.lit (.bool true)], args := [d1, d2] }
  | _ => none }
def fnExactBalanceAtRow : OpenClaim := { program := "ytngbdopgdcjdeaagreat", sum := "c7d6670af28e6a2396236dbdb66925e6efea3359aaf6b3463d108b90634e0f26", func := "loop.example/g01056/laws.FnExactBalanceAt", spec := "fnExactBalanceAt", unfollowed := true, recurses := true, plainKeys := false, apart := false }
def FnExactBalanceAtSaid : Prop := fnExactBalanceAtRow.holds Tryz.pinned (OpenSpec.ofChange fnExactBalanceAtSpec)

/-- ITS FALSE NEIGHBOUR: 'it returns false'. Refute it at one input. -/
def fnExactBalanceAtWrong : ChangeSpec := { name := "fnExactBalanceAt", fn := fun _ => fun
  | [d1, d2] => { results := [.lit (.bool false)], args := [d1, d2] }
  | _ => none }
def FnExactBalanceAtWrongFalsely : Prop := fnExactBalanceAtRow.holds Tryz.pinned (OpenSpec.ofChange fnExactBalanceAtWrong)

/-- 'laws.FnExactSegmentsOf': WHATEVER THE INPUT: true; the input reads as it did. -/
def fnExactSegmentsOfSpec : ChangeSpec := { name := "fnExactSegmentsOf", fn := fun _ => fun
  | [d] => { results := [.lit (.bool true)], args := [d] }
  | _ => none }
def fnExactSegmentsOfRow : OpenClaim := { program := "ytngbdopgdcjdeaagreat", sum := "c7d6670af28e6a2396236dbdb66925e6efea3359aaf6b3463d108b90634e0f26", func := "loop.example/g01056/laws.FnExactSegmentsOf", spec := "fnExactSegmentsOf", unfollowed := true, recurses := true, plainKeys := false, apart := false }
def FnExactSegmentsOfSaid : Prop := fnExactSegmentsOfRow.holds Tryz.pinned (OpenSpec.ofChange fnExactSegmentsOfSpec)

/-- ITS FALSE NEIGHBOUR: 'it returns false'. Refute it at one input. -/
def fnExactSegmentsOfWrong : ChangeSpec := { name := "fnExactSegmentsOf", fn := fun _ => fun
  | [d] => { results := [.lit (.bool false)], args := [d] }
  | _ => none }
def FnExactSegmentsOfWrongFalsely : Prop := fnExactSegmentsOfRow.holds Tryz.pinned (OpenSpec.ofChange fnExactSegmentsOfWrong)

/-- 'laws.FnExactVerticesOf': WHATEVER THE INPUT: true; the input reads as it did. -/
def fnExactVerticesOfSpec : ChangeSpec := { name := "fnExactVerticesOf", fn := fun _ => fun
  | [d] => { results := [.lit (.bool true)], args := [d] }
  | _ => none }
def fnExactVerticesOfRow : OpenClaim := { program := "ytngbdopgdcjdeaagreat", sum := "c7d6670af28e6a2396236dbdb66925e6efea3359aaf6b3463d108b90634e0f26", func := "loop.example/g01056/laws.FnExactVerticesOf", spec := "fnExactVerticesOf", unfollowed := true, recurses := true, plainKeys := false, apart := false }
def FnExactVerticesOfSaid : Prop := fnExactVerticesOfRow.holds Tryz.pinned (OpenSpec.ofChange fnExactVerticesOfSpec)

/-- ITS FALSE NEIGHBOUR: 'it returns false'. Refute it at one input. -/
def fnExactVerticesOfWrong : ChangeSpec := { name := "fnExactVerticesOf", fn := fun _ => fun
  | [d] => { results := [.lit (.bool false)], args := [d] }
  | _ => none }
def FnExactVerticesOfWrongFalsely : Prop := fnExactVerticesOfRow.holds Tryz.pinned (OpenSpec.ofChange fnExactVerticesOfWrong)

/-- 'laws.FnExactEndsAt': WHATEVER THE INPUT: true; the input reads as it did. -/
def fnExactEndsAtSpec : ChangeSpec := { name := "fnExactEndsAt", fn := fun _ => fun
  | [d1, d2] => { results := [.lit (.bool true)], args := [d1, d2] }
  | _ => none }
def fnExactEndsAtRow : OpenClaim := { program := "ytngbdopgdcjdeaagreat", sum := "c7d6670af28e6a2396236dbdb66925e6efea3359aaf6b3463d108b90634e0f26", func := "loop.example/g01056/laws.FnExactEndsAt", spec := "fnExactEndsAt", unfollowed := true, recurses := true, plainKeys := false, apart := false }
def FnExactEndsAtSaid : Prop := fnExactEndsAtRow.holds Tryz.pinned (OpenSpec.ofChange fnExactEndsAtSpec)

/-- ITS FALSE NEIGHBOUR: 'it returns false'. Refute it at one input. -/
def fnExactEndsAtWrong : ChangeSpec := { name := "fnExactEndsAt", fn := fun _ => fun
  | [d1, d2] => { results := [.lit (.bool false)], args := [d1, d2] }
  | _ => none }
def FnExactEndsAtWrongFalsely : Prop := fnExactEndsAtRow.holds Tryz.pinned (OpenSpec.ofChange fnExactEndsAtWrong)

/-- 'laws.FnExactSegmentLength': WHATEVER THE INPUT: true; the input reads as it did. -/
def fnExactSegmentLengthSpec : ChangeSpec := { name := "fnExactSegmentLength", fn := fun _ => fun
  | [d1, d2, d3] => { results := [.lit (.bool true)], args := [d1, d2, d3] }
  | _ => none }
def fnExactSegmentLengthRow : OpenClaim := { program := "ytngbdopgdcjdeaagreat", sum := "c7d6670af28e6a2396236dbdb66925e6efea3359aaf6b3463d108b90634e0f26", func := "loop.example/g01056/laws.FnExactSegmentLength", spec := "fnExactSegmentLength", unfollowed := true, recurses := true, plainKeys := false, apart := false }
def FnExactSegmentLengthSaid : Prop := fnExactSegmentLengthRow.holds Tryz.pinned (OpenSpec.ofChange fnExactSegmentLengthSpec)

/-- ITS FALSE NEIGHBOUR: 'it returns false'. Refute it at one input. -/
def fnExactSegmentLengthWrong : ChangeSpec := { name := "fnExactSegmentLength", fn := fun _ => fun
  | [d1, d2, d3] => { results := [.lit (.bool false)], args := [d1, d2, d3] }
  | _ => none }
def FnExactSegmentLengthWrongFalsely : Prop := fnExactSegmentLengthRow.holds Tryz.pinned (OpenSpec.ofChange fnExactSegmentLengthWrong)

/- THE SECOND FORM. 'bulk': how many values and letters a reading holds, each counted each time it is reached (what is shared counts as often as it is met; a slice's spare places count too). A statement '..UptoSaid' is the law's where the arguments, and the package variables that the reading takes, are together of bulk at most 1048576: NARROWER than '..Said'. Prove '..Said' where nothing that the law and all that it calls make is longer than what came in: it says more and counts as full. Else prove '..UptoSaid'. A law counts once. -/
mutual
def uptoBulk {H : Type} : DataW H → Nat
  | .lit (.string bytes) => bytes.length + 1
  | .lit _ => 1
  | .nil => 1
  | .ptr d => uptoBulk d + 1
  | .slice elems spare => uptoBulkAll elems + uptoBulkAll spare + 1
  | .agg parts => uptoBulkAll parts + 1
  | .iface _ d => uptoBulk d + 1
  | .map entries => uptoBulkEntries entries + 1
  | .held _ => 1
def uptoBulkAll {H : Type} : List (DataW H) → Nat
  | [] => 0
  | d :: r => uptoBulk d + uptoBulkAll r
def uptoBulkEntries {H : Type} : List (Lit × DataW H) → Nat
  | [] => 0
  | x :: r => uptoBulkEntry x + uptoBulkEntries r
def uptoBulkEntry {H : Type} : Lit × DataW H → Nat
  | (.string bytes, d) => bytes.length + uptoBulk d + 1
  | (_, d) => uptoBulk d + 1
 end
def uptoSmall : (H : Type) → List (DataW H) → Bool := fun _ ds => decide (uptoBulkAll ds ≤ 1048576)
def OpenSpec.upto (s : _root_.Go.ChangeSpec) : _root_.Go.OpenSpec := { _root_.Go.OpenSpec.ofChange s with cond := some uptoSmall }

/-- 'laws.FnExactRaysOfCurve', WHERE WHAT IT READS IS OF BULK AT MOST 1048576: true; the input reads as it did. -/
def fnExactRaysOfCurveUptoRow : OpenClaim := { program := "ytngbdopgdcjdeaagreat", sum := "c7d6670af28e6a2396236dbdb66925e6efea3359aaf6b3463d108b90634e0f26", func := "loop.example/g01056/laws.FnExactRaysOfCurve", spec := "fnExactRaysOfCurve", unfollowed := true, recurses := true, plainKeys := false, apart := false, narrowed := true }
def FnExactRaysOfCurveUptoSaid : Prop := fnExactRaysOfCurveUptoRow.holds Tryz.pinned (OpenSpec.upto fnExactRaysOfCurveSpec)

/-- 'laws.FnExactVertexOf', WHERE WHAT IT READS IS OF BULK AT MOST 1048576: true; the input reads as it did. -/
def fnExactVertexOfUptoRow : OpenClaim := { program := "ytngbdopgdcjdeaagreat", sum := "c7d6670af28e6a2396236dbdb66925e6efea3359aaf6b3463d108b90634e0f26", func := "loop.example/g01056/laws.FnExactVertexOf", spec := "fnExactVertexOf", unfollowed := true, recurses := true, plainKeys := false, apart := false, narrowed := true }
def FnExactVertexOfUptoSaid : Prop := fnExactVertexOfUptoRow.holds Tryz.pinned (OpenSpec.upto fnExactVertexOfSpec)

/-- 'laws.FnExactBalanceAt', WHERE WHAT IT READS IS OF BULK AT MOST 1048576: true; the input reads as it did. -/
def fnExactBalanceAtUptoRow : OpenClaim := { program := "ytngbdopgdcjdeaagreat", sum := "c7d6670af28e6a2396236dbdb66925e6efea3359aaf6b3463d108b90634e0f26", func := "loop.example/g01056/laws.FnExactBalanceAt", spec := "fnExactBalanceAt", unfollowed := true, recurses := true, plainKeys := false, apart := false, narrowed := true }
def FnExactBalanceAtUptoSaid : Prop := fnExactBalanceAtUptoRow.holds Tryz.pinned (OpenSpec.upto fnExactBalanceAtSpec)

/-- 'laws.FnExactSegmentsOf', WHERE WHAT IT READS IS OF BULK AT MOST 1048576: true; the input reads as it did. -/
def fnExactSegmentsOfUptoRow : OpenClaim := { program := "ytngbdopgdcjdeaagreat", sum := "c7d6670af28e6a2396236dbdb66925e6efea3359aaf6b3463d108b90634e0f26", func := "loop.example/g01056/laws.FnExactSegmentsOf", spec := "fnExactSegmentsOf", unfollowed := true, recurses := true, plainKeys := false, apart := false, narrowed := true }
def FnExactSegmentsOfUptoSaid : Prop := fnExactSegmentsOfUptoRow.holds Tryz.pinned (OpenSpec.upto fnExactSegmentsOfSpec)

/-- 'laws.FnExactVerticesOf', WHERE WHAT IT READS IS OF BULK AT MOST 1048576: true; the input reads as it did. -/
def fnExactVerticesOfUptoRow : OpenClaim := { program := "ytngbdopgdcjdeaagreat", sum := "c7d6670af28e6a2396236dbdb66925e6efea3359aaf6b3463d108b90634e0f26", func := "loop.example/g01056/laws.FnExactVerticesOf", spec := "fnExactVerticesOf", unfollowed := true, recurses := true, plainKeys := false, apart := false, narrowed := true }
def FnExactVerticesOfUptoSaid : Prop := fnExactVerticesOfUptoRow.holds Tryz.pinned (OpenSpec.upto fnExactVerticesOfSpec)

/-- 'laws.FnExactEndsAt', WHERE WHAT IT READS IS OF BULK AT MOST 1048576: true; the input reads as it did. -/
def fnExactEndsAtUptoRow : OpenClaim := { program := "ytngbdopgdcjdeaagreat", sum := "c7d6670af28e6a2396236dbdb66925e6efea3359aaf6b3463d108b90634e0f26", func := "loop.example/g01056/laws.FnExactEndsAt", spec := "fnExactEndsAt", unfollowed := true, recurses := true, plainKeys := false, apart := false, narrowed := true }
def FnExactEndsAtUptoSaid : Prop := fnExactEndsAtUptoRow.holds Tryz.pinned (OpenSpec.upto fnExactEndsAtSpec)

/-- 'laws.FnExactSegmentLength', WHERE WHAT IT READS IS OF BULK AT MOST 1048576: true; the input reads as it did. -/
def fnExactSegmentLengthUptoRow : OpenClaim := { program := "ytngbdopgdcjdeaagreat", sum := "c7d6670af28e6a2396236dbdb66925e6efea3359aaf6b3463d108b90634e0f26", func := "loop.example/g01056/laws.FnExactSegmentLength", spec := "fnExactSegmentLength", unfollowed := true, recurses := true, plainKeys := false, apart := false, narrowed := true }
def FnExactSegmentLengthUptoSaid : Prop := fnExactSegmentLengthUptoRow.holds Tryz.pinned (OpenSpec.upto fnExactSegmentLengthSpec)

end Rows
end Go.Proofs.YtngbdopgdcjdeaaGreat
