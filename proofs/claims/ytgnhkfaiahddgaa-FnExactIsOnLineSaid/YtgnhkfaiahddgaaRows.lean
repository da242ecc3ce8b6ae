/-
  No cell of these rows narrows 'for every input' (looked for: loops, veiled, ifaces, maps, wideKeys, modest, calm, conditions, laid).
  DERIVED. THE GIVEN ROWS OF THIS SEAT. 12 by the template 'for every input the law returns true; each argument reads behind the call as it read before'; 0 by the template 'total and deterministic' (their statements: YtgnhkfaiahddgaaTotals.lean).
  GIVEN WITH THE SEED: the statements are not yours to turn. If you find one false, say at which input.
  Laid BY PROGRAM, IN A SANDBOX (cutbox-rows.mjs): the forced cells as the released guide's own fill.sh prints them over the translation 460f303d29b4d8fd… (all of the seat's roots in one cut). By AI agents, Wed Nov 11 2026. No macro, syntax, notation, axiom, sorry.
-/
import Derived.Test.YtgnhkfaiahddgaaChecked
import GoSem.Claim
import GoSem.ClaimJoined
import GoSem.ClaimMapViews
import Derived.JoinedTies
import Derived.KernelRfl
namespace Go.Proofs.Ytgnhkfaiahddgaa
/- THE CELL 'sum', in the pinned program and in every row, IS THE sha256 OF THE DUMP (.gsa) THAT YtgnhkfaiahddgaaProg.lean LOADS. Nothing in Lean hashes anything: it is a label: what it is worth is what the hold of that sum in a sandbox is worth. -/
noncomputable def Try.pinned : Pinned := { name := "ytgnhkfaiahddgaa", sum := "460f303d29b4d8fd154a22fed8aaf644d26ebaf93cdcf6f3d352e11280d977e8", checked := Try.checked }
namespace Rows
def none {H : Type} : Left H := { results := [], args := [] }

/-- 'laws.FnExactIsLine': WHATEVER THE INPUT: true; the input reads as it did. -/
def fnExactIsLineSpec : ChangeSpec := { name := "fnExactIsLine", fn := fun _ => fun
  | [d] => { results := [.lit (.bool true)], args := [d] }
  | _ => none }
def fnExactIsLineRow : OpenClaim := { program := "ytgnhkfaiahddgaa", sum := "460f303d29b4d8fd154a22fed8aaf644d26ebaf93cdcf6f3d352e11280d977e8", func := "loop.example/g01056/laws.FnExactIsLine", spec := "fnExactIsLine", apart := false }
def FnExactIsLineSaid : Prop := fnExactIsLineRow.holds Try.pinned (OpenSpec.ofChange fnExactIsLineSpec)

/-- ITS FALSE NEIGHBOUR: 'it returns false'. Refute it at one input. -/
def fnExactIsLineWrong : ChangeSpec := { name := "fnExactIsLine", fn := fun _ => fun
  | [d] => { results := [.lit (.bool false)], args := [d] }
  | _ => none }
def FnExactIsLineWrongFalsely : Prop := fnExactIsLineRow.holds Try.pinned (OpenSpec.ofChange fnExactIsLineWrong)

/-- 'laws.FnExactSameLine': WHATEVER THE INPUT: true; the input reads as it did. -/
def fnExactSameLineSpec : ChangeSpec := { name := "fnExactSameLine", fn := fun _ => fun
  | [d1, d2] => { results := [.lit (.bool true)], args := [d1, d2] }
  | _ => none }
def fnExactSameLineRow : OpenClaim := { program := "ytgnhkfaiahddgaa", sum := "460f303d29b4d8fd154a22fed8aaf644d26ebaf93cdcf6f3d352e11280d977e8", func := "loop.example/g01056/laws.FnExactSameLine", spec := "fnExactSameLine", apart := false }
def FnExactSameLineSaid : Prop := fnExactSameLineRow.holds Try.pinned (OpenSpec.ofChange fnExactSameLineSpec)

/-- ITS FALSE NEIGHBOUR: 'it returns false'. Refute it at one input. -/
def fnExactSameLineWrong : ChangeSpec := { name := "fnExactSameLine", fn := fun _ => fun
  | [d1, d2] => { results := [.lit (.bool false)], args := [d1, d2] }
  | _ => none }
def FnExactSameLineWrongFalsely : Prop := fnExactSameLineRow.holds Try.pinned (OpenSpec.ofChange fnExactSameLineWrong)

/-- 'laws.FnExactCenterOf': WHATEVER THE INPUT: true; the input reads as it did. -/
def fnExactCenterOfSpec : ChangeSpec := { name := "fnExactCenterOf", fn := fun _ => fun
  | [d] => { results := [.lit (.bool true)], args := [d] }
  | _ => none }
def fnExactCenterOfRow : OpenClaim := { program := "ytgnhkfaiahddgaa", sum := "460f303d29b4d8fd154a22fed8aaf644d26ebaf93cdcf6f3d352e11280d977e8", func := "loop.example/g01056/laws.FnExactCenterOf", spec := "fnExactCenterOf", apart := false }
def FnExactCenterOfSaid : Prop := fnExactCenterOfRow.holds Try.pinned (OpenSpec.ofChange fnExactCenterOfSpec)

/-- ITS FALSE NEIGHBOUR: 'it returns false'. Refute it at one input. -/
def fnExactCenterOfWrong : ChangeSpec := { name := "fnExactCenterOf", fn := fun _ => fun
  | [d] => { results := [.lit (.bool false)], args := [d] }
  | _ => none }
def FnExactCenterOfWrongFalsely : Prop := fnExactCenterOfRow.holds Try.pinned (OpenSpec.ofChange fnExactCenterOfWrong)

/-- 'laws.FnExactMeetingPoint': WHATEVER THE INPUT: true; the input reads as it did. -/
def fnExactMeetingPointSpec : ChangeSpec := { name := "fnExactMeetingPoint", fn := fun _ => fun
  | [d1, d2] => { results := [.lit (.bool true)], args := [d1, d2] }
  | _ => none }
def fnExactMeetingPointRow : OpenClaim := { program := "ytgnhkfaiahddgaa", sum := "460f303d29b4d8fd154a22fed8aaf644d26ebaf93cdcf6f3d352e11280d977e8", func := "loop.example/g01056/laws.FnExactMeetingPoint", spec := "fnExactMeetingPoint", apart := false }
def FnExactMeetingPointSaid : Prop := fnExactMeetingPointRow.holds Try.pinned (OpenSpec.ofChange fnExactMeetingPointSpec)

/-- ITS FALSE NEIGHBOUR: 'it returns false'. Refute it at one input. -/
def fnExactMeetingPointWrong : ChangeSpec := { name := "fnExactMeetingPoint", fn := fun _ => fun
  | [d1, d2] => { results := [.lit (.bool false)], args := [d1, d2] }
  | _ => none }
def FnExactMeetingPointWrongFalsely : Prop := fnExactMeetingPointRow.holds Try.pinned (OpenSpec.ofChange fnExactMeetingPointWrong)

/-- 'laws.FnExactLineThrough': WHATEVER THE INPUT: true; the input reads as it did. -/
def fnExactLineThroughSpec : ChangeSpec := { name := "fnExactLineThrough", fn := fun _ => fun
  | [d1, d2, d3, d4] => { results := [.lit (.bool true)], args := [d1, d2, d3, d4] }
  | _ => none }
def fnExactLineThroughRow : OpenClaim := { program := "ytgnhkfaiahddgaa", sum := "460f303d29b4d8fd154a22fed8aaf644d26ebaf93cdcf6f3d352e11280d977e8", func := "loop.example/g01056/laws.FnExactLineThrough", spec := "fnExactLineThrough", apart := false }
def FnExactLineThroughSaid : Prop := fnExactLineThroughRow.holds Try.pinned (OpenSpec.ofChange fnExactLineThroughSpec)

/-- ITS FALSE NEIGHBOUR: 'it returns false'. Refute it at one input. -/
def fnExactLineThroughWrong : ChangeSpec := { name := "fnExactLineThrough", fn := fun _ => fun
  | [d1, d2, d3, d4] => { results := [.lit (.bool false)], args := [d1, d2, d3, d4] }
  | _ => none }
def FnExactLineThroughWrongFalsely : Prop := fnExactLineThroughRow.holds Try.pinned (OpenSpec.ofChange fnExactLineThroughWrong)

/-- 'laws.FnExactAreParallel': WHATEVER THE INPUT: true; the input reads as it did. -/
def fnExactAreParallelSpec : ChangeSpec := { name := "fnExactAreParallel", fn := fun _ => fun
  | [d1, d2] => { results := [.lit (.bool true)], args := [d1, d2] }
  | _ => none }
def fnExactAreParallelRow : OpenClaim := { program := "ytgnhkfaiahddgaa", sum := "460f303d29b4d8fd154a22fed8aaf644d26ebaf93cdcf6f3d352e11280d977e8", func := "loop.example/g01056/laws.FnExactAreParallel", spec := "fnExactAreParallel", apart := false }
def FnExactAreParallelSaid : Prop := fnExactAreParallelRow.holds Try.pinned (OpenSpec.ofChange fnExactAreParallelSpec)

/-- ITS FALSE NEIGHBOUR: 'it returns false'. Refute it at one input. -/
def fnExactAreParallelWrong : ChangeSpec := { name := "fnExactAreParallel", fn := fun _ => fun
  | [d1, d2] => { results := [.lit (.bool false)], args := [d1, d2] }
  | _ => none }
def FnExactAreParallelWrongFalsely : Prop := fnExactAreParallelRow.holds Try.pinned (OpenSpec.ofChange fnExactAreParallelWrong)

/-- 'laws.FnExactMoveLine': WHATEVER THE INPUT: true; the input reads as it did. -/
def fnExactMoveLineSpec : ChangeSpec := { name := "fnExactMoveLine", fn := fun _ => fun
  | [d1, d2, d3] => { results := [.lit (.bool true)], args := [d1, d2, d3] }
  | _ => none }
def fnExactMoveLineRow : OpenClaim := { program := "ytgnhkfaiahddgaa", sum := "460f303d29b4d8fd154a22fed8aaf644d26ebaf93cdcf6f3d352e11280d977e8", func := "loop.example/g01056/laws.FnExactMoveLine", spec := "fnExactMoveLine", apart := false }
def FnExactMoveLineSaid : Prop := fnExactMoveLineRow.holds Try.pinned (OpenSpec.ofChange fnExactMoveLineSpec)

/-- ITS FALSE NEIGHBOUR: 'it returns false'. Refute it at one input. -/
def fnExactMoveLineWrong : ChangeSpec := { name := "fnExactMoveLine", fn := fun _ => fun
  | [d1, d2, d3] => { results := [.lit (.bool false)], args := [d1, d2, d3] }
  | _ => none }
def FnExactMoveLineWrongFalsely : Prop := fnExactMoveLineRow.holds Try.pinned (OpenSpec.ofChange fnExactMoveLineWrong)

/-- 'laws.FnExactPairMultiplicity': WHATEVER THE INPUT: true; the input reads as it did. -/
def fnExactPairMultiplicitySpec : ChangeSpec := { name := "fnExactPairMultiplicity", fn := fun _ => fun
  | [d1, d2] => { results := [.lit (.bool true)], args := [d1, d2] }
  | _ => none }
def fnExactPairMultiplicityRow : OpenClaim := { program := "ytgnhkfaiahddgaa", sum := "460f303d29b4d8fd154a22fed8aaf644d26ebaf93cdcf6f3d352e11280d977e8", func := "loop.example/g01056/laws.FnExactPairMultiplicity", spec := "fnExactPairMultiplicity", apart := false }
def FnExactPairMultiplicitySaid : Prop := fnExactPairMultiplicityRow.holds Try.pinned (OpenSpec.ofChange fnExactPairMultiplicitySpec)

/-- ITS FALSE NEIGHBOUR: 'it returns false'. Refute it at one input. -/
def fnExactPairMultiplicityWrong : ChangeSpec := { name := "fnExactPairMultiplicity", fn := fun _ => fun
  | [d1, d2] => { results := [.lit (.bool false)], args := [d1, d2] }
  | _ => none }
def FnExactPairMultiplicityWrongFalsely : Prop := fnExactPairMultiplicityRow.holds Try.pinned (OpenSpec.ofChange fnExactPairMultiplicityWrong)

/-- 'laws.FnExactPrimitiveRay': WHATEVER THE INPUT: true; the input reads as it did. -/
def fnExactPrimitiveRaySpec : ChangeSpec := { name := "fnExactPrimitiveRay", fn := fun _ => fun
  | [d1, d2] => { results := [.lit (.bool true)], args := [d1, d2] }
  | _ => none }
def fnExactPrimitiveRayRow : OpenClaim := { program := "ytgnhkfaiahddgaa", sum := "460f303d29b4d8fd154a22fed8aaf644d26ebaf93cdcf6f3d352e11280d977e8", func := "loop.example/g01056/laws.FnExactPrimitiveRay", spec := "fnExactPrimitiveRay", apart := false }
def FnExactPrimitiveRaySaid : Prop := fnExactPrimitiveRayRow.holds Try.pinned (OpenSpec.ofChange fnExactPrimitiveRaySpec)

/-- ITS FALSE NEIGHBOUR: 'it returns false'. Refute it at one input. -/
def fnExactPrimitiveRayWrong : ChangeSpec := { name := "fnExactPrimitiveRay", fn := fun _ => fun
  | [d1, d2] => { results := [.lit (.bool false)], args := [d1, d2] }
  | _ => none }
def FnExactPrimitiveRayWrongFalsely : Prop := fnExactPrimitiveRayRow.holds Try.pinned (OpenSpec.ofChange fnExactPrimitiveRayWrong)

/-- 'laws.FnExactEndTerms': WHATEVER THE INPUT: true; the input reads as it did. -/
def fnExactEndTermsSpec : ChangeSpec := { name := "fnExactEndTerms", fn := fun _ => fun
  | [d] => { results := [.lit (.bool true)], args := [d] }
  | _ => none }
def fnExactEndTermsRow : OpenClaim := { program := "ytgnhkfaiahddgaa", sum := "460f303d29b4d8fd154a22fed8aaf644d26ebaf93cdcf6f3d352e11280d977e8", func := "loop.example/g01056/laws.FnExactEndTerms", spec := "fnExactEndTerms", unfollowed := true, recurses := true, apart := false }
def FnExactEndTermsSaid : Prop := fnExactEndTermsRow.holds Try.pinned (OpenSpec.ofChange fnExactEndTermsSpec)

/-- ITS FALSE NEIGHBOUR: 'it returns false'. Refute it at one input. -/
def fnExactEndTermsWrong : ChangeSpec := { name := "fnExactEndTerms", fn := fun _ => fun
  | [d] => { results := [.lit (.bool false)], args := [d] }
  | _ => none }
def FnExactEndTermsWrongFalsely : Prop := fnExactEndTermsRow.holds Try.pinned (OpenSpec.ofChange fnExactEndTermsWrong)

/-- 'laws.FnExactMeetsWhenMoved': WHATEVER THE INPUT: true; the input reads as it did. -/
def fnExactMeetsWhenMovedSpec : ChangeSpec := { name := "fnExactMeetsWhenMoved", fn := fun _ => fun
  | [d1, d2, d3, d4] => { results := [.lit (.bool true)], args := [d1, d2, d3, d4] }
  | _ => none }
def fnExactMeetsWhenMovedRow : OpenClaim := { program := "ytgnhkfaiahddgaa", sum := "460f303d29b4d8fd154a22fed8aaf644d26ebaf93cdcf6f3d352e11280d977e8", func := "loop.example/g01056/laws.FnExactMeetsWhenMoved", spec := "fnExactMeetsWhenMoved", apart := false }
def FnExactMeetsWhenMovedSaid : Prop := fnExactMeetsWhenMovedRow.holds Try.pinned (OpenSpec.ofChange fnExactMeetsWhenMovedSpec)

/-- ITS FALSE NEIGHBOUR: 'it returns false'. Refute it at one input. -/
def fnExactMeetsWhenMovedWrong : ChangeSpec := { name := "fnExactMeetsWhenMoved", fn := fun _ => fun
  | [d1, d2, d3, d4] => { results := [.lit (.bool false)], args := [d1, d2, d3, d4] }
  | _ => none }
def FnExactMeetsWhenMovedWrongFalsely : Prop := fnExactMeetsWhenMovedRow.holds Try.pinned (OpenSpec.ofChange fnExactMeetsWhenMovedWrong)

/-- 'laws.FnExactIsOnLine': WHATEVER THE INPUT: true; the input reads as it did. -/
def fnExactIsOnLineSpec : ChangeSpec := { name := "fnExactIsOnLine", fn := fun _ => fun
  | [d1, d2, d3] => { results := [.lit (.bool true)], args := [d1, d2, d3] }
  | _ => none }
def fnExactIsOnLineRow : OpenClaim := { program := "ytgnhkfaiahddgaa", sum := "460f303d29b4d8fd154a22fed8aaf644d26ebaf93cdcf6f3d352e11280d977e8", func := "loop.example/g01056/laws.FnExactIsOnLine", spec := "fnExactIsOnLine", apart := false }
def FnExactIsOnLineSaid : Prop := fnExactIsOnLineRow.holds Try.pinned (OpenSpec.ofChange fnExactIsOnLineSpec)

/-- ITS FALSE NEIGHBOUR: 'it returns false'. Refute it at one input. -/
def fnExactIsOnLineWrong : ChangeSpec := { name := "fnExactIsOnLine", fn := fun _ => fun
  | [d1, d2, d3] => { results := [.lit (.bool false)], args := [d1, d2, d3] }
  | _ => none }
def FnExactIsOnLineWrongFalsely : Prop := fnExactIsOnLineRow.holds Try.pinned (OpenSpec.ofChange fnExactIsOnLineWrong)

/- THE SECOND FORM. 'bulk': how many values and letters a reading holds, each counted each time it is reached (what is shared counts as often as it is met; a slice's spare places count too). A statement '..UptoSaid' is the law's where the arguments, and the package variables that the reading takes, are together of bulk at most 1048576: NARROWER than '..Said'. Prove '..Said' where nothing that the law and all that it calls make is longer than what came in: it says more and counts as full. Else prove '..UptoSaid'. A law counts once. -/
mutual
def uptoBulk {H : Type} : DataW H → Nat
  | .lit (.string bytes) => bytes.length + 1
  | .lit _ => 1
  | .nil => 1
  | .ptr d => uptoBulk d + 1
  | .slice elems spare => uptoBulkAll elems + uptoBulkAll spare + 1
  | .agg parts => uptoBulkAll parts + 1
  | .iface _ d => uptoBulk d + 1
  | .map entries => uptoBulkEntries entries + 1
  | .held _ => 1
def uptoBulkAll {H : Type} : List (DataW H) → Nat
  | [] => 0
  | d :: r => uptoBulk d + uptoBulkAll r
def uptoBulkEntries {H : Type} : List (Lit × DataW H) → Nat
  | [] => 0
  | x :: r => uptoBulkEntry x + uptoBulkEntries r
def uptoBulkEntry {H : Type} : Lit × DataW H → Nat
  | (.string bytes, d) => bytes.length + uptoBulk d + 1
  | (_, d) => uptoBulk d + 1
 end
def uptoSmall : (H : Type) → List (DataW H) → Bool := fun _ ds => decide (uptoBulkAll ds ≤ 1048576)
def OpenSpec.upto (s : _root_.Go.ChangeSpec) : _root_.Go.OpenSpec := { _root_.Go.OpenSpec.ofChange s with cond := some uptoSmall }

/-- 'laws.FnExactIsLine', WHERE WHAT IT READS IS OF BULK AT MOST 1048576: true; the input reads as it did. -/
def fnExactIsLineUptoRow : OpenClaim := { program := "ytgnhkfaiahddgaa", sum := "460f303d29b4d8fd154a22fed8aaf644d26ebaf93cdcf6f3d352e11280d977e8", func := "loop.example/g01056/laws.FnExactIsLine", spec := "fnExactIsLine", apart := false, narrowed := true }
def FnExactIsLineUptoSaid : Prop := fnExactIsLineUptoRow.holds Try.pinned (OpenSpec.upto fnExactIsLineSpec)

/-- 'laws.FnExactSameLine', WHERE WHAT IT READS IS OF BULK AT MOST 1048576: true; the input reads as it did. -/
def fnExactSameLineUptoRow : OpenClaim := { program := "ytgnhkfaiahddgaa", sum := "460f303d29b4d8fd154a22fed8aaf644d26ebaf93cdcf6f3d352e11280d977e8", func := "loop.example/g01056/laws.FnExactSameLine", spec := "fnExactSameLine", apart := false, narrowed := true }
def FnExactSameLineUptoSaid : Prop := fnExactSameLineUptoRow.holds Try.pinned (OpenSpec.upto fnExactSameLineSpec)

/-- 'laws.FnExactCenterOf', WHERE WHAT IT READS IS OF BULK AT MOST 1048576: true; the input reads as it did. -/
def fnExactCenterOfUptoRow : OpenClaim := { program := "ytgnhkfaiahddgaa", sum := "460f303d29b4d8fd154a22fed8aaf644d26ebaf93cdcf6f3d352e11280d977e8", func := "loop.example/g01056/laws.FnExactCenterOf", spec := "fnExactCenterOf", apart := false, narrowed := true }
def FnExactCenterOfUptoSaid : Prop := fnExactCenterOfUptoRow.holds Try.pinned (OpenSpec.upto fnExactCenterOfSpec)

/-- 'laws.FnExactMeetingPoint', WHERE WHAT IT READS IS OF BULK AT MOST 1048576: true; the input reads as it did. -/
def fnExactMeetingPointUptoRow : OpenClaim := { program := "ytgnhkfaiahddgaa", sum := "460f303d29b4d8fd154a22fed8aaf644d26ebaf93cdcf6f3d352e11280d977e8", func := "loop.example/g01056/laws.FnExactMeetingPoint", spec := "fnExactMeetingPoint", apart := false, narrowed := true }
def FnExactMeetingPointUptoSaid : Prop := fnExactMeetingPointUptoRow.holds Try.pinned (OpenSpec.upto fnExactMeetingPointSpec)

/-- 'laws.FnExactLineThrough', WHERE WHAT IT READS IS OF BULK AT MOST 1048576: true; the input reads as it did. -/
def fnExactLineThroughUptoRow : OpenClaim := { program := "ytgnhkfaiahddgaa", sum := "460f303d29b4d8fd154a22fed8aaf644d26ebaf93cdcf6f3d352e11280d977e8", func := "loop.example/g01056/laws.FnExactLineThrough", spec := "fnExactLineThrough", apart := false, narrowed := true }
def FnExactLineThroughUptoSaid : Prop := fnExactLineThroughUptoRow.holds Try.pinned (OpenSpec.upto fnExactLineThroughSpec)

/-- 'laws.FnExactAreParallel', WHERE WHAT IT READS IS OF BULK AT MOST 1048576: true; the input reads as it did. -/
def fnExactAreParallelUptoRow : OpenClaim := { program := "ytgnhkfaiahddgaa", sum := "460f303d29b4d8fd154a22fed8aaf644d26ebaf93cdcf6f3d352e11280d977e8", func := "loop.example/g01056/laws.FnExactAreParallel", spec := "fnExactAreParallel", apart := false, narrowed := true }
def FnExactAreParallelUptoSaid : Prop := fnExactAreParallelUptoRow.holds Try.pinned (OpenSpec.upto fnExactAreParallelSpec)

/-- 'laws.FnExactMoveLine', WHERE WHAT IT READS IS OF BULK AT MOST 1048576: true; the input reads as it did. -/
def fnExactMoveLineUptoRow : OpenClaim := { program := "ytgnhkfaiahddgaa", sum := "460f303d29b4d8fd154a22fed8aaf644d26ebaf93cdcf6f3d352e11280d977e8", func := "loop.example/g01056/laws.FnExactMoveLine", spec := "fnExactMoveLine", apart := false, narrowed := true }
def FnExactMoveLineUptoSaid : Prop := fnExactMoveLineUptoRow.holds Try.pinned (OpenSpec.upto fnExactMoveLineSpec)

/-- 'laws.FnExactPairMultiplicity', WHERE WHAT IT READS IS OF BULK AT MOST 1048576: true; the input reads as it did. -/
def fnExactPairMultiplicityUptoRow : OpenClaim := { program := "ytgnhkfaiahddgaa", sum := "460f303d29b4d8fd154a22fed8aaf644d26ebaf93cdcf6f3d352e11280d977e8", func := "loop.example/g01056/laws.FnExactPairMultiplicity", spec := "fnExactPairMultiplicity", apart := false, narrowed := true }
def FnExactPairMultiplicityUptoSaid : Prop := fnExactPairMultiplicityUptoRow.holds Try.pinned (OpenSpec.upto fnExactPairMultiplicitySpec)

/-- 'laws.FnExactPrimitiveRay', WHERE WHAT IT READS IS OF BULK AT MOST 1048576: true; the input reads as it did. -/
def fnExactPrimitiveRayUptoRow : OpenClaim := { program := "ytgnhkfaiahddgaa", sum := "460f303d29b4d8fd154a22fed8aaf644d26ebaf93cdcf6f3d352e11280d977e8", func := "loop.example/g01056/laws.FnExactPrimitiveRay", spec := "fnExactPrimitiveRay", apart := false, narrowed := true }
def FnExactPrimitiveRayUptoSaid : Prop := fnExactPrimitiveRayUptoRow.holds Try.pinned (OpenSpec.upto fnExactPrimitiveRaySpec)

/-- 'laws.FnExactEndTerms', WHERE WHAT IT READS IS OF BULK AT MOST 1048576: true; the input reads as it did. -/
def fnExactEndTermsUptoRow : OpenClaim := { program := "ytgnhkfaiahddgaa", sum := "460f303d29b4d8fd154a22fed8aaf644d26ebaf93cdcf6f3d352e11280d977e8", func := "loop.example/g01056/laws.FnExactEndTerms", spec := "fnExactEndTerms", unfollowed := true, recurses := true, apart := false, narrowed := true }
def FnExactEndTermsUptoSaid : Prop := fnExactEndTermsUptoRow.holds Try.pinned (OpenSpec.upto fnExactEndTermsSpec)

/-- 'laws.FnExactMeetsWhenMoved', WHERE WHAT IT READS IS OF BULK AT MOST 1048576: true; the input reads as it did. -/
def fnExactMeetsWhenMovedUptoRow : OpenClaim := { program := "ytgnhkfaiahddgaa", sum := "460f303d29b4d8fd154a22fed8aaf644d26ebaf93cdcf6f3d352e11280d977e8", func := "loop.example/g01056/laws.FnExactMeetsWhenMoved", spec := "fnExactMeetsWhenMoved", apart := false, narrowed := true }
def FnExactMeetsWhenMovedUptoSaid : Prop := fnExactMeetsWhenMovedUptoRow.holds Try.pinned (OpenSpec.upto fnExactMeetsWhenMovedSpec)

/-- 'laws.FnExactIsOnLine', WHERE WHAT IT READS IS OF BULK AT MOST 1048576: true; the input reads as it did. -/
def fnExactIsOnLineUptoRow : OpenClaim := { program := "ytgnhkfaiahddgaa", sum := "460f303d29b4d8fd154a22fed8aaf644d26ebaf93cdcf6f3d352e11280d977e8", func := "loop.example/g01056/laws.FnExactIsOnLine", spec := "fnExactIsOnLine", apart := false, narrowed := true }
def FnExactIsOnLineUptoSaid : Prop := fnExactIsOnLineUptoRow.holds Try.pinned (OpenSpec.upto fnExactIsOnLineSpec)

end Rows
end Go.Proofs.Ytgnhkfaiahddgaa
