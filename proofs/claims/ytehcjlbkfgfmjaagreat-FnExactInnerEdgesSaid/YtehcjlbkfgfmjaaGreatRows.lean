/-
  No cell of these rows narrows 'for every input' (looked for: loops, veiled, ifaces, maps, wideKeys, modest, calm, conditions, laid).
  DERIVED. THE GIVEN ROWS OF THIS SEAT. 4 by the template 'for every input the law returns true; each argument reads behind the call as it read before'; 0 by the template 'total and deterministic' (their statements: YtehcjlbkfgfmjaaGreatTotals.lean).
  GIVEN WITH THE SEED: the statements are not yours to turn. If you find one false, say at which input.
  Laid BY PROGRAM, IN A SANDBOX (cutbox-rows.mjs): the forced cells as the released guide's own fill.sh prints them over the translation 4523f8186c0b4076… (all of the seat's roots in one cut). By AI agents, Wed Nov 11 2026. No macro, syntax, notation, axiom, sorry.
-/
import Derived.Test.YtehcjlbkfgfmjaaGreatChecked
import GoSem.Claim
import GoSem.ClaimJoined
import GoSem.ClaimMapViews
import Derived.JoinedTies
import Derived.KernelRfl
namespace Go.Proofs.YtehcjlbkfgfmjaaGreat
/- THE CELL 'sum', in the pinned program and in every row, IS THE sha256 OF THE DUMP (.gsa) THAT YtehcjlbkfgfmjaaGreatProg.lean LOADS. Nothing in Lean hashes anything: it is a label: what it is worth is what the hold of that sum in a sandbox is worth. -/
noncomputable def Tryz.pinned : Pinned := { name := "ytehcjlbkfgfmjaagreat", sum := "4523f8186c0b407620c0b7b21e4651b864b1f3cf4a438b31fcc18b65ea09271b", checked := Tryz.checked }
namespace Rows
def none {H : Type} : Left H := { results := [], args := [] }

/-- 'laws.FnExactRaysOfCurve': WHATEVER THE INPUT: true; the input reads as it did. -/
def fnExactRaysOfCurveSpec : ChangeSpec := { name := "fnExactRaysOfCurve", fn := fun _ => fun
  | [d] => { results := [.lit (.bool true)], args := [d] }
  | _ => none }
def fnExactRaysOfCurveRow : OpenClaim := { program := "ytehcjlbkfgfmjaagreat", sum := "4523f8186c0b407620c0b7b21e4651b864b1f3cf4a438b31fcc18b65ea09271b", func := "loop.example/g01056/laws.FnExactRaysOfCurve", spec := "fnExactRaysOfCurve", unfollowed := true, recurses := true, plainKeys := false, apart := false }
def FnExactRaysOfCurveSaid : Prop := fnExactRaysOfCurveRow.holds Tryz.pinned (OpenSpec.ofChange fnExactRaysOfCurveSpec)

/-- ITS FALSE NEIGHBOUR: 'it returns false'. Refute it at one input. -/
def fnExactRaysOfCurveWrong : ChangeSpec := { name := "fnExactRaysOfCurve", fn := fun _ => fun
  | [d] => { results := [.lit (.bool false)], args := [d] }
  | _ => none }
def FnExactRaysOfCurveWrongFalsely : Prop := fnExactRaysOfCurveRow.holds Tryz.pinned (OpenSpec.ofChange fnExactRaysOfCurveWrong)

/-- 'laws.FnExactVertexOf': WHATEVER THE INPUT: true; the input reads as it did. -/
def fnExactVertexOfSpec : ChangeSpec := { name := "fnExactVertexOf", fn := fun _ => fun
  | [d1, d2] => { results := [.lit (.bool true)], args := [d1, d2] }
  | _ => none }
def fnExactVertexOfRow : OpenClaim := { program := "ytehcjlbkfgfmjaagreat", sum := "4523f8186c0b407620c0b7b21e4651b864b1f3cf4a438b31fcc18b65ea09271b", func := "loop.example/g01056/laws.FnExactVertexOf", spec := "fnExactVertexOf", unfollowed := true, recurses := true, plainKeys := false, apart := false }
def FnExactVertexOfSaid : Prop := fnExactVertexOfRow.holds Tryz.pinned (OpenSpec.ofChange fnExactVertexOfSpec)

/-- ITS FALSE NEIGHBOUR: 'it returns false'. Refute it at one input. -/
def fnExactVertexOfWrong : ChangeSpec := { name := "fnExactVertexOf", fn := fun _ => fun
  | [d1, d2] => { results := [.lit (.bool false)], args := [d1, d2] }
  | _ => none }
def FnExactVertexOfWrongFalsely : Prop := fnExactVertexOfRow.holds Tryz.pinned (OpenSpec.ofChange fnExactVertexOfWrong)

/-- 'laws.FnExactInnerEdges': WHATEVER THE INPUT: true; the input reads as it did. -/
def fnExactInnerEdgesSpec : ChangeSpec := { name := "fnExactInnerEdges", fn := fun _ => fun
  | [d] => { results := [.lit (.bool true)], args := [d] }
  | _ => none }
def fnExactInnerEdgesRow : OpenClaim := { program := "ytehcjlbkfgfmjaagreat", sum := "4523f8186c0b407620c0b7b21e4651b864b1f3cf4a438b31fcc18b65ea09271b", func := "loop.example/g01056/laws.FnExactInnerEdges", spec := "fnExactInnerEdges", unfollowed := true, recurses := true, plainKeys := false, apart := false }
def FnExactInnerEdgesSaid : Prop := fnExactInnerEdgesRow.holds Tryz.pinned (OpenSpec.ofChange fnExactInnerEdgesSpec)

/-- ITS FALSE NEIGHBOUR: 'it returns false'. Refute it at one input. -/
def fnExactInnerEdgesWrong : ChangeSpec := { name := "fnExactInnerEdges", fn := fun _ => fun
  | [d] => { results := [.lit (.bool false)], args := [d] }
  | _ => none }
def FnExactInnerEdgesWrongFalsely : Prop := fnExactInnerEdgesRow.holds Tryz.pinned (OpenSpec.ofChange fnExactInnerEdgesWrong)

/-- 'laws.FnExactBalanceAt': WHATEVER THE INPUT: true; the input reads as it did. -/
def fnExactBalanceAtSpec : ChangeSpec := { name := "fnExactBalanceAt", fn := fun _ => fun
  | [d1, d2] => { results := [.lit (.bool true)], args := [d1, d2] }
  | _ => none }
def fnExactBalanceAtRow : OpenClaim := { program := "ytehcjlbkfgfmjaagreat", sum := "4523f8186c0b407620c0b7b21e4651b864b1f3cf4a438b31fcc18b65ea09271b", func := "loop.example/g01056/laws.FnExactBalanceAt", spec := "fnExactBalanceAt", unfollowed := true, recurses := true, plainKeys := false, apart := false }
def FnExactBalanceAtSaid : Prop := fnExactBalanceAtRow.holds Tryz.pinned (OpenSpec.ofChange fnExactBalanceAtSpec)

/-- ITS FALSE NEIGHBOUR: 'it returns false'. Refute it at one input. -/
def fnExactBalanceAtWrong : ChangeSpec := { name := "fnExactBalanceAt", fn := fun _ => fun
  | [d1, d2] => { results := [.lit (.bool false)], args := [d1, d2] }
  | _ => none }
def FnExactBalanceAtWrongFalsely : Prop := fnExactBalanceAtRow.holds Tryz.pinned (OpenSpec.ofChange fnExactBalanceAtWrong)

/- THE SECOND FORM. 'bulk': how many values and letters a reading holds, each counted each time it is reached (what is shared counts as often as it is met; a slice's spare places count too). A statement '..UptoSaid' is the law's where the arguments, and the package variables that the reading takes, are together of bulk at most 1048576: NARROWER than '..Said'. Prove '..Said' where nothing that the law and all that it calls make is longer than what came in: it says more and counts as full. Else prove '..UptoSaid'. A law counts once. -/
mutual
def uptoBulk {H : Type} : DataW H → Nat
  | .lit (.string bytes) => bytes.length + 1
  | .lit _ => 1
  | .nil => 1
  | .ptr d => uptoBulk d + 1
  | .slice elems spare => uptoBulkAll elems + uptoBulkAll spare + 1
  | .agg parts => uptoBulkAll parts + 1
  | .iface _ d => uptoBulk d + 1
  | .map entries => uptoBulkEntries entries + 1
  | .held _ => 1
def uptoBulkAll {H : Type} : List (DataW H) → Nat
  | [] => 0
  | d :: r => uptoBulk d + uptoBulkAll r
def uptoBulkEntries {H : Type} : List (Lit × DataW H) → Nat
  | [] => 0
  | x :: r => uptoBulkEntry x + uptoBulkEntries r
def uptoBulkEntry {H : Type} : Lit × DataW H → Nat
  | (.string bytes, d) => bytes.length + uptoBulk d + 1
  | (_, d) => uptoBulk d + 1
 end
def uptoSmall : (H : Type) → List (DataW H) → Bool := fun _ ds => decide (uptoBulkAll ds ≤ 1048576)
def OpenSpec.upto (s : _root_.Go.ChangeSpec) : _root_.Go.OpenSpec := { _root_.Go.OpenSpec.ofChange s with cond := some uptoSmall }

/-- 'laws.FnExactRaysOfCurve', WHERE WHAT IT READS IS OF BULK AT MOST 1048576: true; the input reads as it did. -/
def fnExactRaysOfCurveUptoRow : OpenClaim := { program := "ytehcjlbkfgfmjaagreat", sum := "4523f8186c0b407620c0b7b21e4651b864b1f3cf4a438b31fcc18b65ea09271b", func := "loop.example/g01056/laws.FnExactRaysOfCurve", spec := "fnExactRaysOfCurve", unfollowed := true, recurses := true, plainKeys := false, apart := false, narrowed := true }
def FnExactRaysOfCurveUptoSaid : Prop := fnExactRaysOfCurveUptoRow.holds Tryz.pinned (OpenSpec.upto fnExactRaysOfCurveSpec)

/-- 'laws.FnExactVertexOf', WHERE WHAT IT READS IS OF BULK AT MOST 1048576: true; the input reads as it did. -/
def fnExactVertexOfUptoRow : OpenClaim := { program := "ytehcjlbkfgfmjaagreat", sum := "4523f8186c0b407620c0b7b21e4651b864b1f3cf4a438b31fcc18b65ea09271b", func := "loop.example/g01056/laws.FnExactVertexOf", spec := "fnExactVertexOf", unfollowed := true, recurses := true, plainKeys := false, apart := false, narrowed := true }
def FnExactVertexOfUptoSaid : Prop := fnExactVertexOfUptoRow.holds Tryz.pinned (OpenSpec.upto fnExactVertexOfSpec)

/-- 'laws.FnExactInnerEdges', WHERE WHAT IT READS IS OF BULK AT MOST 1048576: true; the input reads as it did. -/
def fnExactInnerEdgesUptoRow : OpenClaim := { program := "ytehcjlbkfgfmjaagreat", sum := "4523f8186c0b407620c0b7b21e4651b864b1f3cf4a438b31fcc18b65ea09271b", func := "loop.example/g01056/laws.FnExactInnerEdges", spec := "fnExactInnerEdges", unfollowed := true, recurses := true, plainKeys := false, apart := false, narrowed := true }
def FnExactInnerEdgesUptoSaid : Prop := fnExactInnerEdgesUptoRow.holds Tryz.pinned (OpenSpec.upto fnExactInnerEdgesSpec)

/-- 'laws.FnExactBalanceAt', WHERE WHAT IT READS IS OF BULK AT MOST 1048576: true; the input reads as it did. -/
def fnExactBalanceAtUptoRow : OpenClaim := { program := "ytehcjlbkfgfmjaagreat", sum := "4523f8186c0b407620c0b7b21e4651b864b1f3cf4a438b31fcc18b65ea09271b", func := "loop.example/g01056/laws.FnExactBalanceAt", spec := "fnExactBalanceAt", unfollowed := true, recurses := true, plainKeys := false, apart := false, narrowed := true }
def FnExactBalanceAtUptoSaid : Prop := fnExactBalanceAtUptoRow.holds Tryz.pinned (OpenSpec.upto fnExactBalanceAtSpec)

end Rows
end Go.Proofs.YtehcjlbkfgfmjaaGreat
