/-
  No cell of these rows narrows 'for every input' (looked for: loops, veiled, ifaces, maps, wideKeys, modest, calm, conditions, laid).
  DERIVED. THE GIVEN ROWS OF THIS SEAT. 8 by the template 'for every input the law returns true; each argument reads behind the call as it read before'; 0 by the template 'total and deterministic' (their statements: YtehcjlbkfgfmjaaTotals.lean).
  GIVEN WITH THE SEED: the statements are not yours to turn. If you find one false, say at which input.
  Laid BY PROGRAM, IN A SANDBOX (cutbox-rows.mjs): the forced cells as the released guide's own fill.sh prints them over the translation adc071a06ad6d5c5… (all of the seat's roots in one cut). By AI agents, Wed Nov 11 2026. No macro, syntax, notation, axiom, sorry.
-/
import Derived.Test.YtehcjlbkfgfmjaaChecked
import GoSem.Claim
import GoSem.ClaimJoined
import GoSem.ClaimMapViews
import Derived.JoinedTies
import Derived.KernelRfl
namespace Go.Proofs.Ytehcjlbkfgfmjaa
/- THE CELL 'sum', in the pinned program and in every row, IS THE sha256 OF THE DUMP (.gsa) THAT YtehcjlbkfgfmjaaProg.lean LOADS. Nothing in Lean hashes anything: it is a label: what it is worth is what the hold of that sum in a sandbox is worth. -/
noncomputable def Try.pinned : Pinned := { name := "ytehcjlbkfgfmjaa", sum := "adc071a06ad6d5c5de18527b05b54ff06c0dba02443e6905a4a3d6f9caa79646", checked := Try.checked }
namespace Rows
def none {H : Type} : Left H := { results := [], args := [] }

/-- 'laws.FnExactIsTriangulated': WHATEVER THE INPUT: true; the input reads as it did. -/
def fnExactIsTriangulatedSpec : ChangeSpec := { name := "fnExactIsTriangulated", fn := fun _ => fun
  | [d] => { results := [.lit (.bool true)], args := [d] }
  | _ => none }
def fnExactIsTriangulatedRow : OpenClaim := { program := "ytehcjlbkfgfmjaa", sum := "adc071a06ad6d5c5de18527b05b54ff06c0dba02443e6905a4a3d6f9caa79646", func := "loop.example/g01056/laws.FnExactIsTriangulated", spec := "fnExactIsTriangulated", unfollowed := true, recurses := true, plainKeys := false, apart := false }
def FnExactIsTriangulatedSaid : Prop := fnExactIsTriangulatedRow.holds Try.pinned (OpenSpec.ofChange fnExactIsTriangulatedSpec)

/-- ITS FALSE NEIGHBOUR: 'it returns false'. Refute it at one input. -/
def fnExactIsTriangulatedWrong : ChangeSpec := { name := "fnExactIsTriangulated", fn := fun _ => fun
  | [d] => { results := [.lit (.bool false)], args := [d] }
  | _ => none }
def FnExactIsTriangulatedWrongFalsely : Prop := fnExactIsTriangulatedRow.holds Try.pinned (OpenSpec.ofChange fnExactIsTriangulatedWrong)

/-- 'laws.FnExactHaveSameCells': WHATEVER THE INPUT: true; the input reads as it did. -/
def fnExactHaveSameCellsSpec : ChangeSpec := { name := "fnExactHaveSameCells", fn := fun _ => fun
  | [d1, d2] => { results := [.lit (.bool true)], args := [d1, d2] }
  | _ => none }
def fnExactHaveSameCellsRow : OpenClaim := { program := "ytehcjlbkfgfmjaa", sum := "adc071a06ad6d5c5de18527b05b54ff06c0dba02443e6905a4a3d6f9caa79646", func := "loop.example/g01056/laws.FnExactHaveSameCells", spec := "fnExactHaveSameCells", unfollowed := true, recurses := true, plainKeys := false, apart := false }
def FnExactHaveSameCellsSaid : Prop := fnExactHaveSameCellsRow.holds Try.pinned (OpenSpec.ofChange fnExactHaveSameCellsSpec)

/-- ITS FALSE NEIGHBOUR: 'it returns false'. Refute it at one input. -/
def fnExactHaveSameCellsWrong : ChangeSpec := { name := "fnExactHaveSameCells", fn := fun _ => fun
  | [d1, d2] => { results := [.lit (.bool false)], args := [d1, d2] }
  | _ => none }
def FnExactHaveSameCellsWrongFalsely : Prop := fnExactHaveSameCellsRow.holds Try.pinned (OpenSpec.ofChange fnExactHaveSameCellsWrong)

/-- 'laws.FnExactCellsOf': WHATEVER THE INPUT: true; the input reads as it did. -/
def fnExactCellsOfSpec : ChangeSpec := { name := "fnExactCellsOf", fn := fun _ => fun
  | [d] => { results := [.lit (.bool true)], args := [d] }
  | _ => none }
def fnExactCellsOfRow : OpenClaim := { program := "ytehcjlbkfgfmjaa", sum := "adc071a06ad6d5c5de18527b05b54ff06c0dba02443e6905a4a3d6f9caa79646", func := "loop.example/g01056/laws.FnExactCellsOf", spec := "fnExactCellsOf", unfollowed := true, recurses := true, plainKeys := false, apart := false }
def FnExactCellsOfSaid : Prop := fnExactCellsOfRow.holds Try.pinned (OpenSpec.ofChange fnExactCellsOfSpec)

/-- ITS FALSE NEIGHBOUR: 'it returns false'. Refute it at one input. -/
def fnExactCellsOfWrong : ChangeSpec := { name := "fnExactCellsOf", fn := fun _ => fun
  | [d] => { results := [.lit (.bool false)], args := [d] }
  | _ => none }
def FnExactCellsOfWrongFalsely : Prop := fnExactCellsOfRow.holds Try.pinned (OpenSpec.ofChange fnExactCellsOfWrong)

/-- 'laws.FnExactUnusedTerms': WHATEVER THE INPUT: true; the input reads as it did. -/
def fnExactUnusedTermsSpec : ChangeSpec := { name := "fnExactUnusedTerms", fn := fun _ => fun
  | [d] => { results := [.lit (.bool true)], args := [d] }
  | _ => none }
def fnExactUnusedTermsRow : OpenClaim := { program := "ytehcjlbkfgfmjaa", sum := "adc071a06ad6d5c5de18527b05b54ff06c0dba02443e6905a4a3d6f9caa79646", func := "loop.example/g01056/laws.FnExactUnusedTerms", spec := "fnExactUnusedTerms", unfollowed := true, recurses := true, plainKeys := false, apart := false }
def FnExactUnusedTermsSaid : Prop := fnExactUnusedTermsRow.holds Try.pinned (OpenSpec.ofChange fnExactUnusedTermsSpec)

/-- ITS FALSE NEIGHBOUR: 'it returns false'. Refute it at one input. -/
def fnExactUnusedTermsWrong : ChangeSpec := { name := "fnExactUnusedTerms", fn := fun _ => fun
  | [d] => { results := [.lit (.bool false)], args := [d] }
  | _ => none }
def FnExactUnusedTermsWrongFalsely : Prop := fnExactUnusedTermsRow.holds Try.pinned (OpenSpec.ofChange fnExactUnusedTermsWrong)

/-- 'laws.FnExactCellPolygon': WHATEVER THE INPUT: true; the input reads as it did. -/
def fnExactCellPolygonSpec : ChangeSpec := { name := "fnExactCellPolygon", fn := fun _ => fun
  | [d1, d2] => { results := [.lit (.bool true)], args := [d1, d2] }
  | _ => none }
def fnExactCellPolygonRow : OpenClaim := { program := "ytehcjlbkfgfmjaa", sum := "adc071a06ad6d5c5de18527b05b54ff06c0dba02443e6905a4a3d6f9caa79646", func := "loop.example/g01056/laws.FnExactCellPolygon", spec := "fnExactCellPolygon", unfollowed := true, recurses := true, plainKeys := false, apart := false }
def FnExactCellPolygonSaid : Prop := fnExactCellPolygonRow.holds Try.pinned (OpenSpec.ofChange fnExactCellPolygonSpec)

/-- ITS FALSE NEIGHBOUR: 'it returns false'. Refute it at one input. -/
def fnExactCellPolygonWrong : ChangeSpec := { name := "fnExactCellPolygon", fn := fun _ => fun
  | [d1, d2] => { results := [.lit (.bool false)], args := [d1, d2] }
  | _ => none }
def FnExactCellPolygonWrongFalsely : Prop := fnExactCellPolygonRow.holds Try.pinned (OpenSpec.ofChange fnExactCellPolygonWrong)

/-- 'laws.FnExactLoopsOf': WHATEVER THE INPUT: true; the input reads as it did. -/
def fnExactLoopsOfSpec : ChangeSpec := { name := "fnExactLoopsOf", fn := fun _ => fun
  | [d] => { results := [.lit (.bool true)], args := [d] }
  | _ => none }
def fnExactLoopsOfRow : OpenClaim := { program := "ytehcjlbkfgfmjaa", sum := "adc071a06ad6d5c5de18527b05b54ff06c0dba02443e6905a4a3d6f9caa79646", func := "loop.example/g01056/laws.FnExactLoopsOf", spec := "fnExactLoopsOf", unfollowed := true, recurses := true, plainKeys := false, apart := false }
def FnExactLoopsOfSaid : Prop := fnExactLoopsOfRow.holds Try.pinned (OpenSpec.ofChange fnExactLoopsOfSpec)

/-- ITS FALSE NEIGHBOUR: 'it returns false'. Refute it at one input. -/
def fnExactLoopsOfWrong : ChangeSpec := { name := "fnExactLoopsOf", fn := fun _ => fun
  | [d] => { results := [.lit (.bool false)], args := [d] }
  | _ => none }
def FnExactLoopsOfWrongFalsely : Prop := fnExactLoopsOfRow.holds Try.pinned (OpenSpec.ofChange fnExactLoopsOfWrong)

/-- 'laws.FnExactEdgeLength': WHATEVER THE INPUT: true; the input reads as it did. -/
def fnExactEdgeLengthSpec : ChangeSpec := { name := "fnExactEdgeLength", fn := fun _ => fun
  | [d1, d2, d3] => { results := [.lit (.bool true)], args := [d1, d2, d3] }
  | _ => none }
def fnExactEdgeLengthRow : OpenClaim := { program := "ytehcjlbkfgfmjaa", sum := "adc071a06ad6d5c5de18527b05b54ff06c0dba02443e6905a4a3d6f9caa79646", func := "loop.example/g01056/laws.FnExactEdgeLength", spec := "fnExactEdgeLength", unfollowed := true, recurses := true, plainKeys := false, apart := false }
def FnExactEdgeLengthSaid : Prop := fnExactEdgeLengthRow.holds Try.pinned (OpenSpec.ofChange fnExactEdgeLengthSpec)

/-- ITS FALSE NEIGHBOUR: 'it returns false'. Refute it at one input. -/
def fnExactEdgeLengthWrong : ChangeSpec := { name := "fnExactEdgeLength", fn := fun _ => fun
  | [d1, d2, d3] => { results := [.lit (.bool false)], args := [d1, d2, d3] }
  | _ => none }
def FnExactEdgeLengthWrongFalsely : Prop := fnExactEdgeLengthRow.holds Try.pinned (OpenSpec.ofChange fnExactEdgeLengthWrong)

/-- 'laws.FnExactEdgesOfCells': WHATEVER THE INPUT: true; the input reads as it did. -/
def fnExactEdgesOfCellsSpec : ChangeSpec := { name := "fnExactEdgesOfCells", fn := fun _ => fun
  | [d] => { results := [.lit (.bool true)], args := [d] }
  | _ => none }
def fnExactEdgesOfCellsRow : OpenClaim := { program := "ytehcjlbkfgfmjaa", sum := "adc071a06ad6d5c5de18527b05b54ff06c0dba02443e6905a4a3d6f9caa79646", func := "loop.example/g01056/laws.FnExactEdgesOfCells", spec := "fnExactEdgesOfCells", unfollowed := true, recurses := true, plainKeys := false, apart := false }
def FnExactEdgesOfCellsSaid : Prop := fnExactEdgesOfCellsRow.holds Try.pinned (OpenSpec.ofChange fnExactEdgesOfCellsSpec)

/-- ITS FALSE NEIGHBOUR: 'it returns false'. Refute it at one input. -/
def fnExactEdgesOfCellsWrong : ChangeSpec := { name := "fnExactEdgesOfCells", fn := fun _ => fun
  | [d] => { results := [.lit (.bool false)], args := [d] }
  | _ => none }
def FnExactEdgesOfCellsWrongFalsely : Prop := fnExactEdgesOfCellsRow.holds Try.pinned (OpenSpec.ofChange fnExactEdgesOfCellsWrong)

/- THE SECOND FORM. 'bulk': how many values and letters a reading holds, each counted each time it is reached (what is shared counts as often as it is met; a slice's spare places count too). A statement '..UptoSaid' is the law's where the arguments, and the package variables that the reading takes, are together of bulk at most 1048576: NARROWER than '..Said'. Prove '..Said' where nothing that the law and all that it calls make is longer than what came in: it says more and counts as full. Else prove '..UptoSaid'. A law counts once. -/
mutual
def uptoBulk {H : Type} : DataW H → Nat
  | .lit (.string bytes) => bytes.length + 1
  | .lit _ => 1
  | .nil => 1
  | .ptr d => uptoBulk d + 1
  | .slice elems spare => uptoBulkAll elems + uptoBulkAll spare + 1
  | .agg parts => uptoBulkAll parts + 1
  | .iface _ d => uptoBulk d + 1
  | .map entries => uptoBulkEntries entries + 1
  | .held _ => 1
def uptoBulkAll {H : Type} : List (DataW H) → Nat
  | [] => 0
  | d :: r => uptoBulk d + uptoBulkAll r
def uptoBulkEntries {H : Type} : List (Lit × DataW H) → Nat
  | [] => 0
  | x :: r => uptoBulkEntry x + uptoBulkEntries r
def uptoBulkEntry {H : Type} : Lit × DataW H → Nat
  | (.string bytes, d) => bytes.length + uptoBulk d + 1
  | (_, d) => uptoBulk d + 1
 end
def uptoSmall : (H : Type) → List (DataW H) → Bool := fun _ ds => decide (uptoBulkAll ds ≤ 1048576)
def OpenSpec.upto (s : _root_.Go.ChangeSpec) : _root_.Go.OpenSpec := { _root_.Go.OpenSpec.ofChange s with cond := some uptoSmall }

/-- 'laws.FnExactIsTriangulated', WHERE WHAT IT READS IS OF BULK AT MOST 1048576: true; the input reads as it did. -/
def fnExactIsTriangulatedUptoRow : OpenClaim := { program := "ytehcjlbkfgfmjaa", sum := "adc071a06ad6d5c5de18527b05b54ff06c0dba02443e6905a4a3d6f9caa79646", func := "loop.example/g01056/laws.FnExactIsTriangulated", spec := "fnExactIsTriangulated", unfollowed := true, recurses := true, plainKeys := false, apart := false, narrowed := true }
def FnExactIsTriangulatedUptoSaid : Prop := fnExactIsTriangulatedUptoRow.holds Try.pinned (OpenSpec.upto fnExactIsTriangulatedSpec)

/-- 'laws.FnExactHaveSameCells', WHERE WHAT IT READS IS OF BULK AT MOST 1048576: true; the input reads as it did. -/
def fnExactHaveSameCellsUptoRow : OpenClaim := { program := "ytehcjlbkfgfmjaa", sum := "adc071a06ad6d5c5de18527b05b54ff06c0dba02443e6905a4a3d6f9caa79646", func := "loop.example/g01056/laws.FnExactHaveSameCells", spec := "fnExactHaveSameCells", unfollowed := true, recurses := true, plainKeys := false, apart := false, narrowed := true }
def FnExactHaveSameCellsUptoSaid : Prop := fnExactHaveSameCellsUptoRow.holds Try.pinned (OpenSpec.upto fnExactHaveSameCellsSpec)

/-- 'laws.FnExactCellsOf', WHERE WHAT IT READS IS OF BULK AT MOST 1048576: true; the input reads as it did. -/
def fnExactCellsOfUptoRow : OpenClaim := { program := "ytehcjlbkfgfmjaa", sum := "adc071a06ad6d5c5de18527b05b54ff06c0dba02443e6905a4a3d6f9caa79646", func := "loop.example/g01056/laws.FnExactCellsOf", spec := "fnExactCellsOf", unfollowed := true, recurses := true, plainKeys := false, apart := false, narrowed := true }
def FnExactCellsOfUptoSaid : Prop := fnExactCellsOfUptoRow.holds Try.pinned (OpenSpec.upto fnExactCellsOfSpec)

/-- 'laws.FnExactUnusedTerms', WHERE WHAT IT READS IS OF BULK AT MOST 1048576: true; the input reads as it did. -/
def fnExactUnusedTermsUptoRow : OpenClaim := { program := "ytehcjlbkfgfmjaa", sum := "adc071a06ad6d5c5de18527b05b54ff06c0dba02443e6905a4a3d6f9caa79646", func := "loop.example/g01056/laws.FnExactUnusedTerms", spec := "fnExactUnusedTerms", unfollowed := true, recurses := true, plainKeys := false, apart := false, narrowed := true }
def FnExactUnusedTermsUptoSaid : Prop := fnExactUnusedTermsUptoRow.holds Try.pinned (OpenSpec.upto fnExactUnusedTermsSpec)

/-- 'laws.FnExactCellPolygon', WHERE WHAT IT READS IS OF BULK AT MOST 1048576: true; the input reads as it did. -/
def fnExactCellPolygonUptoRow : OpenClaim := { program := "ytehcjlbkfgfmjaa", sum := "adc071a06ad6d5c5de18527b05b54ff06c0dba02443e6905a4a3d6f9caa79646", func := "loop.example/g01056/laws.FnExactCellPolygon", spec := "fnExactCellPolygon", unfollowed := true, recurses := true, plainKeys := false, apart := false, narrowed := true }
def FnExactCellPolygonUptoSaid : Prop := fnExactCellPolygonUptoRow.holds Try.pinned (OpenSpec.upto fnExactCellPolygonSpec)

/-- 'laws.FnExactLoopsOf', WHERE WHAT IT READS IS OF BULK AT MOST 1048576: true; the input reads as it did. -/
def fnExactLoopsOfUptoRow : OpenClaim := { program := "ytehcjlbkfgfmjaa", sum := "adc071a06ad6d5c5de18527b05b54ff06c0dba02443e6905a4a3d6f9caa79646", func := "loop.example/g01056/laws.FnExactLoopsOf", spec := "fnExactLoopsOf", unfollowed := true, recurses := true, plainKeys := false, apart := false, narrowed := true }
def FnExactLoopsOfUptoSaid : Prop := fnExactLoopsOfUptoRow.holds Try.pinned (OpenSpec.upto fnExactLoopsOfSpec)

/-- 'laws.FnExactEdgeLength', WHERE WHAT IT READS IS OF BULK AT MOST 1048576: true; the input reads as it did. -/
def fnExactEdgeLengthUptoRow : OpenClaim := { program := "ytehcjlbkfgfmjaa", sum := "adc071a06ad6d5c5de18527b05b54ff06c0dba02443e6905a4a3d6f9caa79646", func := "loop.example/g01056/laws.FnExactEdgeLength", spec := "fnExactEdgeLength", unfollowed := true, recurses := true, plainKeys := false, apart := false, narrowed := true }
def FnExactEdgeLengthUptoSaid : Prop := fnExactEdgeLengthUptoRow.holds Try.pinned (OpenSpec.upto fnExactEdgeLengthSpec)

/-- 'laws.FnExactEdgesOfCells', WHERE WHAT IT READS IS OF BULK AT MOST 1048576: true; the input reads as it did. -/
def fnExactEdgesOfCellsUptoRow : OpenClaim := { program := "ytehcjlbkfgfmjaa", sum := "adc071a06ad6d5c5de18527b05b54ff06c0dba02443e6905a4a3d6f9caa79646", func := "loop.example/g01056/laws.FnExactEdgesOfCells", spec := "fnExactEdgesOfCells", unfollowed := true, recurses := true, plainKeys := false, apart := false, narrowed := true }
def FnExactEdgesOfCellsUptoSaid : Prop := fnExactEdgesOfCellsUptoRow.holds Try.pinned (OpenSpec.upto fnExactEdgesOfCellsSpec)

end Rows
end Go.Proofs.Ytehcjlbkfgfmjaa
