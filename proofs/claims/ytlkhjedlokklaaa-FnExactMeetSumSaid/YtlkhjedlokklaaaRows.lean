/-
  No cell of these rows narrows 'for every input' (looked for: loops, veiled, ifaces, maps, wideKeys, modest, calm, conditions, laid).
  DERIVED. THE GIVEN ROWS OF THIS SEAT. 12 by the template 'for every input the law returns true; each argument reads behind the call as it read before'; 0 by the template 'total and deterministic' (their statements: YtlkhjedlokklaaaTotals.lean).
  GIVEN WITH THE SEED: the statements are not yours to turn. If you find one false, say at which input.
  Laid BY PROGRAM, IN A SANDBOX (cutbox-rows.mjs): the forced cells as the released guide's own fill.sh prints them over the translation 92ad1b035741b8e3… (all of the seat's roots in one cut). By AI agents, Wed Nov 11 2026. No macro, syntax, notation, axiom, sorry.
-/
import Derived.Test.YtlkhjedlokklaaaChecked
import GoSem.Claim
import GoSem.ClaimJoined
import GoSem.ClaimMapViews
import Derived.JoinedTies
import Derived.KernelRfl
namespace Go.Proofs.Ytlkhjedlokklaaa
/- THE CELL 'sum', in the pinned program and in every row, IS THE sha256 OF THE DUMP (.gsa) THAT YtlkhjedlokklaaaProg.lean LOADS. Nothing in Lean hashes anything: it is a label: what it is worth is what the hold of that sum in a sandbox is worth. -/
noncomputable def Try.pinned : Pinned := { name := "ytlkhjedlokklaaa", sum := "92ad1b035741b8e316fb2e119a8953b8e7445d6e17900ea669496ab8ae6ec7f2", checked := Try.checked }
namespace Rows
def none {H : Type} : Left H := { results := [], args := [] }

/-- 'laws.FnExactIsStar': WHATEVER THE INPUT: true; the input reads as it did. -/
def fnExactIsStarSpec : ChangeSpec := { name := "fnExactIsStar", fn := fun _ => fun
  | [d] => { results := [.lit (.bool true)], args := [d] }
  | _ => none }
def fnExactIsStarRow : OpenClaim := { program := "ytlkhjedlokklaaa", sum := "92ad1b035741b8e316fb2e119a8953b8e7445d6e17900ea669496ab8ae6ec7f2", func := "loop.example/g01056/laws.FnExactIsStar", spec := "fnExactIsStar", apart := false }
def FnExactIsStarSaid : Prop := fnExactIsStarRow.holds Try.pinned (OpenSpec.ofChange fnExactIsStarSpec)

/-- ITS FALSE NEIGHBOUR: 'it returns false'. Refute it at one input. -/
def fnExactIsStarWrong : ChangeSpec := { name := "fnExactIsStar", fn := fun _ => fun
  | [d] => { results := [.lit (.bool false)], args := [d] }
  | _ => none }
def FnExactIsStarWrongFalsely : Prop := fnExactIsStarRow.holds Try.pinned (OpenSpec.ofChange fnExactIsStarWrong)

/-- 'laws.FnExactStarSum': WHATEVER THE INPUT: true; the input reads as it did. -/
def fnExactStarSumSpec : ChangeSpec := { name := "fnExactStarSum", fn := fun _ => fun
  | [d] => { results := [.lit (.bool true)], args := [d] }
  | _ => none }
def fnExactStarSumRow : OpenClaim := { program := "ytlkhjedlokklaaa", sum := "92ad1b035741b8e316fb2e119a8953b8e7445d6e17900ea669496ab8ae6ec7f2", func := "loop.example/g01056/laws.FnExactStarSum", spec := "fnExactStarSum", apart := false }
def FnExactStarSumSaid : Prop := fnExactStarSumRow.holds Try.pinned (OpenSpec.ofChange fnExactStarSumSpec)

/-- ITS FALSE NEIGHBOUR: 'it returns false'. Refute it at one input. -/
def fnExactStarSumWrong : ChangeSpec := { name := "fnExactStarSum", fn := fun _ => fun
  | [d] => { results := [.lit (.bool false)], args := [d] }
  | _ => none }
def FnExactStarSumWrongFalsely : Prop := fnExactStarSumRow.holds Try.pinned (OpenSpec.ofChange fnExactStarSumWrong)

/-- 'laws.FnExactIsBalanced': WHATEVER THE INPUT: true; the input reads as it did. -/
def fnExactIsBalancedSpec : ChangeSpec := { name := "fnExactIsBalanced", fn := fun _ => fun
  | [d] => { results := [.lit (.bool true)], args := [d] }
  | _ => none }
def fnExactIsBalancedRow : OpenClaim := { program := "ytlkhjedlokklaaa", sum := "92ad1b035741b8e316fb2e119a8953b8e7445d6e17900ea669496ab8ae6ec7f2", func := "loop.example/g01056/laws.FnExactIsBalanced", spec := "fnExactIsBalanced", apart := false }
def FnExactIsBalancedSaid : Prop := fnExactIsBalancedRow.holds Try.pinned (OpenSpec.ofChange fnExactIsBalancedSpec)

/-- ITS FALSE NEIGHBOUR: 'it returns false'. Refute it at one input. -/
def fnExactIsBalancedWrong : ChangeSpec := { name := "fnExactIsBalanced", fn := fun _ => fun
  | [d] => { results := [.lit (.bool false)], args := [d] }
  | _ => none }
def FnExactIsBalancedWrongFalsely : Prop := fnExactIsBalancedRow.holds Try.pinned (OpenSpec.ofChange fnExactIsBalancedWrong)

/-- 'laws.FnExactMissingRay': WHATEVER THE INPUT: true; the input reads as it did. -/
def fnExactMissingRaySpec : ChangeSpec := { name := "fnExactMissingRay", fn := fun _ => fun
  | [d] => { results := [.lit (.bool true)], args := [d] }
  | _ => none }
def fnExactMissingRayRow : OpenClaim := { program := "ytlkhjedlokklaaa", sum := "92ad1b035741b8e316fb2e119a8953b8e7445d6e17900ea669496ab8ae6ec7f2", func := "loop.example/g01056/laws.FnExactMissingRay", spec := "fnExactMissingRay", apart := false }
def FnExactMissingRaySaid : Prop := fnExactMissingRayRow.holds Try.pinned (OpenSpec.ofChange fnExactMissingRaySpec)

/-- ITS FALSE NEIGHBOUR: 'it returns false'. Refute it at one input. -/
def fnExactMissingRayWrong : ChangeSpec := { name := "fnExactMissingRay", fn := fun _ => fun
  | [d] => { results := [.lit (.bool false)], args := [d] }
  | _ => none }
def FnExactMissingRayWrongFalsely : Prop := fnExactMissingRayRow.holds Try.pinned (OpenSpec.ofChange fnExactMissingRayWrong)

/-- 'laws.FnExactSupportOf': WHATEVER THE INPUT: true; the input reads as it did. -/
def fnExactSupportOfSpec : ChangeSpec := { name := "fnExactSupportOf", fn := fun _ => fun
  | [d1, d2, d3] => { results := [.lit (.bool true)], args := [d1, d2, d3] }
  | _ => none }
def fnExactSupportOfRow : OpenClaim := { program := "ytlkhjedlokklaaa", sum := "92ad1b035741b8e316fb2e119a8953b8e7445d6e17900ea669496ab8ae6ec7f2", func := "loop.example/g01056/laws.FnExactSupportOf", spec := "fnExactSupportOf", apart := false }
def FnExactSupportOfSaid : Prop := fnExactSupportOfRow.holds Try.pinned (OpenSpec.ofChange fnExactSupportOfSpec)

/-- ITS FALSE NEIGHBOUR: 'it returns false'. Refute it at one input. -/
def fnExactSupportOfWrong : ChangeSpec := { name := "fnExactSupportOf", fn := fun _ => fun
  | [d1, d2, d3] => { results := [.lit (.bool false)], args := [d1, d2, d3] }
  | _ => none }
def FnExactSupportOfWrongFalsely : Prop := fnExactSupportOfRow.holds Try.pinned (OpenSpec.ofChange fnExactSupportOfWrong)

/-- 'laws.FnExactScaleStar': WHATEVER THE INPUT: true; the input reads as it did. -/
def fnExactScaleStarSpec : ChangeSpec := { name := "fnExactScaleStar", fn := fun _ => fun
  | [d1, d2] => { results := [.lit (.bool true)], args := [d1, d2] }
  | _ => none }
def fnExactScaleStarRow : OpenClaim := { program := "ytlkhjedlokklaaa", sum := "92ad1b035741b8e316fb2e119a8953b8e7445d6e17900ea669496ab8ae6ec7f2", func := "loop.example/g01056/laws.FnExactScaleStar", spec := "fnExactScaleStar", apart := false }
def FnExactScaleStarSaid : Prop := fnExactScaleStarRow.holds Try.pinned (OpenSpec.ofChange fnExactScaleStarSpec)

/-- ITS FALSE NEIGHBOUR: 'it returns false'. Refute it at one input. -/
def fnExactScaleStarWrong : ChangeSpec := { name := "fnExactScaleStar", fn := fun _ => fun
  | [d1, d2] => { results := [.lit (.bool false)], args := [d1, d2] }
  | _ => none }
def FnExactScaleStarWrongFalsely : Prop := fnExactScaleStarRow.holds Try.pinned (OpenSpec.ofChange fnExactScaleStarWrong)

/-- 'laws.FnExactMeetSum': WHATEVER THE INPUT: true; the input reads as it did. -/
def fnExactMeetSumSpec : ChangeSpec := { name := "fnExactMeetSum", fn := fun _ => fun
  | [d1, d2, d3, d4] => { results := [.lit (.bool true)], args := [d1, d2, d3, d4] }
  | _ => none }
def fnExactMeetSumRow : OpenClaim := { program := "ytlkhjedlokklaaa", sum := "92ad1b035741b8e316fb2e119a8953b8e7445d6e17900ea669496ab8ae6ec7f2", func := "loop.example/g01056/laws.FnExactMeetSum", spec := "fnExactMeetSum", apart := false }
def FnExactMeetSumSaid : Prop := fnExactMeetSumRow.holds Try.pinned (OpenSpec.ofChange fnExactMeetSumSpec)

/-- ITS FALSE NEIGHBOUR: 'it returns false'. Refute it at one input. -/
def fnExactMeetSumWrong : ChangeSpec := { name := "fnExactMeetSum", fn := fun _ => fun
  | [d1, d2, d3, d4] => { results := [.lit (.bool false)], args := [d1, d2, d3, d4] }
  | _ => none }
def FnExactMeetSumWrongFalsely : Prop := fnExactMeetSumRow.holds Try.pinned (OpenSpec.ofChange fnExactMeetSumWrong)

/-- 'laws.FnExactMeetCount': WHATEVER THE INPUT: true; the input reads as it did. -/
def fnExactMeetCountSpec : ChangeSpec := { name := "fnExactMeetCount", fn := fun _ => fun
  | [d1, d2] => { results := [.lit (.bool true)], args := [d1, d2] }
  | _ => none }
def fnExactMeetCountRow : OpenClaim := { program := "ytlkhjedlokklaaa", sum := "92ad1b035741b8e316fb2e119a8953b8e7445d6e17900ea669496ab8ae6ec7f2", func := "loop.example/g01056/laws.FnExactMeetCount", spec := "fnExactMeetCount", apart := false }
def FnExactMeetCountSaid : Prop := fnExactMeetCountRow.holds Try.pinned (OpenSpec.ofChange fnExactMeetCountSpec)

/-- ITS FALSE NEIGHBOUR: 'it returns false'. Refute it at one input. -/
def fnExactMeetCountWrong : ChangeSpec := { name := "fnExactMeetCount", fn := fun _ => fun
  | [d1, d2] => { results := [.lit (.bool false)], args := [d1, d2] }
  | _ => none }
def FnExactMeetCountWrongFalsely : Prop := fnExactMeetCountRow.holds Try.pinned (OpenSpec.ofChange fnExactMeetCountWrong)

/-- 'laws.FnExactSelfCount': WHATEVER THE INPUT: true; the input reads as it did. -/
def fnExactSelfCountSpec : ChangeSpec := { name := "fnExactSelfCount", fn := fun _ => fun
  | [d] => { results := [.lit (.bool true)], args := [d] }
  | _ => none }
def fnExactSelfCountRow : OpenClaim := { program := "ytlkhjedlokklaaa", sum := "92ad1b035741b8e316fb2e119a8953b8e7445d6e17900ea669496ab8ae6ec7f2", func := "loop.example/g01056/laws.FnExactSelfCount", spec := "fnExactSelfCount", apart := false }
def FnExactSelfCountSaid : Prop := fnExactSelfCountRow.holds Try.pinned (OpenSpec.ofChange fnExactSelfCountSpec)

/-- ITS FALSE NEIGHBOUR: 'it returns false'. Refute it at one input. -/
def fnExactSelfCountWrong : ChangeSpec := { name := "fnExactSelfCount", fn := fun _ => fun
  | [d] => { results := [.lit (.bool false)], args := [d] }
  | _ => none }
def FnExactSelfCountWrongFalsely : Prop := fnExactSelfCountRow.holds Try.pinned (OpenSpec.ofChange fnExactSelfCountWrong)

/-- 'laws.FnExactStarDegree': WHATEVER THE INPUT: true; the input reads as it did. -/
def fnExactStarDegreeSpec : ChangeSpec := { name := "fnExactStarDegree", fn := fun _ => fun
  | [d] => { results := [.lit (.bool true)], args := [d] }
  | _ => none }
def fnExactStarDegreeRow : OpenClaim := { program := "ytlkhjedlokklaaa", sum := "92ad1b035741b8e316fb2e119a8953b8e7445d6e17900ea669496ab8ae6ec7f2", func := "loop.example/g01056/laws.FnExactStarDegree", spec := "fnExactStarDegree", apart := false }
def FnExactStarDegreeSaid : Prop := fnExactStarDegreeRow.holds Try.pinned (OpenSpec.ofChange fnExactStarDegreeSpec)

/-- ITS FALSE NEIGHBOUR: 'it returns false'. Refute it at one input. -/
def fnExactStarDegreeWrong : ChangeSpec := { name := "fnExactStarDegree", fn := fun _ => fun
  | [d] => { results := [.lit (.bool false)], args := [d] }
  | _ => none }
def FnExactStarDegreeWrongFalsely : Prop := fnExactStarDegreeRow.holds Try.pinned (OpenSpec.ofChange fnExactStarDegreeWrong)

/-- 'laws.FnExactTermsOn': WHATEVER THE INPUT: true; the input reads as it did. -/
def fnExactTermsOnSpec : ChangeSpec := { name := "fnExactTermsOn", fn := fun _ => fun
  | [d1, d2, d3] => { results := [.lit (.bool true)], args := [d1, d2, d3] }
  | _ => none }
def fnExactTermsOnRow : OpenClaim := { program := "ytlkhjedlokklaaa", sum := "92ad1b035741b8e316fb2e119a8953b8e7445d6e17900ea669496ab8ae6ec7f2", func := "loop.example/g01056/laws.FnExactTermsOn", spec := "fnExactTermsOn", apart := false }
def FnExactTermsOnSaid : Prop := fnExactTermsOnRow.holds Try.pinned (OpenSpec.ofChange fnExactTermsOnSpec)

/-- ITS FALSE NEIGHBOUR: 'it returns false'. Refute it at one input. -/
def fnExactTermsOnWrong : ChangeSpec := { name := "fnExactTermsOn", fn := fun _ => fun
  | [d1, d2, d3] => { results := [.lit (.bool false)], args := [d1, d2, d3] }
  | _ => none }
def FnExactTermsOnWrongFalsely : Prop := fnExactTermsOnRow.holds Try.pinned (OpenSpec.ofChange fnExactTermsOnWrong)

/-- 'laws.FnExactLinesAt': WHATEVER THE INPUT: true; the input reads as it did. -/
def fnExactLinesAtSpec : ChangeSpec := { name := "fnExactLinesAt", fn := fun _ => fun
  | [d1, d2, d3] => { results := [.lit (.bool true)], args := [d1, d2, d3] }
  | _ => none }
def fnExactLinesAtRow : OpenClaim := { program := "ytlkhjedlokklaaa", sum := "92ad1b035741b8e316fb2e119a8953b8e7445d6e17900ea669496ab8ae6ec7f2", func := "loop.example/g01056/laws.FnExactLinesAt", spec := "fnExactLinesAt", apart := false }
def FnExactLinesAtSaid : Prop := fnExactLinesAtRow.holds Try.pinned (OpenSpec.ofChange fnExactLinesAtSpec)

/-- ITS FALSE NEIGHBOUR: 'it returns false'. Refute it at one input. -/
def fnExactLinesAtWrong : ChangeSpec := { name := "fnExactLinesAt", fn := fun _ => fun
  | [d1, d2, d3] => { results := [.lit (.bool false)], args := [d1, d2, d3] }
  | _ => none }
def FnExactLinesAtWrongFalsely : Prop := fnExactLinesAtRow.holds Try.pinned (OpenSpec.ofChange fnExactLinesAtWrong)

/- THE SECOND FORM. 'bulk': how many values and letters a reading holds, each counted each time it is reached (what is shared counts as often as it is met; a slice's spare places count too). A statement '..UptoSaid' is the law's where the arguments, and the package variables that the reading takes, are together of bulk at most 1048576: NARROWER than '..Said'. Prove '..Said' where nothing that the law and all that it calls make is longer than what came in: it says more and counts as full. Else prove '..UptoSaid'. A law counts once. -/
mutual
def uptoBulk {H : Type} : DataW H → Nat
  | .lit (.string bytes) => bytes.length + 1
  | .lit _ => 1
  | .nil => 1
  | .ptr d => uptoBulk d + 1
  | .slice elems spare => uptoBulkAll elems + uptoBulkAll spare + 1
  | .agg parts => uptoBulkAll parts + 1
  | .iface _ d => uptoBulk d + 1
  | .map entries => uptoBulkEntries entries + 1
  | .held _ => 1
def uptoBulkAll {H : Type} : List (DataW H) → Nat
  | [] => 0
  | d :: r => uptoBulk d + uptoBulkAll r
def uptoBulkEntries {H : Type} : List (Lit × DataW H) → Nat
  | [] => 0
  | x :: r => uptoBulkEntry x + uptoBulkEntries r
def uptoBulkEntry {H : Type} : Lit × DataW H → Nat
  | (.string bytes, d) => bytes.length + uptoBulk d + 1
  | (_, d) => uptoBulk d + 1
 end
def uptoSmall : (H : Type) → List (DataW H) → Bool := fun _ ds => decide (uptoBulkAll ds ≤ 1048576)
def OpenSpec.upto (s : _root_.Go.ChangeSpec) : _root_.Go.OpenSpec := { _root_.Go.OpenSpec.ofChange s with cond := some uptoSmall }

/-- 'laws.FnExactIsStar', WHERE WHAT IT READS IS OF BULK AT MOST 1048576: true; the input reads as it did. -/
def fnExactIsStarUptoRow : OpenClaim := { program := "ytlkhjedlokklaaa", sum := "92ad1b035741b8e316fb2e119a8953b8e7445d6e17900ea669496ab8ae6ec7f2", func := "loop.example/g01056/laws.FnExactIsStar", spec := "fnExactIsStar", apart := false, narrowed := true }
def FnExactIsStarUptoSaid : Prop := fnExactIsStarUptoRow.holds Try.pinned (OpenSpec.upto fnExactIsStarSpec)

/-- 'laws.FnExactStarSum', WHERE WHAT IT READS IS OF BULK AT MOST 1048576: true; the input reads as it did. -/
def fnExactStarSumUptoRow : OpenClaim := { program := "ytlkhjedlokklaaa", sum := "92ad1b035741b8e316fb2e119a8953b8e7445d6e17900ea669496ab8ae6ec7f2", func := "loop.example/g01056/laws.FnExactStarSum", spec := "fnExactStarSum", apart := false, narrowed := true }
def FnExactStarSumUptoSaid : Prop := fnExactStarSumUptoRow.holds Try.pinned (OpenSpec.upto fnExactStarSumSpec)

/-- 'laws.FnExactIsBalanced', WHERE WHAT IT READS IS OF BULK AT MOST 1048576: true; the input reads as it did. -/
def fnExactIsBalancedUptoRow : OpenClaim := { program := "ytlkhjedlokklaaa", sum := "92ad1b035741b8e316fb2e119a8953b8e7445d6e17900ea669496ab8ae6ec7f2", func := "loop.example/g01056/laws.FnExactIsBalanced", spec := "fnExactIsBalanced", apart := false, narrowed := true }
def FnExactIsBalancedUptoSaid : Prop := fnExactIsBalancedUptoRow.holds Try.pinned (OpenSpec.upto fnExactIsBalancedSpec)

/-- 'laws.FnExactMissingRay', WHERE WHAT IT READS IS OF BULK AT MOST 1048576: true; the input reads as it did. -/
def fnExactMissingRayUptoRow : OpenClaim := { program := "ytlkhjedlokklaaa", sum := "92ad1b035741b8e316fb2e119a8953b8e7445d6e17900ea669496ab8ae6ec7f2", func := "loop.example/g01056/laws.FnExactMissingRay", spec := "fnExactMissingRay", apart := false, narrowed := true }
def FnExactMissingRayUptoSaid : Prop := fnExactMissingRayUptoRow.holds Try.pinned (OpenSpec.upto fnExactMissingRaySpec)

/-- 'laws.FnExactSupportOf', WHERE WHAT IT READS IS OF BULK AT MOST 1048576: true; the input reads as it did. -/
def fnExactSupportOfUptoRow : OpenClaim := { program := "ytlkhjedlokklaaa", sum := "92ad1b035741b8e316fb2e119a8953b8e7445d6e17900ea669496ab8ae6ec7f2", func := "loop.example/g01056/laws.FnExactSupportOf", spec := "fnExactSupportOf", apart := false, narrowed := true }
def FnExactSupportOfUptoSaid : Prop := fnExactSupportOfUptoRow.holds Try.pinned (OpenSpec.upto fnExactSupportOfSpec)

/-- 'laws.FnExactScaleStar', WHERE WHAT IT READS IS OF BULK AT MOST 1048576: true; the input reads as it did. -/
def fnExactScaleStarUptoRow : OpenClaim := { program := "ytlkhjedlokklaaa", sum := "92ad1b035741b8e316fb2e119a8953b8e7445d6e17900ea669496ab8ae6ec7f2", func := "loop.example/g01056/laws.FnExactScaleStar", spec := "fnExactScaleStar", apart := false, narrowed := true }
def FnExactScaleStarUptoSaid : Prop := fnExactScaleStarUptoRow.holds Try.pinned (OpenSpec.upto fnExactScaleStarSpec)

/-- 'laws.FnExactMeetSum', WHERE WHAT IT READS IS OF BULK AT MOST 1048576: true; the input reads as it did. -/
def fnExactMeetSumUptoRow : OpenClaim := { program := "ytlkhjedlokklaaa", sum := "92ad1b035741b8e316fb2e119a8953b8e7445d6e17900ea669496ab8ae6ec7f2", func := "loop.example/g01056/laws.FnExactMeetSum", spec := "fnExactMeetSum", apart := false, narrowed := true }
def FnExactMeetSumUptoSaid : Prop := fnExactMeetSumUptoRow.holds Try.pinned (OpenSpec.upto fnExactMeetSumSpec)

/-- 'laws.FnExactMeetCount', WHERE WHAT IT READS IS OF BULK AT MOST 1048576: true; the input reads as it did. -/
def fnExactMeetCountUptoRow : OpenClaim := { program := "ytlkhjedlokklaaa", sum := "92ad1b035741b8e316fb2e119a8953b8e7445d6e17900ea669496ab8ae6ec7f2", func := "loop.example/g01056/laws.FnExactMeetCount", spec := "fnExactMeetCount", apart := false, narrowed := true }
def FnExactMeetCountUptoSaid : Prop := fnExactMeetCountUptoRow.holds Try.pinned (OpenSpec.upto fnExactMeetCountSpec)

/-- 'laws.FnExactSelfCount', WHERE WHAT IT READS IS OF BULK AT MOST 1048576: true; the input reads as it did. -/
def fnExactSelfCountUptoRow : OpenClaim := { program := "ytlkhjedlokklaaa", sum := "92ad1b035741b8e316fb2e119a8953b8e7445d6e17900ea669496ab8ae6ec7f2", func := "loop.example/g01056/laws.FnExactSelfCount", spec := "fnExactSelfCount", apart := false, narrowed := true }
def FnExactSelfCountUptoSaid : Prop := fnExactSelfCountUptoRow.holds Try.pinned (OpenSpec.upto fnExactSelfCountSpec)

/-- 'laws.FnExactStarDegree', WHERE WHAT IT READS IS OF BULK AT MOST 1048576: true; the input reads as it did. -/
def fnExactStarDegreeUptoRow : OpenClaim := { program := "ytlkhjedlokklaaa", sum := "92ad1b035741b8e316fb2e119a8953b8e7445d6e17900ea669496ab8ae6ec7f2", func := "loop.example/g01056/laws.FnExactStarDegree", spec := "fnExactStarDegree", apart := false, narrowed := true }
def FnExactStarDegreeUptoSaid : Prop := fnExactStarDegreeUptoRow.holds Try.pinned (OpenSpec.upto fnExactStarDegreeSpec)

/-- 'laws.FnExactTermsOn', WHERE WHAT IT READS IS OF BULK AT MOST 1048576: true; the input reads as it did. -/
def fnExactTermsOnUptoRow : OpenClaim := { program := "ytlkhjedlokklaaa", sum := "92ad1b035741b8e316fb2e119a8953b8e7445d6e17900ea669496ab8ae6ec7f2", func := "loop.example/g01056/laws.FnExactTermsOn", spec := "fnExactTermsOn", apart := false, narrowed := true }
def FnExactTermsOnUptoSaid : Prop := fnExactTermsOnUptoRow.holds Try.pinned (OpenSpec.upto fnExactTermsOnSpec)

/-- 'laws.FnExactLinesAt', WHERE WHAT IT READS IS OF BULK AT MOST 1048576: true; the input reads as it did. -/
def fnExactLinesAtUptoRow : OpenClaim := { program := "ytlkhjedlokklaaa", sum := "92ad1b035741b8e316fb2e119a8953b8e7445d6e17900ea669496ab8ae6ec7f2", func := "loop.example/g01056/laws.FnExactLinesAt", spec := "fnExactLinesAt", apart := false, narrowed := true }
def FnExactLinesAtUptoSaid : Prop := fnExactLinesAtUptoRow.holds Try.pinned (OpenSpec.upto fnExactLinesAtSpec)

end Rows
end Go.Proofs.Ytlkhjedlokklaaa
