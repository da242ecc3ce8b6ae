/-
  No cell of these rows narrows 'for every input' (looked for: loops, veiled, ifaces, maps, wideKeys, modest, calm, conditions, laid).
  DERIVED. THE GIVEN ROWS OF THIS SEAT. 6 by the template 'for every input the law returns true; each argument reads behind the call as it read before'; 0 by the template 'total and deterministic' (their statements: YtogbfhhioicbmaaTotals.lean).
  GIVEN WITH THE SEED: the statements are not yours to turn. If you find one false, say at which input.
  Laid BY PROGRAM, IN A SANDBOX (cutbox-rows.mjs): the forced cells as the released guide's own fill.sh prints them over the translation e8d0b0aa2bb07d05… (all of the seat's roots in one cut). By AI agents, Wed Nov 11 2026. No macro, syntax, notation, axiom, sorry.
-/
import Derived.Test.YtogbfhhioicbmaaChecked
import GoSem.Claim
import GoSem.ClaimJoined
import GoSem.ClaimMapViews
import Derived.JoinedTies
import Derived.KernelRfl
namespace Go.Proofs.Ytogbfhhioicbmaa
/- THE CELL 'sum', in the pinned program and in every row, IS THE sha256 OF THE DUMP (.gsa) THAT YtogbfhhioicbmaaProg.lean LOADS. Nothing in Lean hashes anything: it is a label: what it is worth is what the hold of that sum in a sandbox is worth. -/
noncomputable def Try.pinned : Pinned := { name := "ytogbfhhioicbmaa", sum := "e8d0b0aa2bb07d059463b1017adbf3fdaf5d20e3ba642d12b0d0716836193fd9", checked := Try.checked }
namespace Rows
def none {H : Type} : Left H := { results := [], args := [] }

/-- 'laws.FnExactLeastCoefficients': WHATEVER THE INPUT: true; the input reads as it did. -/
def fnExactLeastCoefficientsSpec : ChangeSpec := { name := "fnExactLeastCoefficients", fn := fun _ => fun
  | [d] => { results := [.lit (.bool true)], args := [d] }
  | _ => none }
def fnExactLeastCoefficientsRow : OpenClaim := { program := "ytogbfhhioicbmaa", sum := "e8d0b0aa2bb07d059463b1017adbf3fdaf5d20e3ba642d12b0d0716836193fd9", func := "loop.example/g01056/laws.FnExactLeastCoefficients", spec := "fnExactLeastCoefficients", apart := false }
def FnExactLeastCoefficientsSaid : Prop := fnExactLeastCoefficientsRow.holds Try.pinned (OpenSpec.ofChange fnExactLeastCoefficientsSpec)

/-- ITS FALSE NEIGHBOUR: 'it returns false'. Refute it at one input. -/
def fnExactLeastCoefficientsWrong : ChangeSpec := { name := "fnExactLeastCoefficients", fn := fun _ => fun
  | [d] => { results := [.lit (.bool false)], args := [d] }
  | _ => none }
def FnExactLeastCoefficientsWrongFalsely : Prop := fnExactLeastCoefficientsRow.holds Try.pinned (OpenSpec.ofChange fnExactLeastCoefficientsWrong)

/-- 'laws.FnExactIsOnCurveAt': WHATEVER THE INPUT: true; the input reads as it did. -/
def fnExactIsOnCurveAtSpec : ChangeSpec := { name := "fnExactIsOnCurveAt", fn := fun _ => fun
  | [d1, d2] => { results := [.lit (.bool true)], args := [d1, d2] }
  | _ => none }
def fnExactIsOnCurveAtRow : OpenClaim := { program := "ytogbfhhioicbmaa", sum := "e8d0b0aa2bb07d059463b1017adbf3fdaf5d20e3ba642d12b0d0716836193fd9", func := "loop.example/g01056/laws.FnExactIsOnCurveAt", spec := "fnExactIsOnCurveAt", apart := false }
def FnExactIsOnCurveAtSaid : Prop := fnExactIsOnCurveAtRow.holds Try.pinned (OpenSpec.ofChange fnExactIsOnCurveAtSpec)

/-- ITS FALSE NEIGHBOUR: 'it returns false'. Refute it at one input. -/
def fnExactIsOnCurveAtWrong : ChangeSpec := { name := "fnExactIsOnCurveAt", fn := fun _ => fun
  | [d1, d2] => { results := [.lit (.bool false)], args := [d1, d2] }
  | _ => none }
def FnExactIsOnCurveAtWrongFalsely : Prop := fnExactIsOnCurveAtRow.holds Try.pinned (OpenSpec.ofChange fnExactIsOnCurveAtWrong)

/-- 'laws.FnExactMapStar': WHATEVER THE INPUT: true; the input reads as it did. -/
def fnExactMapStarSpec : ChangeSpec := { name := "fnExactMapStar", fn := fun _ => fun
  | [d1, d2, d3, d4, d5] => { results := [.lit (.bool true)], args := [d1, d2, d3, d4, d5] }
  | _ => none }
def fnExactMapStarRow : OpenClaim := { program := "ytogbfhhioicbmaa", sum := "e8d0b0aa2bb07d059463b1017adbf3fdaf5d20e3ba642d12b0d0716836193fd9", func := "loop.example/g01056/laws.FnExactMapStar", spec := "fnExactMapStar", unfollowed := true, recurses := true, apart := false }
def FnExactMapStarSaid : Prop := fnExactMapStarRow.holds Try.pinned (OpenSpec.ofChange fnExactMapStarSpec)

/-- ITS FALSE NEIGHBOUR: 'it returns false'. Refute it at one input. -/
def fnExactMapStarWrong : ChangeSpec := { name := "fnExactMapStar", fn := fun _ => fun
  | [d1, d2, d3, d4, d5] => { results := [.lit (.bool false)], args := [d1, d2, d3, d4, d5] }
  | _ => none }
def FnExactMapStarWrongFalsely : Prop := fnExactMapStarRow.holds Try.pinned (OpenSpec.ofChange fnExactMapStarWrong)

/-- 'laws.FnExactAddStars': WHATEVER THE INPUT: true; the input reads as it did. -/
def fnExactAddStarsSpec : ChangeSpec := { name := "fnExactAddStars", fn := fun _ => fun
  | [d1, d2] => { results := [.lit (.bool true)], args := [d1, d2] }
  | _ => none }
def fnExactAddStarsRow : OpenClaim := { program := "ytogbfhhioicbmaa", sum := "e8d0b0aa2bb07d059463b1017adbf3fdaf5d20e3ba642d12b0d0716836193fd9", func := "loop.example/g01056/laws.FnExactAddStars", spec := "fnExactAddStars", unfollowed := true, recurses := true, apart := false }
def FnExactAddStarsSaid : Prop := fnExactAddStarsRow.holds Try.pinned (OpenSpec.ofChange fnExactAddStarsSpec)

/-- ITS FALSE NEIGHBOUR: 'it returns false'. Refute it at one input. -/
def fnExactAddStarsWrong : ChangeSpec := { name := "fnExactAddStars", fn := fun _ => fun
  | [d1, d2] => { results := [.lit (.bool false)], args := [d1, d2] }
  | _ => none }
def FnExactAddStarsWrongFalsely : Prop := fnExactAddStarsRow.holds Try.pinned (OpenSpec.ofChange fnExactAddStarsWrong)

/-- 'laws.FnExactNewtonPolygon': WHATEVER THE INPUT: true; the input reads as it did. -/
def fnExactNewtonPolygonSpec : ChangeSpec := { name := "fnExactNewtonPolygon", fn := fun _ => fun
  | [d] => { results := [.lit (.bool true)], args := [d] }
  | _ => none }
def fnExactNewtonPolygonRow : OpenClaim := { program := "ytogbfhhioicbmaa", sum := "e8d0b0aa2bb07d059463b1017adbf3fdaf5d20e3ba642d12b0d0716836193fd9", func := "loop.example/g01056/laws.FnExactNewtonPolygon", spec := "fnExactNewtonPolygon", unfollowed := true, recurses := true, apart := false }
def FnExactNewtonPolygonSaid : Prop := fnExactNewtonPolygonRow.holds Try.pinned (OpenSpec.ofChange fnExactNewtonPolygonSpec)

/-- ITS FALSE NEIGHBOUR: 'it returns false'. Refute it at one input. -/
def fnExactNewtonPolygonWrong : ChangeSpec := { name := "fnExactNewtonPolygon", fn := fun _ => fun
  | [d] => { results := [.lit (.bool false)], args := [d] }
  | _ => none }
def FnExactNewtonPolygonWrongFalsely : Prop := fnExactNewtonPolygonRow.holds Try.pinned (OpenSpec.ofChange fnExactNewtonPolygonWrong)

/-- 'laws.FnExactDualPolygon': WHATEVER THE INPUT: true; the input reads as it did. -/
def fnExactDualPolygonSpec : ChangeSpec := { name := "fnExactDualPolygon", fn := fun _ => fun
  | [d] => { results := [.lit (.bool true)], args := [d] }
  | _ => none }
def fnExactDualPolygonRow : OpenClaim := { program := "ytogbfhhioicbmaa", sum := "e8d0b0aa2bb07d059463b1017adbf3fdaf5d20e3ba642d12b0d0716836193fd9", func := "loop.example/g01056/laws.FnExactDualPolygon", spec := "fnExactDualPolygon", unfollowed := true, recurses := true, apart := false }
def FnExactDualPolygonSaid : Prop := fnExactDualPolygonRow.holds Try.pinned (OpenSpec.ofChange fnExactDualPolygonSpec)

/-- ITS FALSE NEIGHBOUR: 'it returns false'. Refute it at one input. -/
def fnExactDualPolygonWrong : ChangeSpec := { name := "fnExactDualPolygon", fn := fun _ => fun
  | [d] => { results := [.lit (.bool false)], args := [d] }
  | _ => none }
def FnExactDualPolygonWrongFalsely : Prop := fnExactDualPolygonRow.holds Try.pinned (OpenSpec.ofChange fnExactDualPolygonWrong)

/- THE SECOND FORM. 'bulk': how many values and letters a reading holds, each counted each time it is reached (what is shared counts as often as it is met; a slice's spare places count too). A statement '..UptoSaid' is the law's where the arguments, and the package variables that the reading takes, are together of bulk at most 1048576: NARROWER than '..Said'. Prove '..Said' where nothing that the law and all that it calls make is longer than what came in: it says more and counts as full. Else prove '..UptoSaid'. A law counts once. -/
mutual
def uptoBulk {H : Type} : DataW H → Nat
  | .lit (.string bytes) => bytes.length + 1
  | .lit _ => 1
  | .nil => 1
  | .ptr d => uptoBulk d + 1
  | .slice elems spare => uptoBulkAll elems + uptoBulkAll spare + 1
  | .agg parts => uptoBulkAll parts + 1
  | .iface _ d => uptoBulk d + 1
  | .map entries => uptoBulkEntries entries + 1
  | .held _ => 1
def uptoBulkAll {H : Type} : List (DataW H) → Nat
  | [] => 0
  | d :: r => uptoBulk d + uptoBulkAll r
def uptoBulkEntries {H : Type} : List (Lit × DataW H) → Nat
  | [] => 0
  | x :: r => uptoBulkEntry x + uptoBulkEntries r
def uptoBulkEntry {H : Type} : Lit × DataW H → Nat
  | (.string bytes, d) => bytes.length + uptoBulk d + 1
  | (_, d) => uptoBulk d + 1
 end
def uptoSmall : (H : Type) → List (DataW H) → Bool := fun _ ds => decide (uptoBulkAll ds ≤ 1048576)
def OpenSpec.upto (s : _root_.Go.ChangeSpec) : _root_.Go.OpenSpec := { _root_.Go.OpenSpec.ofChange s with cond := some uptoSmall }

/-- 'laws.FnExactLeastCoefficients', WHERE WHAT IT READS IS OF BULK AT MOST 1048576: true; the input reads as it did. -/
def fnExactLeastCoefficientsUptoRow : OpenClaim := { program := "ytogbfhhioicbmaa", sum := "e8d0b0aa2bb07d059463b1017adbf3fdaf5d20e3ba642d12b0d0716836193fd9", func := "loop.example/g01056/laws.FnExactLeastCoefficients", spec := "fnExactLeastCoefficients", apart := false, narrowed := true }
def FnExactLeastCoefficientsUptoSaid : Prop := fnExactLeastCoefficientsUptoRow.holds Try.pinned (OpenSpec.upto fnExactLeastCoefficientsSpec)

/-- 'laws.FnExactIsOnCurveAt', WHERE WHAT IT READS IS OF BULK AT MOST 1048576: true; the input reads as it did. -/
def fnExactIsOnCurveAtUptoRow : OpenClaim := { program := "ytogbfhhioicbmaa", sum := "e8d0b0aa2bb07d059463b1017adbf3fdaf5d20e3ba642d12b0d0716836193fd9", func := "loop.example/g01056/laws.FnExactIsOnCurveAt", spec := "fnExactIsOnCurveAt", apart := false, narrowed := true }
def FnExactIsOnCurveAtUptoSaid : Prop := fnExactIsOnCurveAtUptoRow.holds Try.pinned (OpenSpec.upto fnExactIsOnCurveAtSpec)

/-- 'laws.FnExactMapStar', WHERE WHAT IT READS IS OF BULK AT MOST 1048576: true; the input reads as it did. -/
def fnExactMapStarUptoRow : OpenClaim := { program := "ytogbfhhioicbmaa", sum := "e8d0b0aa2bb07d059463b1017adbf3fdaf5d20e3ba642d12b0d0716836193fd9", func := "loop.example/g01056/laws.FnExactMapStar", spec := "fnExactMapStar", unfollowed := true, recurses := true, apart := false, narrowed := true }
def FnExactMapStarUptoSaid : Prop := fnExactMapStarUptoRow.holds Try.pinned (OpenSpec.upto fnExactMapStarSpec)

/-- 'laws.FnExactAddStars', WHERE WHAT IT READS IS OF BULK AT MOST 1048576: true; the input reads as it did. -/
def fnExactAddStarsUptoRow : OpenClaim := { program := "ytogbfhhioicbmaa", sum := "e8d0b0aa2bb07d059463b1017adbf3fdaf5d20e3ba642d12b0d0716836193fd9", func := "loop.example/g01056/laws.FnExactAddStars", spec := "fnExactAddStars", unfollowed := true, recurses := true, apart := false, narrowed := true }
def FnExactAddStarsUptoSaid : Prop := fnExactAddStarsUptoRow.holds Try.pinned (OpenSpec.upto fnExactAddStarsSpec)

/-- 'laws.FnExactNewtonPolygon', WHERE WHAT IT READS IS OF BULK AT MOST 1048576: true; the input reads as it did. -/
def fnExactNewtonPolygonUptoRow : OpenClaim := { program := "ytogbfhhioicbmaa", sum := "e8d0b0aa2bb07d059463b1017adbf3fdaf5d20e3ba642d12b0d0716836193fd9", func := "loop.example/g01056/laws.FnExactNewtonPolygon", spec := "fnExactNewtonPolygon", unfollowed := true, recurses := true, apart := false, narrowed := true }
def FnExactNewtonPolygonUptoSaid : Prop := fnExactNewtonPolygonUptoRow.holds Try.pinned (OpenSpec.upto fnExactNewtonPolygonSpec)

/-- 'laws.FnExactDualPolygon', WHERE WHAT IT READS IS OF BULK AT MOST 1048576: true; the input reads as it did. -/
def fnExactDualPolygonUptoRow : OpenClaim := { program := "ytogbfhhioicbmaa", sum := "e8d0b0aa2bb07d059463b1017adbf3fdaf5d20e3ba642d12b0d0716836193fd9", func := "loop.example/g01056/laws.FnExactDualPolygon", spec := "fnExactDualPolygon", unfollowed := true, recurses := true, apart := false, narrowed := true }
def FnExactDualPolygonUptoSaid : Prop := fnExactDualPolygonUptoRow.holds Try.pinned (OpenSpec.upto fnExactDualPolygonSpec)

end Rows
end Go.Proofs.Ytogbfhhioicbmaa
