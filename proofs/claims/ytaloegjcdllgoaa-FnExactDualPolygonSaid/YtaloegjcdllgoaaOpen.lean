/-
  What the proofs of the rows share: how an argument that came in is opened.
-/
import Derived.Test.YtaloegjcdllgoaaRows
import Derived.Test.YtaloegjcdllgoaaWorld
import Derived.Test.YtaloegjcdllgoaaPlain
import Derived.Test.YtaloegjcdllgoaaSlice
import Derived.ProofKit
import Derived.OpenShut
import Derived.ShutString
import Derived.ChangeOld
import Derived.Below
import Derived.Lib.SmallJoins
import Derived.Deep.Slices
import Derived.Deep.Fields
import Derived.ChangeSame
namespace Go.Proofs.Ytaloegjcdllgoaa
open Go.ChangeShapes Go.WideShapes Go.ChangeAt Go.RowKit Go.Joins Go.Deep

theorem own : ownKnob Try.prog.godebug = none := by kernel_rfl
theorem laidOut : laidOutB Try.prog = true := by kernel_rfl

theorem b64 {n : Int} (h : (Lit.int .i64 n).wf = true) : B64 n := by
  simp [Lit.wf, IntKind.min, IntKind.max, IntKind.signed, IntKind.bits] at h
  exact ⟨by omega, by omega⟩

theorem isRow_of {w : World} {x : Addr} {len cap : Nat} {zs : List Int} (hl : len ≤ cap) (hm : cap ≤ maxLen) (hz : zs.length = cap)
    (hc : ∀ i, i < zs.length → w.cell? (x.add i) = some (.int .i64 (zs.getD i 0))) (hb : ∀ n ∈ zs, B64 n) : IsRow w (some x) len cap (zs.take len) := by
  refine ⟨⟨by simp; omega, fun hpos => ?_⟩, hl, hm, fun z hz => hb z (List.mem_of_mem_take hz)⟩
  obtain ⟨b, off, rfl, hcc⟩ := ints_at hc (by omega)
  refine ⟨b, off, rfl, fun j u hu => ?_⟩
  simp only [List.getElem?_map, Option.map_eq_some_iff] at hu
  obtain ⟨z, hz1, rfl⟩ := hu
  rw [List.getElem?_take] at hz1
  split at hz1
  · have hj : j < zs.length := (List.getElem?_eq_some_iff.1 hz1).1
    rw [hcc j hj]
    simp [List.getD, hz1]
  · simp at hz1

end Go.Proofs.Ytaloegjcdllgoaa
