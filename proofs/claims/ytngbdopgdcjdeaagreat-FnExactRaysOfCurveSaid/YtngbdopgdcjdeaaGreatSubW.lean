/-
  CellsOf, EdgesOfCells, InnerEdges: both sides and the laws' walks.
-/
import Derived.Test.YtngbdopgdcjdeaaGreatBa4
import Derived.BigQuiet
namespace Go.Proofs.YtngbdopgdcjdeaaGreat
open Go.RowKit

def gR (t : Bool) (l : List (List Int)) : List (List Int) := if t then l else []
theorem gR_len {t : Bool} {l : List (List Int)} {k : Nat} (h : t = true → l.length ≤ k) : (gR t l).length ≤ k := by
  cases t
  · simp [gR]
  · simpa [gR] using h rfl
theorem gR_mem {t : Bool} {l : List (List Int)} {k : Nat} (h : t = true → ∀ y ∈ l, y.length ≤ k) : ∀ y ∈ gR t l, y.length ≤ k := by
  cases t
  · simp [gR]
  · simpa [gR] using h rfl
/-- A slice of slices of ints, all of the call's own, and a truth. -/
def OwnsLB (B : Nat) (ys : List (List Int)) (ok : Bool) (w : World) (r : Ending) (w' : World) : Prop := ∃ s ps, r = .returned (.tuple #[s, .bool ok]) ∧ OwnL w' B s ps ∧ ps.map (·.2) = ys ∧ Ext w w'
/-- A slice of slices of ints that reads so, and a truth. -/
def RdLB (ys : List (List Int)) (ok : Bool) (w : World) (r : Ending) (w' : World) : Prop := ∃ s, r = .returned (.tuple #[s, .bool ok]) ∧ RdL w' s ys ∧ Ext w w'
theorem cells_rows {zs : List (Int × Int × Int)} (hZ : PZ zs) : ∀ y ∈ cellsL zs, y.length ≤ 12 := fun _ hy => Nat.le_trans (cell_len (mem_cellsL.1 hy)) hZ.1
theorem once_rows {zs : List (Int × Int × Int)} (hZ : PZ zs) : ∀ y ∈ onceL zs, y.length ≤ 12 := fun y hy => by
  obtain ⟨i, j, _, _, rfl⟩ := once_form hZ.2.2 hy
  simp
theorem twice_rows {zs : List (Int × Int × Int)} (hZ : PZ zs) : ∀ y ∈ twiceL zs, y.length ≤ 12 := fun y hy => by
  rw [twice_filter hZ.2.2] at hy
  exact once_rows hZ y (List.mem_filter.1 hy).1
theorem twice_len2 {zs : List (Int × Int × Int)} (hZ : PZ zs) : (twiceL zs).length ≤ 48000 := by
  rw [twice_filter hZ.2.2]
  exact Nat.le_trans (List.length_filter_le _ _) (onceL_len hZ)
end Go.Proofs.YtngbdopgdcjdeaaGreat
