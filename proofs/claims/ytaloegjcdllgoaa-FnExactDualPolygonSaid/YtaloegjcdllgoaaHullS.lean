/-
  The hull of points that stand in order: the reference's walk.
-/
import Derived.Test.YtaloegjcdllgoaaHalf
import Derived.Test.YtaloegjcdllgoaaApp
import Derived.Deep.RegionHeld3
namespace Go.Proofs.Ytaloegjcdllgoaa
open Go.RowKit

theorem own_emptyH {w' : World} (w : World) {base g : Nat} {e : TypeId} {size : Nat} {v : Value} (hw : w'.heap = (w.alloc (.cells #[] e)).heap) (hv : v = .slice (some ⟨g, 0, none⟩) 0 0) (hg : g = w.heap.size) (h : base ≤ w.heap.size) : w'.ownsRow base e size v 0 [] := by
  subst hv hg
  have := own_empty w base e size h
  unfold World.ownsRow at this ⊢
  rw [hw]; exact this
theorem ones_reads2 {w : World} {g : Nat} {x y : Value} (h0 : w.cell? ⟨g, 0, none⟩ = some x) (h1 : w.cell? ⟨g, 1, none⟩ = some y) : Reads w (some ⟨g, 0, none⟩) 2 1 [x, y] :=
  ⟨rfl, fun _ => ⟨g, 0, rfl, fun j u hj => by
    match j, hj with
    | 0, hj => simp at hj; subst hj; simpa using h0
    | 1, hj => simp at hj; subst hj; simpa using h1⟩⟩
end Go.Proofs.Ytaloegjcdllgoaa
