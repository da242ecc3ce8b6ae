/-
  The half of a hull: both sides' walks.
-/
import Derived.Test.YtaloegjcdllgoaaPts
import Derived.Test.YtaloegjcdllgoaaTail
import Derived.Lib.SliceRun
namespace Go.Proofs.Ytaloegjcdllgoaa
open Go.RowKit

theorem cell_at_newQ {w : World} {cs : Array Value} {t : TypeId} {b i : Nat} {v : Value} (hb : b = w.heap.size) (h : cs[i]? = some v) : (w.alloc (.cells cs t)).cell? ⟨b, i, none⟩ = some v := by
  subst hb; simp [h]
theorem own_capQ {w : World} {B : Nat} {E : TypeId} {size : Nat} {a : Option Addr} {n c : Nat} {xs : List Value} (k : w.ownsRow B E size (.slice a n c) n xs) : n ≤ c ∧ c ≤ maxLen := by
  rcases k.2 with ⟨h, h0⟩ | ⟨g, cap, cur, hv, hb, _, r1, r2, _⟩
  · simp only [Value.slice.injEq] at h; omega
  · simp only [Value.slice.injEq, true_and] at hv
    omega
/-- How many elements a slice value has. -/
def slLenQ : Value → Nat
  | .slice _ n _ => n
  | _ => 0
end Go.Proofs.Ytaloegjcdllgoaa
