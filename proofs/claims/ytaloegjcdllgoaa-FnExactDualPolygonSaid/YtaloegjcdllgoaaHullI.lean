/-
  The hull of points that stand in order: the program's walk.
-/
import Derived.Test.YtaloegjcdllgoaaHalf
import Derived.Test.YtaloegjcdllgoaaApp
import Derived.Lib.SliceRun
namespace Go.Proofs.Ytaloegjcdllgoaa
open Go.RowKit

/-- A row of pairs, turned round as far as its k-th pair from either end. -/
def revQ (xs : List (Int × Int)) (k : Nat) : List (Int × Int) := (List.range xs.length).map fun j => if j < k ∨ xs.length - k ≤ j then pat xs (xs.length - 1 - j) else pat xs j
theorem revQ_len (xs : List (Int × Int)) (k : Nat) : (revQ xs k).length = xs.length := by simp [revQ]
theorem revQ_at {xs : List (Int × Int)} {k j : Nat} (h : j < xs.length) : (revQ xs k)[j]? = some (if j < k ∨ xs.length - k ≤ j then pat xs (xs.length - 1 - j) else pat xs j) := by simp [revQ, h]
theorem revQ_pat {xs : List (Int × Int)} {k j : Nat} (h : j < xs.length) : pat (revQ xs k) j = if j < k ∨ xs.length - k ≤ j then pat xs (xs.length - 1 - j) else pat xs j := by
  simp only [pat, List.getD]; rw [revQ_at h]; rfl
theorem revQ_zero (xs : List (Int × Int)) : revQ xs 0 = xs := by
  refine List.ext_getElem? fun j => ?_
  by_cases hj : j < xs.length
  · rw [revQ_at hj, if_neg (by omega), pat_eq hj]; simp [hj]
  · rw [List.getElem?_eq_none (by rw [revQ_len]; omega), List.getElem?_eq_none (by omega)]
theorem revQ_step {xs : List (Int × Int)} {k : Nat} (h : k + k + 1 < xs.length) : ((revQ xs k).set k (pat (revQ xs k) (xs.length - 1 - k))).set (xs.length - 1 - k) (pat (revQ xs k) k) = revQ xs (k + 1) := by
  refine List.ext_getElem? fun j => ?_
  by_cases hj : j < xs.length
  · rw [revQ_at hj, revQ_pat (by omega), revQ_pat (by omega)]
    simp only [List.getElem?_set, List.length_set, revQ_len]
    by_cases h1 : xs.length - 1 - k = j
    · subst h1
      rw [if_pos rfl, if_pos (show xs.length - 1 - k < xs.length by omega), if_neg (show ¬ (k < k ∨ xs.length - k ≤ k) by omega), if_pos (show xs.length - 1 - k < k + 1 ∨ xs.length - (k + 1) ≤ xs.length - 1 - k by omega), show xs.length - 1 - (xs.length - 1 - k) = k by omega]
    · rw [if_neg h1]
      by_cases h2 : k = j
      · subst h2
        rw [if_pos rfl, if_pos (show k < xs.length by omega), if_neg (show ¬ (xs.length - 1 - k < k ∨ xs.length - k ≤ xs.length - 1 - k) by omega), if_pos (show k < k + 1 ∨ xs.length - (k + 1) ≤ k by omega)]
      · rw [if_neg h2, revQ_at hj]
        by_cases h3 : j < k ∨ xs.length - k ≤ j
        · rw [if_pos h3, if_pos (by omega)]
        · rw [if_neg h3, if_neg (by omega)]
  · rw [List.getElem?_eq_none (by rw [List.length_set, List.length_set, revQ_len]; omega), List.getElem?_eq_none (by rw [revQ_len]; omega)]
theorem revQ_full {xs : List (Int × Int)} {k : Nat} (h : xs.length ≤ k + k + 1) : revQ xs k = xs.reverse := by
  refine List.ext_getElem? fun j => ?_
  by_cases hj : j < xs.length
  · rw [revQ_at hj, List.getElem?_reverse hj]
    by_cases h3 : j < k ∨ xs.length - k ≤ j
    · rw [if_pos h3, pat_eq (by omega)]; simp [show xs.length - 1 - j < xs.length by omega]
    · rw [if_neg h3]
      have : xs.length - 1 - j = j := by omega
      rw [this, pat_eq hj]; simp [hj]
  · rw [List.getElem?_eq_none (by rw [revQ_len]; omega), List.getElem?_eq_none (by simp; omega)]
theorem grown_transQ {w w' w'' : World} {row : Option Nat} (h : w.grownBy w' row) (k : w'.grownBy w'' row) : w.grownBy w'' row := World.grownBy.trans h k
theorem grown_drewQ {w w' : World} {row : Option Nat} (h : w.grownBy w' row) : w.grownBy w'.drew row := ⟨h.os, h.tape, h.output, h.size, h.block⟩
theorem own_apartQ {w w' : World} {B : Nat} {E : TypeId} {size : Nat} {v : Value} {n : Nat} {xs : List Value} {row : Option Nat} (k : w.ownsRow B E size v n xs) (hg : w.grownBy w' row) (h : ∀ q, v.ownBlock = some q → row ≠ some q) : w'.ownsRow B E size v n xs := by
  rcases k with ⟨h1, h2 | ⟨g, cap, cur, hv, hb, hc, r⟩⟩
  · exact ⟨h1, .inl h2⟩
  · subst hv
    refine ⟨h1, .inr ⟨g, cap, cur, rfl, hb, ?_, r⟩⟩
    rw [hg.block g (Array.getElem?_eq_some_iff.1 hc).1 (fun e => h g rfl e.symm)]
    exact hc
theorem perm_lex {ys zs : List (Int × Int)} (hp : ys.Perm zs) (hy : ys.Pairwise (fun a b => ¬ cmpI b.1 b.2 a.1 a.2 < 0)) (hz : zs.Pairwise lexP) : ys = zs := by
  refine List.Perm.eq_of_pairwise (le := leP) (fun a b _ _ h1 h2 => leP_antisymm h1 h2) ?_ ?_ hp
  · exact hy.imp fun {a b} h => leP_of_not (fun e => h ((cmpI_lex b a).2 e))
  · exact hz.imp fun h => .inr h

end Go.Proofs.Ytaloegjcdllgoaa
