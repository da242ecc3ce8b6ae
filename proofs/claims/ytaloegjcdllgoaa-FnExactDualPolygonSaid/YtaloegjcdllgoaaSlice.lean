/-
  Slices: one that is read, wherever it lies; one that the call has made. Small laws by which a walk hands them on.
-/
import Derived.Test.YtaloegjcdllgoaaWorld
import Derived.Laws.OwnMore
import Derived.OwnWalk
namespace Go.Proofs.Ytaloegjcdllgoaa
open Go.RowKit

theorem Ext.grownBy {w w' : World} (h : Ext w w') (row : Option Nat) : w.grownBy w' row := ⟨h.os, h.tape, h.output, h.size, fun i hi _ => h.block i hi⟩
theorem Ext.of_grown {w w' : World} (h : w.grownBy w' none) : Ext w w' := ⟨h.os, h.tape, h.output, h.size, fun i hi => h.block i hi (by simp)⟩

/-- The slice value of address a and n elements (of so many cells each) reads as these cells. -/
def Reads (w : World) (a : Option Addr) (size n : Nat) (xs : List Value) : Prop :=
  xs.length = n * size ∧ (0 < n → ∃ b off, a = some ⟨b, off, none⟩ ∧ ∀ j u, xs[j]? = some u → w.cell? ⟨b, off + j, none⟩ = some u)

theorem Reads.ext {w w' : World} {a : Option Addr} {size n : Nat} {xs : List Value} (h : Ext w w') (k : Reads w a size n xs) : Reads w' a size n xs :=
  ⟨k.1, fun hn => by
    obtain ⟨b, off, ha, hc⟩ := k.2 hn
    exact ⟨b, off, ha, fun j u hu => h.keep (hc j u hu)⟩⟩
theorem Reads.drew {w : World} {a : Option Addr} {size n : Nat} {xs : List Value} (k : Reads w a size n xs) : Reads w.drew a size n xs := k
theorem Reads.alloc {w : World} {a : Option Addr} {size n : Nat} {xs : List Value} (k : Reads w a size n xs) (o : Obj) : Reads (w.alloc o) a size n xs := k.ext ((Ext.refl w).alloc o)

theorem own_ext {w w' : World} {B : Nat} {E : TypeId} {size : Nat} {v : Value} {n : Nat} {xs : List Value} (h : Ext w w') (k : w.ownsRow B E size v n xs) : w'.ownsRow B E size v n xs := by
  refine k.kept (h.grownBy none) ?_
  cases hv : v.ownBlock
  · exact .inl rfl
  · exact .inr (by simp)
theorem own_mono {w : World} {B B' : Nat} {E : TypeId} {size : Nat} {v : Value} {n : Nat} {xs : List Value} (h : B' ≤ B) (k : w.ownsRow B E size v n xs) : w.ownsRow B' E size v n xs := by
  refine ⟨k.1, ?_⟩
  rcases k.2 with k2 | ⟨g, cap, cur, hv, hb, r⟩
  · exact .inl k2
  · exact .inr ⟨g, cap, cur, hv, by omega, r⟩
theorem own_form {w : World} {B : Nat} {E : TypeId} {size : Nat} {v : Value} {n : Nat} {xs : List Value} (k : w.ownsRow B E size v n xs) : ∃ a c, v = .slice a n c := by
  rcases k.2 with ⟨rfl, rfl⟩ | ⟨g, cap, cur, rfl, _⟩
  · exact ⟨_, _, rfl⟩
  · exact ⟨_, _, rfl⟩
theorem own_reads {w : World} {B : Nat} {E : TypeId} {size : Nat} {a : Option Addr} {n c : Nat} {xs : List Value} (k : w.ownsRow B E size (.slice a n c) n xs) : Reads w a size n xs := by
  refine ⟨k.1, fun hn => ?_⟩
  have h0 := k
  rcases k.2 with ⟨_, h⟩ | ⟨g, cap, cur, hv, hb, r⟩
  · omega
  · simp only [Value.slice.injEq, true_and] at hv
    obtain ⟨rfl, rfl⟩ := hv
    refine ⟨g, 0, rfl, fun j u hu => ?_⟩
    have hj : j < n * size := by rw [← k.1]; exact (List.getElem?_eq_some_iff.1 hu).1
    rw [Nat.zero_add, h0.cellAt j hj, hu]

theorem own_head {w : World} {B : Nat} {E : TypeId} {size : Nat} {a : Option Addr} {n c : Nat} {xs : List Value} (k : w.ownsRow B E size (.slice a n c) n xs) (hn : 0 < n) : ∃ g, a = some ⟨g, 0, none⟩ ∧ B ≤ g ∧ g < w.heap.size := by
  rcases k.2 with ⟨_, h⟩ | ⟨g, cap, cur, hv, hb, hg, r⟩
  · omega
  · simp only [Value.slice.injEq, true_and] at hv
    refine ⟨g, hv.1, hb, ?_⟩
    rcases Nat.lt_or_ge g w.heap.size with hlt | hge
    · exact hlt
    · rw [Array.getElem?_eq_none hge] at hg; cases hg

/-- A slice of ints that came in. -/
def IsRow (w : World) (a : Option Addr) (len cap : Nat) (zs : List Int) : Prop :=
  Reads w a 1 len (zs.map (.int .i64)) ∧ len ≤ cap ∧ cap ≤ maxLen ∧ ∀ z ∈ zs, B64 z
theorem isRow_nil (w : World) : IsRow w none 0 0 [] := ⟨⟨rfl, fun h => by omega⟩, Nat.le_refl _, by simp [maxLen], by simp⟩
theorem intsAt {zs : List Int} {k : Nat} (h : k < zs.length) : (zs.map (Value.int .i64))[k]? = some (.int .i64 (zs.getD k 0)) := by
  simp [List.getD, List.getElem?_eq_getElem h]

end Go.Proofs.Ytaloegjcdllgoaa
