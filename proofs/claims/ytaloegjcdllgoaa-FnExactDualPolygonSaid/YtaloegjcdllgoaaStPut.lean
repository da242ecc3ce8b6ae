/-
  One more ray: the reference's walk.
-/
import Derived.Test.YtaloegjcdllgoaaPutP
import Derived.Test.YtaloegjcdllgoaaStar
import Derived.Test.YtaloegjcdllgoaaScale
import Derived.Test.YtaloegjcdllgoaaHullS
import Derived.Test.YtaloegjcdllgoaaHullI
import Derived.Deep.RegionHeld3
import Derived.BigRegion
namespace Go.Proofs.Ytaloegjcdllgoaa
open Go.RowKit

theorem befB_lex {a b c d : Int} : befB a b c d = true ↔ lexP (a, b) (c, d) := by
  unfold befB lexP lexV
  simp only [Bool.or_eq_true, Bool.and_eq_true, decide_eq_true_eq]
  omega
theorem tv_drop (zs : List (Int × Int × Int)) (k : Nat) : (tv zs).drop (k * 3) = tv (zs.drop k) := by
  rcases Nat.lt_or_ge k zs.length with h | h
  · have h1 : tv zs = tv (zs.take k) ++ tv (zs.drop k) := by rw [← tv_append, List.take_append_drop]
    rw [h1, List.drop_append_of_le_length (by rw [tv_len]; simp; omega), List.drop_of_length_le (by rw [tv_len]; simp; omega), List.nil_append]
  · rw [List.drop_of_length_le (by rw [tv_len]; omega), List.drop_of_length_le h]; rfl
theorem ones_reads3 {w : World} {g : Nat} {x y z : Value} (h0 : w.cell? ⟨g, 0, none⟩ = some x) (h1 : w.cell? ⟨g, 1, none⟩ = some y) (h2 : w.cell? ⟨g, 2, none⟩ = some z) : Reads w (some ⟨g, 0, none⟩) 3 1 [x, y, z] :=
  ⟨rfl, fun _ => ⟨g, 0, rfl, fun j u hj => by
    match j, hj with
    | 0, hj => simp at hj; subst hj; simpa using h0
    | 1, hj => simp at hj; subst hj; simpa using h1
    | 2, hj => simp at hj; subst hj; simpa using h2⟩⟩
theorem own_two {w : World} {B : Nat} {E : TypeId} {size : Nat} {a : Option Addr} {n c : Nat} {xs : List Value} (k : w.ownsRow B E size (.slice a n c) n xs) : (a = none ∧ n = 0 ∧ c = 0) ∨ ∃ g, a = some ⟨g, 0, none⟩ := by
  rcases k.2 with ⟨h, h0⟩ | ⟨g, cap, cur, hv, _⟩
  · simp only [Value.slice.injEq] at h; exact .inl h
  · simp only [Value.slice.injEq] at hv; exact .inr ⟨g, hv.1⟩
theorem grown_setQ (w : World) (b o : Nat) (v : Value) : w.grownBy (w.setCell ⟨b, o, none⟩ v) (some b) :=
  ⟨rfl, rfl, rfl, by simp, fun k _ hk => Go.Deep.blk_setCell_other w ⟨b, o, none⟩ v k (fun e => hk (by rw [e]))⟩
/-- A slice of rays of the call's own. -/
def OwnsRays (B : Nat) (zs : List (Int × Int × Int)) (w : World) (r : Ending) (w' : World) : Prop :=
  ∃ a c, r = .returned (.slice a zs.length c) ∧ w'.ownsRow B 52 3 (.slice a zs.length c) zs.length (tv zs) ∧ Ext w w'
end Go.Proofs.Ytaloegjcdllgoaa
