/-
  The contracts of the functions that gather places: append onto a slice of the call's own.
-/
import Derived.Test.YtaloegjcdllgoaaInts
namespace Go.Proofs.Ytaloegjcdllgoaa
open Go.RowKit

/-- A slice of the call's own, and nothing that was there has turned. -/
def OwnsInts (B : Nat) (zs : List Int) (w : World) (r : Ending) (w' : World) : Prop :=
  ∃ a c, r = .returned (.slice a zs.length c) ∧ w'.ownsRow B 3 1 (.slice a zs.length c) zs.length (iv zs) ∧ Ext w w'

/-- 'append(out, z)', out nil or the call's own. -/
theorem wpList_app1 {w : World} {ops : Array Oper} {rest : List Oper} {o : Oper} {a : Act} {Q : Exit → Act → World → Prop} (hgd : o.guard = none) (s x : Operand)
    (ho : o.op = .call { callee := .builtin .append, args := #[s, x], argTypes := #[22, 22] })
    (W : World) (base : Nat) (a0 : Option Addr) (n c : Nat) (xs : List Int) (z : Int) (hs : a.eval s = .slice a0 n c) (hown : w.ownsRow base 3 1 (.slice a0 n c) n (iv xs))
    (g : Nat) (hx : a.eval x = .slice (some ⟨g, 0, none⟩) 1 1) (hc : w.cell? ⟨g, 0, none⟩ = some (.int .i64 z)) (hn : n ≤ 1073741824) (hb : base ≤ w.heap.size) (hE : Ext W w) (hW : W.heap.size ≤ base)
    (h : ∀ a1 c1 w', w'.ownsRow base 3 1 (.slice a1 (n + 1) c1) (n + 1) (iv (xs ++ [z])) → Ext W w' → wpList Try.prog ops Q rest (a.put o.dst (.slice a1 (n + 1) c1)) w') :
    wpList Try.prog ops Q (o :: rest) a w := by
  obtain ⟨i0, hi, hz0, hz1, hz2⟩ := info_parts int_info
  refine wpList_append_own w hgd s x 22 ho base 3 i0 (.int .i64 0) 1 8 Try.underlying22 hi hz0 hz1 hz2 rfl (by decide) _ n (iv xs) hs hown ⟨g, 0, none⟩ 1 1 [.int .i64 z] hx rfl ?_ ?_ ?_ ?_ hb ?_
  · intro j u hj
    match j, hj with
    | 0, hj => simp at hj; subst hj; simpa [Addr.add] using hc
  · intro u hu; simp at hu; subst hu; rfl
  · unfold maxLen; omega
  · omega
  · intro v' w' h1 h2 _
    have hf := own_form h1
    obtain ⟨a1, c1, rfl⟩ : ∃ a1 c1, v' = .slice a1 (n + 1) c1 := by
      rcases h1.2 with ⟨_, h0⟩ | ⟨g1, cap, cur, hv, _⟩
      · omega
      · exact ⟨_, _, hv⟩
    refine h a1 c1 w' ?_ (hE.grown h2 fun k hk => Nat.le_trans hW (hown.lt k hk).1)
    have e : iv (xs ++ [z]) = iv xs ++ [.int .i64 z] := by simp [iv]
    rw [e]; exact h1

end Go.Proofs.Ytaloegjcdllgoaa
