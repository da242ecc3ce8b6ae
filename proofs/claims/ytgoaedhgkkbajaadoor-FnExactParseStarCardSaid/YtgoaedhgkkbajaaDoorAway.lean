/-
  A block that a slice's own row is not: it stands as it was while the slice is appended to.
-/
import Derived.Test.YtgoaedhgkkbajaaDoorPlaces
import Derived.Test.YtgoaedhgkkbajaaDoorApp
namespace Go.Proofs.YtgoaedhgkkbajaaDoor
open Go.RowKit

def AwayFrom (w : World) (v : Value) (b : Nat) (l : List Value) : Prop := Has w b l ∧ v.ownBlock ≠ some b
theorem cell_grown {w w' : World} {row : Option Nat} (hg : w.grownBy w' row) {g o : Nat} {v : Value} (hc : w.cell? ⟨g, o, none⟩ = some v) (hne : row ≠ some g) : w'.cell? ⟨g, o, none⟩ = some v := by
  have hlt : g < w.heap.size := by
    rcases Nat.lt_or_ge g w.heap.size with h | h
    · exact h
    · simp [World.cell?, Array.getElem?_eq_none h] at hc
  rw [← hc]
  simp only [World.cell?, hg.block g hlt (Ne.symm hne)]
theorem Has.lt {w : World} {b : Nat} {l : List Value} (h : Has w b l) (hl : l ≠ []) : b < w.heap.size := by
  cases l with
  | nil => exact absurd rfl hl
  | cons v r =>
    have hc := h 0 v rfl
    rcases Nat.lt_or_ge b w.heap.size with h | h
    · exact h
    · simp [World.cell?, Array.getElem?_eq_none h] at hc
theorem AwayFrom.ext {w w' : World} {v : Value} {b : Nat} {l : List Value} (h : Ext w w') (k : AwayFrom w v b l) : AwayFrom w' v b l := ⟨Has.ext h k.1, k.2⟩
theorem AwayFrom.grown {w w' : World} {v v' : Value} {b : Nat} {l : List Value} (hl : l ≠ []) (hg : w.grownBy w' v.ownBlock) (hloc : v'.ownBlock = v.ownBlock ∨ v'.ownBlock = some w.heap.size) (k : AwayFrom w v b l) : AwayFrom w' v' b l := by
  refine ⟨fun i u hu => cell_grown hg (k.1 i u hu) k.2, fun e => ?_⟩
  rcases hloc with h | h
  · exact k.2 (h ▸ e)
  · rw [h] at e
    have := k.1.lt hl
    have := Option.some.inj e
    omega
-- a row that is not the one that grew stands as it was
theorem own_away {w w' : World} {B : Nat} {E : TypeId} {size : Nat} {v : Value} {n : Nat} {xs : List Value} {row : Option Nat} (k : w.ownsRow B E size v n xs) (hg : w.grownBy w' row) (h : ∀ q, v.ownBlock = some q → row ≠ some q) : w'.ownsRow B E size v n xs := by
  refine k.kept hg ?_
  cases hv : v.ownBlock with
  | none => exact .inl rfl
  | some q => exact .inr fun e => h q hv e.symm
theorem own_room {w : World} {B : Nat} {E : TypeId} {size : Nat} {a : Option Addr} {n c : Nat} {xs : List Value} (k : w.ownsRow B E size (.slice a n c) n xs) : n ≤ c ∧ c ≤ maxLen := by
  rcases k.2 with ⟨h, h0⟩ | ⟨g, cap, cur, hv, hb, _, r1, r2, _⟩
  · simp only [Value.slice.injEq] at h; omega
  · simp only [Value.slice.injEq, true_and] at hv
    omega
/-- 'append(out, z)' of a number, with what stands beside it. -/
theorem wpList_app1a {w : World} {ops : Array Oper} {rest : List Oper} {o : Oper} {a : Act} {Q : Exit → Act → World → Prop} (hgd : o.guard = none) (s x : Operand)
    (ho : o.op = .call { callee := .builtin .append, args := #[s, x], argTypes := #[35, 35] })
    (W : World) (base : Nat) (a0 : Option Addr) (n c : Nat) (xs : List Int) (z : Int) (hs : a.eval s = .slice a0 n c) (hown : w.ownsRow base 3 1 (.slice a0 n c) n (iv xs))
    (g : Nat) (hx : a.eval x = .slice (some ⟨g, 0, none⟩) 1 1) (hc : w.cell? ⟨g, 0, none⟩ = some (.int .i64 z)) (hn : n ≤ 1073741824) (hb : base ≤ w.heap.size) (hE : Ext W w) (hW : W.heap.size ≤ base)
    (h : ∀ a1 c1 w', w'.ownsRow base 3 1 (.slice a1 (n + 1) c1) (n + 1) (iv (xs ++ [z])) → Ext W w' → (∀ b l, l ≠ [] → AwayFrom w (.slice a0 n c) b l → AwayFrom w' (.slice a1 (n + 1) c1) b l) → w.heap.size ≤ w'.heap.size → wpList Tryd.prog ops Q rest (a.put o.dst (.slice a1 (n + 1) c1)) w') :
    wpList Tryd.prog ops Q (o :: rest) a w := by
  obtain ⟨i0, hi, hz0, hz1, hz2⟩ := info_parts int_info
  refine wpList_app_any w hgd s x 35 ho base 3 i0 (.int .i64 0) 1 8 Tryd.underlying35 hi hz0 hz1 hz2 rfl (by decide) _ n (iv xs) hs hown _ 1 1 [.int .i64 z] hx ?_ ?_ ?_ ?_ hb ?_
  · exact ⟨rfl, fun _ => ⟨g, 0, rfl, fun j u hj => by
      match j, hj with
      | 0, hj => simp at hj; subst hj; simpa using hc⟩⟩
  · intro u hu; simp at hu; subst hu; rfl
  · unfold maxLen; omega
  · omega
  · intro a1 c1 w' k1 k2 k3
    exact h a1 c1 w' (by simpa [iv] using k1) (hE.grown k2 fun k hk => Nat.le_trans hW (hown.lt k hk).1) (fun b l hl hap => hap.grown hl k2 k3) k2.size

end Go.Proofs.YtgoaedhgkkbajaaDoor
