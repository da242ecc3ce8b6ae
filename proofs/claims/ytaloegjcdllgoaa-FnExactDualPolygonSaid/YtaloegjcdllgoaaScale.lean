/-
  ScaleStar; how a triple is appended to a slice of the call's own.
-/
import Derived.Test.YtaloegjcdllgoaaSup
import Derived.Lib.SliceRun
namespace Go.Proofs.Ytaloegjcdllgoaa
open Go.RowKit

theorem tv_one : ∀ (zs : List (Int × Int × Int)) (u : Value), u ∈ tv zs → u.oneCell' = true
  | [], u, h => by simp [tv] at h
  | r :: rs, u, h => by
    simp only [tv, List.mem_cons] at h
    rcases h with rfl | rfl | rfl | h
    · rfl
    · rfl
    · rfl
    · exact tv_one rs u h
theorem tv_single (x y z : Int) : tv [(x, y, z)] = [.int .i64 x, .int .i64 y, .int .i64 z] := rfl

/-- 'append(out, zs...)', out nil or the call's own, the elements triples. -/
theorem wpList_appT {S E : TypeId} (hS : Try.prog.underlying S = some (.slice E)) (hinfo : (Try.prog.info? E).map (fun i => (i.zero, i.size, i.bytes)) = some (some (.agg #[.int .i64 0, .int .i64 0, .int .i64 0]), 3, 24))
    {w : World} {ops : Array Oper} {rest : List Oper} {o : Oper} {a : Act} {Q : Exit → Act → World → Prop} (hgd : o.guard = none) (s x : Operand)
    (ho : o.op = .call { callee := .builtin .append, args := #[s, x], argTypes := #[S, S] })
    (W : World) (base : Nat) (a0 : Option Addr) (n c : Nat) (xs : List (Int × Int × Int)) (hs : a.eval s = .slice a0 n c) (hown : w.ownsRow base E 3 (.slice a0 n c) n (tv xs))
    (ad : Addr) (m c' : Nat) (zs : List (Int × Int × Int)) (hx : a.eval x = .slice (some ad) m c') (hl : zs.length = m) (hr : ∀ j u, (tv zs)[j]? = some u → w.cell? (ad.add j) = some u)
    (hn : n ≤ 1048576) (hm : m ≤ 1048576) (hb : base ≤ w.heap.size) (hE : Ext W w) (hW : W.heap.size ≤ base)
    (h : ∀ a1 c1 w', w'.ownsRow base E 3 (.slice a1 (n + m) c1) (n + m) (tv (xs ++ zs)) → Ext W w' → wpList Try.prog ops Q rest (a.put o.dst (.slice a1 (n + m) c1)) w') :
    wpList Try.prog ops Q (o :: rest) a w := by
  obtain ⟨i0, hi, hz0, hz1, hz2⟩ := info_parts hinfo
  refine wpList_append_own w hgd s x S ho base E i0 (.agg #[.int .i64 0, .int .i64 0, .int .i64 0]) 3 24 hS hi hz0 hz1 hz2 rfl (by decide) _ n (tv xs) hs hown ad m c' (tv zs) hx (by rw [tv_len, hl]) hr (tv_one zs) ?_ ?_ hb ?_
  · unfold maxLen; omega
  · omega
  · intro v' w' h1 h2 _
    obtain ⟨a1, c1, rfl⟩ := own_form h1
    refine h a1 c1 w' ?_ (hE.grown h2 fun k hk => Nat.le_trans hW (hown.lt k hk).1)
    rw [tv_append]; exact h1

/-- A slice of triples of the call's own, and a truth. -/
def OwnsTriB (E : TypeId) (B : Nat) (zs : List (Int × Int × Int)) (ok : Bool) (w : World) (r : Ending) (w' : World) : Prop :=
  ∃ a c, r = .returned (.tuple #[.slice a zs.length c, .bool ok]) ∧ w'.ownsRow B E 3 (.slice a zs.length c) zs.length (tv zs) ∧ Ext w w'
def gT (t : Bool) (l : List (Int × Int × Int)) : List (Int × Int × Int) := if t then l else []
theorem own_none (w : World) (B : Nat) (E : TypeId) : w.ownsRow B E 3 (.slice none 0 0) 0 (tv []) := ⟨rfl, .inl ⟨rfl, rfl⟩⟩

/-- A ray with its number times k. -/
def sc (k : Int) (r : Int × Int × Int) : Int × Int × Int := (r.1, r.2.1, r.2.2 * k)
def scTo (k : Int) (zs : List (Int × Int × Int)) (j : Nat) : List (Int × Int × Int) := (zs.take j).map (sc k) ++ zs.drop j
theorem scTo_len (k : Int) (zs : List (Int × Int × Int)) (j : Nat) : (scTo k zs j).length = zs.length := by simp [scTo]; omega
theorem scTo_at {k : Int} {zs : List (Int × Int × Int)} {j : Nat} (h : j < zs.length) : tat (scTo k zs j) j = tat zs j := by
  simp [tat, scTo, List.getD, List.getElem?_append_right, h, Nat.min_eq_left (Nat.le_of_lt h)]
theorem scTo_zero (k : Int) (zs : List (Int × Int × Int)) : scTo k zs 0 = zs := by simp [scTo]
theorem scTo_all (k : Int) (zs : List (Int × Int × Int)) : scTo k zs zs.length = zs.map (sc k) := by simp [scTo]
theorem scTo_step {k : Int} {zs : List (Int × Int × Int)} {j : Nat} (h : j < zs.length) : (scTo k zs j).set j (sc k (tat zs j)) = scTo k zs (j + 1) := by
  have e : ((zs.take j).map (sc k)).length = j := by simp; omega
  have e2 : tat zs j = zs[j] := by simp [tat, List.getD, h]
  unfold scTo
  rw [List.set_append_right _ _ (by omega), e, Nat.sub_self, List.drop_eq_getElem_cons h, List.set_cons_zero, List.take_succ_eq_append_getElem h, List.map_append, List.append_assoc, e2]
  rfl
theorem take_sc {k : Int} {zs : List (Int × Int × Int)} {j : Nat} (h : j < zs.length) : (zs.take (j + 1)).map (sc k) = (zs.take j).map (sc k) ++ [sc k (tat zs j)] := by
  have e2 : tat zs j = zs[j] := by simp [tat, List.getD, h]
  rw [List.take_succ_eq_append_getElem h, List.map_append, e2]
  rfl
theorem tv_set_n : ∀ (l : List (Int × Int × Int)) (j : Nat) (c : Int), j < l.length → (tv l).set (j * 3 + 2) (.int .i64 c) = tv (l.set j ((tat l j).1, (tat l j).2.1, c))
  | [], _, _, h => by simp at h
  | r :: rs, 0, _, _ => rfl
  | r :: rs, j + 1, c, h => by
    have ih := tv_set_n rs j c (by simpa using h)
    have e : (j + 1) * 3 + 2 = j * 3 + 2 + 1 + 1 + 1 := by omega
    have e2 : tat (r :: rs) (j + 1) = tat rs j := by simp [tat, List.getD]
    rw [e, e2]
    simp only [tv, List.set_cons_succ]
    exact congrArg _ (congrArg _ (congrArg _ ih))

theorem own_apart {w w' : World} {B : Nat} {E : TypeId} {size : Nat} {v : Value} {n : Nat} {xs : List Value} {row : Option Nat} (k : w.ownsRow B E size v n xs) (hg : w.grownBy w' row) (h : ∀ q, v.ownBlock = some q → row ≠ some q) : w'.ownsRow B E size v n xs := by
  refine k.kept hg ?_
  cases hv : v.ownBlock with
  | none => exact .inl rfl
  | some q => exact .inr fun e => h q hv e.symm
theorem gT_le {t : Bool} {l : List (Int × Int × Int)} {k : Nat} (h : l.length ≤ k) : (gT t l).length ≤ k := by unfold gT; split <;> simp [h]

end Go.Proofs.Ytaloegjcdllgoaa
