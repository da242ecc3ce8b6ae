/-
  Points in memory: append, turns.
-/
import Derived.Test.YtaloegjcdllgoaaPair
import Derived.Test.YtaloegjcdllgoaaTri
import Derived.Test.YtaloegjcdllgoaaStar
import Derived.Test.YtaloegjcdllgoaaMiss
import Derived.Test.YtaloegjcdllgoaaHullP
import Derived.WalkSmall
import Derived.BigQuiet
import Derived.Shelf.SlSortCmp.QuietGrown
import Derived.Test.YtaloegjcdllgoaaSort
namespace Go.Proofs.Ytaloegjcdllgoaa
open Go.RowKit

/-- A point whose turns stay small. -/
def PB (p : Int × Int) : Prop := (-500000 ≤ p.1 ∧ p.1 ≤ 500000) ∧ (-500000 ≤ p.2 ∧ p.2 ≤ 500000)
theorem own_shrink {w : World} {B : Nat} {E : TypeId} {size : Nat} {a : Option Addr} {n m c : Nat} {xs : List Value} (k : w.ownsRow B E size (.slice a n c) n xs) (h : m ≤ n) (h0 : 0 < n) : w.ownsRow B E size (.slice a m c) m (xs.take (m * size)) := by
  obtain ⟨h1, h2 | ⟨g, cap, cur, hv, hb, hc, k1, k2, k3, k4⟩⟩ := k
  · have := h2.2; omega
  · cases hv
    have hm : m * size ≤ n * size := Nat.mul_le_mul_right _ h
    refine ⟨by rw [List.length_take, h1]; omega, .inr ⟨g, c, cur, rfl, hb, hc, by omega, k2, k3, ?_⟩⟩
    rw [← k4, List.take_take, Nat.min_eq_left hm]
theorem pv_pop (b : Int × Int) (r : List (Int × Int)) : (pv (b :: r).reverse).take (r.length * 2) = pv r.reverse := by
  rw [pv_take]; congr 1; simp
theorem pat_top (b : Int × Int) (r : List (Int × Int)) : pat (b :: r).reverse r.length = b := by simp [pat, List.getD]
theorem pat_two (b a : Int × Int) (r : List (Int × Int)) : pat (b :: a :: r).reverse r.length = a := by simp [pat, List.getD]
theorem popT_len (p : Int × Int) : ∀ s : List (Int × Int), (popT p s).length ≤ s.length
  | [] => Nat.le_refl _
  | [_] => Nat.le_refl _
  | b :: a :: r => by
    simp only [popT]
    split
    · have := popT_len p (a :: r); simp at this ⊢; omega
    · simp
theorem popT_mem (p : Int × Int) : ∀ (s : List (Int × Int)) (x : Int × Int), x ∈ popT p s → x ∈ s
  | [], _, h => h
  | [_], _, h => h
  | b :: a :: r, x, h => by
    simp only [popT] at h
    split at h
    · exact List.mem_cons_of_mem _ (popT_mem p (a :: r) x h)
    · exact h
theorem ptSnoc {P : List (Int × Int) → Prop} (h0 : P []) (h1 : ∀ l x, P l → P (l ++ [x])) (l : List (Int × Int)) : P l := by
  have h : ∀ n (l : List (Int × Int)), l.length = n → P l := by
    intro n
    induction n with
    | zero => intro l hl; rw [List.eq_nil_of_length_eq_zero hl]; exact h0
    | succ n ih =>
      intro l hl
      have hne : l ≠ [] := by intro e; rw [e] at hl; simp at hl
      rw [← List.dropLast_concat_getLast hne]
      exact h1 _ _ (ih _ (by rw [List.length_dropLast]; omega))
  exact h _ l rfl
theorem chainR_len (l : List (Int × Int)) : (chainR l).length ≤ l.length := by
  refine ptSnoc (P := fun l => (chainR l).length ≤ l.length) (by simp [chainR]) ?_ l
  intro l i ih
  rw [chainR_snoc]
  have := popT_len i (chainR l)
  simp; omega
theorem chainR_mem (l : List (Int × Int)) : ∀ x ∈ chainR l, x ∈ l := by
  refine ptSnoc (P := fun l => ∀ x ∈ chainR l, x ∈ l) (by intro x hx; simp [chainR] at hx) ?_ l
  intro l i ih x hx
  rw [chainR_snoc] at hx
  rcases List.mem_cons.1 hx with rfl | hx
  · simp
  · exact List.mem_append_left _ (ih x (popT_mem _ _ _ hx))
theorem chainR_pos {l : List (Int × Int)} (h : l ≠ []) : 0 < (chainR l).length := by
  rw [← List.dropLast_concat_getLast h, chainR_snoc]; simp

/-- A slice of points of the call's own. -/
def OwnsPts (B : Nat) (zs : List (Int × Int)) (w : World) (r : Ending) (w' : World) : Prop :=
  ∃ a c, r = .returned (.slice a zs.length c) ∧ w'.ownsRow B 49 2 (.slice a zs.length c) zs.length (pv zs) ∧ Ext w w'
theorem own_nonePt (w : World) (B : Nat) : w.ownsRow B 49 2 (.slice none 0 0) 0 (pv []) := ⟨rfl, .inl ⟨rfl, rfl⟩⟩
/-- 'append(out, points..)', out nil or the call's own. -/
theorem wpList_appQ {w : World} {ops : Array Oper} {rest : List Oper} {o : Oper} {a : Act} {Q : Exit → Act → World → Prop} (hgd : o.guard = none) (s x : Operand)
    (ho : o.op = .call { callee := .builtin .append, args := #[s, x], argTypes := #[31, 31] })
    (W : World) (base : Nat) (a0 : Option Addr) (n c : Nat) (xs : List (Int × Int)) (hs : a.eval s = .slice a0 n c) (hown : w.ownsRow base 49 2 (.slice a0 n c) n (pv xs))
    (ad : Addr) (m c' : Nat) (zs : List (Int × Int)) (hx : a.eval x = .slice (some ad) m c') (hl : zs.length = m) (hr : ∀ j u, (pv zs)[j]? = some u → w.cell? (ad.add j) = some u)
    (hn : n ≤ 1048576) (hm : m ≤ 1048576) (hb : base ≤ w.heap.size) (hE : Ext W w) (hW : W.heap.size ≤ base)
    (h : ∀ a1 c1 w', w'.ownsRow base 49 2 (.slice a1 (n + m) c1) (n + m) (pv (xs ++ zs)) → Ext W w' → wpList Try.prog ops Q rest (a.put o.dst (.slice a1 (n + m) c1)) w') :
    wpList Try.prog ops Q (o :: rest) a w := by
  obtain ⟨i0, hi, hz0, hz1, hz2⟩ := info_parts point_info
  refine wpList_append_own w hgd s x 31 ho base 49 i0 (.agg #[.int .i64 0, .int .i64 0]) 2 16 Try.underlying31 hi hz0 hz1 hz2 rfl (by decide) _ n (pv xs) hs hown ad m c' (pv zs) hx (by rw [pv_len, hl]) hr (pv_one zs) ?_ ?_ hb ?_
  · unfold maxLen; omega
  · omega
  · intro v' w' h1 h2 _
    obtain ⟨a1, c1, rfl⟩ := own_form h1
    refine h a1 c1 w' ?_ (hE.grown h2 fun k hk => Nat.le_trans hW (hown.lt k hk).1)
    rw [pv_append]; exact h1
/-- The cells of one point that lies alone in a block. -/
theorem one_cells {w : World} {g : Nat} {x y : Int} (h0 : w.cell? ⟨g, 0, none⟩ = some (.int .i64 x)) (h1 : w.cell? ⟨g, 1, none⟩ = some (.int .i64 y)) : ∀ (j : Nat) (u : Value), (pv [(x, y)])[j]? = some u → w.cell? ((⟨g, 0, none⟩ : Addr).add j) = some u := by
  intro j u hj
  match j, hj with
  | 0, hj => simp [pv] at hj; subst hj; simpa [Addr.add] using h0
  | 1, hj => simp [pv] at hj; subst hj; simpa [Addr.add] using h1

theorem comparePoints_grown (x y : Int × Int) (hx : PB x) (hy : PB y) (w : World) :
    Calls Try.prog 39 #[.agg #[.int .i64 x.1, .int .i64 x.2], .agg #[.int .i64 y.1, .int .i64 y.2]] w fun e w' => e = .returned (.int .i64 (cmpI x.1 x.2 y.1 y.2)) ∧ ∃ q os, w' = Sort.grow (w.drewN q) os := by
  obtain ⟨a, b⟩ := x
  obtain ⟨c, d⟩ := y
  unfold PB at hx hy
  simp only at hx hy ⊢
  by_cases hac : a = c
  · subst hac
    go_enter Try.func39, Try.ntmps39
    go_wp2
    go_ret
    exact ⟨ret_int (by simp [cmpI]), 0, _, by rw [Sort.alloc_eq_grow, Sort.alloc_eq_grow, Sort.grow_grow]; rfl⟩
  · have e1 : (a == c) = false := by simpa using hac
    have e2 : (a != c) = true := by simpa using hac
    go_enter Try.func39, Try.ntmps39
    go_wp2
    go_ret
    exact ⟨ret_int (by simp [cmpI, hac]), 0, _, by rw [Sort.alloc_eq_grow, Sort.alloc_eq_grow, Sort.grow_grow]; rfl⟩
instance : Inhabited {p // PB p} := ⟨⟨(0, 0), by unfold PB; simp⟩⟩
theorem cmpI_lex (x y : Int × Int) : cmpI x.1 x.2 y.1 y.2 < 0 ↔ lexP x y := by
  unfold cmpI lexP lexV; split <;> omega
theorem swoP : Sort.SWO (Go.Proofs.ltOf fun x y : {p : Int × Int // PB p} => cmpI x.1.1 x.1.2 y.1.1 y.1.2) where
  irrefl x := by unfold Go.Proofs.ltOf; rw [decide_eq_false_iff_not, cmpI_lex]; exact lexP_irrefl _
  trans x y z := by unfold Go.Proofs.ltOf; simp only [decide_eq_true_eq, cmpI_lex]; exact lexP_trans
  ntrans x y z := by
    unfold Go.Proofs.ltOf
    simp only [decide_eq_false_iff_not, cmpI_lex]
    intro h1 h2 h3
    rcases leP_of_not h1 with e | e
    · exact h2 (e ▸ h3)
    · exact h2 (lexP_trans e h3)
end Go.Proofs.Ytaloegjcdllgoaa
