/-
  A region that draws its order: operations that read or call, boxes that are made at whatever place among them, then a forced row of operations. One walk in the text's order serves every order; what block a box is stays open.
-/
import Derived.Test.YtaloegjcdllgoaaTail
namespace Go.Proofs.Ytaloegjcdllgoaa
open Go Go.RowKit

section
variable {P : Program} {ops : Array Oper} {md : Region.Mode} {V : World}

/-- In state a, in every world that comes of V, the operation leaves v, and a world that comes of the one that it got. -/
def quietE (P : Program) (V : World) (o : Oper) (a : Act) (v : Value) : Prop := ∀ w, Ext V w → o.quietAt P a (fun w' => Ext w w') w v
def YieldsE (P : Program) (ops : Array Oper) (V : World) (o : Oper) (v : Value) (a : Act) : Prop :=
  (Region.wanted o (yielded ops a.tmps) = true ∧ quietE P V o a v) ∨ (Region.wanted o (yielded ops a.tmps) = false ∧ v = undef)
theorem YieldsE.of_same {o : Oper} {v : Value} {a a' : Act} (hy : YieldsE P ops V o v a) (he : execOp a'.eval o = execOp a.eval o)
    (hw : Region.wanted o (yielded ops a'.tmps) = Region.wanted o (yielded ops a.tmps)) : YieldsE P ops V o v a' := by
  unfold YieldsE quietE Oper.quietAt at *
  rw [he, hw]
  exact hy
def opE (P : Program) (ops : Array Oper) (V : World) (i : Nat) (K : Act → Prop) (a : Act) : Prop := ∃ o v, ops[i]? = some o ∧ YieldsE P ops V o v a ∧ K (a.put o.dst v)
theorem opE_mono {i : Nat} {a : Act} {K K' : Act → Prop} (h : ∀ a, K a → K' a) (hh : opE P ops V i K a) : opE P ops V i K' a :=
  let ⟨o, v, h1, h2, h3⟩ := hh
  ⟨o, v, h1, h2, h _ h3⟩
theorem opE_put {j : Nat} {oi oj : Oper} {v : Value} (hj : ops[j]? = some oj) (hap : oi.apart ops oj = true)
    (hsi : ∀ cs b, oi.op ≠ .select cs b) (hsj : ∀ cs b, oj.op ≠ .select cs b) {K : Act → Prop} {a : Act}
    (hy : YieldsE P ops V oi v a) (h : opE P ops V j K (a.put oi.dst v)) :
    opE P ops V j (fun a' => YieldsE P ops V oi v a' ∧ K (a'.put oi.dst v)) a := by
  obtain ⟨h1, h2, h3⟩ := Oper.apart_spec hap
  have keep : ∀ (a : Act), YieldsE P ops V oi v a → ∀ u, YieldsE P ops V oi v (a.put oj.dst u) := fun a hy u =>
    hy.of_same (execOp_put oi hsi a oj.dst u h3) (wanted_put oi a oj.dst u h3)
  obtain ⟨o, u, ho, hu, hK⟩ := h
  obtain rfl : oj = o := Option.some.inj (hj.symm.trans ho)
  refine ⟨oj, u, hj, ?_, keep a hy u, by rw [← Act.put_comm a v u h2]; exact hK⟩
  exact hu.of_same (execOp_put oj hsj a oi.dst v h1).symm (wanted_put oj a oi.dst v h1).symm

theorem alloc_at (w : World) (z : Obj) : (w.alloc z).heap[w.heap.size]? = some z := by
  show (w.heap.push z)[w.heap.size]? = some z
  exact Array.getElem?_push_size
/-- These blocks hold these objects. -/
def Boxed (β : List (Nat × Obj)) (w : World) : Prop := ∀ x ∈ β, w.heap[x.1]? = some x.2
theorem Boxed.lt {β : List (Nat × Obj)} {w : World} (h : Boxed β w) {b : Nat} (hb : b ∈ β.map (·.1)) : b < w.heap.size := by
  obtain ⟨x, hx, rfl⟩ := List.mem_map.1 hb
  exact (Array.getElem?_eq_some_iff.1 (h x hx)).1
theorem Boxed.ext {β : List (Nat × Obj)} {w w' : World} (e : Ext w w') (h : Boxed β w) : Boxed β w' := fun x hx => by
  rw [e.below.block x.1 (h.lt (List.mem_map.2 ⟨x, hx, rfl⟩))]
  exact h x hx
theorem Boxed.alloc {β : List (Nat × Obj)} {w : World} (h : Boxed β w) (z : Obj) : Boxed ((w.heap.size, z) :: β) (w.alloc z) := by
  intro x hx
  rcases List.mem_cons.1 hx with rfl | hx
  · exact alloc_at w z
  · exact Boxed.ext (Ext.alloc (Ext.refl w) z) h x hx

/-- An operation that makes a box. -/
def BoxOp (P : Program) (o : Oper) (d : Tmp) (z : Obj) : Prop :=
  o.guard = none ∧ o.dst = some d ∧ ∀ (a : Act) (w : World), (execOp a.eval o).run P w = .ok (.value (.pointer (some ⟨w.heap.size, 0, none⟩))) (w.alloc z)
theorem boxOp_alloc {o : Oper} {t : TypeId} {d : Tmp} {zs : Array Value} (hg : o.guard = none) (hd : o.dst = some d) (ho : o.op = .alloc t) (hz : ∀ w, (execOp (Act.eval ⟨#[], []⟩) ⟨some d, .alloc t, 0, "", #[], none⟩).run P w = .ok (.value (.pointer (some ⟨w.heap.size, 0, none⟩))) (w.alloc (.cells zs t))) :
    BoxOp P o d (.cells zs t) :=
  ⟨hg, hd, fun a w => by
    have := hz w
    unfold execOp at this ⊢
    rw [ho]
    exact this⟩
def ptr (b : Nat) : Value := .pointer (some ⟨b, 0, none⟩)

/-- Every order of the operations ahead of number n: boxes, and operations that read or call. -/
def headB (P : Program) (md : Region.Mode) (ops : Array Oper) (V : World) (n : Nat) (fin : List (Nat × Obj) → Array Bool → Act → Prop) : Nat → List (Nat × Obj) → Array Bool → Act → Prop
  | 0, β, l, a => fin β l a
  | k + 1, β, l, a => Region.ready md ops l ≠ [] ∧ ∀ i ∈ Region.ready md ops l, i < n ∧
    ((∃ o d z, ops[i]? = some o ∧ BoxOp P o d z ∧ ∀ b, V.heap.size ≤ b → b ∉ β.map (·.1) → headB P md ops V n fin k ((b, z) :: β) (l.setIfInBounds i true) (a.put (some d) (ptr b))) ∨
      opE P ops V i (headB P md ops V n fin k β (l.setIfInBounds i true)) a)

theorem headB_wp {n g : Nat} {fin : List (Nat × Obj) → Array Bool → Act → Prop} {Q : Exit → Act → World → Prop} (hfin : ∀ β l a w, Ext V w → Boxed β w → fin β l a → wpAny P md ops Q g l a w) :
    ∀ (k : Nat) (β : List (Nat × Obj)) (l : Array Bool) (a : Act) (w : World), Ext V w → Boxed β w → headB P md ops V n fin k β l a → wpAny P md ops Q (k + g) l a w
  | 0, β, l, a, w, hw, hB, h => by rw [Nat.zero_add]; exact hfin β l a w hw hB h
  | k + 1, β, l, a, w, hw, hB, h => by
    rw [show k + 1 + g = (k + g) + 1 by omega]
    refine ⟨fun e => absurd e h.1, fun i hi => ?_⟩
    rcases (h.2 i hi).2 with ⟨o, d, z, ho, ⟨hg, hd, hrun⟩, hK⟩ | ⟨o, v, ho, hy, hK⟩
    · unfold wpOp
      simp only [ho]
      have hwt : Region.wanted o (yielded ops a.tmps) = true := by simp [Region.wanted, hg]
      rw [if_pos hwt]
      refine .inl ?_
      unfold Oper.wp
      rw [hrun a w]
      simp only [Oper.upon, hd]
      exact headB_wp hfin k _ _ _ _ (Ext.alloc hw z) (hB.alloc z) (hK w.heap.size hw.size (fun hb => by have := hB.lt hb; omega))
    · unfold wpOp
      simp only [ho]
      rcases hy with ⟨hwt, hv⟩ | ⟨hwt, rfl⟩
      · rw [if_pos hwt]
        refine .inl (Oper.wp_of_quiet (C := fun w' => Ext w w') (Ext.refl w) (K := headB P md ops V n fin k β (l.setIfInBounds i true)) (fun a' w' hw' hK' => headB_wp hfin k _ _ _ _ (hw.trans hw') (hB.ext hw') hK') ⟨v, ?_, hK⟩)
        intro w1 hw1
        have := hv w1 (hw.trans hw1)
        unfold Oper.quietAt at this ⊢
        generalize (execOp a.eval o).run P w1 = r at *
        cases r with
        | ok nx w2 =>
          cases nx <;> simp only [Oper.quietUpon] at this ⊢ <;> try exact this
          exact ⟨this.1, this.2.mono fun e w'' ⟨he, hx⟩ => ⟨he, hw1.trans hx⟩⟩
        | halt x w2 => simp only [Oper.quietUpon] at this
      · rw [if_neg (by simp [hwt])]
        exact headB_wp hfin k _ _ _ _ hw hB hK

theorem BoxOp.of {o o' : Oper} {d : Tmp} {z : Obj} (h : BoxOp P o d z) (e : o = o') : BoxOp P o' d z := e ▸ h

/-- An operation that reads or calls may be taken first. -/
theorem headB_take {n i : Nat} {oi : Oper} {v : Value} {fin : List (Nat × Obj) → Array Bool → Act → Prop} (hi : ops[i]? = some oi) (hsel : ∀ (j : Nat) (o : Oper) cs b, ops[j]? = some o → o.op ≠ .select cs b)
    (hs : Region.sinkB md ops n = true) (hc : Region.chainB md ops n = true) (hn : n < ops.size) (hin : i < n) (hdone : ∀ β l a, fin β l a → ∀ j ∈ Region.ready md ops l, n ≤ j) :
    ∀ (k : Nat) (β : List (Nat × Obj)) (l : Array Bool) (a : Act), HeadInv md ops n l →
      (∀ j oj, ops[j]? = some oj → j ≠ i → l.getD j true = false → (∀ e ∈ oj.after, Region.binds md e = true → e.on ≠ i) → oi.apart ops oj = true) →
      i ∈ Region.ready md ops l → YieldsE P ops V oi v a → headB P md ops V n fin k β (l.setIfInBounds i true) (a.put oi.dst v) → headB P md ops V n fin (k + 1) β l a := by
  intro k
  induction k with
  | zero =>
    intro β l a inv _ hr hy H
    refine ⟨fun e => (by rw [e] at hr; cases hr), fun j hj => ?_⟩
    have hun := (mem_ready.1 hr).1
    have hjn : j < n := by
      rcases Nat.lt_or_ge j n with h | h
      · exact h
      · exact absurd hj (tail_waits hs hc hn inv _ i rfl hin hun j h)
    refine ⟨hjn, ?_⟩
    by_cases hji : j = i
    · subst hji; exact .inr ⟨oi, v, hi, hy, H⟩
    · exact absurd (hdone _ _ _ H j (ready_mono hj hji)) (by omega)
  | succ k ih =>
    intro β l a inv hfree hr hy H
    refine ⟨fun e => (by rw [e] at hr; cases hr), fun j hj => ?_⟩
    have hun := (mem_ready.1 hr).1
    have hjn : j < n := by
      rcases Nat.lt_or_ge j n with h | h
      · exact h
      · exact absurd hj (tail_waits hs hc hn inv _ i rfl hin hun j h)
    refine ⟨hjn, ?_⟩
    by_cases hji : j = i
    · subst hji; exact .inr ⟨oi, v, hi, hy, H⟩
    · obtain ⟨hjun, oj, hoj, hall⟩ := mem_ready.1 hj
      have hnot : ∀ e ∈ oj.after, Region.binds md e = true → e.on ≠ i := by
        intro e he hb heq
        have h1 := hall e he hb
        rw [heq, getD_both hun] at h1
        cases h1
      have hfree' : ∀ q oq, ops[q]? = some oq → q ≠ i → (l.setIfInBounds j true).getD q true = false → (∀ e ∈ oq.after, Region.binds md e = true → e.on ≠ i) → oi.apart ops oq = true := fun q oq hq hqi hqun hqno => by
        refine hfree q oq hq hqi ?_ hqno
        by_cases hjq : j = q
        · subst hjq; exact hjun
        · rw [getD_set_ne true hjq] at hqun; exact hqun
      have hap := hfree j oj hoj hji hjun hnot
      obtain ⟨g1, g2, g3⟩ := Oper.apart_spec hap
      rcases (H.2 j (ready_mono hj hji)).2 with ⟨o, d, z, ho, hbx, hK⟩ | hq
      · obtain rfl : oj = o := Option.some.inj (hoj.symm.trans ho)
        refine .inl ⟨oj, d, z, hoj, hbx, fun b hb1 hb2 => ?_⟩
        have hd := hbx.2.1
        have hy' : YieldsE P ops V oi v (a.put (some d) (ptr b)) := by
          rw [← hd]
          exact hy.of_same (execOp_put oi (fun cs b => hsel i oi cs b hi) a oj.dst _ g3) (wanted_put oi a oj.dst _ g3)
        refine ih _ _ _ (inv.set hj hjn) hfree' (ready_mono hr (Ne.symm hji)) hy' ?_
        rw [Array.setIfInBounds_comm _ _ hji]
        have := hK b hb1 hb2
        rw [← hd] at this ⊢
        rw [← Act.put_comm a v _ g2]
        exact this
      · have h2 := opE_put hoj hap (fun cs b => hsel i oi cs b hi) (fun cs b => hsel j oj cs b hoj) hy hq
        refine .inr (opE_mono (fun a' h3 => ih _ _ _ (inv.set hj hjn) hfree' (ready_mono hr (Ne.symm hji)) h3.1 ?_) h2)
        rw [Array.setIfInBounds_comm _ _ hji]
        exact h3.2

theorem fresh_block (n : Nat) (bs : List Nat) : ∃ b, n ≤ b ∧ b ∉ bs := by
  have : ∀ bs : List Nat, ∃ m, ∀ x ∈ bs, x < m := by
    intro bs
    induction bs with
    | nil => exact ⟨0, by simp⟩
    | cons x r ih =>
      obtain ⟨m, hm⟩ := ih
      exact ⟨max m (x + 1), fun y hy => by
        rcases List.mem_cons.1 hy with rfl | hy
        · omega
        · have := hm y hy; omega⟩
  obtain ⟨m, hm⟩ := this bs
  exact ⟨max n m, by omega, fun h => by have := hm _ h; omega⟩

/-- Only boxes are left ahead of number n. -/
def boxB (P : Program) (md : Region.Mode) (ops : Array Oper) (V : World) (n : Nat) (fin : List (Nat × Obj) → Array Bool → Act → Prop) : Nat → List (Nat × Obj) → Array Bool → Act → Prop
  | 0, β, l, a => fin β l a
  | k + 1, β, l, a => Region.ready md ops l ≠ [] ∧ ∀ i ∈ Region.ready md ops l, i < n ∧
    ∃ o d z, ops[i]? = some o ∧ BoxOp P o d z ∧ ∀ b, V.heap.size ≤ b → b ∉ β.map (·.1) → boxB P md ops V n fin k ((b, z) :: β) (l.setIfInBounds i true) (a.put (some d) (ptr b))
theorem boxB_head {n : Nat} {fin : List (Nat × Obj) → Array Bool → Act → Prop} : ∀ (k : Nat) (β : List (Nat × Obj)) (l : Array Bool) (a : Act), boxB P md ops V n fin k β l a → headB P md ops V n fin k β l a
  | 0, _, _, _, h => h
  | k + 1, _, _, _, h => ⟨h.1, fun i hi => ⟨(h.2 i hi).1, .inl (let ⟨o, d, z, h1, h2, h3⟩ := (h.2 i hi).2; ⟨o, d, z, h1, h2, fun b hb1 hb2 => boxB_head k _ _ _ (h3 b hb1 hb2)⟩)⟩⟩
theorem boxB_perm {n : Nat} {fin : List (Nat × Obj) → Array Bool → Act → Prop} (hp : ∀ β β' l a, β.Perm β' → fin β l a → fin β' l a) :
    ∀ (k : Nat) (β β' : List (Nat × Obj)) (l : Array Bool) (a : Act), β.Perm β' → boxB P md ops V n fin k β l a → boxB P md ops V n fin k β' l a
  | 0, β, β', l, a, hq, h => hp β β' l a hq h
  | k + 1, _, _, _, _, hq, h => ⟨h.1, fun i hi => ⟨(h.2 i hi).1, let ⟨o, d, z, h1, h2, h3⟩ := (h.2 i hi).2; ⟨o, d, z, h1, h2, fun b hb1 hb2 =>
      boxB_perm hp k _ _ _ _ (hq.cons _) (h3 b hb1 fun hm => hb2 ((hq.map _).mem_iff.1 hm))⟩⟩⟩
/-- A box may be made first. -/
theorem boxB_take {n i : Nat} {oi : Oper} {d : Tmp} {z : Obj} {fin : List (Nat × Obj) → Array Bool → Act → Prop} (hp : ∀ β β' l a, β.Perm β' → fin β l a → fin β' l a) (hi : ops[i]? = some oi) (hbx : BoxOp P oi d z)
    (hs : Region.sinkB md ops n = true) (hc : Region.chainB md ops n = true) (hn : n < ops.size) (hin : i < n) (hdone : ∀ β l a, fin β l a → ∀ j ∈ Region.ready md ops l, n ≤ j) :
    ∀ (k : Nat) (β : List (Nat × Obj)) (l : Array Bool) (a : Act), HeadInv md ops n l →
      (∀ j oj, ops[j]? = some oj → j ≠ i → l.getD j true = false → (∀ e ∈ oj.after, Region.binds md e = true → e.on ≠ i) → oi.apart ops oj = true) →
      i ∈ Region.ready md ops l → (∀ b, V.heap.size ≤ b → b ∉ β.map (·.1) → boxB P md ops V n fin k ((b, z) :: β) (l.setIfInBounds i true) (a.put (some d) (ptr b))) → boxB P md ops V n fin (k + 1) β l a := by
  intro k
  induction k with
  | zero =>
    intro β l a inv _ hr H
    obtain ⟨b0, hb1, hb2⟩ := fresh_block V.heap.size (β.map (·.1))
    refine ⟨fun e => (by rw [e] at hr; cases hr), fun j hj => ?_⟩
    have hun := (mem_ready.1 hr).1
    have hjn : j < n := by
      rcases Nat.lt_or_ge j n with h | h
      · exact h
      · exact absurd hj (tail_waits hs hc hn inv _ i rfl hin hun j h)
    refine ⟨hjn, ?_⟩
    by_cases hji : j = i
    · subst hji; exact ⟨oi, d, z, hi, hbx, H⟩
    · exact absurd (hdone _ _ _ (H b0 hb1 hb2) j (ready_mono hj hji)) (by omega)
  | succ k ih =>
    intro β l a inv hfree hr H
    obtain ⟨b0, hb1, hb2⟩ := fresh_block V.heap.size (β.map (·.1))
    refine ⟨fun e => (by rw [e] at hr; cases hr), fun j hj => ?_⟩
    have hun := (mem_ready.1 hr).1
    have hjn : j < n := by
      rcases Nat.lt_or_ge j n with h | h
      · exact h
      · exact absurd hj (tail_waits hs hc hn inv _ i rfl hin hun j h)
    refine ⟨hjn, ?_⟩
    by_cases hji : j = i
    · subst hji; exact ⟨oi, d, z, hi, hbx, H⟩
    · obtain ⟨hjun, oj, hoj, hall⟩ := mem_ready.1 hj
      have hnot : ∀ e ∈ oj.after, Region.binds md e = true → e.on ≠ i := by
        intro e he hb heq
        have h1 := hall e he hb
        rw [heq, getD_both hun] at h1
        cases h1
      have hfree' : ∀ q oq, ops[q]? = some oq → q ≠ i → (l.setIfInBounds j true).getD q true = false → (∀ e ∈ oq.after, Region.binds md e = true → e.on ≠ i) → oi.apart ops oq = true := fun q oq hq hqi hqun hqno => by
        refine hfree q oq hq hqi ?_ hqno
        by_cases hjq : j = q
        · subst hjq; exact hjun
        · rw [getD_set_ne true hjq] at hqun; exact hqun
      obtain ⟨_, g2, _⟩ := Oper.apart_spec (hfree j oj hoj hji hjun hnot)
      obtain ⟨o, dj, zj, ho, hbj, _⟩ := ((H b0 hb1 hb2).2 j (ready_mono hj hji)).2
      obtain rfl : oj = o := Option.some.inj (hoj.symm.trans ho)
      have hsame : ∀ o' d' z', ops[j]? = some o' → BoxOp P o' d' z' → d' = dj ∧ z' = zj := by
        intro o' d' z' ho' hb'
        obtain rfl : oj = o' := Option.some.inj (hoj.symm.trans ho')
        refine ⟨Option.some.inj (hb'.2.1.symm.trans hbj.2.1), ?_⟩
        have e := (hb'.2.2 a V).symm.trans (hbj.2.2 a V)
        simp only [Result.ok.injEq] at e
        have e2 : (V.alloc z').heap[V.heap.size]? = (V.alloc zj).heap[V.heap.size]? := by rw [e.2]
        rw [alloc_at, alloc_at] at e2
        exact Option.some.inj e2
      refine ⟨oj, dj, zj, hoj, hbj, fun b' hb'1 hb'2 => ?_⟩
      refine ih _ _ _ (inv.set hj hjn) hfree' (ready_mono hr (Ne.symm hji)) fun b hc1 hc2 => ?_
      simp only [List.map_cons, List.mem_cons, not_or] at hc2
      obtain ⟨o', d', z', ho', hb', hK'⟩ := ((H b hc1 hc2.2).2 j (ready_mono hj hji)).2
      obtain ⟨rfl, rfl⟩ := hsame o' d' z' ho' hb'
      have := hK' b' hb'1 (by simp only [List.map_cons, List.mem_cons, not_or]; exact ⟨fun e => hc2.1 e.symm, hb'2⟩)
      rw [Array.setIfInBounds_comm _ _ hji]
      have hne : ∀ q, (some d : Option Tmp) = some q → (some d' : Option Tmp) ≠ some q := by
        have := g2
        rw [hbx.2.1, hbj.2.1] at this
        exact this
      rw [Act.put_comm a _ _ hne] at this
      exact boxB_perm hp k _ _ _ _ (.swap _ _ _) this

/-- What stands behind the boxes, whatever blocks they are. -/
def tailB (V : World) (R : List (Nat × Obj) → Act → Prop) : List (Tmp × Obj) → List (Nat × Obj) → Act → Prop
  | [], β, a => R β a
  | (d, z) :: r, β, a => ∀ b, V.heap.size ≤ b → b ∉ β.map (·.1) → tailB V R r ((b, z) :: β) (a.put (some d) (ptr b))
theorem boxB_lex {n g : Nat} {R : List (Nat × Obj) → Act → Prop} (hp : ∀ β β' a, β.Perm β' → R β a → R β' a) (hs : Region.sinkB md ops n = true) (hc : Region.chainB md ops n = true) (hn : n < ops.size) :
    ∀ (zs : List (Tmp × Obj)) (l : List Oper) (k : Nat) (β : List (Nat × Obj)) (listed : Array Bool) (a : Act), (∀ j, j < l.length → l[j]? = ops[k + j]?) → k + l.length = n → HeadInv md ops n listed →
    Region.lexHead md ops g l.length k listed = true → l.length = zs.length → (∀ (j : Nat) (o : Oper) (x : Tmp × Obj), l[j]? = some o → zs[j]? = some x → BoxOp P o x.1 x.2) → tailB V R zs β a →
    boxB P md ops V n (fun β' listed' a' => Region.seqB md ops g n listed' = true ∧ R β' a') l.length β listed a
  | [], [], k, β, listed, a, _, hk, _, hB, _, _, h => by
    obtain rfl : k = n := by simpa using hk
    exact ⟨by simpa [Region.lexHead] using hB, h⟩
  | x :: zs, o :: l, k, β, listed, a, hl, hk, inv, hB, hlen, hbx, h => by
    have h0 : ops[k]? = some o := by simpa using (hl 0 (by simp)).symm
    simp only [List.length_cons, Region.lexHead, Bool.and_eq_true] at hB
    have hkn : k < n := by simp only [List.length_cons] at hk; omega
    have hr : k ∈ Region.ready md ops listed := by simpa using hB.1.1
    exact boxB_take (fun β β' l a hq hh => ⟨hh.1, hp β β' a hq hh.2⟩) h0 (hbx 0 o x rfl rfl) hs hc hn hkn (fun β listed' a' hL => seqB_ready hL.1) l.length β listed a inv (Region.free_spec h0 hB.1.2) hr fun b hb1 hb2 =>
      boxB_lex hp hs hc hn zs l (k + 1) _ _ _ (fun j hj => by have := hl (j + 1) (by simp; omega); simpa [Nat.add_assoc, Nat.add_comm 1 j] using this) (by simp only [List.length_cons] at hk; omega) (inv.set hr hkn) hB.2 (by simpa using hlen) (fun j o x h1 h2 => hbx (j + 1) o x (by simpa using h1) (by simpa using h2)) (h b hb1 hb2)
  | [], o :: l, _, _, _, _, _, _, _, _, hlen, _, _ => by simp at hlen
  | x :: zs, [], _, _, _, _, _, _, _, _, hlen, _, _ => by simp at hlen

/-- The walk of the operations that read or call, with values that hold in every world that comes of V. -/
def walkE (P : Program) (ops : Array Oper) (V : World) (R : Act → Prop) : List Oper → Act → Prop
  | [], a => R a
  | o :: rest, a => ∃ v, YieldsE P ops V o v a ∧ walkE P ops V R rest (a.put o.dst v)
theorem walkE_read {R : Act → Prop} {o : Oper} {rest : List Oper} {a : Act} {v : Value} (hw : Region.wanted o (yielded ops a.tmps) = true) (h : ∀ w, Ext V w → (execOp a.eval o).run P w = .ok (.value v) w)
    (hk : walkE P ops V R rest (a.put o.dst v)) : walkE P ops V R (o :: rest) a :=
  ⟨v, .inl ⟨hw, fun w hw' => by unfold Oper.quietAt; rw [h w hw']; exact ⟨rfl, rfl⟩⟩, hk⟩
theorem walkE_call {R : Act → Prop} {o : Oper} {rest : List Oper} {a : Act} {v : Value} {f : FuncId} {args : Array Value} (hw : Region.wanted o (yielded ops a.tmps) = true) (h : ∀ w, Ext V w → (execOp a.eval o).run P w = .ok (.enter f args) w)
    (hc : ∀ w, Ext V w → Calls P f args w fun e w' => e = .returned v ∧ Ext w w') (hk : walkE P ops V R rest (a.put o.dst v)) : walkE P ops V R (o :: rest) a :=
  ⟨v, .inl ⟨hw, fun w hw' => by unfold Oper.quietAt; rw [h w hw']; exact ⟨rfl, hc w hw'⟩⟩, hk⟩
theorem headB_lex {n g : Nat} {R : List (Nat × Obj) → Act → Prop} {zs : List (Tmp × Obj)} {lb : List Oper} (hp : ∀ β β' a, β.Perm β' → R β a → R β' a) (hsel : Region.noSelect ops = true) (hs : Region.sinkB md ops n = true) (hc : Region.chainB md ops n = true) (hn : n < ops.size)
    (hlen : lb.length = zs.length) (hbx : ∀ (j : Nat) (o : Oper) (x : Tmp × Obj), lb[j]? = some o → zs[j]? = some x → BoxOp P o x.1 x.2) :
    ∀ (l : List Oper) (k : Nat) (listed : Array Bool) (a : Act), (∀ j, j < l.length + lb.length → (l ++ lb)[j]? = ops[k + j]?) → k + (l.length + lb.length) = n → HeadInv md ops n listed →
    Region.lexHead md ops g (l.length + lb.length) k listed = true → walkE P ops V (tailB V R zs []) l a →
    headB P md ops V n (fun β' listed' a' => Region.seqB md ops g n listed' = true ∧ R β' a') (l.length + lb.length) [] listed a
  | [], k, listed, a, hl, hk, inv, hB, h => by
    simp only [List.length_nil, Nat.zero_add] at hl hk hB ⊢
    exact boxB_head _ _ _ _ (boxB_lex hp hs hc hn zs lb k [] listed a hl hk inv hB hlen hbx h)
  | o :: l, k, listed, a, hl, hk, inv, hB, ⟨v, hy, hK⟩ => by
    have h0 : ops[k]? = some o := by simpa using (hl 0 (by simp; omega)).symm
    simp only [List.length_cons] at hk hB hl ⊢
    rw [show l.length + 1 + lb.length = l.length + lb.length + 1 by omega] at hB hk ⊢
    simp only [Region.lexHead, Bool.and_eq_true] at hB
    have hkn : k < n := by omega
    have hr : k ∈ Region.ready md ops listed := by simpa using hB.1.1
    exact headB_take h0 (Region.noSelect_spec hsel) hs hc hn hkn (fun β listed' a' hL => seqB_ready hL.1) (l.length + lb.length) [] listed a inv (Region.free_spec h0 hB.1.2) hr hy
      (headB_lex hp hsel hs hc hn hlen hbx l (k + 1) _ _ (fun j hj => by have := hl (j + 1) (by omega); simpa [Nat.add_assoc, Nat.add_comm 1 j] using this) (by omega) (inv.set hr hkn) hB.2 hK)
end

def AllBox (P : Program) : List Oper → List (Tmp × Obj) → Prop
  | _, [] => True
  | [], _ :: _ => False
  | o :: l, x :: zs => BoxOp P o x.1 x.2 ∧ AllBox P l zs
theorem AllBox.get {P : Program} : ∀ {l : List Oper} {zs : List (Tmp × Obj)}, AllBox P l zs → ∀ (j : Nat) (o : Oper) (x : Tmp × Obj), l[j]? = some o → zs[j]? = some x → BoxOp P o x.1 x.2
  | _, [], _, _, _, _, _, h2 => by simp at h2
  | [], _ :: _, h, _, _, _, _, _ => h.elim
  | o :: l, x :: zs, h, 0, o', x', h1, h2 => by
    simp at h1 h2
    subst h1 h2
    exact h.1
  | o :: l, x :: zs, h, j + 1, o', x', h1, h2 => h.2.get j o' x' (by simpa using h1) (by simpa using h2)

/-- One walk of the head in the text's order, the boxes (whatever blocks they are), then the tail. -/
theorem wp_region_boxes {P : Program} {id : Nat} {Q : Exit → Act → World → Prop} {a : Act} {w : World} {l : List Oper} (n : Nat) (zs : List (Tmp × Obj)) (V : World) (hE : Ext V w) (hm : P.follows .mixedOrders = true)
    (hB : Region.lexTailB .any l.toArray (n + zs.length) = true) (hbx : AllBox P (l.drop n) zs)
    (h : walkE P l.toArray V (tailB V (fun β a' => ∀ w', Ext V w' → Boxed β w' → wpList P l.toArray Q (l.drop (n + zs.length)) a' w') zs []) (l.take n) a) : (Code.region id l.toArray true).wp P Q a w := by
  simp only [Region.lexTailB, Bool.and_eq_true, decide_eq_true_eq] at hB
  obtain ⟨⟨⟨⟨hsel, hn⟩, hs⟩, hc⟩, hlex⟩ := hB
  have hn' : n + zs.length < l.length := by simpa using hn
  have htl : (l.take n).length = n := by simp; omega
  have hbl : ((l.drop n).take zs.length).length = zs.length := by simp; omega
  have hdl : (l.drop (n + zs.length)).length = l.toArray.size - (n + zs.length) := by simp
  have inv0 : HeadInv .any l.toArray (n + zs.length) (Array.replicate l.toArray.size false) :=
    ⟨by simp, fun j oj _ hl => (by rw [getD_replicate_false] at hl; cases hl), fun t _ ht => getD_in (by simpa using ht) (getD_replicate_false _ _)⟩
  have H := headB_lex (md := .any) (g := l.toArray.size - (n + zs.length)) (R := fun β a' => ∀ w', Ext V w' → Boxed β w' → wpList P l.toArray Q (l.drop (n + zs.length)) a' w') (zs := zs) (lb := (l.drop n).take zs.length)
    (fun β β' a' hq hh w' h1 h2 => hh w' h1 fun x hx => h2 x (hq.mem_iff.1 hx)) hsel hs hc hn hbl
    (fun j o x h1 h2 => hbx.get j o x (by
      have hj : j < zs.length := (List.getElem?_eq_some_iff.1 h2).1
      rwa [List.getElem?_take_of_lt hj] at h1) h2)
    (l.take n) 0 _ a (fun j hj => by
      rw [htl, hbl] at hj
      have e : l.take n ++ (l.drop n).take zs.length = l.take (n + zs.length) := by rw [List.take_add]
      rw [e, List.getElem?_take_of_lt hj]
      simp) (by rw [htl, hbl]; omega) inv0 (by rw [htl, hbl]; exact hlex) h
  refine wp_region_any hm ?_
  have H2 := headB_wp (Q := Q) (g := l.toArray.size - (n + zs.length)) (fun β listed a' w' hw' hb' hL => by
    have := wpAny_of_seq (md := .any) (Q' := Q) (l.drop (n + zs.length)) (n + zs.length) listed a' w' (fun j => by simp [List.getElem?_drop]) (by rw [hdl]; exact hL.1) (hL.2 w' hw' hb')
    rwa [hdl] at this) _ _ _ _ { w with drawn := w.drawn + 1 } (show Ext V w.drew from hE.drew) (fun x hx => by cases hx) H
  rw [htl, hbl, show n + zs.length + (l.toArray.size - (n + zs.length)) = l.toArray.size by omega] at H2
  exact H2

theorem Has.new4 (w : World) (o o' o'' : Obj) (cs : Array Value) (t : TypeId) : Has ((((w.alloc o).alloc o').alloc o'').alloc (.cells cs t)) (w.heap.size + 1 + 1 + 1) cs.toList := by
  have h := Has.new3 (w.alloc o) o' o'' cs t
  simp at h
  exact h
theorem boxed_has {β : List (Nat × Obj)} {w : World} (h : Boxed β w) {b : Nat} {cs : Array Value} {t : TypeId} (hb : (b, .cells cs t) ∈ β) : Has w b cs.toList := fun i v hi => by
  have hh := h _ hb
  simp only at hh
  simp only [World.cell?, hh]
  simpa using hi

theorem boxed_thaw {β : List (Nat × Obj)} {w : World} (h : Boxed β w) {b o : Nat} {cs : Array Value} {t : TypeId} (hb : (b, .cells cs t) ∈ β) : w.frozen? ⟨b, o, none⟩ = false := by
  have hh := h _ hb
  simp only at hh
  simp [World.frozen?, hh]

end Go.Proofs.Ytaloegjcdllgoaa
