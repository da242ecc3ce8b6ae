/-
  A region that draws its order: a row of operations whose results may lie in the world (they are taken in their own order), and operations that make an object and wait for nothing: these may come at any place. One walk serves every order.
-/
import Derived.Test.YtaloegjcdllgoaaHeld
import Derived.Test.YtaloegjcdllgoaaBoxes
namespace Go.Proofs.Ytaloegjcdllgoaa
open Go Go.RowKit

/-- An operation that makes an object: its number, its slot, the value that it leaves, the object. -/
structure Flo where
  i : Nat
  d : Tmp
  val : Nat → Value
  z : Obj
section
variable {P : Program} {ops : Array Oper} {md : Region.Mode} {V : World} {Q : Exit → Act → World → Prop}

def fput (a : Act) : List (Flo × Option Nat) → Act
  | [] => a
  | (f, some b) :: r => fput (a.put (some f.d) (f.val b)) r
  | (_, none) :: r => fput a r
theorem fput_put {x : Option Tmp} {v : Value} : ∀ {fs : List (Flo × Option Nat)} {a : Act}, (∀ p ∈ fs, x ≠ some p.1.d) → (fput a fs).put x v = fput (a.put x v) fs
  | [], _, _ => rfl
  | (f, some b) :: r, a, h => by
    simp only [fput]
    rw [fput_put (fun p hp => h p (List.mem_cons_of_mem _ hp)), Act.put_comm a _ _ (fun d hd => by
      simp only [Option.some.injEq] at hd
      subst hd
      exact h (f, some b) List.mem_cons_self)]
  | (f, none) :: r, a, h => by
    simp only [fput]
    exact fput_put (fun p hp => h p (List.mem_cons_of_mem _ hp))
def upd1 (i b : Nat) (fs : List (Flo × Option Nat)) : List (Flo × Option Nat) := fs.map fun p => if p.1.i = i then (p.1, some b) else p
theorem upd1_none {i b : Nat} : ∀ {fs : List (Flo × Option Nat)}, (∀ p ∈ fs, p.1.i ≠ i) → upd1 i b fs = fs
  | [], _ => rfl
  | p :: r, h => by
    simp only [upd1, List.map_cons, if_neg (h p List.mem_cons_self)]
    exact congrArg _ (upd1_none fun q hq => h q (List.mem_cons_of_mem _ hq))
theorem fput_upd {f : Flo} {b : Nat} : ∀ {fs : List (Flo × Option Nat)} {a : Act}, (f, none) ∈ fs → fs.Pairwise (fun p q => p.1.i ≠ q.1.i ∧ p.1.d ≠ q.1.d) → (fput a fs).put (some f.d) (f.val b) = fput a (upd1 f.i b fs)
  | [], _, h, _ => by cases h
  | (g, s) :: r, a, h, hp => by
    have h1 := List.pairwise_cons.1 hp
    rcases List.mem_cons.1 h with e | hm
    · cases e
      have e2 : upd1 f.i b r = r := upd1_none fun q hq => (h1.1 q hq).1.symm
      have e3 : upd1 f.i b ((f, none) :: r) = (f, some b) :: r := by
        have : upd1 f.i b ((f, none) :: r) = (f, some b) :: upd1 f.i b r := by simp [upd1]
        rw [this, e2]
      rw [e3]
      simp only [fput]
      exact fput_put fun p hpp e => (h1.1 p hpp).2 (by simpa using e)
    · have hne : g.i ≠ f.i := (h1.1 _ hm).1
      have e3 : upd1 f.i b ((g, s) :: r) = (g, s) :: upd1 f.i b r := by simp [upd1, hne]
      rw [e3]
      cases s with
      | none => simp only [fput]; exact fput_upd hm h1.2
      | some c => simp only [fput]; exact fput_upd hm h1.2
theorem fput_exec {o : Oper} (hs : ∀ cs b, o.op ≠ .select cs b) : ∀ {fs : List (Flo × Option Nat)} {a : Act}, (∀ p ∈ fs, p.2 = none ∨ p.1.d ∉ o.looksAt ops) →
    execOp (fput a fs).eval o = execOp a.eval o ∧ Region.wanted o (yielded ops (fput a fs).tmps) = Region.wanted o (yielded ops a.tmps)
  | [], _, _ => ⟨rfl, rfl⟩
  | (f, some b) :: r, a, h => by
    have h0 := (h (f, some b) List.mem_cons_self).resolve_left (by simp)
    have ih := fput_exec hs (fs := r) (a := a.put (some f.d) (f.val b)) (fun p hp => h p (List.mem_cons_of_mem _ hp))
    simp only [fput]
    have hd : ∀ d, (some f.d : Option Tmp) = some d → d ∉ o.looksAt ops := fun d hd => by simp only [Option.some.injEq] at hd; subst hd; exact h0
    exact ⟨ih.1.trans (execOp_put o hs a _ _ hd), ih.2.trans (wanted_put o a _ _ hd)⟩
  | (f, none) :: r, a, h => by
    simp only [fput]
    exact fput_exec hs (fun p hp => h p (List.mem_cons_of_mem _ hp))

/-- What one operation of the row leaves: a value and a world. -/
def wpV (P : Program) (K : Value → World → Prop) : Result Next → Prop
  | .ok (.value v) w' => K v w'
  | .ok (.enter f args) w' => Calls P f args w' fun e w'' => ∃ v, e = .returned v ∧ K v w''
  | _ => False
theorem wpV_mono {K K' : Value → World → Prop} {r : Result Next} (h : ∀ v w, K v w → K' v w) (hh : wpV P K r) : wpV P K' r := by
  unfold wpV at *
  split at hh
  · exact h _ _ hh
  · exact hh.mono fun _ _ ⟨v, h1, h2⟩ => ⟨v, h1, h _ _ h2⟩
  · exact hh.elim
theorem wp_of_V {o : Oper} {a : Act} {w : World} {K : Act → World → Prop} (h : wpV P (fun v w' => K (a.put o.dst v) w') ((execOp a.eval o).run P w)) : o.wp P a w K Q := by
  unfold Oper.wp
  generalize (execOp a.eval o).run P w = r at *
  unfold wpV at h
  split at h
  · exact h
  · rw [Oper.upon_enter]
    exact h.mono fun e w'' ⟨v, h1, h2⟩ => by subst h1; exact h2
  · exact h.elim

/-- The row of operations, each one in whatever world comes of the one behind the last one. -/
def chainW (P : Program) (ops : Array Oper) (R : Act → World → Prop) : List Nat → Act → World → Prop
  | [], a, w => ∀ w', Ext w w' → R a w'
  | c :: cs, a, w => ∃ o, ops[c]? = some o ∧ Region.wanted o (yielded ops a.tmps) = true ∧ ∀ w', Ext w w' → wpV P (fun v w'' => Ext w' w'' ∧ chainW P ops R cs (a.put o.dst v) w'') ((execOp a.eval o).run P w')
theorem chainW_ext {R : Act → World → Prop} {w w' : World} (e : Ext w w') : ∀ {cs : List Nat} {a : Act}, chainW P ops R cs a w → chainW P ops R cs a w'
  | [], _, h => fun w'' e2 => h w'' (e.trans e2)
  | _ :: _, _, ⟨o, h1, h2, h3⟩ => ⟨o, h1, h2, fun w'' e2 => h3 w'' (e.trans e2)⟩
theorem chainW_read {R : Act → World → Prop} {c : Nat} {cs : List Nat} {a : Act} {w : World} {o : Oper} {v : Value} (ho : ops[c]? = some o) (hw : Region.wanted o (yielded ops a.tmps) = true) (h : ∀ w', Ext w w' → (execOp a.eval o).run P w' = .ok (.value v) w')
    (hk : chainW P ops R cs (a.put o.dst v) w) : chainW P ops R (c :: cs) a w :=
  ⟨o, ho, hw, fun w' e => by rw [h w' e]; exact ⟨Ext.refl _, chainW_ext e hk⟩⟩
theorem chainW_call {R : Act → World → Prop} {c : Nat} {cs : List Nat} {a : Act} {w : World} {o : Oper} {f : FuncId} {args : Array Value} (ho : ops[c]? = some o) (hw : Region.wanted o (yielded ops a.tmps) = true) (h : ∀ w', Ext w w' → (execOp a.eval o).run P w' = .ok (.enter f args) w')
    (hc : ∀ w', Ext w w' → Calls P f args w' fun e w'' => ∃ v, e = .returned v ∧ (Ext w' w'' ∧ chainW P ops R cs (a.put o.dst v) w'')) : chainW P ops R (c :: cs) a w :=
  ⟨o, ho, hw, fun w' e => by rw [h w' e]; exact hc w' e⟩

/-- What the two kinds of operations may not share. -/
def sepB (ops : Array Oper) (cs : List Nat) (ds : List (Nat × Tmp)) : Bool :=
  cs.all (fun c => match ops[c]? with
    | some o => ds.all fun p => !((o.looksAt ops).contains p.2) && o.dst != some p.2 && (match ops[p.1]? with | some q => (match o.dst with | some d => !((q.looksAt ops).contains d) | none => true) | none => false)
    | none => false) &&
  ds.all (fun p => match ops[p.1]? with | some q => ds.all fun r => p.1 == r.1 || !((q.looksAt ops).contains r.2) | none => false)
/-- Whatever is ready is the next one of the row or makes an object; behind all of them the marks are L. -/
def okF (md : Region.Mode) (ops : Array Oper) (L : Array Bool) : Nat → Array Bool → List Nat → List (Nat × Bool) → Bool
  | 0, l, cs, fs => cs.isEmpty && fs.all (·.2) && l == L
  | k + 1, l, cs, fs => !(Region.ready md ops l).isEmpty && (Region.ready md ops l).all fun i =>
    (cs.head? == some i && okF md ops L k (l.setIfInBounds i true) cs.tail fs) || (fs.any (fun f => f.1 == i && !f.2) && okF md ops L k (l.setIfInBounds i true) cs (fs.map fun f => if f.1 = i then (f.1, true) else f))
def FloatOK (P : Program) (ops : Array Oper) (a : Act) (f : Flo) : Prop := ∃ o, ops[f.i]? = some o ∧ o.guard = none ∧ o.dst = some f.d ∧ ∀ w, (execOp a.eval o).run P w = .ok (.value (f.val w.heap.size)) (w.alloc f.z)
/-- The objects that are made lie where they were made. -/
def Flown (V : World) (fs : List (Flo × Option Nat)) (w : World) : Prop := (∀ f b, (f, some b) ∈ fs → V.heap.size ≤ b ∧ w.heap[b]? = some f.z) ∧ fs.Pairwise fun p q => ∀ b, p.2 = some b → q.2 ≠ some b
theorem Flown.ext {fs : List (Flo × Option Nat)} {w w' : World} (h : Flown V fs w) (e : Ext w w') : Flown V fs w' :=
  ⟨fun f b hm => ⟨(h.1 f b hm).1, by rw [e.below.block b (Array.getElem?_eq_some_iff.1 (h.1 f b hm).2).1]; exact (h.1 f b hm).2⟩, h.2⟩
/-- What stands behind, whatever blocks the objects are. -/
def finF (V : World) (T : Act → World → Prop) : List Flo → List (Nat × Obj) → Act → World → Prop
  | [], β, a, w => Boxed β w → T a w
  | f :: r, β, a, w => ∀ b, V.heap.size ≤ b → b ∉ β.map (·.1) → finF V T r ((b, f.z) :: β) (a.put (some f.d) (f.val b)) w
theorem finF_end {T : Act → World → Prop} {w : World} : ∀ {fs : List (Flo × Option Nat)} {β : List (Nat × Obj)} {a : Act}, finF V T (fs.map (·.1)) β a w → fs.all (fun p => p.2.isSome) = true → Flown V fs w → Boxed β w → (∀ p ∈ fs, ∀ b, p.2 = some b → b ∉ β.map (·.1)) → T (fput a fs) w
  | [], _, _, h, _, _, hB, _ => h hB
  | (f, none) :: r, _, _, _, hd, _, _, _ => by simp at hd
  | (f, some b) :: r, β, a, h, hd, hf, hB, hn => by
    have hp := List.pairwise_cons.1 hf.2
    have h1 := hf.1 f b List.mem_cons_self
    refine finF_end (fs := r) (β := (b, f.z) :: β) (a := a.put (some f.d) (f.val b)) (h b h1.1 (hn _ List.mem_cons_self b rfl)) (by simpa using hd) ⟨fun g c hm => hf.1 g c (List.mem_cons_of_mem _ hm), hp.2⟩ (fun x hx => ?_) (fun p hpm c hc => ?_)
    · rcases List.mem_cons.1 hx with rfl | hx
      · exact h1.2
      · exact hB x hx
    · simp only [List.map_cons, List.mem_cons, not_or]
      exact ⟨fun e => hp.1 p hpm b rfl (by rw [hc, e]), hn p (List.mem_cons_of_mem _ hpm) c hc⟩

theorem floatT {m g : Nat} {L : Array Bool} {T : Act → World → Prop} (hsel : Region.noSelect ops = true) (hT : ∀ a w, Ext V w → T a w → wpAnyT P md ops Q (Ext V) m g L a w) :
    ∀ (k : Nat) (l : Array Bool) (cs : List Nat) (fs : List (Flo × Option Nat)) (a : Act) (w w' : World), okF md ops L k l cs (fs.map fun p => (p.1.i, p.2.isSome)) = true → sepB ops cs (fs.map fun p => (p.1.i, p.1.d)) = true →
      fs.Pairwise (fun p q => p.1.i ≠ q.1.i ∧ p.1.d ≠ q.1.d) → (∀ p ∈ fs, FloatOK P ops a p.1) → chainW P ops (finF V T (fs.map (·.1)) []) cs a w → Ext V w → Ext w w' → Flown V fs w' → wpAnyT P md ops Q (Ext V) m (k + g) l (fput a fs) w'
  | 0, l, cs, fs, a, w, w', hok, _, _, _, hc, hV, hE, hF => by
    simp only [okF, Bool.and_eq_true, List.isEmpty_iff, beq_iff_eq] at hok
    obtain ⟨⟨rfl, hd⟩, rfl⟩ := hok
    rw [Nat.zero_add]
    exact hT _ _ (hV.trans hE) (finF_end (hc w' hE) (by simpa [List.all_map] using hd) hF (fun x hx => by cases hx) (fun _ _ _ _ => by simp))
  | k + 1, l, cs, fs, a, w, w', hok, hsep, hpw, hfl, hc, hV, hE, hF => by
    rw [show k + 1 + g = (k + g) + 1 by omega]
    simp only [okF, Bool.and_eq_true, Bool.not_eq_true', List.isEmpty_eq_false_iff, List.all_eq_true, Bool.or_eq_true] at hok
    refine ⟨fun e => absurd e hok.1, fun i hi => ?_⟩
    rcases hok.2 i hi with ⟨h1, h2⟩ | ⟨h1, h2⟩
    · -- the next one of the row
      match cs, h1, h2, hc, hsep with
      | c :: cs, h1, h2, hc, hsep =>
        obtain rfl : c = i := by simpa using h1
        obtain ⟨o, ho, hw, hrun⟩ := hc
        have hs : ∀ cs b, o.op ≠ .select cs b := fun cs b => Region.noSelect_spec hsel c o cs b ho
        simp only [sepB, Bool.and_eq_true, List.all_cons, ho] at hsep
        obtain ⟨⟨hs1, hs2⟩, hs3⟩ := hsep
        have hsp : ∀ p ∈ fs, p.1.d ∉ o.looksAt ops ∧ o.dst ≠ some p.1.d ∧ ∀ q d, ops[p.1.i]? = some q → o.dst = some d → d ∉ q.looksAt ops := by
          intro p hp
          have := List.all_eq_true.1 hs1 (p.1.i, p.1.d) (List.mem_map.2 ⟨p, hp, rfl⟩)
          simp only [Bool.and_eq_true, Bool.not_eq_true', bne_iff_ne, List.contains_eq_mem, decide_eq_false_iff_not] at this
          refine ⟨this.1.1, this.1.2, fun q d hq hd => ?_⟩
          have h3 := this.2
          rw [hq, hd] at h3
          simpa using h3
        have hx := fput_exec (ops := ops) hs (fs := fs) (a := a) (fun p hp => .inr (hsp p hp).1)
        unfold wpOp
        simp only [ho]
        rw [if_pos (by rw [hx.2]; exact hw)]
        refine .inl (wp_of_V ?_)
        rw [hx.1]
        refine wpV_mono (fun v w'' hh => ?_) (hrun w' hE)
        rw [fput_put (fun p hp => (hsp p hp).2.1)]
        exact ⟨.inr ((hV.trans hE).trans hh.1), floatT hsel hT k _ cs fs _ w'' w'' h2 (by simp only [sepB, Bool.and_eq_true]; exact ⟨hs2, hs3⟩) hpw (fun p hp => by
          obtain ⟨q, k1, k2, k3, k4⟩ := hfl p hp
          exact ⟨q, k1, k2, k3, fun u => by rw [execOp_put (ops := ops) q (fun cs b => Region.noSelect_spec hsel _ q cs b k1) a o.dst v (fun d hd => (hsp p hp).2.2 q d k1 hd)]; exact k4 u⟩) hh.2 ((hV.trans hE).trans hh.1) (Ext.refl _) (hF.ext hh.1)⟩
    · -- an object
      simp only [List.any_map, List.any_eq_true, Function.comp, Bool.and_eq_true, beq_iff_eq, Bool.not_eq_true', Option.isSome_eq_false_iff, Option.isNone_iff_eq_none] at h1
      obtain ⟨⟨f, s⟩, hfm, rfl, rfl⟩ := h1
      obtain ⟨o, k1, k2, k3, k4⟩ := hfl _ hfm
      have hs : ∀ cs b, o.op ≠ .select cs b := fun cs b => Region.noSelect_spec hsel f.i o cs b k1
      have hsp := hsep
      simp only [sepB, Bool.and_eq_true] at hsp
      have hlk : ∀ p ∈ fs, p.2 = none ∨ p.1.d ∉ o.looksAt ops := by
        intro p hp
        have h5 := List.all_eq_true.1 hsp.2 (f.i, f.d) (List.mem_map.2 ⟨_, hfm, rfl⟩)
        simp only [k1, List.all_eq_true, List.mem_map] at h5
        have h6 := h5 (p.1.i, p.1.d) ⟨p, hp, rfl⟩
        simp only [Bool.or_eq_true, beq_iff_eq, Bool.not_eq_true', List.contains_eq_mem, decide_eq_false_iff_not] at h6
        rcases h6 with h6 | h6
        · left
          by_cases hpe : p = (f, none)
          · rw [hpe]
          · exfalso
            obtain ⟨x, hx, ex⟩ := List.mem_iff_getElem.1 hp
            obtain ⟨y, hy, ey⟩ := List.mem_iff_getElem.1 hfm
            rcases Nat.lt_trichotomy x y with h | h | h
            · exact (List.pairwise_iff_getElem.1 hpw x y hx hy h).1 (by rw [ex, ey]; exact h6.symm)
            · subst h; exact hpe (ex.symm.trans ey)
            · exact (List.pairwise_iff_getElem.1 hpw y x hy hx h).1 (by rw [ex, ey]; exact h6)
        · exact .inr h6
      have hx := fput_exec (ops := ops) hs (fs := fs) (a := a) hlk
      unfold wpOp
      simp only [k1]
      rw [if_pos (by simp [Region.wanted, k2])]
      refine .inl ?_
      unfold Oper.wp
      rw [hx.1, k4 w']
      simp only [Oper.upon, k3]
      rw [fput_upd hfm hpw]
      have e1 : (upd1 f.i w'.heap.size fs).map (·.1) = fs.map (·.1) := by
        simp only [upd1, List.map_map]
        refine List.map_congr_left fun p _ => ?_
        simp only [Function.comp]
        split <;> rfl
      have hmem : ∀ g b, (g, some b) ∈ upd1 f.i w'.heap.size fs → (g, some b) ∈ fs ∨ (b = w'.heap.size ∧ ∃ s, (g, s) ∈ fs ∧ g.i = f.i) := by
        intro g b hm
        obtain ⟨p, hp, e⟩ := List.mem_map.1 hm
        split at e
        · rename_i hi'
          simp only [Prod.mk.injEq, Option.some.injEq] at e
          exact .inr ⟨e.2.symm, p.2, by rw [← e.1]; exact hp, by rw [← e.1]; exact hi'⟩
        · exact .inl (by rw [← e]; exact hp)
      have huniq : ∀ g s, (g, s) ∈ fs → g.i = f.i → g = f := by
        intro g s hg hi'
        obtain ⟨x, hx, ex⟩ := List.mem_iff_getElem.1 hg
        obtain ⟨y, hy, ey⟩ := List.mem_iff_getElem.1 hfm
        rcases Nat.lt_trichotomy x y with h | h | h
        · exact absurd (by rw [ex, ey]; exact hi') (List.pairwise_iff_getElem.1 hpw x y hx hy h).1
        · subst h
          have := ex.symm.trans ey
          simp only [Prod.mk.injEq] at this
          exact this.1
        · exact absurd (by rw [ex, ey]; exact hi'.symm) (List.pairwise_iff_getElem.1 hpw y x hy hx h).1
      have eA := (Ext.refl w').alloc f.z
      refine ⟨.inr ((hV.trans hE).trans eA), floatT hsel hT k _ cs _ a w _ ?_ ?_ ?_ (fun p hp => ?_) (by rw [e1]; exact hc) hV (hE.trans eA) ⟨fun g b hm => ?_, ?_⟩⟩
      · have e2 : (upd1 f.i w'.heap.size fs).map (fun p => (p.1.i, p.2.isSome)) = (fs.map fun p => (p.1.i, p.2.isSome)).map fun q => if q.1 = f.i then (q.1, true) else q := by
          simp only [upd1, List.map_map]
          refine List.map_congr_left fun p _ => ?_
          simp only [Function.comp]
          split <;> rfl
        rw [e2]
        exact h2
      · have e2 : (upd1 f.i w'.heap.size fs).map (fun p => (p.1.i, p.1.d)) = fs.map fun p => (p.1.i, p.1.d) := by
          simp only [upd1, List.map_map]
          refine List.map_congr_left fun p _ => ?_
          simp only [Function.comp]
          split <;> rfl
        rw [e2]
        exact hsep
      · refine List.pairwise_map.2 (hpw.imp fun {p q} hpq => ?_)
        split <;> split <;> exact hpq
      · obtain ⟨q, hq, rfl⟩ := List.mem_map.1 hp
        split <;> exact hfl q hq
      · rcases hmem g b hm with h | ⟨rfl, s, hg, hgi⟩
        · exact (hF.ext eA).1 g b h
        · obtain rfl := huniq g s hg hgi
          exact ⟨(hV.trans hE).size, alloc_at w' _⟩
      · refine List.pairwise_map.2 (List.Pairwise.imp_of_mem (R := fun p q => (p.1.i ≠ q.1.i ∧ p.1.d ≠ q.1.d) ∧ ∀ b, p.2 = some b → q.2 ≠ some b) (fun {p q} hp hq hpq => ?_) (hpw.and hF.2))
        have hlt : ∀ r ∈ fs, ∀ b, r.2 = some b → b < w'.heap.size := fun r hr b hb => (Array.getElem?_eq_some_iff.1 (hF.1 r.1 b (by rw [← hb]; exact hr)).2).1
        intro b hb hb2
        split at hb <;> split at hb2
        · rename_i h7 h8
          exact hpq.1.1 (h7.trans h8.symm)
        · simp only [Option.some.injEq] at hb
          have := hlt q hq b hb2
          omega
        · simp only [Option.some.injEq] at hb2
          have := hlt p hp b hb
          omega
        · exact hpq.2 b hb hb2
/-- The same with the operations and what stands behind under names: the row's goals stay small. -/
theorem floatG {m g k : Nat} {L : Array Bool} {T : Act → World → Prop} {l : Array Bool} (cs : List Nat) (fs : List (Flo × Option Nat)) {a : Act} {w : World} (hok : okF md ops L k l cs (fs.map fun p => (p.1.i, p.2.isSome)) = true) (hsel : Region.noSelect ops = true) (hT : ∀ a w, Ext V w → T a w → wpAnyT P md ops Q (Ext V) m g L a w)
    (hsep : sepB ops cs (fs.map fun p => (p.1.i, p.1.d)) = true) (hpw : fs.Pairwise (fun p q => p.1.i ≠ q.1.i ∧ p.1.d ≠ q.1.d)) (hfl : ∀ p ∈ fs, FloatOK P ops a p.1) (hV : Ext V w) (hF : Flown V fs w)
    (hc : ∀ (ops' : Array Oper) (R' : Act → World → Prop), Hid (ops' = ops) → Hid (R' = finF V T (fs.map (·.1)) []) → chainW P ops' R' cs a w) : wpAnyT P md ops Q (Ext V) m (k + g) l (fput a fs) w :=
  floatT hsel hT k l cs fs a w w hok hsep hpw hfl (hc ops _ (Lib.hid rfl) (Lib.hid rfl)) hV (Ext.refl _) hF
theorem get_of {ops' : Array Oper} {i : Nat} {o : Oper} (h : ops' = ops) (h2 : ops[i]? = some o) : ops'[i]? = some o := by rw [h]; exact h2
theorem chainG_read {R : Act → World → Prop} {c : Nat} {cs : List Nat} {a : Act} {w : World} {o : Oper} {v : Value} (ho : ops[c]? = some o) (hg : o.guard = none) (h : ∀ w', Ext w w' → (execOp a.eval o).run P w' = .ok (.value v) w')
    (hk : chainW P ops R cs (a.put o.dst v) w) : chainW P ops R (c :: cs) a w := chainW_read ho (by simp [Region.wanted, hg]) h hk
theorem chainG_call {R : Act → World → Prop} {c : Nat} {cs : List Nat} {a : Act} {w : World} {o : Oper} {f : FuncId} {args : Array Value} (ho : ops[c]? = some o) (hg : o.guard = none) (h : ∀ w', Ext w w' → (execOp a.eval o).run P w' = .ok (.enter f args) w')
    (hc : ∀ w', Ext w w' → Calls P f args w' fun e w'' => ∃ v, e = .returned v ∧ (Ext w' w'' ∧ chainW P ops R cs (a.put o.dst v) w'')) : chainW P ops R (c :: cs) a w := chainW_call ho (by simp [Region.wanted, hg]) h hc
end
end Go.Proofs.Ytaloegjcdllgoaa
