/-
  The rule of XFloat, for a class of worlds that is given.
-/
import Derived.Test.YtngbdopgdcjdeaaGreatFloat
namespace Go.Proofs.YtngbdopgdcjdeaaGreat
open Go Go.RowKit
section
variable {P : Program} {ops : Array Oper} {md : Region.Mode} {V : World} {Q : Exit → Act → World → Prop}
theorem floatS {S : World → Prop} (hS : ∀ w, Ext V w → S w) {m g : Nat} {L : Array Bool} {T : Act → World → Prop} (hsel : Region.noSelect ops = true) (hT : ∀ a w, Ext V w → T a w → wpAnyT P md ops Q S m g L a w) :
    ∀ (k : Nat) (l : Array Bool) (cs : List Nat) (fs : List (Flo × Option Nat)) (a : Act) (w w' : World), okF md ops L k l cs (fs.map fun p => (p.1.i, p.2.isSome)) = true → sepB ops cs (fs.map fun p => (p.1.i, p.1.d)) = true →
      fs.Pairwise (fun p q => p.1.i ≠ q.1.i ∧ p.1.d ≠ q.1.d) → (∀ p ∈ fs, FloatOK P ops a p.1) → chainW P ops (finF V T (fs.map (·.1)) []) cs a w → Ext V w → Ext w w' → Flown V fs w' → wpAnyT P md ops Q S m (k + g) l (fput a fs) w'
  | 0, l, cs, fs, a, w, w', hok, _, _, _, hc, hV, hE, hF => by
    simp only [okF, Bool.and_eq_true, List.isEmpty_iff, beq_iff_eq] at hok
    obtain ⟨⟨rfl, hd⟩, rfl⟩ := hok
    rw [Nat.zero_add]
    exact hT _ _ (hV.trans hE) (finF_end (hc w' hE) (by simpa [List.all_map] using hd) hF (fun x hx => by cases hx) (fun _ _ _ _ => by simp))
  | k + 1, l, cs, fs, a, w, w', hok, hsep, hpw, hfl, hc, hV, hE, hF => by
    rw [show k + 1 + g = (k + g) + 1 by omega]
    simp only [okF, Bool.and_eq_true, Bool.not_eq_true', List.isEmpty_eq_false_iff, List.all_eq_true, Bool.or_eq_true] at hok
    refine ⟨fun e => absurd e hok.1, fun i hi => ?_⟩
    rcases hok.2 i hi with ⟨h1, h2⟩ | ⟨h1, h2⟩
    · -- the next one of the row
      match cs, h1, h2, hc, hsep with
      | c :: cs, h1, h2, hc, hsep =>
        obtain rfl : c = i := by simpa using h1
        obtain ⟨o, ho, hw, hrun⟩ := hc
        have hs : ∀ cs b, o.op ≠ .select cs b := fun cs b => Region.noSelect_spec hsel c o cs b ho
        simp only [sepB, Bool.and_eq_true, List.all_cons, ho] at hsep
        obtain ⟨⟨hs1, hs2⟩, hs3⟩ := hsep
        have hsp : ∀ p ∈ fs, p.1.d ∉ o.looksAt ops ∧ o.dst ≠ some p.1.d ∧ ∀ q d, ops[p.1.i]? = some q → o.dst = some d → d ∉ q.looksAt ops := by
          intro p hp
          have := List.all_eq_true.1 hs1 (p.1.i, p.1.d) (List.mem_map.2 ⟨p, hp, rfl⟩)
          simp only [Bool.and_eq_true, Bool.not_eq_true', bne_iff_ne, List.contains_eq_mem, decide_eq_false_iff_not] at this
          refine ⟨this.1.1, this.1.2, fun q d hq hd => ?_⟩
          have h3 := this.2
          rw [hq, hd] at h3
          simpa using h3
        have hx := fput_exec (ops := ops) hs (fs := fs) (a := a) (fun p hp => .inr (hsp p hp).1)
        unfold wpOp
        simp only [ho]
        rw [if_pos (by rw [hx.2]; exact hw)]
        refine .inl (wp_of_V ?_)
        rw [hx.1]
        refine wpV_mono (fun v w'' hh => ?_) (hrun w' hE)
        rw [fput_put (fun p hp => (hsp p hp).2.1)]
        exact ⟨.inr (hS _ ((hV.trans hE).trans hh.1)), floatS hS hsel hT k _ cs fs _ w'' w'' h2 (by simp only [sepB, Bool.and_eq_true]; exact ⟨hs2, hs3⟩) hpw (fun p hp => by
          obtain ⟨q, k1, k2, k3, k4⟩ := hfl p hp
          exact ⟨q, k1, k2, k3, fun u => by rw [execOp_put (ops := ops) q (fun cs b => Region.noSelect_spec hsel _ q cs b k1) a o.dst v (fun d hd => (hsp p hp).2.2 q d k1 hd)]; exact k4 u⟩) hh.2 ((hV.trans hE).trans hh.1) (Ext.refl _) (hF.ext hh.1)⟩
    · -- an object
      simp only [List.any_map, List.any_eq_true, Function.comp, Bool.and_eq_true, beq_iff_eq, Bool.not_eq_true', Option.isSome_eq_false_iff, Option.isNone_iff_eq_none] at h1
      obtain ⟨⟨f, s⟩, hfm, rfl, rfl⟩ := h1
      obtain ⟨o, k1, k2, k3, k4⟩ := hfl _ hfm
      have hs : ∀ cs b, o.op ≠ .select cs b := fun cs b => Region.noSelect_spec hsel f.i o cs b k1
      have hsp := hsep
      simp only [sepB, Bool.and_eq_true] at hsp
      have hlk : ∀ p ∈ fs, p.2 = none ∨ p.1.d ∉ o.looksAt ops := by
        intro p hp
        have h5 := List.all_eq_true.1 hsp.2 (f.i, f.d) (List.mem_map.2 ⟨_, hfm, rfl⟩)
        simp only [k1, List.all_eq_true, List.mem_map] at h5
        have h6 := h5 (p.1.i, p.1.d) ⟨p, hp, rfl⟩
        simp only [Bool.or_eq_true, beq_iff_eq, Bool.not_eq_true', List.contains_eq_mem, decide_eq_false_iff_not] at h6
        rcases h6 with h6 | h6
        · left
          by_cases hpe : p = (f, none)
          · rw [hpe]
          · exfalso
            obtain ⟨x, hx, ex⟩ := List.mem_iff_getElem.1 hp
            obtain ⟨y, hy, ey⟩ := List.mem_iff_getElem.1 hfm
            rcases Nat.lt_trichotomy x y with h | h | h
            · exact (List.pairwise_iff_getElem.1 hpw x y hx hy h).1 (by rw [ex, ey]; exact h6.symm)
            · subst h; exact hpe (ex.symm.trans ey)
            · exact (List.pairwise_iff_getElem.1 hpw y x hy hx h).1 (by rw [ex, ey]; exact h6)
        · exact .inr h6
      have hx := fput_exec (ops := ops) hs (fs := fs) (a := a) hlk
      unfold wpOp
      simp only [k1]
      rw [if_pos (by simp [Region.wanted, k2])]
      refine .inl ?_
      unfold Oper.wp
      rw [hx.1, k4 w']
      simp only [Oper.upon, k3]
      rw [fput_upd hfm hpw]
      have e1 : (upd1 f.i w'.heap.size fs).map (·.1) = fs.map (·.1) := by
        simp only [upd1, List.map_map]
        refine List.map_congr_left fun p _ => ?_
        simp only [Function.comp]
        split <;> rfl
      have hmem : ∀ g b, (g, some b) ∈ upd1 f.i w'.heap.size fs → (g, some b) ∈ fs ∨ (b = w'.heap.size ∧ ∃ s, (g, s) ∈ fs ∧ g.i = f.i) := by
        intro g b hm
        obtain ⟨p, hp, e⟩ := List.mem_map.1 hm
        split at e
        · rename_i hi'
          simp only [Prod.mk.injEq, Option.some.injEq] at e
          exact .inr ⟨e.2.symm, p.2, by rw [← e.1]; exact hp, by rw [← e.1]; exact hi'⟩
        · exact .inl (by rw [← e]; exact hp)
      have huniq : ∀ g s, (g, s) ∈ fs → g.i = f.i → g = f := by
        intro g s hg hi'
        obtain ⟨x, hx, ex⟩ := List.mem_iff_getElem.1 hg
        obtain ⟨y, hy, ey⟩ := List.mem_iff_getElem.1 hfm
        rcases Nat.lt_trichotomy x y with h | h | h
        · exact absurd (by rw [ex, ey]; exact hi') (List.pairwise_iff_getElem.1 hpw x y hx hy h).1
        · subst h
          have := ex.symm.trans ey
          simp only [Prod.mk.injEq] at this
          exact this.1
        · exact absurd (by rw [ex, ey]; exact hi'.symm) (List.pairwise_iff_getElem.1 hpw y x hy hx h).1
      have eA := (Ext.refl w').alloc f.z
      refine ⟨.inr (hS _ ((hV.trans hE).trans eA)), floatS hS hsel hT k _ cs _ a w _ ?_ ?_ ?_ (fun p hp => ?_) (by rw [e1]; exact hc) hV (hE.trans eA) ⟨fun g b hm => ?_, ?_⟩⟩
      · have e2 : (upd1 f.i w'.heap.size fs).map (fun p => (p.1.i, p.2.isSome)) = (fs.map fun p => (p.1.i, p.2.isSome)).map fun q => if q.1 = f.i then (q.1, true) else q := by
          simp only [upd1, List.map_map]
          refine List.map_congr_left fun p _ => ?_
          simp only [Function.comp]
          split <;> rfl
        rw [e2]
        exact h2
      · have e2 : (upd1 f.i w'.heap.size fs).map (fun p => (p.1.i, p.1.d)) = fs.map fun p => (p.1.i, p.1.d) := by
          simp only [upd1, List.map_map]
          refine List.map_congr_left fun p _ => ?_
          simp only [Function.comp]
          split <;> rfl
        rw [e2]
        exact hsep
      · refine List.pairwise_map.2 (hpw.imp fun {p q} hpq => ?_)
        split <;> split <;> exact hpq
      · obtain ⟨q, hq, rfl⟩ := List.mem_map.1 hp
        split <;> exact hfl q hq
      · rcases hmem g b hm with h | ⟨rfl, s, hg, hgi⟩
        · exact (hF.ext eA).1 g b h
        · obtain rfl := huniq g s hg hgi
          exact ⟨(hV.trans hE).size, alloc_at w' _⟩
      · refine List.pairwise_map.2 (List.Pairwise.imp_of_mem (R := fun p q => (p.1.i ≠ q.1.i ∧ p.1.d ≠ q.1.d) ∧ ∀ b, p.2 = some b → q.2 ≠ some b) (fun {p q} hp hq hpq => ?_) (hpw.and hF.2))
        have hlt : ∀ r ∈ fs, ∀ b, r.2 = some b → b < w'.heap.size := fun r hr b hb => (Array.getElem?_eq_some_iff.1 (hF.1 r.1 b (by rw [← hb]; exact hr)).2).1
        intro b hb hb2
        split at hb <;> split at hb2
        · rename_i h7 h8
          exact hpq.1.1 (h7.trans h8.symm)
        · simp only [Option.some.injEq] at hb
          have := hlt q hq b hb2
          omega
        · simp only [Option.some.injEq] at hb2
          have := hlt p hp b hb
          omega
        · exact hpq.2 b hb hb2
/-- The same with the operations and what stands behind under names: the row's goals stay small. -/
theorem floatSG {S : World → Prop} (hS : ∀ w, Ext V w → S w) {m g k : Nat} {L : Array Bool} {T : Act → World → Prop} {l : Array Bool} (cs : List Nat) (fs : List (Flo × Option Nat)) {a : Act} {w : World} (hok : okF md ops L k l cs (fs.map fun p => (p.1.i, p.2.isSome)) = true) (hsel : Region.noSelect ops = true) (hT : ∀ a w, Ext V w → T a w → wpAnyT P md ops Q S m g L a w)
    (hsep : sepB ops cs (fs.map fun p => (p.1.i, p.1.d)) = true) (hpw : fs.Pairwise (fun p q => p.1.i ≠ q.1.i ∧ p.1.d ≠ q.1.d)) (hfl : ∀ p ∈ fs, FloatOK P ops a p.1) (hV : Ext V w) (hF : Flown V fs w)
    (hc : ∀ (ops' : Array Oper) (R' : Act → World → Prop), Hid (ops' = ops) → Hid (R' = finF V T (fs.map (·.1)) []) → chainW P ops' R' cs a w) : wpAnyT P md ops Q S m (k + g) l (fput a fs) w :=
  floatS hS hsel hT k l cs fs a w w hok hsep hpw hfl (hc ops _ (Lib.hid rfl) (Lib.hid rfl)) hV (Ext.refl _) hF
end
end Go.Proofs.YtngbdopgdcjdeaaGreat
