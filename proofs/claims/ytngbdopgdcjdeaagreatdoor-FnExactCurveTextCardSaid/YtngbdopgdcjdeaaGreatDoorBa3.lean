/-
  What the laws' walks stand on, part 3 of 4: texts of this claim's own, one behind the other. No condition.
-/
import Derived.Test.YtngbdopgdcjdeaaGreatDoorBa2
import Derived.WideKeyPair
import Derived.DeepKeys4
import Derived.WideKeyEntry
import Derived.Maps.RangeWalk
import Derived.Maps.OwnRows
import Derived.BigQuiet
import Derived.Deep.Heap
import Derived.OrdersHeld
import Derived.Deep.RegionHeld3
import Derived.Lib.SliceRun
namespace Go.Proofs.YtngbdopgdcjdeaaGreatDoor
open Go.RowKit Go.WideMaps Go.WideElems Go.MapKept
open Go.ChangeMaps (setBlock heap_setBlock_same heap_setBlock_other putKey notKey mem_insert_iff)

theorem rowK : (85 : TypeId) < Tryz.prog.types.size := of_decide_eq_true (by kernel_rfl)
theorem arrK : ArrKey Tryz.prog 85 3 2 := ⟨Tryz.underlying85, by kernel_rfl, by kernel_rfl, by kernel_rfl⟩
theorem lawK : KeyLaw Tryz.prog 85 := arrK.law
theorem keyedK : Maps.Keyed Tryz.prog 85 := Maps.Keyed.of_law lawK
def kv (i j : Int) : Value := .agg #[.int .i64 i, .int .i64 j]
def klit (i j : Int) : Lit := .string (keyBytes [.int .i64 i, .int .i64 j])
theorem keyOfK {i j : Int} (hi : B64 i) (hj : B64 j) : keyOf Tryz.prog 85 (kv i j) = some (klit i j) :=
  keyOf_pair arrK Tryz.underlying3 (Nat.exists_eq_add_one_of_ne_zero (Nat.ne_of_gt (Nat.lt_of_le_of_lt (Nat.zero_le _) rowK))) (WalkArith.wf_i64 hi) (WalkArith.wf_i64 hj)
theorem kv_inj {i j i' j' : Int} (h : kv i j = kv i' j') : i = i' ∧ j = j' := by
  simp [kv] at h
  exact h
theorem klit_inj {i j i' j' : Int} (hi : B64 i) (hj : B64 j) (hi' : B64 i') (hj' : B64 j') (h : klit i j = klit i' j') : i = i' ∧ j = j' :=
  kv_inj (lawK.inj (keyOfK hi hj) (h ▸ keyOfK hi' hj'))
/-- How an element reads: as itself. -/
def RV (v : Value) : Option (DataW Value × List MemPlace) := some (.held v, [])

/-- Block b is a map from pairs to slices of the call's own: at (i, j) the numbers F i j; no entry where there are none; no two slices in one row. -/
def GroupM (w : World) (B b n : Nat) (F : Int → Int → List Int) : Prop :=
  ∃ es clock, w.heap[b]? = some (.map es clock) ∧ Fit Tryz.prog 85 RV es clock ∧ es.size ≤ n ∧ b < B ∧
    (∀ x ∈ es.toList, ∃ i j, B64 i ∧ B64 j ∧ x.key = kv i j ∧ 0 < (F i j).length ∧ w.ownsRow B 3 1 x.val (F i j).length (iv (F i j))) ∧
    (∀ i j, 0 < (F i j).length → ∃ x ∈ es.toList, x.key = kv i j) ∧
    (∀ x ∈ es.toList, ∀ y ∈ es.toList, x.key ≠ y.key → x.val.ownBlock ≠ y.val.ownBlock)

theorem own_some {w : World} {B : Nat} {E : TypeId} {size : Nat} {v : Value} {n : Nat} {xs : List Value} (h : w.ownsRow B E size v n xs) (hn : 0 < n) : ∃ g, v.ownBlock = some g ∧ B ≤ g ∧ g < w.heap.size := by
  obtain ⟨a, c, rfl⟩ := own_form h
  obtain ⟨g, rfl, h1, h2⟩ := own_head h hn
  exact ⟨g, rfl, h1, h2⟩
theorem GroupM.lt {w : World} {B b n : Nat} {F : Int → Int → List Int} (h : GroupM w B b n F) : b < w.heap.size := by
  obtain ⟨es, clock, hb, _⟩ := h
  exact (Array.getElem?_eq_some_iff.1 hb).1
theorem GroupM.kept {w w' : World} {B b n : Nat} {F : Int → Int → List Int} {row : Option Nat} (h : GroupM w B b n F) (hg : w.grownBy w' row) (hb' : row ≠ some b) (hr : ∀ q, row = some q → q < B) : GroupM w' B b n F := by
  obtain ⟨es, clock, hb, hf, hs, hbb, he, hx, ha⟩ := h
  refine ⟨es, clock, (hg.block b (Array.getElem?_eq_some_iff.1 hb).1 (fun e => hb' e.symm)).trans hb, hf, hs, hbb, fun x hx => ?_, hx, ha⟩
  obtain ⟨i, j, h1, h2, h3, h4, h5⟩ := he x hx
  refine ⟨i, j, h1, h2, h3, h4, own_apartQ h5 hg fun q hq e => ?_⟩
  have := (h5.lt q hq).1
  have := hr q e
  omega
theorem GroupM.ext {w w' : World} {B b n : Nat} {F : Int → Int → List Int} (h : GroupM w B b n F) (e : Ext w w') : GroupM w' B b n F := h.kept (Ext.grownBy e none) (by simp) (by simp)
theorem groupM_new (w : World) (B b : Nat) (hb : w.heap[b]? = some (.map #[] 0)) (h : b < B) : GroupM w B b 0 (fun _ _ => []) :=
  ⟨#[], 0, hb, ⟨by simp, stamped_empty 0, by simp⟩, Nat.le_refl _, h, by simp, by simp, by simp⟩
theorem GroupM.congr {w : World} {B b n : Nat} {F G : Int → Int → List Int} (h : GroupM w B b n F) (e : ∀ i j, F i j = G i j) : GroupM w B b n G := by
  have : F = G := by funext i j; exact e i j
  rwa [← this]
/-- .. with another base, no more than the old one. -/
theorem GroupM.base {w : World} {B B' b n : Nat} {F : Int → Int → List Int} (h : GroupM w B b n F) (e : B' ≤ B) (hb : b < B') : GroupM w B' b n F := by
  obtain ⟨es, clock, h1, hf, hs, _, he, hx, ha⟩ := h
  refine ⟨es, clock, h1, hf, hs, hb, fun x hx => ?_, hx, ha⟩
  obtain ⟨i, j, h1, h2, h3, h4, h5⟩ := he x hx
  exact ⟨i, j, h1, h2, h3, h4, own_mono e h5⟩

theorem fit_where {P : Program} {k : TypeId} {es : Array MapEntry} {clock : Nat} (F : Fit P k RV es clock) {x : MapEntry} (hx : x ∈ es.toList) : ∃ l, keyOf P k x.key = some l ∧ rg P k RV x = (l, .held x.val) := by
  obtain ⟨y, hy⟩ := F.reads x hx
  obtain ⟨z, hz, h2⟩ := rd_val hy
  refine ⟨y.1, rd_key hy, ?_⟩
  rw [rg_of hy]
  simp only [RV, Option.some.injEq] at hz
  subst hz
  exact Prod.ext rfl h2
theorem length_insertV (x : Lit × DataW Value) (l : List (Lit × DataW Value)) : (DataW.insert x l).length = l.length + 1 := length_insert x l

def updG (F : Int → Int → List Int) (i j : Int) (zs : List Int) (i' j' : Int) : List Int := if i' = i ∧ j' = j then zs else F i' j'
theorem updG_same (F : Int → Int → List Int) (i j : Int) (zs : List Int) : updG F i j zs i j = zs := if_pos ⟨rfl, rfl⟩
theorem updG_other {F : Int → Int → List Int} {i j i' j' : Int} {zs : List Int} (h : ¬ (i' = i ∧ j' = j)) : updG F i j zs i' j' = F i' j' := if_neg h

/-- No slice of the map lies in block lc. -/
def Shun (w : World) (b lc : Nat) : Prop := ∀ es clock, w.heap[b]? = some (.map es clock) → ∀ x ∈ es.toList, x.val.ownBlock ≠ some lc
theorem Shun.kept {w w' : World} {b lc : Nat} {row : Option Nat} (h : Shun w b lc) (hg : w.grownBy w' row) (hb : b < w.heap.size) (hr : row ≠ some b) : Shun w' b lc := fun es clock he => h es clock ((hg.block b hb (Ne.symm hr)).symm.trans he)
theorem GroupM.shun {w : World} {B b n : Nat} {F : Int → Int → List Int} (h : GroupM w B b n F) {lc : Nat} (hl : w.heap.size ≤ lc) : Shun w b lc := fun es clock he x hx e => by
  obtain ⟨es', clock', hb, _, _, _, k, _⟩ := h
  rw [hb] at he
  cases he
  obtain ⟨i, j, _, _, _, _, k5⟩ := k x hx
  have := (k5.lt lc e).2
  omega
/-- What 'm[k]' gives that is to be written: the slice at the key, and the way back. Sh: blocks that the map's slices shun. -/
def Entered (w1 : World) (B b n : Nat) (F : Int → Int → List Int) (i j : Int) (v0 : Value) (st : Nat) (Sh : Nat → Prop) : Prop :=
  w1.ownsRow B 3 1 v0 (F i j).length (iv (F i j)) ∧ b < w1.heap.size ∧ b < B ∧ (∀ lc, Sh lc → v0.ownBlock ≠ some lc) ∧
  ∀ (w2 : World) (v' : Value) (zs : List Int), w1.grownBy w2 v0.ownBlock → w2.ownsRow B 3 1 v' zs.length (iv zs) → 0 < zs.length → (v'.ownBlock = v0.ownBlock ∨ ∃ q, v'.ownBlock = some q ∧ w1.heap.size ≤ q) →
    ∃ w3, (Instr.entryStore 66 (.map (some b)) (goInt st) v').run Tryz.prog w2 = .ok () w3 ∧ GroupM w3 B b (n + 1) (updG F i j zs) ∧ w2.grownBy w3 (some b) ∧ w3.heap.size = w2.heap.size ∧ ∀ lc, Sh lc → Shun w3 b lc

theorem group_entry {u : World} {B b n : Nat} {F : Int → Int → List Int} (h : GroupM u B b n F) (hn : n < maxLen) {i j : Int} (hi : B64 i) (hj : B64 j) :
    ∃ v0 w1, ∃ st : Nat, (Instr.mapEntry 66 (.map (some b)) (kv i j)).run Tryz.prog u = .ok (.tuple #[v0, goInt st]) w1 ∧ u.grownBy w1 (some b) ∧ w1.heap.size = u.heap.size ∧ Entered w1 B b n F i j v0 st (fun lc => lc < u.heap.size ∧ Shun u b lc) := by
  obtain ⟨es, clock, hb, hf, hs, hbb, he, hx, ha⟩ := h
  have hblt : b < u.heap.size := (Array.getElem?_eq_some_iff.1 hb).1
  obtain ⟨v0, st, es1, clock1, hrun, hv0, hback⟩ := entry_then_store lawK Tryz.underlying66 zero_ints hb hf (keyOfK hi hj)
  have hg1 : u.grownBy (setBlock u b (.map es1 clock1)) (some b) := ⟨rfl, rfl, rfl, by simp [setBlock], fun k _ hk => heap_setBlock_other hb _ (fun e1 => hk (by rw [e1]))⟩
  have hown0 : u.ownsRow B 3 1 v0 (F i j).length (iv (F i j)) := by
    rcases hv0 with ⟨e0, h1, h2, rfl⟩ | ⟨h1, rfl⟩
    · obtain ⟨i', j', _, _, e1, _, e2⟩ := he e0 h1
      obtain ⟨rfl, rfl⟩ := kv_inj (h2.symm.trans e1)
      exact e2
    · have : F i j = [] := by
        rcases Nat.eq_zero_or_pos (F i j).length with e | e
        · exact List.length_eq_zero_iff.1 e
        · obtain ⟨x, k1, k2⟩ := hx i j e
          exact absurd k2 (h1 x k1)
      rw [this]
      exact own_none1 _ _
  have hfar : ∀ q, v0.ownBlock = some q → some b ≠ some q := fun q hq e => by
    have := (hown0.lt q hq).1
    cases e
    omega
  have hap0 : ∀ x ∈ es.toList, x.key ≠ kv i j → x.val.ownBlock ≠ v0.ownBlock := fun x hx0 hk => by
    rcases hv0 with ⟨e0, h1, h2, rfl⟩ | ⟨h1, rfl⟩
    · exact ha x hx0 e0 h1 (by rw [h2]; exact hk)
    · obtain ⟨i', j', _, _, e1, e2, e3⟩ := he x hx0
      obtain ⟨q, hq, _⟩ := own_some e3 e2
      rw [hq]
      simp [Value.ownBlock]
  have hsh0 : ∀ lc, lc < u.heap.size ∧ Shun u b lc → v0.ownBlock ≠ some lc := fun lc hlc => by
    rcases hv0 with ⟨e0, h1, h2, rfl⟩ | ⟨h1, rfl⟩
    · exact hlc.2 es clock hb e0 h1
    · simp [Value.ownBlock]
  refine ⟨v0, _, st, hrun, hg1, by simp [setBlock], own_apartQ hown0 hg1 hfar, by simpa [setBlock] using hblt, hbb, hsh0, fun w2 v' zs hgr hown' hpos hloc => ?_⟩
  have hb2 : w2.heap[b]? = some (.map es1 clock1) := (hgr.block b (by simpa [setBlock] using hblt) (fun e => hfar b (e.symm ▸ rfl) rfl)).trans (heap_setBlock_same hb _)
  obtain ⟨es', clock', hst, hmu⟩ := hback w2 v' hb2
  obtain ⟨es2, clock2, hmu2, hf', hput, _, _, hwho⟩ := Maps.fit_store keyedK Tryz.underlying66 hb hf (Nat.lt_of_le_of_lt hs hn) (fun _ _ _ z hz => hz) (keyOfK hi hj) (show RV v' = some (.held v', []) from rfl)
  obtain ⟨rfl, rfl⟩ : es' = es2 ∧ clock' = clock2 := by
    rw [hmu] at hmu2
    have e1 : setBlock u b (.map es' clock') = setBlock u b (.map es2 clock2) := by injection hmu2
    have e2 := heap_setBlock_same hb (.map es' clock')
    rw [e1, heap_setBlock_same hb] at e2
    simpa [eq_comm] using e2
  have hg3 : w2.grownBy (setBlock w2 b (.map es' clock')) (some b) := ⟨rfl, rfl, rfl, by simp [setBlock], fun k _ hk => heap_setBlock_other hb2 _ (fun e1 => hk (by rw [e1]))⟩
  -- an entry behind the store, by its key
  have hthere : ∀ i' j', B64 i' → B64 j' → ((∃ x ∈ es.toList, x.key = kv i' j') ∨ (i' = i ∧ j' = j)) → ∃ x ∈ es'.toList, x.key = kv i' j' := by
    intro i' j' hi' hj' hor
    have hm : ∃ d, (klit i' j', d) ∈ (es'.toList.map (rg Tryz.prog 85 RV)).foldr DataW.insert [] := by
      rw [hput]
      unfold putKey
      by_cases hk : i' = i ∧ j' = j
      · exact ⟨.held v', by rw [mem_insert_iff, hk.1, hk.2]; exact .inl rfl⟩
      · rcases hor with ⟨x, k1, k2⟩ | k
        · obtain ⟨l, g1, g2⟩ := fit_where hf k1
          rw [k2, keyOfK hi' hj'] at g1
          cases g1
          refine ⟨.held x.val, mem_insert_iff.2 (.inr (List.mem_filter.2 ⟨mem_sorted.2 (List.mem_map.2 ⟨x, k1, g2⟩), ?_⟩))⟩
          refine (Maps.notKey_iff (p := (klit i' j', DataW.held x.val)) (keyedK.key (keyOfK hi hj))).2 fun e => hk (klit_inj hi' hj' hi hj e)
        · exact absurd k hk
    obtain ⟨d, hd⟩ := hm
    obtain ⟨x, k1, k2⟩ := List.mem_map.1 (mem_sorted.1 hd)
    obtain ⟨l, g1, g2⟩ := fit_where hf' k1
    rw [g2] at k2
    cases k2
    exact ⟨x, k1, lawK.inj g1 (keyOfK hi' hj')⟩
  refine ⟨_, hst, ⟨es', clock', heap_setBlock_same hb2 _, hf', ?_, hbb, ?_, ?_, ?_⟩, hg3, by simp [setBlock], fun lc hlc es2 clock2 he2 x hx' => ?_⟩
  · have e1 : es'.size = ((es'.toList.map (rg Tryz.prog 85 RV)).foldr DataW.insert []).length := by rw [length_sorted]; simp
    rw [e1, hput]
    unfold putKey
    rw [length_insertV]
    have e2 := List.length_filter_le (notKey (klit i j)) ((es.toList.map (rg Tryz.prog 85 RV)).foldr DataW.insert [])
    rw [length_sorted] at e2
    simp at e2
    omega
  · intro x hx'
    rcases hwho x hx' with ⟨h1, h2⟩ | ⟨h1, h2⟩
    · obtain ⟨i', j', b1, b2, e1, e2, e3⟩ := he x h1
      have hne : ¬ (i' = i ∧ j' = j) := fun e => h2 (by rw [e1, e.1, e.2])
      refine ⟨i', j', b1, b2, e1, by rw [updG_other hne]; exact e2, ?_⟩
      rw [updG_other hne]
      have o1 := own_apartQ e3 hg1 (fun q hq e => by have := (e3.lt q hq).1; cases e; omega)
      have o2 := own_apartQ o1 hgr (fun q hq e => hap0 x h1 h2 (by rw [hq, e]))
      exact own_apartQ o2 hg3 (fun q hq e => by have := (e3.lt q hq).1; cases e; omega)
    · refine ⟨i, j, hi, hj, h1, by rw [updG_same]; exact hpos, ?_⟩
      rw [updG_same, h2]
      exact own_apartQ hown' hg3 (fun q hq e => by have := (hown'.lt q hq).1; cases e; omega)
  · intro i' j' hp
    by_cases hk : i' = i ∧ j' = j
    · rw [hk.1, hk.2]
      exact hthere i j hi hj (.inr ⟨rfl, rfl⟩)
    · rw [updG_other hk] at hp
      obtain ⟨x, k1, k2⟩ := hx i' j' hp
      obtain ⟨i2, j2, b1, b2, e1, _⟩ := he x k1
      obtain ⟨rfl, rfl⟩ := kv_inj (k2.symm.trans e1)
      exact hthere _ _ b1 b2 (.inl ⟨x, k1, k2⟩)
  · intro x hx' y hy' hne
    have old_new : ∀ z ∈ es.toList, z.key ≠ kv i j → z.val.ownBlock ≠ v'.ownBlock := fun z hz hk => by
      rcases hloc with e | ⟨q, e1, e2⟩
      · rw [e]; exact hap0 z hz hk
      · obtain ⟨i', j', _, _, _, k2, k3⟩ := he z hz
        obtain ⟨q', k4, _, k5⟩ := own_some k3 k2
        rw [e1, k4]
        intro e
        cases e
        simp [setBlock] at e2
        omega
    rcases hwho x hx' with ⟨h1, h2⟩ | ⟨h1, h2⟩ <;> rcases hwho y hy' with ⟨k1, k2⟩ | ⟨k1, k2⟩
    · exact ha x h1 y k1 hne
    · rw [k2]; exact old_new x h1 h2
    · rw [h2]; exact fun e => old_new y k1 k2 e.symm
    · exact absurd (h1.trans k1.symm) hne
  · rw [heap_setBlock_same hb2] at he2
    cases he2
    rcases hwho x hx' with ⟨h1, h2⟩ | ⟨h1, h2⟩
    · exact hlc.2 es clock hb x h1
    · rw [h2]
      rcases hloc with e | ⟨q, e1, e2⟩
      · rw [e]; exact hsh0 lc hlc
      · rw [e1]
        intro e
        cases e
        have := hlc.1
        simp [setBlock] at e2
        omega

/-- 'm[k]': the numbers at the key. -/
theorem group_look {u : World} {B b n : Nat} {F : Int → Int → List Int} (h : GroupM u B b n F) {i j : Int} (hi : B64 i) (hj : B64 j) :
    ∃ a c, (Instr.lookup 66 (.map (some b)) (kv i j) false).run Tryz.prog u = .ok (.slice a (F i j).length c) u ∧ Reads u a 1 (F i j).length (iv (F i j)) := by
  obtain ⟨es, clock, hb, hf, hs, hbb, he, hx, ha⟩ := h
  rcases Maps.fit_look false keyedK Tryz.underlying66 (zero_ints u) hb hf (keyOfK hi hj) with ⟨hrun, hnot, _⟩ | ⟨e0, y, h1, h2, hrun, _, _, _⟩
  · have : F i j = [] := by
      rcases Nat.eq_zero_or_pos (F i j).length with e | e
      · exact List.length_eq_zero_iff.1 e
      · obtain ⟨x, k1, k2⟩ := hx i j e
        exact absurd k2 (hnot x k1)
    rw [this]
    exact ⟨none, 0, hrun, rfl, fun h => absurd h (by simp)⟩
  · obtain ⟨i', j', _, _, e1, e2, e3⟩ := he e0 h1
    obtain ⟨rfl, rfl⟩ := kv_inj (h2.symm.trans e1)
    obtain ⟨a, c, e4⟩ := own_form e3
    rw [e4] at e3 hrun
    exact ⟨a, c, hrun, own_reads e3⟩

/-- .. in whatever world has this memory. -/
theorem group_look2 {u : World} {B b n : Nat} {F : Int → Int → List Int} (h : GroupM u B b n F) {i j : Int} (hi : B64 i) (hj : B64 j) :
    ∃ a c, (∀ u' : World, u'.heap = u.heap → (Instr.lookup 66 (.map (some b)) (kv i j) false).run Tryz.prog u' = .ok (.slice a (F i j).length c) u') ∧ Reads u a 1 (F i j).length (iv (F i j)) := by
  obtain ⟨es, clock, hb, hf, hs, hbb, he, hx, ha⟩ := h
  by_cases hE : ∃ x ∈ es.toList, x.key = kv i j
  · obtain ⟨e0, h1, h2⟩ := hE
    obtain ⟨i', j', _, _, e1, e2, e3⟩ := he e0 h1
    obtain ⟨rfl, rfl⟩ := kv_inj (h2.symm.trans e1)
    obtain ⟨a, c, e4⟩ := own_form e3
    have e5 := e3
    rw [e4] at e5
    refine ⟨a, c, fun u' hu => ?_, own_reads e5⟩
    rcases Maps.fit_look false keyedK Tryz.underlying66 (zero_ints u') (by rw [hu]; exact hb) hf (keyOfK hi hj) with ⟨_, hnot, _⟩ | ⟨e0', y, k1, k2, hrun, _, _, _⟩
    · exact absurd h2 (hnot e0 h1)
    · have : e0' = e0 := entry_eq_of_key ((stamped_iff es clock).1 hf.stamped).2.2 k1 h1 (k2.trans h2.symm)
      subst this
      rw [e4] at hrun
      exact hrun
  · have : F i j = [] := by
      rcases Nat.eq_zero_or_pos (F i j).length with e | e
      · exact List.length_eq_zero_iff.1 e
      · exact absurd (hx i j e) hE
    rw [this]
    refine ⟨none, 0, fun u' hu => ?_, rfl, fun h => absurd h (by simp)⟩
    rcases Maps.fit_look false keyedK Tryz.underlying66 (zero_ints u') (by rw [hu]; exact hb) hf (keyOfK hi hj) with ⟨hrun, _, _⟩ | ⟨e0', y, k1, k2, _⟩
    · exact hrun
    · exact absurd ⟨e0', k1, k2⟩ hE
/-- 'for e := range m' under way: L: the keys that have come. -/
def Ranged (w : World) (b r n : Nat) (F : Int → Int → List Int) (L : List (List Int)) (cnt : Nat) : Prop :=
  ∃ D left, w.ranges Tryz.prog 85 RV b r n D left cnt ∧ (∀ kl, left kl = true → ∃ i j, B64 i ∧ B64 j ∧ kl = klit i j ∧ 0 < (F i j).length) ∧
    (∀ i j, B64 i → B64 j → ([i, j] ∈ L ↔ 0 < (F i j).length ∧ left (klit i j) = false)) ∧ L.Nodup ∧ (∀ y ∈ L, ∃ i j, B64 i ∧ B64 j ∧ y = [i, j])
theorem Ranged.kept {w w' : World} {b r n : Nat} {F : Int → Int → List Int} {L : List (List Int)} {cnt : Nat} {row : Option Nat} (h : Ranged w b r n F L cnt) (hg : w.grownBy w' row) (hb : row ≠ some b) (hr : row ≠ some r) : Ranged w' b r n F L cnt := by
  obtain ⟨D, left, h1, h2⟩ := h
  exact ⟨D, left, h1.kept hg (Ne.symm hb) (Ne.symm hr), h2⟩
theorem Ranged.left {w : World} {b r n : Nat} {F : Int → Int → List Int} {L : List (List Int)} {cnt : Nat} (h : Ranged w b r n F L cnt) : w.rangeLeft b r = cnt := by
  obtain ⟨D, left, h1, _⟩ := h
  exact h1.left_eq
theorem Ranged.lt {w : World} {b r n : Nat} {F : Int → Int → List Int} {L : List (List Int)} {cnt : Nat} (h : Ranged w b r n F L cnt) : r < w.heap.size ∧ b < w.heap.size ∧ r ≠ b := by
  obtain ⟨D, left, h1, _⟩ := h
  exact ⟨h1.lt, h1.owns.lt, h1.ne⟩
theorem ranged_start {u : World} {B b n : Nat} {F : Int → Int → List Int} (h : GroupM u B b n F) :
    ∃ w' cnt, (Instr.range 66 (.map (some b))).run Tryz.prog u = .ok (.pointer (some ⟨u.heap.size, 0, none⟩)) w' ∧ Ranged w' b u.heap.size n F [] cnt ∧ cnt ≤ n ∧ u.grownBy w' none ∧ w'.heap.size = u.heap.size + 1 := by
  obtain ⟨es, clock, hb, hf, hs, hbb, he, hx, ha⟩ := h
  have hown : u.ownsMap Tryz.prog 85 RV b n (.map ((es.toList.map (rg Tryz.prog 85 RV)).foldr DataW.insert [])) := ⟨es, clock, hb, hf, hs, rfl⟩
  obtain ⟨w', h1, h2, h3, h4⟩ := hown.range keyedK Tryz.underlying66
  refine ⟨w', _, h1, ⟨_, _, h2, fun kl hkl => ?_, fun i j hi hj => ?_, List.nodup_nil, by simp⟩, ?_, h3, h4⟩
  · obtain ⟨p, hp, hpk⟩ := List.any_eq_true.1 hkl
    obtain ⟨x, k1, rfl⟩ := List.mem_map.1 (mem_sorted.1 hp)
    obtain ⟨i, j, b1, b2, e1, e2, _⟩ := he x k1
    obtain ⟨l, g1, g2⟩ := fit_where hf k1
    rw [e1, keyOfK b1 b2] at g1
    cases g1
    rw [g2] at hpk
    exact ⟨i, j, b1, b2, (WideAt.sameKey_eq hpk).symm, e2⟩
  · simp only [List.not_mem_nil, false_iff, not_and]
    intro hp hfalse
    obtain ⟨x, k1, k2⟩ := hx i j hp
    obtain ⟨l, g1, g2⟩ := fit_where hf k1
    rw [k2, keyOfK hi hj] at g1
    cases g1
    have : Maps.has (DataW.map ((es.toList.map (rg Tryz.prog 85 RV)).foldr DataW.insert [])) (klit i j) = true :=
      List.any_eq_true.2 ⟨(klit i j, .held x.val), mem_sorted.2 (List.mem_map.2 ⟨x, k1, g2⟩), WideAt.sameKey_self (keyedK.key (keyOfK hi hj))⟩
    rw [this] at hfalse
    cases hfalse
  · simp [Maps.size, length_sorted]
    simpa using hs
theorem ranged_next {u : World} {b r n : Nat} {F : Int → Int → List Int} {L : List (List Int)} {cnt : Nat} (h : Ranged u b r n F L cnt) (ty : TypeId) :
    ((Instr.next (.pointer (some ⟨r, 0, none⟩)) false ty).run Tryz.prog u = .ok (.tuple #[.bool false]) u ∧ ∀ i j, B64 i → B64 j → ([i, j] ∈ L ↔ 0 < (F i j).length)) ∨
    ∃ i j v w' cnt', B64 i ∧ B64 j ∧ (Instr.next (.pointer (some ⟨r, 0, none⟩)) false ty).run Tryz.prog u = .ok (.tuple #[.bool true, kv i j, v]) w' ∧ (Instr.entry (.pointer (some ⟨r, 0, none⟩))).run Tryz.prog w' = .ok (.tuple #[kv i j, v]) w' ∧
      Ranged w' b r n F (L ++ [[i, j]]) cnt' ∧ cnt' < cnt ∧ u.grownBy w' (some r) ∧ w'.heap.size = u.heap.size := by
  obtain ⟨D, left, h1, h2, h3, h4, h5⟩ := h
  rcases h1.next keyedK ty with ⟨_, e2, e3⟩ | ⟨key, v, kl, y, w', cnt', k1, k2, _, _, k5, k6, k7, k8, k9, k10⟩
  · exact .inl ⟨e3, fun i j hi hj => by rw [h3 i j hi hj]; simp [e2]⟩
  · obtain ⟨i, j, hi, hj, rfl, hp⟩ := h2 kl k2
    obtain rfl := lawK.inj k1 (keyOfK hi hj)
    refine .inr ⟨i, j, v, w', cnt', hi, hj, k5, k10, ⟨D, _, k6, fun kl' hkl' => ?_, fun i' j' hi' hj' => ?_, ?_, ?_⟩, k7, k8, k9⟩
    · simp only [Bool.and_eq_true] at hkl'
      exact h2 kl' hkl'.1
    · rw [List.mem_append, List.mem_singleton, h3 i' j' hi' hj']
      by_cases hk : i' = i ∧ j' = j
      · rw [hk.1, hk.2]
        simp [hp, WideAt.sameKey_self (keyedK.key (keyOfK hi hj))]
      · have hne : klit i' j' ≠ klit i j := fun e => hk (klit_inj hi' hj' hi hj e)
        rw [Maps.sameKey_ne hne]
        simp
        intro e1 e2
        exact absurd ⟨e1, e2⟩ hk
    · rw [List.nodup_append]
      refine ⟨h4, by simp, fun y hy z hz e => ?_⟩
      simp only [List.mem_singleton] at hz
      subst hz
      subst e
      have := ((h3 i j hi hj).1 hy).2
      rw [k2] at this
      cases this
    · intro y hy
      rcases List.mem_append.1 hy with hy | hy
      · exact h5 y hy
      · exact ⟨i, j, hi, hj, by simpa using hy⟩
end Go.Proofs.YtngbdopgdcjdeaaGreatDoor

namespace Go.Proofs.YtngbdopgdcjdeaaGreatDoor
open Go Go.RowKit

/-- A store into a box: the slots that it looks at, the box's object before it and behind it. -/
structure Put where
  p : Tmp
  q : Tmp
  z : Obj
  ok : Value → Prop
  g : Value → Obj
def StoreOp (P : Program) (V : World) (o : Oper) (s : Put) : Prop :=
  o.guard = none ∧ o.dst = none ∧ (∃ t, o.op = .store t (.tmp s.p) (.tmp s.q)) ∧ ∀ (a : Act) (w : World) (b : Nat), Ext V w → V.heap.size ≤ b → a.eval (.tmp s.p) = ptr b → w.heap[b]? = some s.z → s.ok (a.eval (.tmp s.q)) →
    ∃ w', (execOp a.eval o).run P w = .ok .skip w' ∧ Ext V w' ∧ w'.heap[b]? = some (s.g (a.eval (.tmp s.q))) ∧ ∀ b', b' ≠ b → w'.heap[b']? = w.heap[b']?
def upd (b : Nat) (c : Obj) (β : List (Nat × Obj)) : List (Nat × Obj) := β.map fun x => if x.1 = b then (b, c) else x
theorem upd_fst (b : Nat) (c : Obj) (β : List (Nat × Obj)) : (upd b c β).map (·.1) = β.map (·.1) := by
  unfold upd
  rw [List.map_map]
  refine List.map_congr_left fun x _ => ?_
  simp only [Function.comp]
  split
  · rename_i h; exact h.symm
  · rfl
theorem upd_perm {b : Nat} {c : Obj} {β β' : List (Nat × Obj)} (h : β.Perm β') : (upd b c β).Perm (upd b c β') := h.map _
theorem upd_comm {b b' : Nat} (c c' : Obj) (β : List (Nat × Obj)) (h : b' ≠ b) : upd b c (upd b' c' β) = upd b' c' (upd b c β) := by
  unfold upd
  rw [List.map_map, List.map_map]
  refine List.map_congr_left fun x _ => ?_
  simp only [Function.comp]
  by_cases h1 : x.1 = b
  · simp [h1, Ne.symm h]
  · by_cases h2 : x.1 = b'
    · simp [h2, h]
    · simp [h1, h2]
theorem mem_upd {b b' : Nat} {c z : Obj} {β : List (Nat × Obj)} (h : b' ≠ b) : (b', z) ∈ upd b c β ↔ (b', z) ∈ β := by
  unfold upd
  rw [List.mem_map]
  constructor
  · rintro ⟨x, hx, e⟩
    split at e
    · simp only [Prod.mk.injEq] at e; exact absurd e.1.symm h
    · rwa [← e]
  · intro hx
    exact ⟨_, hx, by simp [h]⟩
theorem upd_cons {b b' : Nat} {c z : Obj} {β : List (Nat × Obj)} (h : b' ≠ b) : upd b c ((b', z) :: β) = (b', z) :: upd b c β := by simp [upd, h]
theorem Boxed.upd {β : List (Nat × Obj)} {w w' : World} {b : Nat} {c : Obj} (h : Boxed β w) (hb : w'.heap[b]? = some c) (ho : ∀ b', b' ≠ b → w'.heap[b']? = w.heap[b']?) : Boxed (upd b c β) w' := by
  intro x hx
  obtain ⟨y, hy, rfl⟩ := List.mem_map.1 hx
  by_cases e : y.1 = b
  · simp only [if_pos e]; exact hb
  · simp only [if_neg e]; rw [ho _ e]; exact h y hy
theorem ptr_inj {b b' : Nat} (h : ptr b = ptr b') : b = b' := by
  simpa [ptr] using h

section
variable {P : Program} {ops : Array Oper} {md : Region.Mode} {V : World} {T : Nat → Put}

theorem looks_store {o : Oper} {t : TypeId} {p q : Tmp} (ho : o.op = .store t (.tmp p) (.tmp q)) : p ∈ o.looksAt ops ∧ q ∈ o.looksAt ops := by
  unfold Oper.looksAt
  rw [ho]
  simp [Op.operands]
/-- The store number i in state a: its box, what the box holds behind it. -/
def StAt (P : Program) (ops : Array Oper) (V : World) (T : Nat → Put) (β : List (Nat × Obj)) (a : Act) (i b : Nat) (c : Obj) : Prop :=
  ∃ o, ops[i]? = some o ∧ StoreOp P V o (T i) ∧ V.heap.size ≤ b ∧ a.eval (.tmp (T i).p) = ptr b ∧ (b, (T i).z) ∈ β ∧ (T i).ok (a.eval (.tmp (T i).q)) ∧ c = (T i).g (a.eval (.tmp (T i).q))
theorem StAt.put {β : List (Nat × Obj)} {a : Act} {j b : Nat} {c : Obj} {oi oj : Oper} {v : Value} (hj : ops[j]? = some oj) (hap : oi.apart ops oj = true) (h : StAt P ops V T β (a.put oi.dst v) j b c) : StAt P ops V T β a j b c := by
  obtain ⟨o, h1, h2, h3, h4, h5, h6, h7⟩ := h
  obtain rfl : oj = o := Option.some.inj (hj.symm.trans h1)
  obtain ⟨t, ht⟩ := h2.2.2.1
  obtain ⟨l1, l2⟩ := looks_store (ops := ops) ht
  have g := (Oper.apart_spec hap).1
  have e1 : (a.put oi.dst v).eval (.tmp (T j).p) = a.eval (.tmp (T j).p) := Act.eval_put fun d hd e => g d hd (by simp only [Operand.tmp.injEq] at e; rw [← e]; exact l1)
  have e2 : (a.put oi.dst v).eval (.tmp (T j).q) = a.eval (.tmp (T j).q) := Act.eval_put fun d hd e => g d hd (by simp only [Operand.tmp.injEq] at e; rw [← e]; exact l2)
  rw [e1] at h4
  rw [e2] at h6 h7
  exact ⟨oj, h1, h2, h3, h4, h5, h6, h7⟩
theorem StAt.mem {β β' : List (Nat × Obj)} {a : Act} {j b : Nat} {c : Obj} (h : StAt P ops V T β a j b c) (hm : ∀ z, (b, z) ∈ β → (b, z) ∈ β') : StAt P ops V T β' a j b c := by
  obtain ⟨o, h1, h2, h3, h4, h5, h6, h7⟩ := h
  exact ⟨o, h1, h2, h3, h4, hm _ h5, h6, h7⟩

/-- Only stores are left. -/
def stO (P : Program) (md : Region.Mode) (ops : Array Oper) (V : World) (T : Nat → Put) (fin : List (Nat × Obj) → Act → Prop) : Nat → List (Nat × Obj) → Array Bool → Act → Prop
  | 0, β, l, a => Region.ready md ops l = [] ∧ fin β a
  | k + 1, β, l, a => Region.ready md ops l ≠ [] ∧ ∀ i ∈ Region.ready md ops l, ∃ b c, StAt P ops V T β a i b c ∧ stO P md ops V T fin k (upd b c β) (l.setIfInBounds i true) a
/-- Boxes and stores are left. -/
def bxO (P : Program) (md : Region.Mode) (ops : Array Oper) (V : World) (T : Nat → Put) (fin : List (Nat × Obj) → Act → Prop) : Nat → List (Nat × Obj) → Array Bool → Act → Prop
  | 0, β, l, a => Region.ready md ops l = [] ∧ fin β a
  | k + 1, β, l, a => Region.ready md ops l ≠ [] ∧ ∀ i ∈ Region.ready md ops l,
    (∃ o d z, ops[i]? = some o ∧ BoxOp P o d z ∧ ∀ b, V.heap.size ≤ b → b ∉ β.map (·.1) → bxO P md ops V T fin k ((b, z) :: β) (l.setIfInBounds i true) (a.put (some d) (ptr b))) ∨
    ∃ b c, StAt P ops V T β a i b c ∧ bxO P md ops V T fin k (upd b c β) (l.setIfInBounds i true) a
def anO (P : Program) (md : Region.Mode) (ops : Array Oper) (V : World) (T : Nat → Put) (fin : List (Nat × Obj) → Act → Prop) : Nat → List (Nat × Obj) → Array Bool → Act → Prop
  | 0, β, l, a => Region.ready md ops l = [] ∧ fin β a
  | k + 1, β, l, a => Region.ready md ops l ≠ [] ∧ ∀ i ∈ Region.ready md ops l,
    (∃ o d z, ops[i]? = some o ∧ BoxOp P o d z ∧ ∀ b, V.heap.size ≤ b → b ∉ β.map (·.1) → anO P md ops V T fin k ((b, z) :: β) (l.setIfInBounds i true) (a.put (some d) (ptr b))) ∨
    (∃ b c, StAt P ops V T β a i b c ∧ anO P md ops V T fin k (upd b c β) (l.setIfInBounds i true) a) ∨ opE P ops V i (anO P md ops V T fin k β (l.setIfInBounds i true)) a

theorem anO_wp {fin : List (Nat × Obj) → Act → Prop} {Q : Exit → Act → World → Prop} (hfin : ∀ β a w, Ext V w → Boxed β w → fin β a → Q .normal a w) :
    ∀ (k : Nat) (β : List (Nat × Obj)) (l : Array Bool) (a : Act) (w : World), Ext V w → Boxed β w → anO P md ops V T fin k β l a → wpAny P md ops Q k l a w
  | 0, β, l, a, w, hw, hB, h => ⟨h.1, hfin β a w hw hB h.2⟩
  | k + 1, β, l, a, w, hw, hB, h => by
    refine ⟨fun e => absurd e h.1, fun i hi => ?_⟩
    rcases h.2 i hi with ⟨o, d, z, ho, ⟨hg, hd, hrun⟩, hK⟩ | ⟨b, c, ⟨o, ho, ⟨hg, hd, _, hrun⟩, h3, h4, h5, h6, h7⟩, hK⟩ | ⟨o, v, ho, hy, hK⟩
    · unfold wpOp
      simp only [ho]
      have hwt : Region.wanted o (yielded ops a.tmps) = true := by simp [Region.wanted, hg]
      rw [if_pos hwt]
      refine .inl ?_
      unfold Oper.wp
      rw [hrun a w]
      simp only [Oper.upon, hd]
      exact anO_wp hfin k _ _ _ _ (Ext.alloc hw z) (hB.alloc z) (hK w.heap.size hw.size (fun hb => by have := hB.lt hb; omega))
    · unfold wpOp
      simp only [ho]
      have hwt : Region.wanted o (yielded ops a.tmps) = true := by simp [Region.wanted, hg]
      rw [if_pos hwt]
      refine .inl ?_
      unfold Oper.wp
      obtain ⟨w', r1, r2, r3, r4⟩ := hrun a w b hw h3 h4 (hB _ h5) h6
      rw [r1]
      simp only [Oper.upon, hd]
      exact anO_wp hfin k _ _ _ _ r2 (hB.upd (by rw [h7]; exact r3) r4) hK
    · unfold wpOp
      simp only [ho]
      rcases hy with ⟨hwt, hv⟩ | ⟨hwt, rfl⟩
      · rw [if_pos hwt]
        refine .inl (Oper.wp_of_quiet (C := fun w' => Ext w w') (Ext.refl w) (K := anO P md ops V T fin k β (l.setIfInBounds i true)) (fun a' w' hw' hK' => anO_wp hfin k _ _ _ _ (hw.trans hw') (hB.ext hw') hK') ⟨v, ?_, hK⟩)
        intro w1 hw1
        have := hv w1 (hw.trans hw1)
        unfold Oper.quietAt at this ⊢
        generalize (execOp a.eval o).run P w1 = r at *
        cases r with
        | ok nx w2 =>
          cases nx <;> simp only [Oper.quietUpon] at this ⊢ <;> try exact this
          exact ⟨this.1, this.2.mono fun e w'' ⟨he, hx⟩ => ⟨he, hw1.trans hx⟩⟩
        | halt x w2 => simp only [Oper.quietUpon] at this
      · rw [if_neg (by simp [hwt])]
        exact anO_wp hfin k _ _ _ _ hw hB hK

/-- An operation that reads or calls may be taken first. -/
theorem anO_take {i : Nat} {oi : Oper} {v : Value} {fin : List (Nat × Obj) → Act → Prop} (hi : ops[i]? = some oi) (hsel : ∀ (j : Nat) (o : Oper) cs b, ops[j]? = some o → o.op ≠ .select cs b) :
    ∀ (k : Nat) (β : List (Nat × Obj)) (l : Array Bool) (a : Act),
      (∀ j oj, ops[j]? = some oj → j ≠ i → l.getD j true = false → (∀ e ∈ oj.after, Region.binds md e = true → e.on ≠ i) → oi.apart ops oj = true) →
      i ∈ Region.ready md ops l → YieldsE P ops V oi v a → anO P md ops V T fin k β (l.setIfInBounds i true) (a.put oi.dst v) → anO P md ops V T fin (k + 1) β l a := by
  intro k
  induction k with
  | zero =>
    intro β l a _ hr hy H
    refine ⟨fun e => (by rw [e] at hr; cases hr), fun j hj => ?_⟩
    by_cases hji : j = i
    · subst hji; exact .inr (.inr ⟨oi, v, hi, hy, H⟩)
    · have := ready_mono hj hji
      rw [H.1] at this
      cases this
  | succ k ih =>
    intro β l a hfree hr hy H
    refine ⟨fun e => (by rw [e] at hr; cases hr), fun j hj => ?_⟩
    by_cases hji : j = i
    · subst hji; exact .inr (.inr ⟨oi, v, hi, hy, H⟩)
    · obtain ⟨hjun, oj, hoj, hall⟩ := mem_ready.1 hj
      have hun := (mem_ready.1 hr).1
      have hnot : ∀ e ∈ oj.after, Region.binds md e = true → e.on ≠ i := by
        intro e he hb heq
        have h1 := hall e he hb
        rw [heq, getD_both hun] at h1
        cases h1
      have hfree' : ∀ q oq, ops[q]? = some oq → q ≠ i → (l.setIfInBounds j true).getD q true = false → (∀ e ∈ oq.after, Region.binds md e = true → e.on ≠ i) → oi.apart ops oq = true := fun q oq hq hqi hqun hqno => by
        refine hfree q oq hq hqi ?_ hqno
        by_cases hjq : j = q
        · subst hjq; exact hjun
        · rw [getD_set_ne true hjq] at hqun; exact hqun
      have hap := hfree j oj hoj hji hjun hnot
      obtain ⟨g1, g2, g3⟩ := Oper.apart_spec hap
      rcases H.2 j (ready_mono hj hji) with ⟨o, d, z, ho, hbx, hK⟩ | ⟨b, c, hst, hK⟩ | hq
      · obtain rfl : oj = o := Option.some.inj (hoj.symm.trans ho)
        refine .inl ⟨oj, d, z, hoj, hbx, fun b hb1 hb2 => ?_⟩
        have hd := hbx.2.1
        have hy' : YieldsE P ops V oi v (a.put (some d) (ptr b)) := by
          rw [← hd]
          exact hy.of_same (execOp_put oi (fun cs b => hsel i oi cs b hi) a oj.dst _ g3) (wanted_put oi a oj.dst _ g3)
        refine ih _ _ _ hfree' (ready_mono hr (Ne.symm hji)) hy' ?_
        rw [Array.setIfInBounds_comm _ _ hji]
        have := hK b hb1 hb2
        rw [← hd] at this ⊢
        rw [← Act.put_comm a v _ g2]
        exact this
      · refine .inr (.inl ⟨b, c, hst.put hoj hap, ih _ _ _ hfree' (ready_mono hr (Ne.symm hji)) hy ?_⟩)
        rw [Array.setIfInBounds_comm _ _ hji]
        exact hK
      · have h2 := opE_put hoj hap (fun cs b => hsel i oi cs b hi) (fun cs b => hsel j oj cs b hoj) hy hq
        refine .inr (.inr (opE_mono (fun a' h3 => ih _ _ _ hfree' (ready_mono hr (Ne.symm hji)) h3.1 ?_) h2))
        rw [Array.setIfInBounds_comm _ _ hji]
        exact h3.2

theorem bxO_an {fin : List (Nat × Obj) → Act → Prop} : ∀ (k : Nat) (β : List (Nat × Obj)) (l : Array Bool) (a : Act), bxO P md ops V T fin k β l a → anO P md ops V T fin k β l a
  | 0, _, _, _, h => h
  | k + 1, _, _, _, h => ⟨h.1, fun i hi => by
      rcases h.2 i hi with ⟨o, d, z, h1, h2, h3⟩ | ⟨b, c, h1, h2⟩
      · exact .inl ⟨o, d, z, h1, h2, fun b hb1 hb2 => bxO_an k _ _ _ (h3 b hb1 hb2)⟩
      · exact .inr (.inl ⟨b, c, h1, bxO_an k _ _ _ h2⟩)⟩
theorem stO_bx {fin : List (Nat × Obj) → Act → Prop} : ∀ (k : Nat) (β : List (Nat × Obj)) (l : Array Bool) (a : Act), stO P md ops V T fin k β l a → bxO P md ops V T fin k β l a
  | 0, _, _, _, h => h
  | k + 1, _, _, _, h => ⟨h.1, fun i hi => let ⟨b, c, h1, h2⟩ := h.2 i hi; .inr ⟨b, c, h1, stO_bx k _ _ _ h2⟩⟩
theorem bxO_perm {fin : List (Nat × Obj) → Act → Prop} (hp : ∀ β β' a, β.Perm β' → fin β a → fin β' a) :
    ∀ (k : Nat) (β β' : List (Nat × Obj)) (l : Array Bool) (a : Act), β.Perm β' → bxO P md ops V T fin k β l a → bxO P md ops V T fin k β' l a
  | 0, β, β', _, a, hq, h => ⟨h.1, hp β β' a hq h.2⟩
  | k + 1, _, _, _, _, hq, h => ⟨h.1, fun i hi => by
      rcases h.2 i hi with ⟨o, d, z, h1, h2, h3⟩ | ⟨b, c, h1, h2⟩
      · exact .inl ⟨o, d, z, h1, h2, fun b hb1 hb2 => bxO_perm hp k _ _ _ _ (hq.cons _) (h3 b hb1 fun hm => hb2 ((hq.map _).mem_iff.1 hm))⟩
      · exact .inr ⟨b, c, h1.mem fun z hz => hq.mem_iff.1 hz, bxO_perm hp k _ _ _ _ (upd_perm hq) h2⟩⟩
/-- A box may be made first. -/
theorem bxO_take {i : Nat} {oi : Oper} {d : Tmp} {z : Obj} {fin : List (Nat × Obj) → Act → Prop} (hp : ∀ β β' a, β.Perm β' → fin β a → fin β' a) (hi : ops[i]? = some oi) (hbx : BoxOp P oi d z) :
    ∀ (k : Nat) (β : List (Nat × Obj)) (l : Array Bool) (a : Act),
      (∀ j oj, ops[j]? = some oj → j ≠ i → l.getD j true = false → (∀ e ∈ oj.after, Region.binds md e = true → e.on ≠ i) → oi.apart ops oj = true) →
      i ∈ Region.ready md ops l → (∀ b, V.heap.size ≤ b → b ∉ β.map (·.1) → bxO P md ops V T fin k ((b, z) :: β) (l.setIfInBounds i true) (a.put (some d) (ptr b))) → bxO P md ops V T fin (k + 1) β l a := by
  intro k
  induction k with
  | zero =>
    intro β l a _ hr H
    obtain ⟨b0, hb1, hb2⟩ := fresh_block V.heap.size (β.map (·.1))
    refine ⟨fun e => (by rw [e] at hr; cases hr), fun j hj => ?_⟩
    by_cases hji : j = i
    · subst hji; exact .inl ⟨oi, d, z, hi, hbx, H⟩
    · have := ready_mono hj hji
      rw [(H b0 hb1 hb2).1] at this
      cases this
  | succ k ih =>
    intro β l a hfree hr H
    obtain ⟨b0, hb1, hb2⟩ := fresh_block V.heap.size (β.map (·.1))
    obtain ⟨b1, hc1, hc2⟩ := fresh_block V.heap.size (b0 :: β.map (·.1))
    refine ⟨fun e => (by rw [e] at hr; cases hr), fun j hj => ?_⟩
    by_cases hji : j = i
    · subst hji; exact .inl ⟨oi, d, z, hi, hbx, H⟩
    · obtain ⟨hjun, oj, hoj, hall⟩ := mem_ready.1 hj
      have hun := (mem_ready.1 hr).1
      have hnot : ∀ e ∈ oj.after, Region.binds md e = true → e.on ≠ i := by
        intro e he hb heq
        have h1 := hall e he hb
        rw [heq, getD_both hun] at h1
        cases h1
      have hfree' : ∀ q oq, ops[q]? = some oq → q ≠ i → (l.setIfInBounds j true).getD q true = false → (∀ e ∈ oq.after, Region.binds md e = true → e.on ≠ i) → oi.apart ops oq = true := fun q oq hq hqi hqun hqno => by
        refine hfree q oq hq hqi ?_ hqno
        by_cases hjq : j = q
        · subst hjq; exact hjun
        · rw [getD_set_ne true hjq] at hqun; exact hqun
      have hap := hfree j oj hoj hji hjun hnot
      obtain ⟨_, g2, _⟩ := Oper.apart_spec hap
      -- a store's dst is none, a box's is not: the kind is one
      rcases (H b0 hb1 hb2).2 j (ready_mono hj hji) with ⟨o, dj, zj, ho, hbj, _⟩ | ⟨bj, cj, hst0, _⟩
      · obtain rfl : oj = o := Option.some.inj (hoj.symm.trans ho)
        refine .inl ⟨oj, dj, zj, hoj, hbj, fun b' hb'1 hb'2 => ?_⟩
        refine ih _ _ _ hfree' (ready_mono hr (Ne.symm hji)) fun b hd1 hd2 => ?_
        simp only [List.map_cons, List.mem_cons, not_or] at hd2
        rcases (H b hd1 hd2.2).2 j (ready_mono hj hji) with ⟨o', d', z', ho', hb', hK'⟩ | ⟨bj, cj, ⟨o', ho', hst, _⟩, _⟩
        · obtain rfl : oj = o' := Option.some.inj (hoj.symm.trans ho')
          obtain rfl : d' = dj := Option.some.inj (hb'.2.1.symm.trans hbj.2.1)
          have hz : z' = zj := by
            have e := (hb'.2.2 a V).symm.trans (hbj.2.2 a V)
            simp only [Result.ok.injEq] at e
            have e2 : (V.alloc z').heap[V.heap.size]? = (V.alloc zj).heap[V.heap.size]? := by rw [e.2]
            rw [alloc_at, alloc_at] at e2
            exact Option.some.inj e2
          subst hz
          have := hK' b' hb'1 (by simp only [List.map_cons, List.mem_cons, not_or]; exact ⟨fun e => hd2.1 e.symm, hb'2⟩)
          rw [Array.setIfInBounds_comm _ _ hji]
          have hne : ∀ q, (some d : Option Tmp) = some q → (some d' : Option Tmp) ≠ some q := by
            have := g2
            rw [hbx.2.1, hbj.2.1] at this
            exact this
          rw [Act.put_comm a _ _ hne] at this
          exact bxO_perm hp k _ _ _ _ (.swap _ _ _) this
        · obtain rfl : oj = o' := Option.some.inj (hoj.symm.trans ho')
          have := hst.2.1
          rw [hbj.2.1] at this
          cases this
      · have hput : some d = oi.dst := hbx.2.1.symm
        have hstA := hst0
        rw [hput] at hstA
        have hst1 := StAt.put hoj hap hstA
        -- the store's box is none of the fresh ones
        have hmem : ∀ b, V.heap.size ≤ b → b ∉ β.map (·.1) → ∃ c, StAt P ops V T ((b, z) :: β) a j bj c ∧ bxO P md ops V T fin k (upd bj c ((b, z) :: β)) ((l.setIfInBounds i true).setIfInBounds j true) (a.put (some d) (ptr b)) := by
          intro b hd1 hd2
          rcases (H b hd1 hd2).2 j (ready_mono hj hji) with ⟨o', d', z', ho', hb', hK'⟩ | ⟨b2, c2, hst2, hK2⟩
          · obtain ⟨o, ho, hst, _⟩ := hst0
            obtain rfl : oj = o := Option.some.inj (hoj.symm.trans ho)
            obtain rfl : oj = o' := Option.some.inj (hoj.symm.trans ho')
            have := hst.2.1
            rw [hb'.2.1] at this
            cases this
          · have hstB := hst2
            rw [hput] at hstB
            have hst3 := StAt.put hoj hap hstB
            have hbb : b2 = bj := by
              obtain ⟨_, _, _, _, e1, _⟩ := hst3
              obtain ⟨_, _, _, _, e2, _⟩ := hst1
              exact ptr_inj (e1.symm.trans e2)
            subst hbb
            exact ⟨c2, hst3, hK2⟩
        have hin : ∀ b, V.heap.size ≤ b → b ∉ β.map (·.1) → b ≠ bj → ∃ z', (bj, z') ∈ β := by
          intro b hd1 hd2 hne
          obtain ⟨c, ⟨o, _, _, _, _, h5, _⟩, _⟩ := hmem b hd1 hd2
          rcases List.mem_cons.1 h5 with e | e
          · simp only [Prod.mk.injEq] at e; exact absurd e.1.symm hne
          · exact ⟨_, e⟩
        have hbj : bj ∈ β.map (·.1) := by
          by_cases e : b0 = bj
          · simp only [List.mem_cons, not_or] at hc2
            obtain ⟨z', hz'⟩ := hin b1 hc1 hc2.2 (by rw [← e]; exact hc2.1)
            exact List.mem_map.2 ⟨_, hz', rfl⟩
          · obtain ⟨z', hz'⟩ := hin b0 hb1 hb2 e
            exact List.mem_map.2 ⟨_, hz', rfl⟩
        have hfr : ∀ b, b ∉ β.map (·.1) → b ≠ bj := fun b hb e => hb (e ▸ hbj)
        have hstβ : ∀ c b, b ≠ bj → StAt P ops V T ((b, z) :: β) a j bj c → StAt P ops V T β a j bj c := fun c b hne h => h.mem fun z' hz' => by
          rcases List.mem_cons.1 hz' with e | e
          · simp only [Prod.mk.injEq] at e; exact absurd e.1.symm hne
          · exact e
        obtain ⟨c0, hs0, _⟩ := hmem b0 hb1 hb2
        refine .inr ⟨bj, c0, hstβ c0 b0 (hfr b0 hb2) hs0, ih _ _ _ hfree' (ready_mono hr (Ne.symm hji)) fun b hd1 hd2 => ?_⟩
        rw [upd_fst] at hd2
        obtain ⟨c, hs, hK⟩ := hmem b hd1 hd2
        have hcc : c = c0 := by
          obtain ⟨_, _, _, _, _, _, _, e1⟩ := hs
          obtain ⟨_, _, _, _, _, _, _, e2⟩ := hs0
          exact e1.trans e2.symm
        rw [Array.setIfInBounds_comm _ _ hji, ← hcc, ← upd_cons (hfr b hd2)]
        exact hK
/-- A store may be made first, if no other one is into its box. -/
theorem stO_take {i b : Nat} {c : Obj} {a : Act} {fin : List (Nat × Obj) → Act → Prop} :
    ∀ (k : Nat) (β : List (Nat × Obj)) (l : Array Bool), (∀ j b' , l.getD j true = false → j ≠ i → j < ops.size → a.eval (.tmp (T j).p) = ptr b' → b' ≠ b) →
      i ∈ Region.ready md ops l → StAt P ops V T β a i b c → stO P md ops V T fin k (upd b c β) (l.setIfInBounds i true) a → stO P md ops V T fin (k + 1) β l a := by
  intro k
  induction k with
  | zero =>
    intro β l _ hr hs H
    refine ⟨fun e => (by rw [e] at hr; cases hr), fun j hj => ?_⟩
    by_cases hji : j = i
    · subst hji; exact ⟨b, c, hs, H⟩
    · have := ready_mono hj hji
      rw [H.1] at this
      cases this
  | succ k ih =>
    intro β l hd hr hs H
    refine ⟨fun e => (by rw [e] at hr; cases hr), fun j hj => ?_⟩
    by_cases hji : j = i
    · subst hji; exact ⟨b, c, hs, H⟩
    · obtain ⟨b', c', hs', hK⟩ := H.2 j (ready_mono hj hji)
      obtain ⟨hjun, oj, hoj, _⟩ := mem_ready.1 hj
      have hne : b' ≠ b := by
        have h4 : a.eval (.tmp (T j).p) = ptr b' := by obtain ⟨_, _, _, _, h4, _⟩ := hs'; exact h4
        exact hd j b' hjun hji (Array.getElem?_eq_some_iff.1 hoj).1 h4
      refine ⟨b', c', hs'.mem fun z hz => (mem_upd hne).1 hz, ih _ _ (fun q b2 hq h1 h2 h3 => ?_) (ready_mono hr (Ne.symm hji)) (hs.mem fun z hz => (mem_upd (Ne.symm hne)).2 hz) ?_⟩
      · refine hd q b2 ?_ h1 h2 h3
        by_cases hjq : j = q
        · subst hjq; exact hjun
        · rw [getD_set_ne true hjq] at hq; exact hq
      · rw [Array.setIfInBounds_comm _ _ hji, upd_comm _ _ _ hne]
        exact hK

/-- The stores in the text's order. -/
def storesE (P : Program) (ops : Array Oper) (V : World) (T : Nat → Put) (R : List (Nat × Obj) → Act → Prop) : Nat → Nat → List (Nat × Obj) → Act → Prop
  | 0, _, β, a => R β a
  | m + 1, k, β, a => ∃ b c, StAt P ops V T β a k b c ∧ (∀ j b', k < j → j < ops.size → a.eval (.tmp (T j).p) = ptr b' → b' ≠ b) ∧ storesE P ops V T R m (k + 1) (upd b c β) a
theorem stO_lex {R : List (Nat × Obj) → Act → Prop} {a : Act} : ∀ (m k : Nat) (β : List (Nat × Obj)) (listed : Array Bool), (∀ j, j < k → listed.getD j true = true) → Region.lexFrom md ops m k listed = true → storesE P ops V T R m k β a → stO P md ops V T R m β listed a
  | 0, k, β, listed, _, hB, h => ⟨by simpa [Region.lexFrom] using hB, h⟩
  | m + 1, k, β, listed, hl, hB, ⟨b, c, h1, h2, h3⟩ => by
    simp only [Region.lexFrom, Bool.and_eq_true] at hB
    obtain ⟨⟨hr, _⟩, hB'⟩ := hB
    refine stO_take m β listed (fun j b' hj hji hjs he => h2 j b' ?_ hjs he) (by simpa using hr) h1 (stO_lex m (k + 1) _ _ (fun j hj => ?_) hB' h3)
    · rcases Nat.lt_trichotomy j k with h | h | h
      · rw [hl j h] at hj; cases hj
      · exact absurd h hji
      · exact h
    · by_cases hjk : k = j
      · subst hjk
        by_cases hs : k < listed.size
        · simp [hs]
        · simp [hs]
      · rw [getD_set_ne true hjk]; exact hl j (by omega)
theorem bxO_lex {g : Nat} {R : List (Nat × Obj) → Act → Prop} (hp : ∀ β β' a, β.Perm β' → R β a → R β' a) :
    ∀ (zs : List (Tmp × Obj)) (lb : List Oper) (k : Nat) (β : List (Nat × Obj)) (listed : Array Bool) (a : Act), (∀ j, j < lb.length → lb[j]? = ops[k + j]?) → (∀ j, j < k → listed.getD j true = true) →
    Region.lexFrom md ops (lb.length + g) k listed = true → lb.length = zs.length → (∀ (j : Nat) (o : Oper) (x : Tmp × Obj), lb[j]? = some o → zs[j]? = some x → BoxOp P o x.1 x.2) →
    tailB V (fun β a => storesE P ops V T R g (k + lb.length) β a) zs β a → bxO P md ops V T R (lb.length + g) β listed a
  | [], [], k, β, listed, a, _, hl, hB, _, _, h => by
    simp only [List.length_nil, Nat.zero_add, Nat.add_zero] at hB h ⊢
    exact stO_bx _ _ _ _ (stO_lex g k β listed hl hB h)
  | x :: zs, o :: lb, k, β, listed, a, hlb, hl, hB, hlen, hbx, h => by
    have h0 : ops[k]? = some o := by simpa using (hlb 0 (by simp)).symm
    rw [show (o :: lb).length + g = (lb.length + g) + 1 by simp; omega] at hB ⊢
    simp only [Region.lexFrom, Bool.and_eq_true] at hB
    obtain ⟨⟨hr, hf⟩, hB'⟩ := hB
    refine bxO_take hp h0 (hbx 0 o x rfl rfl) (lb.length + g) β listed a (Region.free_spec h0 hf) (by simpa using hr) fun b hb1 hb2 => ?_
    refine bxO_lex hp zs lb (k + 1) _ _ _ (fun j hj => by have := hlb (j + 1) (by simp; omega); simpa [Nat.add_assoc, Nat.add_comm 1 j] using this) (fun j hj => ?_) hB' (by simpa using hlen) (fun j o x h1 h2 => hbx (j + 1) o x (by simpa using h1) (by simpa using h2)) ?_
    · by_cases hjk : k = j
      · subst hjk
        by_cases hs : k < listed.size
        · simp [hs]
        · simp [hs]
      · rw [getD_set_ne true hjk]; exact hl j (by omega)
    · have := h b hb1 hb2
      rw [show k + (o :: lb).length = k + 1 + lb.length by simp; omega] at this
      exact this
  | [], o :: lb, _, _, _, _, _, _, _, hlen, _, _ => by simp at hlen
  | x :: zs, [], _, _, _, _, _, _, _, hlen, _, _ => by simp at hlen
theorem anO_lex {g : Nat} {R : List (Nat × Obj) → Act → Prop} {zs : List (Tmp × Obj)} {lb : List Oper} (hp : ∀ β β' a, β.Perm β' → R β a → R β' a) (hsel : Region.noSelect ops = true)
    (hlen : lb.length = zs.length) (hbx : ∀ (j : Nat) (o : Oper) (x : Tmp × Obj), lb[j]? = some o → zs[j]? = some x → BoxOp P o x.1 x.2) :
    ∀ (l : List Oper) (k : Nat) (listed : Array Bool) (a : Act), (∀ j, j < l.length + lb.length → (l ++ lb)[j]? = ops[k + j]?) → (∀ j, j < k → listed.getD j true = true) →
    Region.lexFrom md ops (l.length + (lb.length + g)) k listed = true → walkE P ops V (tailB V (fun β a => storesE P ops V T R g (k + l.length + lb.length) β a) zs []) l a →
    anO P md ops V T R (l.length + (lb.length + g)) [] listed a
  | [], k, listed, a, hl, hls, hB, h => by
    simp only [List.length_nil, Nat.zero_add, List.nil_append, Nat.add_zero] at hl hB h ⊢
    exact bxO_an _ _ _ _ (bxO_lex hp zs lb k [] listed a hl hls hB hlen hbx h)
  | o :: l, k, listed, a, hl, hls, hB, ⟨v, hy, hK⟩ => by
    have h0 : ops[k]? = some o := by simpa using (hl 0 (by simp; omega)).symm
    rw [show (o :: l).length + (lb.length + g) = (l.length + (lb.length + g)) + 1 by simp; omega] at hB ⊢
    simp only [Region.lexFrom, Bool.and_eq_true] at hB
    obtain ⟨⟨hr, hf⟩, hB'⟩ := hB
    refine anO_take h0 (Region.noSelect_spec hsel) (l.length + (lb.length + g)) [] listed a (Region.free_spec h0 hf) (by simpa using hr) hy ?_
    refine anO_lex hp hsel hlen hbx l (k + 1) _ _ (fun j hj => by have := hl (j + 1) (by simp; omega); simpa [Nat.add_assoc, Nat.add_comm 1 j] using this) (fun j hj => ?_) hB' ?_
    · by_cases hjk : k = j
      · subst hjk
        by_cases hs : k < listed.size
        · simp [hs]
        · simp [hs]
      · rw [getD_set_ne true hjk]; exact hls j (by omega)
    · rw [show k + (o :: l).length + lb.length = k + 1 + l.length + lb.length by simp; omega] at hK
      exact hK
end

/-- One walk in the text's order: n operations that read or call, the boxes (whatever blocks they are), g stores into them. -/
theorem wp_region_order {P : Program} {id : Nat} {Q : Exit → Act → World → Prop} {a : Act} {w : World} {l : List Oper} (n : Nat) (zs : List (Tmp × Obj)) (g : Nat) (T : Nat → Put) (V : World) (hE : Ext V w) (hm : P.follows .mixedOrders = true)
    (hB : Region.lexB .any l.toArray = true) (hn : l.length = n + (zs.length + g)) (hbx : AllBox P (l.drop n) zs)
    (h : walkE P l.toArray V (tailB V (fun β a => storesE P l.toArray V T (fun β a' => ∀ w', Ext V w' → Boxed β w' → Q .normal a' w') g (n + zs.length) β a) zs []) (l.take n) a) : (Code.region id l.toArray true).wp P Q a w := by
  simp only [Region.lexB, Bool.and_eq_true] at hB
  have htl : (l.take n).length = n := by simp; omega
  have hbl : ((l.drop n).take zs.length).length = zs.length := by simp; omega
  have H := anO_lex (P := P) (md := .any) (T := T) (g := g) (R := fun β a' => ∀ w', Ext V w' → Boxed β w' → Q .normal a' w') (zs := zs) (lb := (l.drop n).take zs.length)
    (fun β β' a' hq hh w' h1 h2 => hh w' h1 fun x hx => h2 x (hq.mem_iff.1 hx)) hB.1 hbl
    (fun j o x h1 h2 => hbx.get j o x (by
      have hj : j < zs.length := (List.getElem?_eq_some_iff.1 h2).1
      rwa [List.getElem?_take_of_lt hj] at h1) h2)
    (l.take n) 0 (Array.replicate l.toArray.size false) a (fun j hj => by
      rw [htl, hbl] at hj
      have e : l.take n ++ (l.drop n).take zs.length = l.take (n + zs.length) := by rw [List.take_add]
      rw [e, List.getElem?_take_of_lt hj]
      simp) (fun j hj => by omega) (by
      rw [htl, hbl, ← hn]
      simpa using hB.2) (by rw [htl, hbl, Nat.zero_add]; exact h)
  refine wp_region_any hm ?_
  have H2 := anO_wp (Q := Q) (fun β a' w' hw' hb' hL => hL w' hw' hb') _ _ _ _ { w with drawn := w.drawn + 1 } (show Ext V w.drew from hE.drew) (fun x hx => by cases hx) H
  rw [htl, hbl, ← hn] at H2
  simpa using H2

end Go.Proofs.YtngbdopgdcjdeaaGreatDoor

namespace Go.Proofs.YtngbdopgdcjdeaaGreatDoor
open Go.RowKit

/-- A value that is a slice of slices of ints: the outer row is the call's own, the inner ones are read. -/
def RdV (B : Nat) (ys : List (List Int)) (w w' : World) (s : Value) : Prop :=
  ∃ a c vs, s = .slice a ys.length c ∧ w'.ownsRow B 33 1 (.slice a ys.length c) ys.length vs ∧ VA w' vs ys ∧ Ext w w'
theorem RdV.ext {B : Nat} {ys : List (List Int)} {w w' w'' : World} {s : Value} (h : RdV B ys w w' s) (e : Ext w' w'') : RdV B ys w w'' s := by
  obtain ⟨a, c, vs, h1, h2, h3, h4⟩ := h
  exact ⟨a, c, vs, h1, own_ext e h2, h3.ext e, h4.trans e⟩
theorem rdV_none (B : Nat) (w : World) : RdV B [] w w (.slice none 0 0) := ⟨none, 0, [], rfl, ⟨rfl, .inl ⟨rfl, rfl⟩⟩, trivial, Ext.refl _⟩
set_option maxHeartbeats 4000000 in
theorem ceOf_any (a : Option Addr) (n c : Nat) (zs : List (Int × Int × Int)) (hn : n ≤ 12) (hb : ∀ m, m < n → TermB zs m) (w : World) (h : Reads w a 3 n (tv zs)) :
    Calls Tryz.prog 10 #[.slice a n c] w (OwnsRd w.heap.size (cellsL zs) w) := by
  have hl : zs.length = n := by have := h.1; rw [tv_len] at this; omega
  have HI := Lib.hid (fun i (hi : i ≤ n) => show (tripI (stepC zs) n i).length ≤ 2000 by
    have h1 := len_tripI (len_stepC zs) (n := n) i hi
    have h2 : i * (n * n) ≤ 12 * (12 * 12) := Nat.mul_le_mul (by omega) (Nat.mul_le_mul hn hn)
    omega)
  have HSI := Lib.hid (fun i => keep_tripI (n := n) (short_stepC zs) (short_nil _) i)
  have HL := Lib.hid (show cellsL zs = tripI (stepC zs) n n by unfold cellsL; rw [hl])
  have HN := Lib.hid hl
  have HB := Lib.hid hb
  clear hl hb
  go_enter Tryz.func10, Tryz.ntmps10
  go_wp2
  go_loopw [3, 10] (fun s t wr => ∃ (i : Nat), i ≤ n ∧ t = .int .i64 i ∧ RdV w.heap.size (tripI (stepC zs) n i) w wr s) (fun _ t _ => n - (intOf t).toNat)
  case atStart => exact ⟨0, Nat.zero_le _, rfl, rdV_none _ _⟩
  case round =>
    obtain ⟨i, hi, rfl, hr⟩ := hrel
    by_cases hlt : i < n
    · have HA := Lib.hid (HI.out i hi)
      have HSA := Lib.hid (HSI.out i)
      have HTI := Lib.hid (show tripI (stepC zs) n (i + 1) = tripJ (stepC zs) n i (tripI (stepC zs) n i) (n - i - 1) from rfl)
      generalize tripI (stepC zs) n i = acc at *
      obtain ⟨wo, hwo⟩ : ∃ wo, wo = wr := ⟨_, rfl⟩
      subst hwo
      go_wp2
      go_loopw [3, 5] (fun s t wr => ∃ (j d : Nat), j = i + 1 + d ∧ j ≤ n ∧ t = .int .i64 j ∧ RdV w.heap.size (tripJ (stepC zs) n i acc d) w wr s) (fun _ t _ => n - (intOf t).toNat)
      case atStart => exact ⟨i + 1, 0, rfl, by omega, by go_num, hr⟩
      case round =>
        clear hr
        obtain ⟨j, d, hjd, hj, rfl, hr⟩ := hrel
        by_cases hlj : j < n
        · have HA2 := Lib.hid (show (tripJ (stepC zs) n i acc d).length ≤ 3000 by
            have h1 := len_tripJ (len_stepC zs) (n := n) (i := i) (acc := acc) d
            have h2 : d * n ≤ 12 * 12 := Nat.mul_le_mul (by omega) hn
            have := HA.out
            omega)
          have HSB := Lib.hid (keep_tripJ (short_stepC zs) HSA.out d (n := n) (i := i))
          have HTJ := Lib.hid (show tripJ (stepC zs) n i acc (d + 1) = tripK (stepC zs) i j (tripJ (stepC zs) n i acc d) (n - j - 1) by rw [hjd]; rfl)
          generalize tripJ (stepC zs) n i acc d = bcc at *
          obtain ⟨wp, hwp⟩ : ∃ wp, wp = wr := ⟨_, rfl⟩
          subst hwp
          have HJD := Lib.hid hjd
          clear hjd
          go_wp2
          go_loopw [3, 6] (fun s t wr => ∃ (k e : Nat), k = j + 1 + e ∧ k ≤ n ∧ t = .int .i64 k ∧ RdV w.heap.size (tripK (stepC zs) i j bcc e) w wr s) (fun _ t _ => n - (intOf t).toNat)
          case atStart => exact ⟨j + 1, 0, rfl, by omega, by go_num, hr⟩
          case round =>
            clear hr
            obtain ⟨k, e, hke, hk, rfl, hr⟩ := hrel
            by_cases hlk : k < n
            · have HA3 := Lib.hid (show (tripK (stepC zs) i j bcc e).length ≤ 4000 by
                have h1 := len_tripK (len_stepC zs) (i := i) (j := j) (acc := bcc) e
                have := HA2.out
                omega)
              have HSC := Lib.hid (keep_tripK (short_stepC zs) HSB.out e (i := i) (j := j))
              have HTK := Lib.hid (show tripK (stepC zs) i j bcc (e + 1) = stepC zs i j k (tripK (stepC zs) i j bcc e) by rw [hke]; rfl)
              generalize tripK (stepC zs) i j bcc e = ccc at *
              have HKE := Lib.hid hke
              clear hke
              obtain ⟨a1, c1, vs, rfl, hown, hva, hE⟩ := hr
              have hij : i < j := by have := HJD.out; omega
              have hjk : j < k := by have := HKE.out; omega
              obtain ⟨b, off, hab, hc⟩ := term_cells (Reads.ext hE h) (by omega)
              have HH := Lib.hid h
              have HVA := Lib.hid hva
              have HOW := Lib.hid hown
              have HWr := Lib.hid hE
              clear h hva hown
              subst hab
              obtain ⟨i0, i1, i2⟩ := hc i hlt
              obtain ⟨j0, j1, j2⟩ := hc j hlj
              obtain ⟨k0, k1, k2⟩ := hc k hlk
              have hi1 : (i : Int) < (n : Int) := by omega
              have hj1 : (j : Int) < (n : Int) := by omega
              have hk1 : (k : Int) < (n : Int) := by omega
              have bi := (HB.out i hlt).PB
              have bj := (HB.out j hlj).PB
              have bk := (HB.out k hlk).PB
              clear hc hE
              have hE : Ext wr wr := Ext.refl _
              have Ic0 := Ext.keeps i0
              have Ic1 := Ext.keeps i1
              have Ic2 := Ext.keeps i2
              have Jc0 := Ext.keeps j0
              have Jc1 := Ext.keeps j1
              have Jc2 := Ext.keeps j2
              have Kc0 := Ext.keeps k0
              have Kc1 := Ext.keeps k1
              have Kc2 := Ext.keeps k2
              clear i0 i1 i2 j0 j1 j2 k0 k1 k2
              go_wp2
              have qI0 := fun s : Past wr => Ic0 s.w s.ext
              have qI1 := fun s : Past wr => Ic1 s.w s.ext
              have qI2 := fun s : Past wr => Ic2 s.w s.ext
              have qJ0 := fun s : Past wr => Jc0 s.w s.ext
              have qJ1 := fun s : Past wr => Jc1 s.w s.ext
              have qJ2 := fun s : Past wr => Jc2 s.w s.ext
              have qK0 := fun s : Past wr => Kc0 s.w s.ext
              have qK1 := fun s : Past wr => Kc1 s.w s.ext
              have qK2 := fun s : Past wr => Kc2 s.w s.ext
              refine wp_region_past wr (by first | exact hE | exact Ext.alloc hE _ | exact Ext.drew hE | exact Ext.drewN hE _) (by kernel_rfl) (by kernel_rfl) ?_
              repeat (go_big_quiet_step ((first | (go_at_call 22; exact past_ext (cePoint_any _ _ _ _)) | (go_at_call 21; exact past_ext (pyTurn_any _ _ _ (by assumption) (by assumption) (by assumption) _)))))
              refine wpQuiet_nil ?_
              intro w2 hw'
              obtain ⟨⟨_, hE⟩, hw''⟩ := hw'
              subst hw''
              clear qI0 qI1 qI2 qJ0 qJ1 qJ2 qK0 qK1 qK2
              clear Ic0 Ic1 Ic2 Jc0 Jc1 Jc2 Kc0 Kc1 Kc2
              by_cases hz : turnI (pI zs i) (pI zs j) (pI zs k) = 0
              · have HV := Lib.hid (HTK.out.trans (stepC_flat hz))
                have hz2 : (turnI (pI zs i) (pI zs j) (pI zs k) == 0) = true := by simpa using hz
                generalize turnI (pI zs i) (pI zs j) (pI zs k) = q at *
                clear hz
                go_wp2
                go_roundw
                case rel => exact ⟨k + 1, e + 1, by have := HKE.out; omega, by omega, by go_num, by rw [HV.out]; exact ⟨a1, c1, vs, rfl, own_ext hE HOW.out, HVA.out.ext hE, HWr.out.trans hE⟩⟩
                case measure => simp [intOf]; omega
              · have hz2 : (turnI (pI zs i) (pI zs j) (pI zs k) == 0) = false := by simpa using hz
                have HZ := Lib.hid (show turnT zs i j k ≠ 0 from hz)
                generalize turnI (pI zs i) (pI zs j) (pI zs k) = q at *
                clear hz
                go_wp2_with fail
                refine (ceCell_any _ _ _ zs hn HB.out i j k hlt hlj hlk HZ.out _ (HH.out.ext (HWr.out.trans hE))).mono ?_
                rintro e5 w5 ⟨a5, c5, rfl, ho5, hE5⟩
                have HQN := Lib.hid (fun e => stepC_none (acc := ccc) (b := j) (c := k) e (show i < zs.length by have := HN.out; omega))
                have HQS := Lib.hid (fun e => stepC_some (acc := ccc) HZ.out e)
                have HQL := Lib.hid (show (ceCellL zs i j k).length ≤ n by have := ceCellL_len zs i j k; have := HN.out; omega)
                generalize ceCellL zs i j k = L at *
                have hE6 := hE.trans hE5
                have HR5 := Lib.hid (own_reads ho5)
                have HO5 := Lib.hid (own_ext hE6 HOW.out)
                have HV5 := Lib.hid (HVA.out.ext hE6)
                have HW5 := Lib.hid (HWr.out.trans hE6)
                clear ho5 hE hE5 hE6 HOW HVA HWr
                by_cases hp : 0 < L.length
                · have HV := Lib.hid (HTK.out.trans (HQS.out hp))
                  have hp2 : (0 : Int) < (L.length : Int) := by omega
                  clear HQN HQS
                  go_wp2_with fail
                  refine (cePut_any _ _ _ _ w.heap.size _ _ vs ccc L (by have := HA3.out; omega) (by have := HQL.out; omega) (fun y hy => by have := HSC.out y hy; have := HN.out; omega) _ HW5.out.size HO5.out HV5.out HR5.out).mono ?_
                  rintro e6 w6 ⟨a6, c6, vs6, rfl, ho6, hv6, hE6⟩
                  have HW6 := Lib.hid (HW5.out.trans hE6)
                  have HO6 := Lib.hid ho6
                  have HV6 := Lib.hid hv6
                  clear ho6 hv6 hE6
                  go_wp2
                  go_roundw
                  case rel => exact ⟨k + 1, e + 1, by have := HKE.out; omega, by omega, by go_num, by rw [HV.out]; exact ⟨a6, c6, vs6, rfl, HO6.out, HV6.out, HW6.out⟩⟩
                  case measure => simp [intOf]; omega
                · have HV := Lib.hid (HTK.out.trans (HQN.out (by omega)))
                  have hp2 : ¬ (0 : Int) < (L.length : Int) := by omega
                  clear HQN HQS
                  go_wp2
                  go_roundw
                  case rel => exact ⟨k + 1, e + 1, by have := HKE.out; omega, by omega, by go_num, by rw [HV.out]; exact ⟨a1, c1, vs, rfl, HO5.out, HV5.out, HW5.out⟩⟩
                  case measure => simp [intOf]; omega
            · have HV := Lib.hid (show tripJ (stepC zs) n i acc (d + 1) = tripK (stepC zs) i j bcc e by rw [HTJ.out]; congr 1; omega)
              obtain ⟨a1, c1, vs, rfl, hown, hva, hE⟩ := hr
              have HVA := Lib.hid hva
              have HOW := Lib.hid hown
              have HWr := Lib.hid hE
              clear hva hown hE
              go_wp2
              go_roundw
              case rel => exact ⟨j + 1, d + 1, by have := HJD.out; omega, by omega, by go_num, by rw [HV.out]; exact ⟨a1, c1, vs, rfl, HOW.out, HVA.out, HWr.out⟩⟩
              case measure => simp [intOf]; omega
        · have HV := Lib.hid (show tripI (stepC zs) n (i + 1) = tripJ (stepC zs) n i acc d by rw [HTI.out]; congr 1; omega)
          obtain ⟨a1, c1, vs, rfl, hown, hva, hE⟩ := hr
          have HVA := Lib.hid hva
          have HOW := Lib.hid hown
          have HWr := Lib.hid hE
          clear hva hown hE
          go_wp2
          go_roundw
          case rel => exact ⟨i + 1, by omega, by go_num, by rw [HV.out]; exact ⟨a1, c1, vs, rfl, HOW.out, HVA.out, HWr.out⟩⟩
          case measure => simp [intOf]; omega
    · obtain rfl : i = n := by omega
      obtain ⟨a1, c1, vs, rfl, hown, hva, hE⟩ := hr
      have HVA := Lib.hid hva
      have HOW := Lib.hid hown
      have HWr := Lib.hid hE
      clear hva hown hE
      go_wp2
      go_ret
      exact ⟨a1, c1, vs, by rw [HL.out] <;> rfl, by rw [HL.out]; exact HOW.out, by rw [HL.out]; exact HVA.out, HWr.out⟩
end Go.Proofs.YtngbdopgdcjdeaaGreatDoor

namespace Go.Proofs.YtngbdopgdcjdeaaGreatDoor
open Go Go.RowKit

def ok2 (u : Value) : Prop := ∃ x y : Int, u = .agg #[.int .i64 x, .int .i64 y]
def ok3 (u : Value) : Prop := ∃ x y z : Int, u = .agg #[.int .i64 x, .int .i64 y, .int .i64 z]
def cellsOf (t : TypeId) : Value → Obj
  | .agg xs => .cells xs t
  | _ => .cells #[] t
theorem setCell_at {w : World} {b i : Nat} {c : Array Value} {t : TypeId} {v : Value} (h : w.heap[b]? = some (.cells c t)) : (w.setCell ⟨b, i, none⟩ v).heap[b]? = some (.cells (c.setIfInBounds i v) t) := by
  simp only [World.setCell, Array.getElem?_modify, if_pos, h, Option.map_some]
  rfl
theorem store_point (V : World) (p q : Tmp) (ty : TypeId) (pos : String) (after : Array Edge) :
    StoreOp Tryz.prog V { dst := none, op := .store 55 (.tmp p) (.tmp q), type := ty, pos := pos, after := after, guard := none } ⟨p, q, .cells #[.int .i64 0, .int .i64 0] 55, ok2, cellsOf 55⟩ := by
  refine ⟨rfl, rfl, ⟨_, rfl⟩, fun a w b hE hb hp hz ⟨x, y, hq⟩ => ?_⟩
  simp only at hp hq hz
  have c0 : w.cell? ⟨b, 0, none⟩ = some (.int .i64 0) := by simp [World.cell?, hz]
  have c1 : w.cell? ⟨b, 1, none⟩ = some (.int .i64 0) := by simp [World.cell?, hz]
  have f0 : w.frozen? ⟨b, 0, none⟩ = false := by simp [World.frozen?, hz]
  have f1 : w.frozen? ⟨b, 1, none⟩ = false := by simp [World.frozen?, hz]
  have hp2 : a.tmps[p]?.getD undef = .pointer (some ⟨b, 0, none⟩) := by simpa [Act.eval, ptr] using hp
  have hq2 : a.tmps[q]?.getD undef = .agg #[.int .i64 x, .int .i64 y] := by simpa [Act.eval] using hq
  refine ⟨(w.setCell ⟨b, 0, none⟩ (.int .i64 x)).setCell ⟨b, 1, none⟩ (.int .i64 y), ?_, Ext.setCell (Ext.setCell hE hb _) hb _, ?_, ?_⟩
  · simp [go_sem, hp2, hq2, c0, c1, f0, f1]
  · rw [hq, setCell_at (setCell_at hz)]; rfl
  · intro b' hb'
    rw [Deep.blk_setCell_other _ _ _ _ hb', Deep.blk_setCell_other _ _ _ _ hb']
theorem store_term (V : World) (p q : Tmp) (ty : TypeId) (pos : String) (after : Array Edge) :
    StoreOp Tryz.prog V { dst := none, op := .store 41 (.tmp p) (.tmp q), type := ty, pos := pos, after := after, guard := none } ⟨p, q, .cells #[.int .i64 0, .int .i64 0, .int .i64 0] 41, ok3, cellsOf 41⟩ := by
  refine ⟨rfl, rfl, ⟨_, rfl⟩, fun a w b hE hb hp hz ⟨x, y, z, hq⟩ => ?_⟩
  simp only at hp hq hz
  have c0 : w.cell? ⟨b, 0, none⟩ = some (.int .i64 0) := by simp [World.cell?, hz]
  have c1 : w.cell? ⟨b, 1, none⟩ = some (.int .i64 0) := by simp [World.cell?, hz]
  have c2 : w.cell? ⟨b, 2, none⟩ = some (.int .i64 0) := by simp [World.cell?, hz]
  have f0 : w.frozen? ⟨b, 0, none⟩ = false := by simp [World.frozen?, hz]
  have f1 : w.frozen? ⟨b, 1, none⟩ = false := by simp [World.frozen?, hz]
  have f2 : w.frozen? ⟨b, 2, none⟩ = false := by simp [World.frozen?, hz]
  have hp2 : a.tmps[p]?.getD undef = .pointer (some ⟨b, 0, none⟩) := by simpa [Act.eval, ptr] using hp
  have hq2 : a.tmps[q]?.getD undef = .agg #[.int .i64 x, .int .i64 y, .int .i64 z] := by simpa [Act.eval] using hq
  refine ⟨((w.setCell ⟨b, 0, none⟩ (.int .i64 x)).setCell ⟨b, 1, none⟩ (.int .i64 y)).setCell ⟨b, 2, none⟩ (.int .i64 z), ?_, Ext.setCell (Ext.setCell (Ext.setCell hE hb _) hb _) hb _, ?_, ?_⟩
  · simp [go_sem, hp2, hq2, c0, c1, c2, f0, f1, f2]
  · rw [hq, setCell_at (setCell_at (setCell_at hz))]; rfl
  · intro b' hb'
    rw [Deep.blk_setCell_other _ _ _ _ hb', Deep.blk_setCell_other _ _ _ _ hb', Deep.blk_setCell_other _ _ _ _ hb']
end Go.Proofs.YtngbdopgdcjdeaaGreatDoor

namespace Go.Proofs.YtngbdopgdcjdeaaGreatDoor
open Go.RowKit

theorem lt_of_cell {w : World} {b o : Nat} {v : Value} (h : w.cell? ⟨b, o, none⟩ = some v) : b < w.heap.size := by
  rcases Nat.lt_or_ge b w.heap.size with h1 | h1
  · exact h1
  · exfalso
    simp [World.cell?, Array.getElem?_eq_none h1] at h
theorem det_bd6 {p q : Int × Int} {r s : Int × Int} (h : (-6 ≤ p.1 - q.1 ∧ p.1 - q.1 ≤ 6) ∧ (-6 ≤ p.2 - q.2 ∧ p.2 - q.2 ≤ 6)) (k : (-6 ≤ r.1 - s.1 ∧ r.1 - s.1 ≤ 6) ∧ (-6 ≤ r.2 - s.2 ∧ r.2 - s.2 ≤ 6)) :
    -72 ≤ detI (p.1 - q.1) (p.2 - q.2) (r.1 - s.1) (r.2 - s.2) ∧ detI (p.1 - q.1) (p.2 - q.2) (r.1 - s.1) (r.2 - s.2) ≤ 72 := by
  unfold detI
  have k1 := mul_bd (A := 6) (D := 6) (a := p.1 - q.1) (d := r.2 - s.2) (by omega) (by omega) (by omega) (by omega)
  have k2 := mul_bd (A := 6) (D := 6) (a := p.2 - q.2) (d := r.1 - s.1) (by omega) (by omega) (by omega) (by omega)
  omega
set_option maxHeartbeats 4000000 in
set_option maxRecDepth 100000 in
theorem above_raw (ad off n cc : Nat) (A B C D : Int × Int) (a b c d : Int) (i j k q : Nat) (w : World)
    (hi : i < n) (hj : j < n) (hk : k < n) (hq : q < n)
    (bA : ((0 ≤ A.1 ∧ A.1 ≤ 6) ∧ (0 ≤ A.2 ∧ A.2 ≤ 6)) ∧ (-1000000 ≤ a ∧ a ≤ 1000000)) (bB : ((0 ≤ B.1 ∧ B.1 ≤ 6) ∧ (0 ≤ B.2 ∧ B.2 ≤ 6)) ∧ (-1000000 ≤ b ∧ b ≤ 1000000)) (bC : ((0 ≤ C.1 ∧ C.1 ≤ 6) ∧ (0 ≤ C.2 ∧ C.2 ≤ 6)) ∧ (-1000000 ≤ c ∧ c ≤ 1000000)) (bD : ((0 ≤ D.1 ∧ D.1 ≤ 6) ∧ (0 ≤ D.2 ∧ D.2 ≤ 6)) ∧ (-1000000 ≤ d ∧ d ≤ 1000000))
    (fA : w.cell? ⟨ad, off + i * 3, none⟩ = some (.int .i64 A.1) ∧ w.cell? ⟨ad, off + i * 3 + 1, none⟩ = some (.int .i64 A.2) ∧ w.cell? ⟨ad, off + i * 3 + 2, none⟩ = some (.int .i64 a))
    (fB : w.cell? ⟨ad, off + j * 3, none⟩ = some (.int .i64 B.1) ∧ w.cell? ⟨ad, off + j * 3 + 1, none⟩ = some (.int .i64 B.2) ∧ w.cell? ⟨ad, off + j * 3 + 2, none⟩ = some (.int .i64 b))
    (fC : w.cell? ⟨ad, off + k * 3, none⟩ = some (.int .i64 C.1) ∧ w.cell? ⟨ad, off + k * 3 + 1, none⟩ = some (.int .i64 C.2) ∧ w.cell? ⟨ad, off + k * 3 + 2, none⟩ = some (.int .i64 c))
    (fD : w.cell? ⟨ad, off + q * 3, none⟩ = some (.int .i64 D.1) ∧ w.cell? ⟨ad, off + q * 3 + 1, none⟩ = some (.int .i64 D.2) ∧ w.cell? ⟨ad, off + q * 3 + 2, none⟩ = some (.int .i64 d))
    (R : Int) (hR : R = (d - a) * detI (B.1 - A.1) (B.2 - A.2) (C.1 - A.1) (C.2 - A.2) - (b - a) * detI (D.1 - A.1) (D.2 - A.2) (C.1 - A.1) (C.2 - A.2) - (c - a) * detI (B.1 - A.1) (B.2 - A.2) (D.1 - A.1) (D.2 - A.2)) :
    Calls Tryz.prog 60 #[.slice (some ⟨ad, off, none⟩) n cc, .int .i64 i, .int .i64 j, .int .i64 k, .int .i64 q] w fun r w' => r = .returned (.int .i64 R) ∧ Ext w w' := by
  have HR := Lib.hid hR
  clear hR
  obtain ⟨a0, a1, a2⟩ := fA
  obtain ⟨b0, b1, b2⟩ := fB
  obtain ⟨c0, c1, c2⟩ := fC
  obtain ⟨d0, d1, d2⟩ := fD
  have hi2 : (i : Int) < (n : Int) := by omega
  have hj2 : (j : Int) < (n : Int) := by omega
  have hk2 : (k : Int) < (n : Int) := by omega
  have hq2 : (q : Int) < (n : Int) := by omega
  have hAB : (-6 ≤ B.1 - A.1 ∧ B.1 - A.1 ≤ 6) ∧ (-6 ≤ B.2 - A.2 ∧ B.2 - A.2 ≤ 6) := by omega
  have hAC : (-6 ≤ C.1 - A.1 ∧ C.1 - A.1 ≤ 6) ∧ (-6 ≤ C.2 - A.2 ∧ C.2 - A.2 ≤ 6) := by omega
  have hAD : (-6 ≤ D.1 - A.1 ∧ D.1 - A.1 ≤ 6) ∧ (-6 ≤ D.2 - A.2 ∧ D.2 - A.2 ≤ 6) := by omega
  have Ac0 := Ext.keeps a0
  have Ac1 := Ext.keeps a1
  have Ac2 := Ext.keeps a2
  have Bc0 := Ext.keeps b0
  have Bc1 := Ext.keeps b1
  have Bc2 := Ext.keeps b2
  have Cc0 := Ext.keeps c0
  have Cc1 := Ext.keeps c1
  have Cc2 := Ext.keeps c2
  have Dc0 := Ext.keeps d0
  have Dc1 := Ext.keeps d1
  have Dc2 := Ext.keeps d2
  go_enter Tryz.func60, Tryz.ntmps60
  go_wp2
  refine wp_region_order 12 [(11, .cells #[.int .i64 0, .int .i64 0, .int .i64 0] 41), (12, .cells #[.int .i64 0, .int .i64 0, .int .i64 0] 41), (13, .cells #[.int .i64 0, .int .i64 0, .int .i64 0] 41)] 3 (fun m => ⟨m - 4, if m = 15 then 21 else if m = 16 then 25 else 29, .cells #[.int .i64 0, .int .i64 0, .int .i64 0] 41, ok3, cellsOf 41⟩) w (Ext.refl _) (by kernel_rfl) (by kernel_rfl) rfl ?_ ?_
  · simp only [List.drop_succ_cons, List.drop_zero]
    exact ⟨⟨rfl, rfl, fun a w => by simp [go_sem]⟩, ⟨rfl, rfl, fun a w => by simp [go_sem]⟩, ⟨rfl, rfl, fun a w => by simp [go_sem]⟩, trivial⟩
  · simp only [List.take_succ_cons, List.take_zero]
    refine walkE_read (v := .slice (some ⟨ad, off, none⟩) n cc) rfl (fun w' hw' => by simp [go_sem]) ?_
    simp only [Act.put, List.setIfInBounds_toArray, List.set_cons_succ, List.set_cons_zero]
    refine walkE_read (v := .int .i64 j) rfl (fun w' hw' => by simp [go_sem]) ?_
    simp only [Act.put, List.setIfInBounds_toArray, List.set_cons_succ, List.set_cons_zero]
    refine walkE_read (v := .pointer (some ⟨ad, off + j * 3, none⟩)) rfl (fun w' hw' => by simp [go_sem, hj2]) ?_
    simp only [Act.put, List.setIfInBounds_toArray, List.set_cons_succ, List.set_cons_zero]
    refine walkE_read (v := .agg #[.int .i64 B.1, .int .i64 B.2, .int .i64 b]) rfl (fun w' hw' => by have g0 := Bc0 w' hw'; have g1 := Bc1 w' hw'; have g2 := Bc2 w' hw'; simp [go_sem, g0, g1, g2]) ?_
    simp only [Act.put, List.setIfInBounds_toArray, List.set_cons_succ, List.set_cons_zero]
    refine walkE_read (v := .slice (some ⟨ad, off, none⟩) n cc) rfl (fun w' hw' => by simp [go_sem]) ?_
    simp only [Act.put, List.setIfInBounds_toArray, List.set_cons_succ, List.set_cons_zero]
    refine walkE_read (v := .int .i64 k) rfl (fun w' hw' => by simp [go_sem]) ?_
    simp only [Act.put, List.setIfInBounds_toArray, List.set_cons_succ, List.set_cons_zero]
    refine walkE_read (v := .pointer (some ⟨ad, off + k * 3, none⟩)) rfl (fun w' hw' => by simp [go_sem, hk2]) ?_
    simp only [Act.put, List.setIfInBounds_toArray, List.set_cons_succ, List.set_cons_zero]
    refine walkE_read (v := .agg #[.int .i64 C.1, .int .i64 C.2, .int .i64 c]) rfl (fun w' hw' => by have g0 := Cc0 w' hw'; have g1 := Cc1 w' hw'; have g2 := Cc2 w' hw'; simp [go_sem, g0, g1, g2]) ?_
    simp only [Act.put, List.setIfInBounds_toArray, List.set_cons_succ, List.set_cons_zero]
    refine walkE_read (v := .slice (some ⟨ad, off, none⟩) n cc) rfl (fun w' hw' => by simp [go_sem]) ?_
    simp only [Act.put, List.setIfInBounds_toArray, List.set_cons_succ, List.set_cons_zero]
    refine walkE_read (v := .int .i64 q) rfl (fun w' hw' => by simp [go_sem]) ?_
    simp only [Act.put, List.setIfInBounds_toArray, List.set_cons_succ, List.set_cons_zero]
    refine walkE_read (v := .pointer (some ⟨ad, off + q * 3, none⟩)) rfl (fun w' hw' => by simp [go_sem, hq2]) ?_
    simp only [Act.put, List.setIfInBounds_toArray, List.set_cons_succ, List.set_cons_zero]
    refine walkE_read (v := .agg #[.int .i64 D.1, .int .i64 D.2, .int .i64 d]) rfl (fun w' hw' => by have g0 := Dc0 w' hw'; have g1 := Dc1 w' hw'; have g2 := Dc2 w' hw'; simp [go_sem, g0, g1, g2]) ?_
    simp only [Act.put, List.setIfInBounds_toArray, List.set_cons_succ, List.set_cons_zero]
    simp only [walkE, tailB, storesE, List.length_cons, List.length_nil, Nat.reduceAdd, List.map_nil, List.map_cons]
    intro x0 n0 m0 x1 n1 m1 x2 n2 m2
    simp only [List.mem_cons, List.not_mem_nil, not_or, or_false] at m1 m2
    refine ⟨x0, .cells #[.int .i64 B.1, .int .i64 B.2, .int .i64 b] 41, ⟨_, rfl, store_term _ _ _ _ _ _, n0, rfl, by simp, ⟨_, _, _, rfl⟩, rfl⟩, fun j' b' h1 h2 h3 => by
      have h5 : j' < 18 := h2
      have h4 : j' = 16 ∨ j' = 17 := by omega
      rcases h4 with rfl | rfl
      · have h6 := ptr_inj (show ptr x1 = ptr b' from h3)
        omega
      · have h6 := ptr_inj (show ptr x2 = ptr b' from h3)
        omega, ?_⟩
    refine ⟨x1, .cells #[.int .i64 C.1, .int .i64 C.2, .int .i64 c] 41, ⟨_, rfl, store_term _ _ _ _ _ _, n1, rfl, by simp [upd, *], ⟨_, _, _, rfl⟩, rfl⟩, fun j' b' h1 h2 h3 => by
      have h5 : j' < 18 := h2
      have h4 : j' = 17 := by omega
      rcases h4 with rfl
      · have h6 := ptr_inj (show ptr x2 = ptr b' from h3)
        omega, ?_⟩
    refine ⟨x2, .cells #[.int .i64 D.1, .int .i64 D.2, .int .i64 d] 41, ⟨_, rfl, store_term _ _ _ _ _ _, n2, rfl, by simp [upd, *], ⟨_, _, _, rfl⟩, rfl⟩, fun j' b' h1 h2 h3 => by
      have h5 : j' < 18 := h2
      omega, ?_⟩
    intro v hE1 hB1
    simp only [Act.put, List.setIfInBounds_toArray, List.set_cons_succ, List.set_cons_zero]
    simp only [ptr]
    have d1 := Ne.symm m1
    have d2 := Ne.symm m2.1
    have d3 := Ne.symm m2.2
    have h0 := boxed_has hB1 (b := x0) (cs := #[.int .i64 B.1, .int .i64 B.2, .int .i64 b]) (t := 41) (by simp [upd, *])
    have x0c0 := h0 0 _ rfl
    have x0c1 := h0 1 _ rfl
    have x0c2 := h0 2 _ rfl
    clear h0
    have h1 := boxed_has hB1 (b := x1) (cs := #[.int .i64 C.1, .int .i64 C.2, .int .i64 c]) (t := 41) (by simp [upd, *])
    have x1c0 := h1 0 _ rfl
    have x1c1 := h1 1 _ rfl
    have x1c2 := h1 2 _ rfl
    clear h1
    have h2 := boxed_has hB1 (b := x2) (cs := #[.int .i64 D.1, .int .i64 D.2, .int .i64 d]) (t := 41) (by simp [upd, *])
    have x2c0 := h2 0 _ rfl
    have x2c1 := h2 1 _ rfl
    have x2c2 := h2 2 _ rfl
    clear h2
    clear hB1 n0 n1 n2 m0 m1 m2 d1 d2 d3
    go_wp2
    obtain ⟨V, hV⟩ : ∃ V, V = v.alloc (.cells #[.int .i64 A.1, .int .i64 A.2, .int .i64 a] 41) := ⟨_, rfl⟩
    obtain ⟨x3, ho⟩ : ∃ o, o = v.heap.size := ⟨_, rfl⟩
    have hEV : Ext v V := by rw [hV]; exact Ext.alloc (Ext.refl v) _
    have x3c0 : V.cell? ⟨x3, 0, none⟩ = some (.int .i64 A.1) := by rw [hV, ho]; simp
    have x3c1 : V.cell? ⟨x3, 1, none⟩ = some (.int .i64 A.2) := by rw [hV, ho]; simp
    have x3c2 : V.cell? ⟨x3, 2, none⟩ = some (.int .i64 a) := by rw [hV, ho]; simp
    rw [← hV, ← ho]
    clear hV ho
    replace x0c0 := hEV.keep x0c0
    replace x0c1 := hEV.keep x0c1
    replace x0c2 := hEV.keep x0c2
    replace x1c0 := hEV.keep x1c0
    replace x1c1 := hEV.keep x1c1
    replace x1c2 := hEV.keep x1c2
    replace x2c0 := hEV.keep x2c0
    replace x2c1 := hEV.keep x2c1
    replace x2c2 := hEV.keep x2c2
    have HEV := Lib.hid (hE1.trans hEV)
    clear hEV hE1 Ac0 Ac1 Ac2 Bc0 Bc1 Bc2 Cc0 Cc1 Cc2 Dc0 Dc1 Dc2 a0 a1 a2 b0 b1 b2 c0 c1 c2 d0 d1 d2
    have f00 := Ext.keeps x0c0
    have f01 := Ext.keeps x0c1
    have f02 := Ext.keeps x0c2
    have f10 := Ext.keeps x1c0
    have f11 := Ext.keeps x1c1
    have f12 := Ext.keeps x1c2
    have f20 := Ext.keeps x2c0
    have f21 := Ext.keeps x2c1
    have f22 := Ext.keeps x2c2
    have f30 := Ext.keeps x3c0
    have f31 := Ext.keeps x3c1
    have f32 := Ext.keeps x3c2
    refine wp_region_order 33 [(15, .cells #[.int .i64 0, .int .i64 0] 55), (16, .cells #[.int .i64 0, .int .i64 0] 55), (17, .cells #[.int .i64 0, .int .i64 0] 55)] 3 (fun m => ⟨m - 21, if m = 36 then 44 else if m = 37 then 55 else 66, .cells #[.int .i64 0, .int .i64 0] 55, ok2, cellsOf 55⟩) V (Ext.refl _) (by kernel_rfl) (by kernel_rfl) rfl ?_ ?_
    · simp only [List.drop_succ_cons, List.drop_zero]
      exact ⟨⟨rfl, rfl, fun a w => by simp [go_sem]⟩, ⟨rfl, rfl, fun a w => by simp [go_sem]⟩, ⟨rfl, rfl, fun a w => by simp [go_sem]⟩, trivial⟩
    · simp only [List.take_succ_cons, List.take_zero]
      refine walkE_read (v := .pointer (some ⟨x0, 0, none⟩)) rfl (fun w' hw' => by simp [go_sem]) ?_
      simp only [Act.put, List.setIfInBounds_toArray, List.set_cons_succ, List.set_cons_zero]
      refine walkE_read (v := .int .i64 B.1) rfl (fun w' hw' => by have g0 := f00 w' hw'; simp [go_sem, g0]) ?_
      simp only [Act.put, List.setIfInBounds_toArray, List.set_cons_succ, List.set_cons_zero]
      refine walkE_read (v := .pointer (some ⟨x3, 0, none⟩)) rfl (fun w' hw' => by simp [go_sem]) ?_
      simp only [Act.put, List.setIfInBounds_toArray, List.set_cons_succ, List.set_cons_zero]
      refine walkE_read (v := .int .i64 A.1) rfl (fun w' hw' => by have g0 := f30 w' hw'; simp [go_sem, g0]) ?_
      simp only [Act.put, List.setIfInBounds_toArray, List.set_cons_succ, List.set_cons_zero]
      refine walkE_read (v := .int .i64 (B.1 - A.1)) rfl (fun w' hw' => by simp [go_sem]; exact wrap_i64 (by omega) (by omega)) ?_
      simp only [Act.put, List.setIfInBounds_toArray, List.set_cons_succ, List.set_cons_zero]
      refine walkE_read (v := .pointer (some ⟨x0, 1, none⟩)) rfl (fun w' hw' => by simp [go_sem]) ?_
      simp only [Act.put, List.setIfInBounds_toArray, List.set_cons_succ, List.set_cons_zero]
      refine walkE_read (v := .int .i64 B.2) rfl (fun w' hw' => by have g0 := f01 w' hw'; simp [go_sem, g0]) ?_
      simp only [Act.put, List.setIfInBounds_toArray, List.set_cons_succ, List.set_cons_zero]
      refine walkE_read (v := .pointer (some ⟨x3, 1, none⟩)) rfl (fun w' hw' => by simp [go_sem]) ?_
      simp only [Act.put, List.setIfInBounds_toArray, List.set_cons_succ, List.set_cons_zero]
      refine walkE_read (v := .int .i64 A.2) rfl (fun w' hw' => by have g0 := f31 w' hw'; simp [go_sem, g0]) ?_
      simp only [Act.put, List.setIfInBounds_toArray, List.set_cons_succ, List.set_cons_zero]
      refine walkE_read (v := .int .i64 (B.2 - A.2)) rfl (fun w' hw' => by simp [go_sem]; exact wrap_i64 (by omega) (by omega)) ?_
      simp only [Act.put, List.setIfInBounds_toArray, List.set_cons_succ, List.set_cons_zero]
      refine walkE_read (v := .agg #[.int .i64 (B.1 - A.1), .int .i64 (B.2 - A.2)]) rfl (fun w' hw' => by simp [go_sem]) ?_
      simp only [Act.put, List.setIfInBounds_toArray, List.set_cons_succ, List.set_cons_zero]
      refine walkE_read (v := .pointer (some ⟨x1, 0, none⟩)) rfl (fun w' hw' => by simp [go_sem]) ?_
      simp only [Act.put, List.setIfInBounds_toArray, List.set_cons_succ, List.set_cons_zero]
      refine walkE_read (v := .int .i64 C.1) rfl (fun w' hw' => by have g0 := f10 w' hw'; simp [go_sem, g0]) ?_
      simp only [Act.put, List.setIfInBounds_toArray, List.set_cons_succ, List.set_cons_zero]
      refine walkE_read (v := .pointer (some ⟨x3, 0, none⟩)) rfl (fun w' hw' => by simp [go_sem]) ?_
      simp only [Act.put, List.setIfInBounds_toArray, List.set_cons_succ, List.set_cons_zero]
      refine walkE_read (v := .int .i64 A.1) rfl (fun w' hw' => by have g0 := f30 w' hw'; simp [go_sem, g0]) ?_
      simp only [Act.put, List.setIfInBounds_toArray, List.set_cons_succ, List.set_cons_zero]
      refine walkE_read (v := .int .i64 (C.1 - A.1)) rfl (fun w' hw' => by simp [go_sem]; exact wrap_i64 (by omega) (by omega)) ?_
      simp only [Act.put, List.setIfInBounds_toArray, List.set_cons_succ, List.set_cons_zero]
      refine walkE_read (v := .pointer (some ⟨x1, 1, none⟩)) rfl (fun w' hw' => by simp [go_sem]) ?_
      simp only [Act.put, List.setIfInBounds_toArray, List.set_cons_succ, List.set_cons_zero]
      refine walkE_read (v := .int .i64 C.2) rfl (fun w' hw' => by have g0 := f11 w' hw'; simp [go_sem, g0]) ?_
      simp only [Act.put, List.setIfInBounds_toArray, List.set_cons_succ, List.set_cons_zero]
      refine walkE_read (v := .pointer (some ⟨x3, 1, none⟩)) rfl (fun w' hw' => by simp [go_sem]) ?_
      simp only [Act.put, List.setIfInBounds_toArray, List.set_cons_succ, List.set_cons_zero]
      refine walkE_read (v := .int .i64 A.2) rfl (fun w' hw' => by have g0 := f31 w' hw'; simp [go_sem, g0]) ?_
      simp only [Act.put, List.setIfInBounds_toArray, List.set_cons_succ, List.set_cons_zero]
      refine walkE_read (v := .int .i64 (C.2 - A.2)) rfl (fun w' hw' => by simp [go_sem]; exact wrap_i64 (by omega) (by omega)) ?_
      simp only [Act.put, List.setIfInBounds_toArray, List.set_cons_succ, List.set_cons_zero]
      refine walkE_read (v := .agg #[.int .i64 (C.1 - A.1), .int .i64 (C.2 - A.2)]) rfl (fun w' hw' => by simp [go_sem]) ?_
      simp only [Act.put, List.setIfInBounds_toArray, List.set_cons_succ, List.set_cons_zero]
      refine walkE_read (v := .pointer (some ⟨x2, 0, none⟩)) rfl (fun w' hw' => by simp [go_sem]) ?_
      simp only [Act.put, List.setIfInBounds_toArray, List.set_cons_succ, List.set_cons_zero]
      refine walkE_read (v := .int .i64 D.1) rfl (fun w' hw' => by have g0 := f20 w' hw'; simp [go_sem, g0]) ?_
      simp only [Act.put, List.setIfInBounds_toArray, List.set_cons_succ, List.set_cons_zero]
      refine walkE_read (v := .pointer (some ⟨x3, 0, none⟩)) rfl (fun w' hw' => by simp [go_sem]) ?_
      simp only [Act.put, List.setIfInBounds_toArray, List.set_cons_succ, List.set_cons_zero]
      refine walkE_read (v := .int .i64 A.1) rfl (fun w' hw' => by have g0 := f30 w' hw'; simp [go_sem, g0]) ?_
      simp only [Act.put, List.setIfInBounds_toArray, List.set_cons_succ, List.set_cons_zero]
      refine walkE_read (v := .int .i64 (D.1 - A.1)) rfl (fun w' hw' => by simp [go_sem]; exact wrap_i64 (by omega) (by omega)) ?_
      simp only [Act.put, List.setIfInBounds_toArray, List.set_cons_succ, List.set_cons_zero]
      refine walkE_read (v := .pointer (some ⟨x2, 1, none⟩)) rfl (fun w' hw' => by simp [go_sem]) ?_
      simp only [Act.put, List.setIfInBounds_toArray, List.set_cons_succ, List.set_cons_zero]
      refine walkE_read (v := .int .i64 D.2) rfl (fun w' hw' => by have g0 := f21 w' hw'; simp [go_sem, g0]) ?_
      simp only [Act.put, List.setIfInBounds_toArray, List.set_cons_succ, List.set_cons_zero]
      refine walkE_read (v := .pointer (some ⟨x3, 1, none⟩)) rfl (fun w' hw' => by simp [go_sem]) ?_
      simp only [Act.put, List.setIfInBounds_toArray, List.set_cons_succ, List.set_cons_zero]
      refine walkE_read (v := .int .i64 A.2) rfl (fun w' hw' => by have g0 := f31 w' hw'; simp [go_sem, g0]) ?_
      simp only [Act.put, List.setIfInBounds_toArray, List.set_cons_succ, List.set_cons_zero]
      refine walkE_read (v := .int .i64 (D.2 - A.2)) rfl (fun w' hw' => by simp [go_sem]; exact wrap_i64 (by omega) (by omega)) ?_
      simp only [Act.put, List.setIfInBounds_toArray, List.set_cons_succ, List.set_cons_zero]
      refine walkE_read (v := .agg #[.int .i64 (D.1 - A.1), .int .i64 (D.2 - A.2)]) rfl (fun w' hw' => by simp [go_sem]) ?_
      simp only [Act.put, List.setIfInBounds_toArray, List.set_cons_succ, List.set_cons_zero]
      simp only [walkE, tailB, storesE, List.length_cons, List.length_nil, Nat.reduceAdd, List.map_nil, List.map_cons]
      intro y0 n0 m0 y1 n1 m1 y2 n2 m2
      simp only [List.mem_cons, List.not_mem_nil, not_or, or_false] at m1 m2
      refine ⟨y0, .cells #[.int .i64 (B.1 - A.1), .int .i64 (B.2 - A.2)] 55, ⟨_, rfl, store_point _ _ _ _ _ _, n0, rfl, by simp, ⟨_, _, rfl⟩, rfl⟩, fun j' b' h1 h2 h3 => by
        have h5 : j' < 39 := h2
        have h4 : j' = 37 ∨ j' = 38 := by omega
        rcases h4 with rfl | rfl
        · have h6 := ptr_inj (show ptr y1 = ptr b' from h3)
          omega
        · have h6 := ptr_inj (show ptr y2 = ptr b' from h3)
          omega, ?_⟩
      refine ⟨y1, .cells #[.int .i64 (C.1 - A.1), .int .i64 (C.2 - A.2)] 55, ⟨_, rfl, store_point _ _ _ _ _ _, n1, rfl, by simp [upd, *], ⟨_, _, rfl⟩, rfl⟩, fun j' b' h1 h2 h3 => by
        have h5 : j' < 39 := h2
        have h4 : j' = 38 := by omega
        rcases h4 with rfl
        · have h6 := ptr_inj (show ptr y2 = ptr b' from h3)
          omega, ?_⟩
      refine ⟨y2, .cells #[.int .i64 (D.1 - A.1), .int .i64 (D.2 - A.2)] 55, ⟨_, rfl, store_point _ _ _ _ _ _, n2, rfl, by simp [upd, *], ⟨_, _, rfl⟩, rfl⟩, fun j' b' h1 h2 h3 => by
        have h5 : j' < 39 := h2
        omega, ?_⟩
      intro u hE1 hB1
      simp only [Act.put, List.setIfInBounds_toArray, List.set_cons_succ, List.set_cons_zero]
      simp only [ptr]
      have d1 := Ne.symm m1
      have d2 := Ne.symm m2.1
      have d3 := Ne.symm m2.2
      have h0 := boxed_has hB1 (b := y0) (cs := #[.int .i64 (B.1 - A.1), .int .i64 (B.2 - A.2)]) (t := 55) (by simp [upd, *])
      have f50 := Ext.keeps (h0 0 _ rfl)
      have f51 := Ext.keeps (h0 1 _ rfl)
      clear h0
      have h1 := boxed_has hB1 (b := y1) (cs := #[.int .i64 (C.1 - A.1), .int .i64 (C.2 - A.2)]) (t := 55) (by simp [upd, *])
      have f60 := Ext.keeps (h1 0 _ rfl)
      have f61 := Ext.keeps (h1 1 _ rfl)
      clear h1
      have h2 := boxed_has hB1 (b := y2) (cs := #[.int .i64 (D.1 - A.1), .int .i64 (D.2 - A.2)]) (t := 55) (by simp [upd, *])
      have f70 := Ext.keeps (h2 0 _ rfl)
      have f71 := Ext.keeps (h2 1 _ rfl)
      clear h2
      replace f02 := Ext.rebase hE1 f02
      replace f12 := Ext.rebase hE1 f12
      replace f22 := Ext.rebase hE1 f22
      replace f32 := Ext.rebase hE1 f32
      have HE3 := Lib.hid (HEV.out.trans hE1)
      clear hE1 hB1 n0 n1 n2 m0 m1 m2 d1 d2 d3 HEV f00 x0c0 f01 x0c1 f10 x1c0 f11 x1c1 f20 x2c0 f21 x2c1 f30 x3c0 f31 x3c1 x0c2 x1c2 x2c2 x3c2
      have k1 := det_bd6 hAB hAC
      have k2 := det_bd6 hAD hAC
      have k3 := det_bd6 hAB hAD
      have HX1 := Lib.hid (fun w' => cross_any (B.1 - A.1) (B.2 - A.2) (C.1 - A.1) (C.2 - A.2) (by omega) (by omega) (by omega) (by omega) (by omega) (by omega) (by omega) (by omega) w')
      have HX2 := Lib.hid (fun w' => cross_any (D.1 - A.1) (D.2 - A.2) (C.1 - A.1) (C.2 - A.2) (by omega) (by omega) (by omega) (by omega) (by omega) (by omega) (by omega) (by omega) w')
      have HX3 := Lib.hid (fun w' => cross_any (B.1 - A.1) (B.2 - A.2) (D.1 - A.1) (D.2 - A.2) (by omega) (by omega) (by omega) (by omega) (by omega) (by omega) (by omega) (by omega) w')
      generalize detI (B.1 - A.1) (B.2 - A.2) (C.1 - A.1) (C.2 - A.2) = t1 at *
      generalize detI (D.1 - A.1) (D.2 - A.2) (C.1 - A.1) (C.2 - A.2) = t2 at *
      generalize detI (B.1 - A.1) (B.2 - A.2) (D.1 - A.1) (D.2 - A.2) = t3 at *
      generalize B.1 - A.1 = r1 at *
      generalize B.2 - A.2 = r2 at *
      generalize C.1 - A.1 = s1 at *
      generalize C.2 - A.2 = s2 at *
      generalize D.1 - A.1 = q1 at *
      generalize D.2 - A.2 = q2 at *
      have p1 := mul_bd (A := 2000000) (D := 72) (a := d - a) (d := t1) (by omega) (by omega) (by omega) (by omega)
      have p2 := mul_bd (A := 2000000) (D := 72) (a := b - a) (d := t2) (by omega) (by omega) (by omega) (by omega)
      have p3 := mul_bd (A := 2000000) (D := 72) (a := c - a) (d := t3) (by omega) (by omega) (by omega) (by omega)
      clear hAB hAC hAD k1 k2 k3
      have hE : Ext u u := Ext.refl _
      have X0c0 := f02
      have X1c0 := f12
      have X2c0 := f22
      have X3c0 := f32
      have Y0c0 := f50
      have Y0c1 := f51
      have Y1c0 := f60
      have Y1c1 := f61
      have Y2c0 := f70
      have Y2c1 := f71
      clear f02 f12 f22 f32 f50 f51 f60 f61 f70 f71
      go_wp2
      have qX00 := fun s : Past u => X0c0 s.w s.ext
      have qX10 := fun s : Past u => X1c0 s.w s.ext
      have qX20 := fun s : Past u => X2c0 s.w s.ext
      have qX30 := fun s : Past u => X3c0 s.w s.ext
      have qY00 := fun s : Past u => Y0c0 s.w s.ext
      have qY01 := fun s : Past u => Y0c1 s.w s.ext
      have qY10 := fun s : Past u => Y1c0 s.w s.ext
      have qY11 := fun s : Past u => Y1c1 s.w s.ext
      have qY20 := fun s : Past u => Y2c0 s.w s.ext
      have qY21 := fun s : Past u => Y2c1 s.w s.ext
      refine wp_region_past u (by first | exact hE | exact Ext.alloc hE _ | exact Ext.drew hE | exact Ext.drewN hE _) (by kernel_rfl) (by kernel_rfl) ?_
      repeat (go_big_quiet_step ((first | (go_at_call 52; with_reducible exact past_ext (HX1.out _)) | (go_at_call 52; with_reducible exact past_ext (HX2.out _)) | (go_at_call 52; with_reducible exact past_ext (HX3.out _)))))
      refine wpQuiet_nil ?_
      intro w5 hw'
      obtain ⟨⟨_, hE⟩, hw''⟩ := hw'
      subst hw''
      clear qX00 qX10 qX20 qX30 qY00 qY01 qY10 qY11 qY20 qY21
      have HE5 := Lib.hid (HE3.out.trans hE)
      clear hE
      go_wp2
      go_ret
      exact ⟨by rw [HR.out] <;> rfl, HE5.out⟩
theorem above_any (a : Option Addr) (n cc : Nat) (zs : List (Int × Int × Int)) (i j k q : Nat) (hi : i < n) (hj : j < n) (hk : k < n) (hq : q < n) (hb : ∀ m, m < n → TermB zs m) (w : World) (h : Reads w a 3 n (tv zs)) :
    Calls Tryz.prog 60 #[.slice a n cc, .int .i64 i, .int .i64 j, .int .i64 k, .int .i64 q] w fun r w' => r = .returned (.int .i64 (aboveT zs i j k q)) ∧ Ext w w' := by
  obtain ⟨b, off, rfl, hc⟩ := term_cells h (by omega)
  exact above_raw b off n cc (pI zs i) (pI zs j) (pI zs k) (pI zs q) (cI zs i) (cI zs j) (cI zs k) (cI zs q) i j k q w hi hj hk hq (hb i hi) (hb j hj) (hb k hk) (hb q hq) (hc i hi) (hc j hj) (hc k hk) (hc q hq) _ rfl
end Go.Proofs.YtngbdopgdcjdeaaGreatDoor

namespace Go.Proofs.YtngbdopgdcjdeaaGreatDoor
open Go.RowKit

/-- What the first two cells of a subdivision hold: the terms, their points. -/
def SubOf (w : World) (g : Nat) (a : Option Addr) (n c : Nat) (zs : List (Int × Int × Int)) : Prop :=
  ∃ pa pc, w.cell? ⟨g, 0, none⟩ = some (.slice a n c) ∧ w.cell? ⟨g, 1, none⟩ = some (.slice pa n pc) ∧ Reads w a 3 n (tv zs) ∧ Reads w pa 2 n (pv (ptsL zs))
theorem SubOf.ext {w w' : World} {g : Nat} {a : Option Addr} {n c : Nat} {zs : List (Int × Int × Int)} (e : Ext w w') (h : SubOf w g a n c zs) : SubOf w' g a n c zs := by
  obtain ⟨pa, pc, h1, h2, h3, h4⟩ := h
  exact ⟨pa, pc, e.keep h1, e.keep h2, Reads.ext e h3, Reads.ext e h4⟩
theorem aboveT_bd {zs : List (Int × Int × Int)} {a b c t : Nat} (ha : TermB zs a) (hb : TermB zs b) (hc : TermB zs c) (ht : TermB zs t) : -1000000000 ≤ aboveT zs a b c t ∧ aboveT zs a b c t ≤ 1000000000 := by
  unfold TermB at ha hb hc ht
  have k1 := det_bd6 (p := pI zs b) (q := pI zs a) (r := pI zs c) (s := pI zs a) (by omega) (by omega)
  have k2 := det_bd6 (p := pI zs t) (q := pI zs a) (r := pI zs c) (s := pI zs a) (by omega) (by omega)
  have k3 := det_bd6 (p := pI zs b) (q := pI zs a) (r := pI zs t) (s := pI zs a) (by omega) (by omega)
  have p1 := mul_bd (A := 2000000) (D := 72) (a := cI zs t - cI zs a) (by omega) (by omega) k1.1 k1.2
  have p2 := mul_bd (A := 2000000) (D := 72) (a := cI zs b - cI zs a) (by omega) (by omega) k2.1 k2.2
  have p3 := mul_bd (A := 2000000) (D := 72) (a := cI zs c - cI zs a) (by omega) (by omega) k3.1 k3.2
  unfold aboveT
  omega
theorem pts_pat {zs : List (Int × Int × Int)} {k : Nat} (h : k < zs.length) : pat (ptsL zs) k = pI zs k := by
  rw [ptsL_pat h]
  rfl
set_option maxHeartbeats 4000000 in
theorem cellOf_any (g : Nat) (a : Option Addr) (n c : Nat) (zs : List (Int × Int × Int)) (hn : n ≤ 12) (hb : ∀ m, m < n → TermB zs m) (i j k : Nat) (hi : i < n) (hj : j < n) (hk : k < n) (w : World) (h : SubOf w g a n c zs) :
    Calls Tryz.prog 45 #[.pointer (some ⟨g, 0, none⟩), .int .i64 i, .int .i64 j, .int .i64 k] w (OwnsIntsB w.heap.size (gL (cellB zs i j k) (cellL zs i j k)) (cellB zs i j k) w) := by
  obtain ⟨ok, hok⟩ : ∃ ok, ok = cellB zs i j k := ⟨_, rfl⟩
  rw [← hok]
  have HOK := Lib.hid hok
  clear hok
  obtain ⟨pa, pc, s0, s1, hr, hp⟩ := h
  have hl : zs.length = n := by have := hr.1; rw [tv_len] at this; omega
  have HL := Lib.hid hl
  obtain ⟨b, off, rfl, i0, i1⟩ := hp.pair hi
  obtain ⟨b', off', e2, j0, j1⟩ := hp.pair hj
  simp only [Option.some.injEq, Addr.mk.injEq, and_true] at e2
  obtain ⟨rfl, rfl⟩ := e2
  obtain ⟨b', off', e2, k0, k1⟩ := hp.pair hk
  simp only [Option.some.injEq, Addr.mk.injEq, and_true] at e2
  obtain ⟨rfl, rfl⟩ := e2
  rw [pts_pat (by omega)] at i0 i1 j0 j1 k0 k1
  have bi := (hb i hi).PB
  have bj := (hb j hj).PB
  have bk := (hb k hk).PB
  have HB := Lib.hid hb
  have HR := Lib.hid hr
  have HS0 := Lib.hid (Ext.keeps s0)
  clear hl hb hr hp s0
  have hi1 : (i : Int) < (n : Int) := by omega
  have hj1 : (j : Int) < (n : Int) := by omega
  have hk1 : (k : Int) < (n : Int) := by omega
  go_enter Tryz.func45, Tryz.ntmps45
  have hE : Ext w w := Ext.refl _
  have Sc1 := Ext.keeps s1
  have Ic0 := Ext.keeps i0
  have Ic1 := Ext.keeps i1
  have Jc0 := Ext.keeps j0
  have Jc1 := Ext.keeps j1
  have Kc0 := Ext.keeps k0
  have Kc1 := Ext.keeps k1
  go_wp2
  have Sc0 := Sc1
  have qS1 := fun s : Past w => Sc1 s.w s.ext
  have qI0 := fun s : Past w => Ic0 s.w s.ext
  have qI1 := fun s : Past w => Ic1 s.w s.ext
  have qJ0 := fun s : Past w => Jc0 s.w s.ext
  have qJ1 := fun s : Past w => Jc1 s.w s.ext
  have qK0 := fun s : Past w => Kc0 s.w s.ext
  have qK1 := fun s : Past w => Kc1 s.w s.ext
  refine wp_region_past w (by first | exact hE | exact Ext.alloc hE _ | exact Ext.drew hE | exact Ext.drewN hE _) (by kernel_rfl) (by kernel_rfl) ?_
  repeat (go_big_quiet_step (((go_at_call 59; exact past_ext (turn_any _ _ _ (by assumption) (by assumption) (by assumption) _)))))
  refine wpQuiet_nil ?_
  intro w2 hw'
  obtain ⟨⟨_, hE⟩, hw''⟩ := hw'
  subst hw''
  clear qI0 qI1 qJ0 qJ1 qK0 qK1
  clear Sc0 Sc1 Ic0 Ic1 Jc0 Jc1 Kc0 Kc1 qS1 i0 i1 j0 j1 k0 k1 s1
  have HS := Lib.hid (fun w' (e : Ext w w') => HS0.out w' e)
  by_cases hz : turnI (pI zs i) (pI zs j) (pI zs k) = 0
  · have hof : ok = false := by rw [HOK.out]; unfold cellB; simp [turnT, hz]
    clear HOK
    subst hof
    go_wp2
    go_ret2
    exact ⟨none, 0, rfl, own_none1 _ _, hE⟩
  · have HZ := Lib.hid (show turnT zs i j k ≠ 0 from hz)
    have HT0 := Lib.hid (show turnT zs i j k = turnI (pI zs i) (pI zs j) (pI zs k) from rfl)
    generalize turnI (pI zs i) (pI zs j) (pI zs k) = q at *
    have hz2 : (q == 0) = false := by simpa using hz
    clear hz
    obtain ⟨w3, hw3⟩ : ∃ w3, w3 = w2 := ⟨_, rfl⟩
    subst hw3
    have hE2 := hE
    have s0 := HS.out _ hE2
    have HW2 := Lib.hid hE2
    clear hE hE2
    have hs2 := HW2.out.size
    have hgl := lt_of_cell s0
    go_wp2
    go_loopw [11, 44] (fun s t wr => ∃ (m : Nat) (a1 : Option Addr) (c1 : Nat), m ≤ n ∧ t = .int .i64 m ∧ Hid (cellTo zs i j k m = true) ∧ s = .slice a1 (onTo' zs i j k m).length c1 ∧ wr.ownsRow w.heap.size 3 1 (.slice a1 (onTo' zs i j k m).length c1) (onTo' zs i j k m).length (iv (onTo' zs i j k m)) ∧ Ext w wr) (fun _ t _ => n - (intOf t).toNat)
    case atStart => exact ⟨0, some ⟨w3.heap.size, 0, none⟩, 0, Nat.zero_le _, rfl, Lib.hid rfl, rfl, World.ownsRow_lit w3 #[] 0 hs2 (by unfold maxLen; omega) rfl, Ext.alloc HW2.out _⟩
    case round =>
      clear hs2 s0 hgl
      obtain ⟨m, a1, c1, hm, rfl, HT, rfl, hown, hE⟩ := hrel
      have hple := onTo'_len zs i j k m
      by_cases hlt : m < n
      · have HC := Lib.hid (above_any a n c zs i j k m hi hj hk hlt HB.out wr (Reads.ext hE HR.out))
        have s0 := HS.out wr hE
        have hgl := lt_of_cell s0
        have hbd := aboveT_bd (HB.out i hi) (HB.out j hj) (HB.out k hk) (HB.out m hlt)
        have HH := Lib.hid (show hT zs i j k m = if q < 0 then -aboveT zs i j k m else aboveT zs i j k m by unfold hT; rw [HT0.out])
        have HS1 := Lib.hid (onTo'_succ zs i j k m)
        have HT1 := Lib.hid (fun e : 0 ≤ hT zs i j k m => show cellTo zs i j k (m + 1) = true by rw [cellTo_succ, HT.out]; simpa using e)
        have HF := Lib.hid (fun e : hT zs i j k m < 0 => show ok = false by rw [HOK.out]; unfold cellB; rw [cellTo_le (by rw [HL.out]; exact hlt) (by omega)]; simp)
        generalize onTo' zs i j k m = ps at *
        generalize hT zs i j k m = u at *
        generalize aboveT zs i j k m = v at *
        have hsz := hE.size
        have HE := Lib.hid hE
        have hmi : (m : Int) < (n : Int) := by omega
        clear hE
        go_wp2_with fail
        refine HC.out.mono ?_
        rintro e w4 ⟨rfl, hb⟩
        have hs4 := hb.size
        have HE4 := Lib.hid (HE.out.trans hb)
        have hown4 := own_ext hb hown
        clear hown hb HC s0 hgl
        by_cases hq : q < 0
        · have hu : -v = u := by rw [HH.out, if_pos hq]
          have hw : IntKind.i64.wrap (-v) = u := by rw [← hu]; exact wrap_i64 (by omega) (by omega)
          have HU := Lib.hid hu
          clear hu HH
          rcases Int.lt_trichotomy u 0 with hv | hv | hv
          · have hof : ok = false := HF.out hv
            clear HF HT1 HS1 HOK
            subst hof
            go_wp2
            go_ret2
            exact ⟨none, 0, rfl, own_none1 _ _, HE4.out⟩
          · have HP := Lib.hid (HT1.out (by omega))
            have HS2 := Lib.hid (HS1.out.trans (if_pos hv))
            clear HF HT1 HS1
            subst hv
            have hb4 := HE4.out.size
            go_wp2_with (at_builtin; refine wpList_app1 rfl _ _ rfl w w.heap.size _ _ _ ps (m : Int) rfl (own_ext ((Ext.refl w4).alloc _) hown4) w4.heap.size rfl (by simp) (by omega) (by simp; omega) (HE4.out.alloc _) (Nat.le_refl _) ?_)
            intro a2 c2 w5 hown5 hE5
            go_wp2
            go_roundw
            case rel => exact ⟨m + 1, a2, c2, by omega, by go_num, HP, by rw [HS2.out]; simp, by rw [HS2.out]; simpa using hown5, hE5⟩
            case measure => simp [intOf]; omega
          · have HP := Lib.hid (HT1.out (by omega))
            have HS2 := Lib.hid (HS1.out.trans (if_neg (by omega)))
            clear HF HT1 HS1
            go_wp2
            go_roundw
            case rel => exact ⟨m + 1, a1, c1, by omega, by go_num, HP, by rw [HS2.out], by rw [HS2.out]; exact hown4, HE4.out⟩
            case measure => simp [intOf]; omega
        · have hu : u = v := by rw [HH.out, if_neg hq]
          subst hu
          clear HH
          rcases Int.lt_trichotomy u 0 with hv | hv | hv
          · have hof : ok = false := HF.out hv
            clear HF HT1 HS1 HOK
            subst hof
            go_wp2
            go_ret2
            exact ⟨none, 0, rfl, own_none1 _ _, HE4.out⟩
          · have HP := Lib.hid (HT1.out (by omega))
            have HS2 := Lib.hid (HS1.out.trans (if_pos hv))
            clear HF HT1 HS1
            subst hv
            have hb4 := HE4.out.size
            go_wp2_with (at_builtin; refine wpList_app1 rfl _ _ rfl w w.heap.size _ _ _ ps (m : Int) rfl (own_ext ((Ext.refl w4).alloc _) hown4) w4.heap.size rfl (by simp) (by omega) (by simp; omega) (HE4.out.alloc _) (Nat.le_refl _) ?_)
            intro a2 c2 w5 hown5 hE5
            go_wp2
            go_roundw
            case rel => exact ⟨m + 1, a2, c2, by omega, by go_num, HP, by rw [HS2.out]; simp, by rw [HS2.out]; simpa using hown5, hE5⟩
            case measure => simp [intOf]; omega
          · have HP := Lib.hid (HT1.out (by omega))
            have HS2 := Lib.hid (HS1.out.trans (if_neg (by omega)))
            clear HF HT1 HS1
            go_wp2
            go_roundw
            case rel => exact ⟨m + 1, a1, c1, by omega, by go_num, HP, by rw [HS2.out], by rw [HS2.out]; exact hown4, HE4.out⟩
            case measure => simp [intOf]; omega
      · obtain rfl : m = n := by omega
        have hot : ok = true := by rw [HOK.out]; unfold cellB; rw [HL.out, HT.out]; simpa using HZ.out
        have HV := Lib.hid (show cellL zs i j k = onTo' zs i j k m by unfold cellL; rw [HL.out])
        clear HOK
        subst hot
        go_wp2
        go_ret2
        exact ⟨a1, c1, by simp only [gL, if_true]; rw [HV.out] <;> rfl, by simp only [gL, if_true]; rw [HV.out]; exact hown, hE⟩
end Go.Proofs.YtngbdopgdcjdeaaGreatDoor

namespace Go.Proofs.YtngbdopgdcjdeaaGreatDoor

/-- The number of the first term with a point. -/
def idxFrom (zs : List (Int × Int × Int)) (p : Int × Int) : Nat → Nat → Nat
  | 0, k => k
  | d + 1, k => if pI zs k = p then k else idxFrom zs p d (k + 1)
def idxT (zs : List (Int × Int × Int)) (p : Int × Int) : Nat := idxFrom zs p zs.length 0
/-- The points of a cell, its corners, their terms' numbers. -/
def ptsC (zs : List (Int × Int × Int)) (x : List Int) : List (Int × Int) := x.map fun y => pI zs y.toNat
def hullC (zs : List (Int × Int × Int)) (x : List Int) : List (Int × Int) := hullL (ptsC zs x)
def cornC (zs : List (Int × Int × Int)) (x : List Int) : List Int := (hullC zs x).map fun p => (idxT zs p : Int)
/-- The side behind corner k. -/
def sideC (zs : List (Int × Int × Int)) (x : List Int) (k : Nat) : List Int :=
  [min ((cornC zs x).getD k 0) ((cornC zs x).getD ((k + 1) % (cornC zs x).length) 0), max ((cornC zs x).getD k 0) ((cornC zs x).getD ((k + 1) % (cornC zs x).length) 0)]
def pairsTo (zs : List (Int × Int × Int)) (x : List Int) (k : Nat) : List (List Int) := (List.range k).map (sideC zs x)
def pairsL (zs : List (Int × Int × Int)) (x : List Int) : List (List Int) := pairsTo zs x (cornC zs x).length
/-- The sides in order, as the reference puts them in. -/
def putTo (l : List (List Int)) : Nat → List (List Int)
  | 0 => []
  | k + 1 => putR (putTo l k) (l.getD k [])
def sidesL (zs : List (Int × Int × Int)) (x : List Int) : List (List Int) := putTo (pairsL zs x) (pairsL zs x).length
theorem mem_putTo {l : List (List Int)} {z : List Int} : ∀ k, k ≤ l.length → (z ∈ putTo l k ↔ z ∈ l.take k)
  | 0, _ => by simp [putTo]
  | k + 1, h => by
    rw [putTo, mem_putR, mem_putTo k (by omega), List.take_succ_eq_append_getElem (show k < l.length by omega), List.mem_append, List.mem_singleton]
    rw [show l.getD k [] = l[k]'(by omega) by simp [List.getD, show k < l.length by omega]]
    exact ⟨fun h => h.symm, fun h => h.symm⟩
theorem sort_putTo (l : List (List Int)) : ∀ k, SortL (putTo l k)
  | 0 => .nil
  | k + 1 => sort_putR (sort_putTo l k)
theorem sort_sidesL (zs : List (Int × Int × Int)) (x : List Int) : SortL (sidesL zs x) := sort_putTo _ _
theorem mem_sidesL {zs : List (Int × Int × Int)} {x e : List Int} : e ∈ sidesL zs x ↔ e ∈ pairsL zs x := by
  unfold sidesL
  rw [mem_putTo _ (Nat.le_refl _), List.take_length]
/-- The points of the terms are one another's like nowhere. -/
def Apt (zs : List (Int × Int × Int)) : Prop := ∀ i j, i < j → j < zs.length → lexP (pI zs i) (pI zs j)
theorem Apt.inj {zs : List (Int × Int × Int)} (h : Apt zs) {i j : Nat} (hi : i < zs.length) (hj : j < zs.length) (e : pI zs i = pI zs j) : i = j := by
  rcases (show i < j ∨ i = j ∨ j < i by omega) with h1 | h1 | h1
  · have := h i j h1 hj; rw [e] at this; exact absurd this (lexP_irrefl _)
  · exact h1
  · have := h j i h1 hi; rw [e] at this; exact absurd this (lexP_irrefl _)
theorem idxFrom_hit {zs : List (Int × Int × Int)} (h : Apt zs) {t : Nat} (ht : t < zs.length) : ∀ d k, k ≤ t → t < k + d → idxFrom zs (pI zs t) d k = t
  | 0, k, h1, h2 => by omega
  | d + 1, k, h1, h2 => by
    rw [idxFrom]
    split
    · rename_i e
      exact h.inj (by omega) ht e
    · rename_i e
      have : k ≠ t := fun hk => e (by rw [hk])
      exact idxFrom_hit h ht d (k + 1) (by omega) (by omega)
theorem idxT_hit {zs : List (Int × Int × Int)} (h : Apt zs) {t : Nat} (ht : t < zs.length) : idxT zs (pI zs t) = t := idxFrom_hit h ht _ _ (Nat.zero_le _) (by omega)

theorem cell_mem {zs : List (Int × Int × Int)} {x : List Int} (hx : IsCell zs x) {y : Int} (hy : y ∈ x) : ∃ t : Nat, t < zs.length ∧ y = t := by
  obtain ⟨a, b, c, _, _, _, _, rfl⟩ := hx
  obtain ⟨t, h1, _, h2⟩ := mem_cellL.1 hy
  exact ⟨t, h1, h2⟩

section
variable {zs : List (Int × Int × Int)} (hA : Apt zs) {x : List Int} (hx : IsCell zs x)
include hA hx
theorem ptsC_sorted : (ptsC zs x).Pairwise lexP := by
  have hr : x.Pairwise (· < ·) := by obtain ⟨a, b, c, _, _, _, _, rfl⟩ := hx; exact cellL_rise zs a b c
  unfold ptsC
  rw [List.pairwise_map]
  refine List.Pairwise.imp_of_mem (fun {u v} hu hv huv => ?_) hr
  obtain ⟨t, h1, rfl⟩ := cell_mem hx hu
  obtain ⟨s, h2, rfl⟩ := cell_mem hx hv
  exact hA t s (by omega) h2
theorem ptsC_wide : Wide (ptsC zs x) ∧ 2 ≤ (ptsC zs x).length := by
  obtain ⟨a, b, c, h1, h2, h3, h4, rfl⟩ := hx
  have hm : ∀ t : Nat, t = a ∨ t = b ∨ t = c → pI zs t ∈ ptsC zs (cellL zs a b c) := fun t ht => by
    refine List.mem_map.2 ⟨(t : Int), mem_cellL.2 ⟨t, by omega, ?_, rfl⟩, by simp⟩
    have := hT_self zs a b c
    rcases ht with rfl | rfl | rfl
    · exact this.1
    · exact this.2.1
    · exact this.2.2
  have ha := hm a (.inl rfl)
  have hb := hm b (.inr (.inl rfl))
  have hc := hm c (.inr (.inr rfl))
  simp only [cellB, Bool.and_eq_true, decide_eq_true_eq] at h4
  refine ⟨⟨_, _, _, ha, hb, hc, h4.1⟩, ?_⟩
  rcases (show (ptsC zs (cellL zs a b c)).length = 0 ∨ (ptsC zs (cellL zs a b c)).length = 1 ∨ 2 ≤ (ptsC zs (cellL zs a b c)).length by omega) with h | h | h
  · rw [List.eq_nil_of_length_eq_zero h] at ha; cases ha
  · exfalso
    obtain ⟨p, hp⟩ := List.length_eq_one_iff.1 h
    rw [hp, List.mem_singleton] at ha hb
    have := hA a b h1 (by omega)
    rw [ha, hb] at this
    exact lexP_irrefl _ this
  · exact h
/-- A corner's term. -/
theorem corn_term {k : Nat} (hk : k < (cornC zs x).length) : ∃ t : Nat, t < zs.length ∧ (t : Int) ∈ x ∧ (hullC zs x).getD k (0, 0) = pI zs t ∧ (cornC zs x).getD k 0 = (t : Int) := by
  obtain ⟨m, n, hH⟩ := hull_w (ptsC_wide hA hx).2 (ptsC_sorted hA hx)
  have hl : (cornC zs x).length = m + n := by unfold cornC hullC; rw [List.length_map, hH.len]
  have hmem := hH.mem k (by omega)
  obtain ⟨y, hy, he⟩ := List.mem_map.1 hmem
  obtain ⟨t, h1, rfl⟩ := cell_mem hx hy
  rw [Int.toNat_natCast] at he
  refine ⟨t, h1, hy, he.symm, ?_⟩
  have hk2 : k < (hullC zs x).length := by unfold cornC at hk; rwa [List.length_map] at hk
  unfold cornC
  rw [List.getD, List.getElem?_map, List.getElem?_eq_getElem hk2]
  simp only [Option.map_some, Option.getD_some]
  have e2 : (hullC zs x)[k] = pI zs t := by
    have : (hullC zs x).getD k (0, 0) = (hullC zs x)[k] := by simp [List.getD, hk2]
    rw [← this]; exact he.symm
  rw [e2, idxT_hit hA h1]
theorem corn_len : ∃ m n, HullW (ptsC zs x) m n (hullC zs x) ∧ (cornC zs x).length = m + n ∧ 3 ≤ m + n := by
  obtain ⟨m, n, hH⟩ := hull_w (ptsC_wide hA hx).2 (ptsC_sorted hA hx)
  exact ⟨m, n, hH, by unfold cornC hullC; rw [List.length_map, hH.len], hH.three (ptsC_wide hA hx).1⟩
/-- A side: two terms of the cell in order, and which way the cell lies. -/
theorem side_of {k : Nat} (hk : k < (cornC zs x).length) : ∃ i j : Nat, i < j ∧ j < zs.length ∧ sideC zs x k = [(i : Int), (j : Int)] ∧ (i : Int) ∈ x ∧ (j : Int) ∈ x ∧
    (((hullC zs x).getD k (0, 0) = pI zs i ∧ (hullC zs x).getD ((k + 1) % (cornC zs x).length) (0, 0) = pI zs j) ∨ ((hullC zs x).getD k (0, 0) = pI zs j ∧ (hullC zs x).getD ((k + 1) % (cornC zs x).length) (0, 0) = pI zs i)) := by
  obtain ⟨m, n, hH, hl, h3⟩ := corn_len hA hx
  have hk1 : (k + 1) % (cornC zs x).length < (cornC zs x).length := Nat.mod_lt _ (by omega)
  obtain ⟨s, s1, s2, s3, s4⟩ := corn_term hA hx hk
  obtain ⟨t, t1, t2, t3, t4⟩ := corn_term hA hx hk1
  have hne : s ≠ t := by
    intro e
    have := hH.ne (k := k) (by omega)
    rw [← hl, s3, t3, e] at this
    exact this rfl
  unfold sideC
  rw [s4, t4]
  rcases (show s < t ∨ t < s by omega) with h | h
  · exact ⟨s, t, h, t1, by rw [Int.min_eq_left (by omega), Int.max_eq_right (by omega)], s2, t2, .inl ⟨s3, t3⟩⟩
  · exact ⟨t, s, h, s1, by rw [Int.min_eq_right (by omega), Int.max_eq_left (by omega)], t2, s2, .inr ⟨s3, t3⟩⟩
theorem pairsL_nodup : (pairsL zs x).Nodup := by
  obtain ⟨m, n, hH, hl, h3⟩ := corn_len hA hx
  unfold pairsL pairsTo
  rw [List.Nodup, List.pairwise_map, List.pairwise_iff_getElem]
  intro i j hi hj hij e
  simp only [List.length_range] at hi hj
  simp only [List.getElem_range] at e
  obtain ⟨a, b, h1, h2, h4, _, _, h5⟩ := side_of hA hx hi
  obtain ⟨c, d, h6, h7, h8, _, _, h9⟩ := side_of hA hx hj
  rw [h4, h8] at e
  simp only [List.cons.injEq, and_true] at e
  obtain rfl : a = c := by omega
  obtain rfl : b = d := by omega
  rw [hl] at h5 h9 hi hj
  rcases h5 with ⟨u1, u2⟩ | ⟨u1, u2⟩ <;> rcases h9 with ⟨v1, v2⟩ | ⟨v1, v2⟩
  · exact hH.once hij hj ⟨u1.trans v1.symm, u2.trans v2.symm⟩
  · exact hH.back (ptsC_wide hA ‹_›).1 hi hj ⟨u1.trans v2.symm, u2.trans v1.symm⟩
  · exact hH.back (ptsC_wide hA ‹_›).1 hi hj ⟨u1.trans v2.symm, u2.trans v1.symm⟩
  · exact hH.once hij hj ⟨u1.trans v1.symm, u2.trans v2.symm⟩
/-- Which way the cell lies from a side: to the left of the way from i to j, or to the right; and a corner is not on it. -/
theorem side_way {e : List Int} (he : e ∈ pairsL zs x) : ∃ i j : Nat, i < j ∧ j < zs.length ∧ e = [(i : Int), (j : Int)] ∧ (i : Int) ∈ x ∧ (j : Int) ∈ x ∧
    (((∀ y : Nat, (y : Int) ∈ x → 0 ≤ turnT zs i j y) ∧ ∃ r : Nat, (r : Int) ∈ x ∧ 0 < turnT zs i j r ∧ pI zs r ∈ hullC zs x) ∨ ((∀ y : Nat, (y : Int) ∈ x → 0 ≤ turnT zs j i y) ∧ ∃ r : Nat, (r : Int) ∈ x ∧ 0 < turnT zs j i r ∧ pI zs r ∈ hullC zs x)) := by
  obtain ⟨m, n, hH, hl, h3⟩ := corn_len hA hx
  have hW := (ptsC_wide hA hx).1
  unfold pairsL pairsTo at he
  obtain ⟨k, hk, rfl⟩ := List.mem_map.1 he
  rw [List.mem_range] at hk
  obtain ⟨i, j, h1, h2, h4, h5, h6, h7⟩ := side_of hA hx hk
  have hsup := hH.sup k (by omega)
  obtain ⟨q, hq, hqt⟩ := hH.left hW (k := k) (by omega)
  obtain ⟨r, r1, r2, r3, _⟩ := corn_term hA hx (k := q) (by omega)
  rw [hl] at h7
  have hin : ∀ y : Nat, (y : Int) ∈ x → pI zs y ∈ ptsC zs x := fun y hy => List.mem_map.2 ⟨(y : Int), hy, by simp⟩
  have hrh : pI zs r ∈ hullC zs x := by
    rw [← r3]
    have : q < (hullC zs x).length := by rw [hH.len]; omega
    rw [show (hullC zs x).getD q (0, 0) = (hullC zs x)[q] by simp [List.getD, this]]
    exact List.getElem_mem _
  refine ⟨i, j, h1, h2, h4, h5, h6, ?_⟩
  rcases h7 with ⟨u1, u2⟩ | ⟨u1, u2⟩
  · refine .inl ⟨fun y hy => ?_, r, r2, ?_, hrh⟩
    · have := hsup _ (hin y hy); rwa [u1, u2] at this
    · rwa [u1, u2, r3] at hqt
  · refine .inr ⟨fun y hy => ?_, r, r2, ?_, hrh⟩
    · have := hsup _ (hin y hy); rwa [u1, u2] at this
    · rwa [u1, u2, r3] at hqt
end

/-- The numbers of the cells that have a side. -/
def atE (zs : List (Int × Int × Int)) (e : List Int) (k : Nat) : List Int := ((List.range k).filter fun n => decide (e ∈ pairsL zs ((cellsL zs).getD n []))).map fun n : Nat => (n : Int)
def sidesAt (zs : List (Int × Int × Int)) (e : List Int) : List Int := atE zs e (cellsL zs).length
theorem atE_succ (zs : List (Int × Int × Int)) (e : List Int) (k : Nat) : atE zs e (k + 1) = if e ∈ pairsL zs ((cellsL zs).getD k []) then atE zs e k ++ [(k : Int)] else atE zs e k := by
  unfold atE
  rw [List.range_succ, List.filter_append, List.map_append]
  by_cases h : e ∈ pairsL zs ((cellsL zs).getD k [])
  · simp only [List.filter_cons, List.filter_nil, h, decide_true, if_true, List.map_cons, List.map_nil]
  · simp only [List.filter_cons, List.filter_nil, h, decide_false, if_false, List.map_nil, List.append_nil, Bool.false_eq_true]
theorem count_one : ∀ {l : List (List Int)}, l.Nodup → ∀ e, l.count e ≤ 1
  | [], _, e => by simp
  | a :: r, h, e => by
    have h1 := List.nodup_cons.1 h
    rw [List.count_cons]
    by_cases he : a = e
    · subst he
      rw [List.count_eq_zero.2 h1.1]; simp
    · have := count_one h1.2 e
      simp [he]; exact this
/-- All sides of all cells, cell for cell. -/
def allTo (zs : List (Int × Int × Int)) (k : Nat) : List (List Int) := ((cellsL zs).take k).flatMap (sidesL zs)
def allE (zs : List (Int × Int × Int)) : List (List Int) := (cellsL zs).flatMap (sidesL zs)
def onceL (zs : List (Int × Int × Int)) : List (List Int) := (foldE (allE zs)).1
def twiceL (zs : List (Int × Int × Int)) : List (List Int) := (foldE (allE zs)).2
theorem cell_at {zs : List (Int × Int × Int)} {k : Nat} (h : k < (cellsL zs).length) : IsCell zs ((cellsL zs).getD k []) := by
  rw [show (cellsL zs).getD k [] = (cellsL zs)[k] by simp [List.getD, h]]
  exact mem_cellsL.1 (List.getElem_mem _)
theorem count_sides {zs : List (Int × Int × Int)} (hA : Apt zs) (e : List Int) : ∀ k, k ≤ (cellsL zs).length → (allTo zs k).count e = (atE zs e k).length
  | 0, _ => by simp [allTo, atE]
  | k + 1, h => by
    have ih := count_sides hA e k (by omega)
    have e1 : allTo zs (k + 1) = allTo zs k ++ sidesL zs ((cellsL zs).getD k []) := by
      unfold allTo
      rw [List.take_succ_eq_append_getElem (show k < (cellsL zs).length by omega), List.flatMap_append]
      simp [List.getD, show k < (cellsL zs).length by omega]
    rw [e1, List.count_append, ih, atE_succ]
    have hn := (sort_sidesL zs ((cellsL zs).getD k [])).nodup
    by_cases hm : e ∈ pairsL zs ((cellsL zs).getD k [])
    · rw [if_pos hm, List.length_append]
      have h1 : 1 ≤ (sidesL zs ((cellsL zs).getD k [])).count e := List.one_le_count_iff.2 (mem_sidesL.2 hm)
      have h2 := count_one hn e
      rw [show [(k : Int)].length = 1 from rfl]
      omega
    · rw [if_neg hm, List.count_eq_zero.2 (fun h => hm (mem_sidesL.1 h))]; rfl
theorem sidesAt_count {zs : List (Int × Int × Int)} (hA : Apt zs) (e : List Int) : (allE zs).count e = (sidesAt zs e).length := by
  have := count_sides hA e _ (Nat.le_refl _)
  unfold allTo at this
  rw [List.take_length] at this
  exact this
theorem mem_onceL {zs : List (Int × Int × Int)} (hA : Apt zs) {e : List Int} : e ∈ onceL zs ↔ 0 < (sidesAt zs e).length := by
  rw [← sidesAt_count hA]
  exact ((foldE_spec (allE zs)).2.2.1 e).trans (List.count_pos_iff).symm
theorem mem_twiceL {zs : List (Int × Int × Int)} (hA : Apt zs) {e : List Int} : e ∈ twiceL zs ↔ 2 ≤ (sidesAt zs e).length := by
  rw [← sidesAt_count hA]
  exact (foldE_spec (allE zs)).2.2.2 e
theorem sort_onceL (zs : List (Int × Int × Int)) : SortL (onceL zs) := (foldE_spec (allE zs)).1
theorem sort_twiceL (zs : List (Int × Int × Int)) : SortL (twiceL zs) := (foldE_spec (allE zs)).2.1
/-- A side lies in at most two cells. -/
theorem sidesAt_two {zs : List (Int × Int × Int)} (hA : Apt zs) (e : List Int) : (sidesAt zs e).length ≤ 2 := by
  rcases Nat.lt_or_ge 2 (sidesAt zs e).length with h | h
  · exfalso
    have hs : (sidesAt zs e).Pairwise (· < ·) := by
      unfold sidesAt atE
      rw [List.pairwise_map]
      exact ((List.pairwise_lt_range).sublist List.filter_sublist).imp fun h => by omega
    have hm : ∀ q, q < (sidesAt zs e).length → ∃ n : Nat, n < (cellsL zs).length ∧ (sidesAt zs e)[q]? = some (n : Int) ∧ e ∈ pairsL zs ((cellsL zs).getD n []) := by
      intro q hq
      have := List.getElem_mem hq
      unfold sidesAt atE at this
      obtain ⟨n, hn, he⟩ := List.mem_map.1 this
      rw [List.mem_filter, List.mem_range, decide_eq_true_eq] at hn
      exact ⟨n, hn.1, by rw [List.getElem?_eq_getElem hq]; congr 1; exact he.symm, hn.2⟩
    obtain ⟨a, a1, a2, a3⟩ := hm 0 (by omega)
    obtain ⟨b, b1, b2, b3⟩ := hm 1 (by omega)
    obtain ⟨c, c1, c2, c3⟩ := hm 2 (by omega)
    have lt : ∀ i j n m : Nat, i < j → (sidesAt zs e)[i]? = some (n : Int) → (sidesAt zs e)[j]? = some (m : Int) → n < m := by
      intro i j n m hij h1 h2
      obtain ⟨x1, y1⟩ := List.getElem?_eq_some_iff.1 h1
      obtain ⟨x2, y2⟩ := List.getElem?_eq_some_iff.1 h2
      have := (List.pairwise_iff_getElem.1 hs) i j x1 x2 hij
      omega
    have hab := lt 0 1 a b (by omega) a2 b2
    have hbc := lt 1 2 b c (by omega) b2 c2
    have hne : ∀ n m : Nat, n < m → m < (cellsL zs).length → (cellsL zs).getD n [] ≠ (cellsL zs).getD m [] := by
      intro n m h1 h2 he
      have hN := (sort_cellsL zs).nodup
      rw [show (cellsL zs).getD n [] = (cellsL zs)[n]'(by omega) by simp [List.getD, show n < (cellsL zs).length by omega], show (cellsL zs).getD m [] = (cellsL zs)[m] by simp [List.getD, h2]] at he
      exact absurd he ((List.pairwise_iff_getElem.1 hN) n m (by omega) h2 h1)
    have key : ∀ n : Nat, n < (cellsL zs).length → e ∈ pairsL zs ((cellsL zs).getD n []) → ∃ i j : Nat, i < j ∧ j < zs.length ∧ e = [(i : Int), (j : Int)] ∧ (i : Int) ∈ (cellsL zs).getD n [] ∧ (j : Int) ∈ (cellsL zs).getD n [] ∧
        ((∃ r : Nat, (r : Int) ∈ (cellsL zs).getD n [] ∧ 0 < turnT zs i j r) ∨ (∃ r : Nat, (r : Int) ∈ (cellsL zs).getD n [] ∧ 0 < turnT zs j i r)) := by
      intro n hn he
      obtain ⟨i, j, h1, h2, h3, h4, h5, h6⟩ := side_way hA (cell_at hn) he
      refine ⟨i, j, h1, h2, h3, h4, h5, ?_⟩
      rcases h6 with ⟨_, r, r1, r2, _⟩ | ⟨_, r, r1, r2, _⟩
      · exact .inl ⟨r, r1, r2⟩
      · exact .inr ⟨r, r1, r2⟩
    have same : ∀ n m : Nat, n < m → m < (cellsL zs).length → e ∈ pairsL zs ((cellsL zs).getD n []) → e ∈ pairsL zs ((cellsL zs).getD m []) →
        ∀ i j : Nat, i < j → j < zs.length → e = [(i : Int), (j : Int)] → ¬ ((∃ r : Nat, (r : Int) ∈ (cellsL zs).getD n [] ∧ 0 < turnT zs i j r) ∧ ∃ r : Nat, (r : Int) ∈ (cellsL zs).getD m [] ∧ 0 < turnT zs i j r) ∧
          ¬ ((∃ r : Nat, (r : Int) ∈ (cellsL zs).getD n [] ∧ 0 < turnT zs j i r) ∧ ∃ r : Nat, (r : Int) ∈ (cellsL zs).getD m [] ∧ 0 < turnT zs j i r) := by
      intro n m hnm hm hn' hm' i j hij hj he
      obtain ⟨i1, j1, _, _, q3, q4, q5, _⟩ := key n (by omega) hn'
      obtain ⟨i2, j2, _, _, p3, p4, p5, _⟩ := key m hm hm'
      rw [he] at q3 p3
      simp only [List.cons.injEq, and_true] at q3 p3
      obtain rfl : i = i1 := by omega
      obtain rfl : j = j1 := by omega
      obtain rfl : i = i2 := by omega
      obtain rfl : j = j2 := by omega
      have hpij : pI zs i ≠ pI zs j := fun e => by have := hA.inj (by omega) hj e; omega
      constructor
      · rintro ⟨⟨r, r1, r2⟩, s, s1, s2⟩
        exact hne n m hnm hm (same_side (cell_at (by omega)) (cell_at hm) hpij q4 q5 p4 p5 r1 s1 r2 s2)
      · rintro ⟨⟨r, r1, r2⟩, s, s1, s2⟩
        exact hne n m hnm hm (same_side (cell_at (by omega)) (cell_at hm) hpij.symm q5 q4 p5 p4 r1 s1 r2 s2)
    obtain ⟨i, j, g1, g2, g3, _, _, ga⟩ := key a a1 a3
    have gb : (∃ r : Nat, (r : Int) ∈ (cellsL zs).getD b [] ∧ 0 < turnT zs i j r) ∨ (∃ r : Nat, (r : Int) ∈ (cellsL zs).getD b [] ∧ 0 < turnT zs j i r) := by
      obtain ⟨i1, j1, _, _, q3, _, _, q6⟩ := key b b1 b3
      rw [g3] at q3
      simp only [List.cons.injEq, and_true] at q3
      obtain rfl : i = i1 := by omega
      obtain rfl : j = j1 := by omega
      exact q6
    have gc : (∃ r : Nat, (r : Int) ∈ (cellsL zs).getD c [] ∧ 0 < turnT zs i j r) ∨ (∃ r : Nat, (r : Int) ∈ (cellsL zs).getD c [] ∧ 0 < turnT zs j i r) := by
      obtain ⟨i1, j1, _, _, q3, _, _, q6⟩ := key c c1 c3
      rw [g3] at q3
      simp only [List.cons.injEq, and_true] at q3
      obtain rfl : i = i1 := by omega
      obtain rfl : j = j1 := by omega
      exact q6
    have sab := same a b hab b1 a3 b3 i j g1 g2 g3
    have sac := same a c (by omega) c1 a3 c3 i j g1 g2 g3
    have sbc := same b c hbc c1 b3 c3 i j g1 g2 g3
    rcases ga with ga | ga <;> rcases gb with gb | gb <;> rcases gc with gc | gc
    · exact sab.1 ⟨ga, gb⟩
    · exact sab.1 ⟨ga, gb⟩
    · exact sac.1 ⟨ga, gc⟩
    · exact sbc.2 ⟨gb, gc⟩
    · exact sbc.1 ⟨gb, gc⟩
    · exact sac.2 ⟨ga, gc⟩
    · exact sab.2 ⟨ga, gb⟩
    · exact sab.2 ⟨ga, gb⟩
  · exact h
theorem mem_twice_len {zs : List (Int × Int × Int)} (hA : Apt zs) {e : List Int} : e ∈ twiceL zs ↔ (sidesAt zs e).length = 2 := by
  rw [mem_twiceL hA]
  have := sidesAt_two hA e
  omega
/-- The inner sides are the sides with two cells, in order. -/
theorem twice_filter {zs : List (Int × Int × Int)} (hA : Apt zs) : twiceL zs = (onceL zs).filter fun e => decide ((sidesAt zs e).length = 2) := by
  refine sort_unique (sort_twiceL zs) ((sort_onceL zs).sublist List.filter_sublist) fun e => ?_
  rw [mem_twice_len hA, List.mem_filter, mem_onceL hA, decide_eq_true_eq]
  omega

end Go.Proofs.YtngbdopgdcjdeaaGreatDoor

namespace Go.Proofs.YtngbdopgdcjdeaaGreatDoor
open Go.RowKit

/-- What is known of the terms of a plane polynomial. -/
def PZ (zs : List (Int × Int × Int)) : Prop := zs.length ≤ 12 ∧ (∀ m, m < zs.length → TermB zs m) ∧ Apt zs
theorem pz_of {zs : List (Int × Int × Int)} (h : planeB zs = true) : PZ zs := by
  refine ⟨?_, fun m hm => termB_of h hm, fun i j hij hj => pts_lex h hij hj⟩
  have h1 : inB (zs.length : Int) 1 12 = true := by
    unfold planeB at h
    simp only [Bool.and_eq_true] at h
    exact h.1
  have := inB_true.1 h1
  omega
theorem cell_get {zs : List (Int × Int × Int)} {x : List Int} (hx : IsCell zs x) {k : Nat} (hk : k < x.length) : ∃ t : Nat, t < zs.length ∧ x.getD k 0 = (t : Int) := by
  obtain ⟨t, h1, h2⟩ := cell_mem hx (List.getElem_mem hk)
  exact ⟨t, h1, by rw [← h2]; simp [List.getD, hk]⟩
theorem ptsC_take {zs : List (Int × Int × Int)} {x : List Int} {k : Nat} (hk : k < x.length) : ptsC zs (x.take (k + 1)) = ptsC zs (x.take k) ++ [pI zs (x.getD k 0).toNat] := by
  rw [List.take_succ_eq_append_getElem hk]
  simp only [ptsC, List.map_append, List.map_cons, List.map_nil, List.getD, List.getElem?_eq_getElem hk, Option.getD_some]
theorem ptsC_len (zs : List (Int × Int × Int)) (x : List Int) : (ptsC zs x).length = x.length := by simp [ptsC]
theorem ptsC_PB {zs : List (Int × Int × Int)} (hZ : PZ zs) {x : List Int} (hx : IsCell zs x) : ∀ p ∈ ptsC zs x, PB p := by
  intro p hp
  obtain ⟨y, hy, rfl⟩ := List.mem_map.1 hp
  obtain ⟨t, h1, rfl⟩ := cell_mem hx hy
  rw [Int.toNat_natCast]
  exact (hZ.2.1 t h1).PB
theorem cell_len {zs : List (Int × Int × Int)} {x : List Int} (hx : IsCell zs x) : x.length ≤ zs.length := by
  obtain ⟨a, b, c, _, _, _, _, rfl⟩ := hx
  exact onTo'_len zs a b c zs.length
set_option maxHeartbeats 2000000 in
theorem ceFind_raw (a : Option Addr) (n c : Nat) (zs : List (Int × Int × Int)) (hn : n ≤ 12) (hA : Apt zs) (t : Nat) (ht : t < n) (q1 q2 : Int) (hq : pI zs t = (q1, q2)) (w : World) (h : Reads w a 3 n (tv zs)) :
    Calls Tryz.prog 26 #[.slice a n c, .agg #[.int .i64 q1, .int .i64 q2]] w fun r w' => r = .returned (.int .i64 (t : Int)) ∧ Ext w w' := by
  have HA := Lib.hid hA
  have HQ := Lib.hid hq
  go_enter Tryz.func26, Tryz.ntmps26
  have hl : zs.length = n := by have := h.1; rw [tv_len] at this; omega
  have HL := Lib.hid hl
  clear hA hl hq
  have HP := (Has.new w #[.int .i64 q1, .int .i64 q2] 55)
  have Pc0 := Ext.keeps (HP 0 _ rfl)
  have Pc1 := Ext.keeps (HP 1 _ rfl)
  clear HP
  have hE : Ext (w.alloc (.cells #[.int .i64 q1, .int .i64 q2] 55)) (w.alloc (.cells #[.int .i64 q1, .int .i64 q2] 55)) := Ext.refl _
  have hEw : Ext w (w.alloc (.cells #[.int .i64 q1, .int .i64 q2] 55)) := (by repeat (first | exact Ext.refl _ | assumption | apply Ext.alloc | apply Ext.drew | apply Ext.drewN | (refine Ext.trans ?_ (by assumption)) | (refine Ext.setCell ?_ (by (try simp) <;> omega) _)))
  have hV := Reads.ext hEw h
  clear h
  go_wp2
  generalize (w.alloc (.cells #[.int .i64 q1, .int .i64 q2] 55)) = V at *
  go_loopw [5] (fun s wr => ∃ (k : Nat), k ≤ t ∧ s = .int .i64 k ∧ Ext V wr) (fun s _ => n - (intOf s).toNat)
  case atStart => exact ⟨0, Nat.zero_le _, rfl, Ext.refl _⟩
  case round =>
    obtain ⟨k, hk, rfl, hE⟩ := hrel
    have hkn : (k : Int) < (n : Int) := by omega
    obtain ⟨b, off, hab, hc⟩ := term_cells (Reads.ext hE hV) (by omega)
    subst hab
    obtain ⟨x0, x1, x2⟩ := hc k (by omega)
    have HEw := Lib.hid (hEw.trans hE)
    have HVE := Lib.hid hE
    have hc0 := Pc0 _ hE
    have hc1 := Pc1 _ hE
    have HN := Lib.hid (fun e : k < t => HA.out k t e (by have := HL.out; omega))
    have HZ := Lib.hid (show cI zs k = cI zs k from rfl)
    clear hc hV hEw hE Pc0 Pc1
    have hE : Ext wr wr := Ext.refl _
    have Xc0 := Ext.keeps x0
    have Xc1 := Ext.keeps x1
    have Xc2 := Ext.keeps x2
    have Pc0 := Ext.keeps hc0
    have Pc1 := Ext.keeps hc1
    clear x0 x1 x2 hc0 hc1
    by_cases hkt : k = t
    · clear HN
      have HQ2 := HQ.out
      rw [← hkt] at HQ2
      generalize pI zs k = p at *
      subst HQ2
      have HKT := Lib.hid hkt
      subst hkt
      go_wp2
      have qP0 := fun s : Past wr => Pc0 s.w s.ext
      have qP1 := fun s : Past wr => Pc1 s.w s.ext
      have qX0 := fun s : Past wr => Xc0 s.w s.ext
      have qX1 := fun s : Past wr => Xc1 s.w s.ext
      have qX2 := fun s : Past wr => Xc2 s.w s.ext
      refine wp_region_past wr (by first | exact hE | exact Ext.alloc hE _ | exact Ext.drew hE | exact Ext.drewN hE _) (by kernel_rfl) (by kernel_rfl) ?_
      repeat (go_big_quiet_step (((go_at_call 22; exact past_ext (cePoint_any _ _ _ _)))))
      refine wpQuiet_nil ?_
      intro w2 hw'
      obtain ⟨⟨_, hE⟩, hw''⟩ := hw'
      subst hw''
      clear qP0 qP1 qX0 qX1 qX2
      go_wp2
      go_ret
      exact ⟨rfl, HEw.out.trans hE⟩
    · have hlx := HN.out (by omega)
      clear HN
      rw [HQ.out] at hlx
      clear HQ
      generalize pI zs k = p at *
      obtain ⟨p1, p2⟩ := p
      simp only [lexP, lexV] at hlx
      have hne : ¬ (p1 = q1 ∧ p2 = q2) := by omega
      by_cases hx : p1 = q1
      · have hy : ¬ p2 = q2 := fun e => hne ⟨hx, e⟩
        have hy1 : (p2 == q2) = false := by simpa using hy
        have hy2 : decide (p2 = q2) = false := by simpa using hy
        subst hx
        clear hne hlx
        go_wp2
        have qP0 := fun s : Past wr => Pc0 s.w s.ext
        have qP1 := fun s : Past wr => Pc1 s.w s.ext
        have qX0 := fun s : Past wr => Xc0 s.w s.ext
        have qX1 := fun s : Past wr => Xc1 s.w s.ext
        have qX2 := fun s : Past wr => Xc2 s.w s.ext
        refine wp_region_past wr (by first | exact hE | exact Ext.alloc hE _ | exact Ext.drew hE | exact Ext.drewN hE _) (by kernel_rfl) (by kernel_rfl) ?_
        repeat (go_big_quiet_step (((go_at_call 22; exact past_ext (cePoint_any _ _ _ _)))))
        refine wpQuiet_nil ?_
        intro w2 hw'
        obtain ⟨⟨_, hE⟩, hw''⟩ := hw'
        subst hw''
        clear qP0 qP1 qX0 qX1 qX2
        have hEf := HEw.out.trans hE
        go_wp2
        go_roundw
        case rel => exact ⟨k + 1, by omega, by go_num, HVE.out.trans hE⟩
        case measure => simp [intOf]; omega
      · have hy1 : (p1 == q1) = false := by simpa using hx
        have hy2 : decide (p1 = q1) = false := by simpa using hx
        clear hne hlx
        go_wp2
        have qP0 := fun s : Past wr => Pc0 s.w s.ext
        have qP1 := fun s : Past wr => Pc1 s.w s.ext
        have qX0 := fun s : Past wr => Xc0 s.w s.ext
        have qX1 := fun s : Past wr => Xc1 s.w s.ext
        have qX2 := fun s : Past wr => Xc2 s.w s.ext
        refine wp_region_past wr (by first | exact hE | exact Ext.alloc hE _ | exact Ext.drew hE | exact Ext.drewN hE _) (by kernel_rfl) (by kernel_rfl) ?_
        repeat (go_big_quiet_step (((go_at_call 22; exact past_ext (cePoint_any _ _ _ _)))))
        refine wpQuiet_nil ?_
        intro w2 hw'
        obtain ⟨⟨_, hE⟩, hw''⟩ := hw'
        subst hw''
        clear qP0 qP1 qX0 qX1 qX2
        have hEf := HEw.out.trans hE
        go_wp2
        go_roundw
        case rel => exact ⟨k + 1, by omega, by go_num, HVE.out.trans hE⟩
        case measure => simp [intOf]; omega
theorem ceFind_any (a : Option Addr) (n c : Nat) (zs : List (Int × Int × Int)) (hn : n ≤ 12) (hA : Apt zs) (t : Nat) (ht : t < n) (w : World) (h : Reads w a 3 n (tv zs)) :
    Calls Tryz.prog 26 #[.slice a n c, .agg #[.int .i64 (pI zs t).1, .int .i64 (pI zs t).2]] w fun r w' => r = .returned (.int .i64 (t : Int)) ∧ Ext w w' := ceFind_raw a n c zs hn hA t ht _ _ rfl w h
set_option maxHeartbeats 2000000 in
theorem cePolygon_any (a ax : Option Addr) (n c nx cx : Nat) (zs : List (Int × Int × Int)) (hZ : PZ zs) (x : List Int) (hx : IsCell zs x) (w : World) (h : Reads w a 3 n (tv zs)) (hxr : Reads w ax 1 nx (iv x)) :
    Calls Tryz.prog 25 #[.slice a n c, .slice ax nx cx] w (OwnsPts w.heap.size (hullC zs x) w) := by
  have hl : zs.length = n := by have := h.1; rw [tv_len] at this; omega
  have hlx : x.length = nx := by have := hxr.1; rw [iv_len] at this; omega
  subst hlx
  subst hl
  have HX := Lib.hid hx
  have HZ := Lib.hid hZ
  have hzn := hZ.1
  have hxn := cell_len hx
  clear hx hZ
  go_enter Tryz.func25, Tryz.ntmps25
  go_wp2
  go_loopw [5, 10] (fun s t wr => ∃ (k : Nat) (a1 : Option Addr) (c1 : Nat), k ≤ x.length ∧ t = .int .i64 k ∧ s = .slice a1 k c1 ∧ wr.ownsRow w.heap.size 55 2 (.slice a1 k c1) k (pv (ptsC zs (x.take k))) ∧ Ext w wr) (fun _ t _ => x.length - (intOf t).toNat)
  case atStart => exact ⟨0, none, 0, Nat.zero_le _, rfl, rfl, own_nonePt _ _, Ext.refl _⟩
  case round =>
    obtain ⟨k, a1, c1, hk, rfl, rfl, hown, hE⟩ := hrel
    by_cases hlt : k < x.length
    · obtain ⟨t, ht, hxt⟩ := cell_get HX.out hlt
      have HT := Lib.hid (ptsC_take (zs := zs) hlt)
      rw [hxt, Int.toNat_natCast] at HT
      obtain ⟨bx, offx, rfl, hcx⟩ := (Reads.ext hE hxr).2 (by omega)
      have hck := hcx k _ (iv_at hlt)
      rw [hxt] at hck
      clear hxt hcx hxr
      obtain ⟨b, off, hab, hc⟩ := term_cells (Reads.ext hE h) (by omega)
      subst hab
      obtain ⟨x0, x1, x2⟩ := hc t ht
      have htn : (t : Int) < (zs.length : Int) := by omega
      clear hc h
      have hsz := hE.size
      generalize pI zs t = p at *
      generalize cI zs t = z at *
      obtain ⟨p1, p2⟩ := p
      simp only at x0 x1
      have HOW := Lib.hid hown
      have HEE := Lib.hid hE
      clear hown hE
      go_wp2_with fail
      refine (cePoint_any p1 p2 z _).mono ?_
      rintro e w2 ⟨rfl, hb⟩
      have hs2 := hb.size
      have HE2 := Lib.hid (HEE.out.trans hb)
      have HO2 := Lib.hid (own_ext hb HOW.out)
      clear x0 x1 x2 hck hb HOW HEE
      generalize ptsC zs (x.take k) = ps at *
      go_wp2_with (at_builtin; go_must (refine wpList_appQ rfl _ _ rfl w w.heap.size _ _ _ ps rfl (own_ext (Ext.alloc (Ext.refl _) _) HO2.out) ⟨_, 0, none⟩ 1 1 [(p1, p2)] rfl rfl (one_cells (by simp) (by simp)) (by omega) (by omega) (by simp; omega) (Ext.alloc HE2.out _) (Nat.le_refl _) ?_))
      intro a4 c4 w4 hown4 hE4
      go_wp2
      go_roundw
      case rel => exact ⟨k + 1, a4, c4, by omega, by go_num, by simp, by rw [HT.out]; exact hown4, hE4⟩
      case measure => simp [intOf]; omega
    · obtain rfl : k = x.length := by omega
      rw [List.take_length] at hown
      have HO := Lib.hid hown
      have HE := Lib.hid hE
      clear hown hE
      go_wp2_with fail
      refine (pyHull_any _ _ _ (ptsC zs x) (by omega) (ptsC_sorted HZ.out.2.2 HX.out) (ptsC_PB HZ.out HX.out) _ (own_reads HO.out)).mono ?_
      rintro e w2 ⟨a2, c2, rfl, ho2, hE2⟩
      have HO2 := Lib.hid (own_mono HE.out.size ho2)
      have HE2 := Lib.hid (HE.out.trans hE2)
      clear ho2 hE2
      go_wp2
      go_ret
      exact ⟨a2, c2, rfl, HO2.out, HE2.out⟩
theorem minI_min (a b : Int) : minI a b = min a b := by unfold minI; split <;> omega
theorem maxI_max (a b : Int) : maxI a b = max a b := by unfold maxI; split <;> omega
theorem two_ints {w : World} {g : Nat} {x y : Int} (h0 : w.cell? ⟨g, 0, none⟩ = some (.int .i64 x)) (h1 : w.cell? ⟨g, 1, none⟩ = some (.int .i64 y)) : Reads w (some ⟨g, 0, none⟩) 1 2 (iv [x, y]) :=
  ⟨rfl, fun _ => ⟨g, 0, rfl, fun j u hj => by
    match j, hj with
    | 0, hj => simp [iv] at hj; subst hj; simpa using h0
    | 1, hj => simp [iv] at hj; subst hj; simpa using h1⟩⟩
theorem putTo_len (l : List (List Int)) : ∀ k, (putTo l k).length ≤ k
  | 0 => by simp [putTo]
  | k + 1 => by have := putTo_len l k; have := putR_len (l.getD k []) (putTo l k); simp only [putTo]; omega
theorem cornC_len (zs : List (Int × Int × Int)) (x : List Int) : (cornC zs x).length = (hullC zs x).length := by simp [cornC]
theorem corn_most {zs : List (Int × Int × Int)} (hZ : PZ zs) {x : List Int} (hx : IsCell zs x) : (hullC zs x).length ≤ 24 := by
  have h1 := hullL_len (l := ptsC zs x)
  rw [ptsC_len] at h1
  have h2 := cell_len hx
  have h3 := hZ.1
  unfold hullC
  omega
theorem pairsL_at {zs : List (Int × Int × Int)} {x : List Int} {k : Nat} (h : k < (cornC zs x).length) : (pairsL zs x).getD k [] = sideC zs x k := by
  simp [pairsL, pairsTo, List.getD, h]
theorem pairsL_len (zs : List (Int × Int × Int)) (x : List Int) : (pairsL zs x).length = (cornC zs x).length := by simp [pairsL, pairsTo]
theorem pair_len {zs : List (Int × Int × Int)} {x y : List Int} (h : y ∈ pairsL zs x) : y.length = 2 := by
  obtain ⟨k, _, rfl⟩ := List.mem_map.1 h
  rfl
/-- A slice whose block is not older than B. -/
def FromB (B : Nat) (v : Value) : Prop := ∀ q, v.ownBlock = some q → B ≤ q
def RdM (B B2 : Nat) (ys : List (List Int)) (w w' : World) (s : Value) : Prop :=
  ∃ a c vs, s = .slice a ys.length c ∧ w'.ownsRow B 33 1 (.slice a ys.length c) ys.length vs ∧ VA w' vs ys ∧ (∀ v ∈ vs, FromB B2 v) ∧ Ext w w'
theorem rdM_none (B B2 : Nat) (w : World) : RdM B B2 [] w w (.slice none 0 0) := ⟨none, 0, [], rfl, ⟨rfl, .inl ⟨rfl, rfl⟩⟩, trivial, by simp, Ext.refl _⟩
end Go.Proofs.YtngbdopgdcjdeaaGreatDoor

namespace Go.Proofs.YtngbdopgdcjdeaaGreatDoor
open Go.RowKit

/-- All sides, or the inner ones. -/
def edgesL (zs : List (Int × Int × Int)) : Bool → List (List Int)
  | true => twiceL zs
  | false => onceL zs
theorem foldE_len (l : List (List Int)) : (foldE l).1.length ≤ l.length ∧ (foldE l).2.length ≤ l.length := by
  refine listSnoc (P := fun l => (foldE l).1.length ≤ l.length ∧ (foldE l).2.length ≤ l.length) ⟨by simp [foldE], by simp [foldE]⟩ ?_ l
  intro l y ⟨h1, h2⟩
  rw [foldE_snoc]
  have g1 := putR_len y (foldE l).1
  have g2 := putR_len y (foldE l).2
  simp only [stepE, List.length_append, List.length_cons, List.length_nil]
  refine ⟨by omega, ?_⟩
  split <;> omega
theorem foldE_mem (l : List (List Int)) : (∀ y ∈ (foldE l).1, y ∈ l) ∧ ∀ y ∈ (foldE l).2, y ∈ l := by
  obtain ⟨_, _, h1, h2⟩ := foldE_spec l
  exact ⟨fun y hy => (h1 y).1 hy, fun y hy => List.count_pos_iff.1 (by have := (h2 y).1 hy; omega)⟩
theorem cells_most {zs : List (Int × Int × Int)} (hZ : PZ zs) : (cellsL zs).length ≤ 2000 := by
  have h1 := len_tripI (len_stepC zs) (n := zs.length) zs.length (Nat.le_refl _)
  have h2 : zs.length * (zs.length * zs.length) ≤ 12 * (12 * 12) := Nat.mul_le_mul hZ.1 (Nat.mul_le_mul hZ.1 hZ.1)
  unfold cellsL
  omega
theorem sidesL_most {zs : List (Int × Int × Int)} (hZ : PZ zs) {x : List Int} (hx : IsCell zs x) : (sidesL zs x).length ≤ 24 := by
  have h1 := putTo_len (pairsL zs x) (pairsL zs x).length
  have h2 := corn_most hZ hx
  have h3 := pairsL_len zs x
  have h4 := cornC_len zs x
  unfold sidesL
  omega
theorem allTo_succ {zs : List (Int × Int × Int)} {k : Nat} (h : k < (cellsL zs).length) : allTo zs (k + 1) = allTo zs k ++ sidesL zs ((cellsL zs).getD k []) := by
  unfold allTo
  rw [List.take_succ_eq_append_getElem h, List.flatMap_append]
  simp [List.getD, h]
theorem allTo_len {zs : List (Int × Int × Int)} (hZ : PZ zs) : ∀ k, k ≤ (cellsL zs).length → (allTo zs k).length ≤ k * 24
  | 0, _ => by simp [allTo]
  | k + 1, h => by
    have h1 := allTo_len hZ k (by omega)
    have h2 := sidesL_most hZ (cell_at (show k < (cellsL zs).length by omega))
    rw [allTo_succ (by omega), List.length_append]
    omega
theorem allTo_two {zs : List (Int × Int × Int)} {k : Nat} {y : List Int} (h : y ∈ allTo zs k) : y.length = 2 := by
  unfold allTo at h
  obtain ⟨x, _, hy⟩ := List.mem_flatMap.1 h
  exact pair_len (mem_sidesL.1 hy)
end Go.Proofs.YtngbdopgdcjdeaaGreatDoor

namespace Go.Proofs.YtngbdopgdcjdeaaGreatDoor
open Go.RowKit

theorem one_int {w : World} {g : Nat} {x : Int} (h0 : w.cell? ⟨g, 0, none⟩ = some (.int .i64 x)) : Reads w (some ⟨g, 0, none⟩) 1 1 (iv [x]) :=
  ⟨rfl, fun _ => ⟨g, 0, rfl, fun j u hj => by
    match j, hj with
    | 0, hj => simp [iv] at hj; subst hj; simpa using h0⟩⟩
theorem iv_one : ∀ (zs : List Int) (u : Value), u ∈ iv zs → u.oneCell' = true := by
  intro zs u hu
  obtain ⟨z, _, rfl⟩ := List.mem_map.1 hu
  rfl
set_option maxHeartbeats 2000000 in
theorem polygon_any (g : Nat) (a ax : Option Addr) (n c nx cx : Nat) (zs : List (Int × Int × Int)) (hZ : PZ zs) (x : List Int) (hx : IsCell zs x) (w : World) (h : SubOf w g a n c zs) (hxr : Reads w ax 1 nx (iv x)) :
    Calls Tryz.prog 64 #[.pointer (some ⟨g, 0, none⟩), .slice ax nx cx] w (OwnsPts w.heap.size (hullC zs x) w) := by
  have hlx : x.length = nx := by have := hxr.1; rw [iv_len] at this; omega
  subst hlx
  obtain ⟨pa, pc, s0, s1, hr, hp⟩ := h
  have hl : zs.length = n := by have := hr.1; rw [tv_len] at this; omega
  subst hl
  have HX := Lib.hid hx
  have HZ := Lib.hid hZ
  have hzn := hZ.1
  have hxn := cell_len hx
  have HS := Lib.hid (Ext.keeps s1)
  have HP := Lib.hid hp
  have hgl := lt_of_cell s1
  clear hx hZ s0 s1 hr hp
  go_enter Tryz.func64, Tryz.ntmps64
  go_wp2
  go_loopw [5, 11] (fun s t wr => ∃ (k : Nat) (a1 : Option Addr) (c1 : Nat), k ≤ x.length ∧ t = .int .i64 k ∧ s = .slice a1 k c1 ∧ wr.ownsRow w.heap.size 55 2 (.slice a1 k c1) k (pv (ptsC zs (x.take k))) ∧ Ext w wr) (fun _ t _ => x.length - (intOf t).toNat)
  case atStart => exact ⟨0, _, 0, Nat.zero_le _, rfl, rfl, own_empty _ _ _ _ (Nat.le_refl _), Ext.alloc (Ext.refl _) _⟩
  case round =>
    obtain ⟨k, a1, c1, hk, rfl, rfl, hown, hE⟩ := hrel
    by_cases hlt : k < x.length
    · obtain ⟨t, ht, hxt⟩ := cell_get HX.out hlt
      have HT := Lib.hid (ptsC_take (zs := zs) hlt)
      rw [hxt, Int.toNat_natCast] at HT
      obtain ⟨bx, offx, rfl, hcx⟩ := (Reads.ext hE hxr).2 (by omega)
      have hck := hcx k _ (iv_at hlt)
      rw [hxt] at hck
      clear hxt hcx hxr
      obtain ⟨b, off, rfl, p0, p1⟩ := (Reads.ext hE HP.out).pair ht
      rw [pts_pat ht] at p0 p1
      have hcs := HS.out _ hE
      have htn : (t : Int) < (zs.length : Int) := by omega
      clear HP HS
      have hsz := hE.size
      generalize pI zs t = p at *
      obtain ⟨q1, q2⟩ := p
      simp only at p0 p1
      have HOW := Lib.hid hown
      have HEE := Lib.hid hE
      clear hown hE
      generalize ptsC zs (x.take k) = ps at *
      go_wp2_with (at_builtin; go_must (refine wpList_appQ rfl _ _ rfl w w.heap.size _ _ _ ps rfl (own_ext (Ext.alloc (Ext.refl _) _) HOW.out) ⟨_, 0, none⟩ 1 1 [(q1, q2)] rfl rfl (one_cells (by simp) (by simp)) (by omega) (by omega) (by simp; omega) (Ext.alloc HEE.out _) (Nat.le_refl _) ?_))
      intro a4 c4 w4 hown4 hE4
      go_wp2
      go_roundw
      case rel => exact ⟨k + 1, a4, c4, by omega, by go_num, by simp, by rw [HT.out]; exact hown4, hE4⟩
      case measure => simp [intOf]; omega
    · obtain rfl : k = x.length := by omega
      rw [List.take_length] at hown
      have hpos : 0 < x.length := by obtain ⟨a0, b0, c0, g1, g2, g3, _, rfl⟩ := HX.out; exact cell_some (by omega)
      obtain ⟨gg, rfl, _, _⟩ := own_head hown hpos
      have HO := Lib.hid hown
      have HE := Lib.hid hE
      clear hown hE
      go_wp2_with fail
      refine (hull_any _ _ _ _ (ptsC zs x) (by omega) hpos (ptsC_sorted HZ.out.2.2 HX.out) (ptsC_PB HZ.out HX.out) _ (own_reads HO.out)).mono ?_
      rintro e w2 ⟨a2, c2, rfl, ho2, hE2⟩
      have HO2 := Lib.hid (own_mono HE.out.size ho2)
      have HE2 := Lib.hid (HE.out.trans hE2)
      clear ho2 hE2
      go_wp2
      go_ret
      exact ⟨a2, c2, rfl, HO2.out, HE2.out⟩
set_option maxHeartbeats 2000000 in
theorem indexPt_raw (a : Option Addr) (n c : Nat) (zs : List (Int × Int × Int)) (hn : n ≤ 12) (hA : Apt zs) (t : Nat) (ht : t < n) (q1 q2 : Int) (hq : pI zs t = (q1, q2)) (w : World) (h : Reads w a 2 n (pv (ptsL zs))) :
    Calls Tryz.prog 83 #[.slice a n c, .agg #[.int .i64 q1, .int .i64 q2]] w fun r w' => r = .returned (.int .i64 t) ∧ Ext w w' := by
  have HA := Lib.hid hA
  have HQ := Lib.hid hq
  go_enter Tryz.func83, Tryz.ntmps83
  have hl : zs.length = n := by have := h.1; rw [pv_len, ptsL_len] at this; omega
  have HL := Lib.hid hl
  clear hA hl hq
  have HP := (Has.new w #[.int .i64 q1, .int .i64 q2] 55)
  have Pc0 := Ext.keeps (HP 0 _ rfl)
  have Pc1 := Ext.keeps (HP 1 _ rfl)
  clear HP
  have hE : Ext (w.alloc (.cells #[.int .i64 q1, .int .i64 q2] 55)) (w.alloc (.cells #[.int .i64 q1, .int .i64 q2] 55)) := Ext.refl _
  have hEw : Ext w (w.alloc (.cells #[.int .i64 q1, .int .i64 q2] 55)) := (by repeat (first | exact Ext.refl _ | assumption | apply Ext.alloc | apply Ext.drew | apply Ext.drewN | (refine Ext.trans ?_ (by assumption)) | (refine Ext.setCell ?_ (by (try simp) <;> omega) _)))
  have hV := Reads.ext hEw h
  clear h
  go_wp2
  generalize (w.alloc (.cells #[.int .i64 q1, .int .i64 q2] 55)) = V at *
  go_loopw [8] (fun s wr => ∃ (k : Nat), k ≤ t ∧ s = .int .i64 k ∧ Ext V wr) (fun s _ => n - (intOf s).toNat)
  case atStart => exact ⟨0, Nat.zero_le _, rfl, Ext.refl _⟩
  case round =>
    obtain ⟨k, hk, rfl, hE⟩ := hrel
    have hkn : (k : Int) < (n : Int) := by omega
    obtain ⟨b, off, hab, x0, x1⟩ := (Reads.ext hE hV).pair (show k < n by omega)
    subst hab
    rw [pts_pat (by rw [HL.out]; omega)] at x0 x1
    have HEw := Lib.hid (hEw.trans hE)
    have HVE := Lib.hid hE
    have hc0 := Pc0 _ hE
    have hc1 := Pc1 _ hE
    have HN := Lib.hid (fun e : k < t => HA.out k t e (by have := HL.out; omega))
    clear hV hEw hE Pc0 Pc1
    by_cases hkt : k = t
    · clear HN
      have HQ2 := HQ.out
      rw [← hkt] at HQ2
      generalize pI zs k = p at *
      subst HQ2
      have HKT := Lib.hid hkt
      subst hkt
      go_wp2
      go_quiet (fail)
      go_wp2
      go_ret
      exact ⟨rfl, Ext.drewN HEw.out _⟩
    · have hlx := HN.out (by omega)
      clear HN
      rw [HQ.out] at hlx
      clear HQ
      generalize pI zs k = p at *
      obtain ⟨p1, p2⟩ := p
      simp only [lexP, lexV] at hlx
      have hne : ¬ (p1 = q1 ∧ p2 = q2) := by omega
      have hqp : ¬ (q1 = p1 ∧ q2 = p2) := by omega
      by_cases hx : q1 = p1
      · have hy : ¬ q2 = p2 := fun e => hqp ⟨hx, e⟩
        have hy1 : (q2 == p2) = false := by simpa using hy
        have hy2 : decide (q2 = p2) = false := by simpa using hy
        subst hx
        clear hne hlx hqp
        go_wp2
        go_quiet (fail)
        go_wp2
        go_roundw
        case rel => exact ⟨k + 1, by omega, by go_num, Ext.drewN HVE.out _⟩
        case measure => simp [intOf]; omega
      · have hy1 : (q1 == p1) = false := by simpa using hx
        have hy2 : decide (q1 = p1) = false := by simpa using hx
        clear hne hlx hqp
        go_wp2
        go_quiet (fail)
        go_wp2
        go_roundw
        case rel => exact ⟨k + 1, by omega, by go_num, Ext.drewN HVE.out _⟩
        case measure => simp [intOf]; omega
set_option maxHeartbeats 2000000 in
theorem term_any (g : Nat) (a : Option Addr) (n c : Nat) (zs : List (Int × Int × Int)) (hZ : PZ zs) (t : Nat) (ht : t < n) (q1 q2 : Int) (hq : pI zs t = (q1, q2)) (w : World) (h : SubOf w g a n c zs) :
    Calls Tryz.prog 65 #[.pointer (some ⟨g, 0, none⟩), .agg #[.int .i64 q1, .int .i64 q2]] w fun r w' => r = .returned (.int .i64 t) ∧ Ext w w' := by
  obtain ⟨pa, pc, s0, s1, hr, hp⟩ := h
  have hl : zs.length = n := by have := hr.1; rw [tv_len] at this; omega
  subst hl
  have hzn := hZ.1
  have HZ := Lib.hid hZ
  have HQ := Lib.hid hq
  clear hr s0 hZ hq
  go_enter Tryz.func65, Tryz.ntmps65
  have HP := (Has.new w #[.int .i64 q1, .int .i64 q2] 55)
  have Pc0 := Ext.keeps (HP 0 _ rfl)
  have Pc1 := Ext.keeps (HP 1 _ rfl)
  clear HP
  have hE : Ext (w.alloc (.cells #[.int .i64 q1, .int .i64 q2] 55)) (w.alloc (.cells #[.int .i64 q1, .int .i64 q2] 55)) := Ext.refl _
  have Sc0 := Ext.keeps (Ext.keep (show Ext w (w.alloc (.cells #[.int .i64 q1, .int .i64 q2] 55)) from (by repeat (first | exact Ext.refl _ | assumption | apply Ext.alloc | apply Ext.drew | apply Ext.drewN | (refine Ext.trans ?_ (by assumption)) | (refine Ext.setCell ?_ (by (try simp) <;> omega) _)))) s1)
  have HI := Lib.hid (fun w' (e : Ext (w.alloc (.cells #[.int .i64 q1, .int .i64 q2] 55)) w') => indexPt_raw pa zs.length pc zs hzn HZ.out.2.2 t ht q1 q2 HQ.out w' (Reads.ext ((show Ext w (w.alloc (.cells #[.int .i64 q1, .int .i64 q2] 55)) from (by repeat (first | exact Ext.refl _ | assumption | apply Ext.alloc | apply Ext.drew | apply Ext.drewN | (refine Ext.trans ?_ (by assumption)) | (refine Ext.setCell ?_ (by (try simp) <;> omega) _)))).trans e) hp))
  have hEw : Ext w (w.alloc (.cells #[.int .i64 q1, .int .i64 q2] 55)) := (by repeat (first | exact Ext.refl _ | assumption | apply Ext.alloc | apply Ext.drew | apply Ext.drewN | (refine Ext.trans ?_ (by assumption)) | (refine Ext.setCell ?_ (by (try simp) <;> omega) _)))
  clear hp s1
  go_wp2
  have HI2 := Lib.hid (fun s : Past (w.alloc (.cells #[.int .i64 q1, .int .i64 q2] 55)) => HI.out s.w s.ext)
  have qP0 := fun s : Past (w.alloc (.cells #[.int .i64 q1, .int .i64 q2] 55)) => Pc0 s.w s.ext
  have qP1 := fun s : Past (w.alloc (.cells #[.int .i64 q1, .int .i64 q2] 55)) => Pc1 s.w s.ext
  have qS0 := fun s : Past (w.alloc (.cells #[.int .i64 q1, .int .i64 q2] 55)) => Sc0 s.w s.ext
  refine wp_region_past (w.alloc (.cells #[.int .i64 q1, .int .i64 q2] 55)) (by first | exact hE | exact Ext.alloc hE _ | exact Ext.drew hE | exact Ext.drewN hE _) (by kernel_rfl) (by kernel_rfl) ?_
  repeat (go_big_quiet_step (((go_at_call 83; with_reducible exact past_ext (HI2.out _)))))
  refine wpQuiet_nil ?_
  intro w2 hw'
  obtain ⟨⟨_, hE⟩, hw''⟩ := hw'
  subst hw''
  clear qP0 qP1 qS0
  have hE2 := hEw.trans hE
  go_wp2
  go_ret
  exact ⟨rfl, hE2⟩
set_option maxHeartbeats 2000000 in
theorem corners_any (g : Nat) (a ax : Option Addr) (n c nx cx : Nat) (zs : List (Int × Int × Int)) (hZ : PZ zs) (x : List Int) (hx : IsCell zs x) (w : World) (h : SubOf w g a n c zs) (hxr : Reads w ax 1 nx (iv x)) :
    Calls Tryz.prog 50 #[.pointer (some ⟨g, 0, none⟩), .slice ax nx cx] w (OwnsInts w.heap.size (cornC zs x) w) := by
  obtain ⟨L, hL⟩ : ∃ L, L = hullC zs x := ⟨_, rfl⟩
  have HL := Lib.hid hL
  have hm24 : L.length ≤ 24 := by rw [hL]; exact corn_most hZ hx
  have HCT := Lib.hid (fun k (hk : k < L.length) => show ∃ t : Nat, t < n ∧ pat L k = pI zs t ∧ (cornC zs x).getD k 0 = (t : Int) by
    rw [hL] at hk ⊢
    obtain ⟨t, h1, h2, h3, h4⟩ := corn_term hZ.2.2 hx (k := k) (by rw [cornC_len]; exact hk)
    have hl : zs.length = n := by obtain ⟨_, _, _, _, hr, _⟩ := h; have := hr.1; rw [tv_len] at this; omega
    exact ⟨t, by omega, h3, h4⟩)
  have HCL := Lib.hid (show (cornC zs x).length = L.length by rw [hL, cornC_len])
  have HZ := Lib.hid hZ
  have HX := Lib.hid hx
  clear hZ hx hL
  go_enter Tryz.func50, Tryz.ntmps50
  go_wp2_with fail
  refine (polygon_any g a _ n c _ _ zs HZ.out x HX.out _ (SubOf.ext (Ext.alloc (Ext.refl w) _) h) (Reads.alloc hxr _)).mono ?_
  rintro e w2 ⟨a2, c2, rfl, ho2, hE2⟩
  rw [← HL.out] at ho2 ⊢
  have HSS := Lib.hid h
  clear h hxr
  have hEw := (Ext.alloc (Ext.refl w) _).trans hE2
  have HO2 := Lib.hid ho2
  have HEw := Lib.hid hEw
  have hs2 := hE2.size
  simp at hs2
  have hout : w2.ownsRow w.heap.size 3 1 (.slice (some ⟨w.heap.size, 0, none⟩) 0 0) 0 (iv []) := own_ext hE2 (own_empty w _ _ _ (Nat.le_refl _))
  clear ho2 hE2 hEw
  go_wp2
  go_loopw [5, 13] (fun s t wr => ∃ (k : Nat) (a1 : Option Addr) (c1 : Nat), k ≤ L.length ∧ t = .int .i64 k ∧ s = .slice a1 k c1 ∧ wr.ownsRow w.heap.size 3 1 (.slice a1 k c1) k (iv ((cornC zs x).take k)) ∧ w2.grownBy wr (some w.heap.size) ∧ (∀ q, (Value.slice a1 k c1).ownBlock = some q → w2.heap.size ≤ q ∨ q = w.heap.size)) (fun _ t _ => L.length - (intOf t).toNat)
  case atStart => exact ⟨0, _, 0, Nat.zero_le _, rfl, rfl, hout, World.grownBy.refl _ _, fun q hq => .inr (by simpa [Value.ownBlock] using hq.symm)⟩
  case round =>
    clear hout
    obtain ⟨k, a1, c1, hk, rfl, rfl, hown, hgr, hrow⟩ := hrel
    have hE : Ext w wr := Ext.grown HEw.out hgr (fun q hq => by cases hq; exact Nat.le_refl _)
    by_cases hlt : k < L.length
    · obtain ⟨t, ht, hpt, hct⟩ := HCT.out k hlt
      have HT := Lib.hid (show (cornC zs x).take (k + 1) = (cornC zs x).take k ++ [(t : Int)] by
        have hk2 : k < (cornC zs x).length := by rw [HCL.out]; exact hlt
        rw [List.take_succ_eq_append_getElem hk2, ← hct]
        simp [List.getD, hk2])
      obtain ⟨b, off, rfl, p0, p1⟩ := (own_reads (own_apartQ HO2.out hgr (fun q hq e => by have := (HO2.out.lt q hq).1; simp at this; cases e; omega))).pair hlt
      generalize pat L k = pq at *
      obtain ⟨q1, q2⟩ := pq
      simp only at p0 p1
      clear hct
      have hsz := hE.size
      have HOW := Lib.hid hown
      have HEE := Lib.hid hE
      have HG := Lib.hid hgr
      have HRW := Lib.hid hrow
      have HPT := Lib.hid (hpt.symm)
      have HSR := Lib.hid (SubOf.ext HEE.out HSS.out)
      clear hown hE hpt hgr hrow
      generalize (cornC zs x).take k = ps at *
      go_wp2_with fail
      refine (term_any g a n c zs HZ.out t ht q1 q2 HPT.out _ (SubOf.ext (Ext.alloc (Ext.refl wr) _) HSR.out)).mono ?_
      rintro e w4 ⟨rfl, hb⟩
      have hE4 := (Ext.alloc (Ext.refl wr) _).trans hb
      have hs4 := hE4.size
      have HE4 := Lib.hid (HEE.out.trans hE4)
      have HG4 := Lib.hid (World.grownBy.andThen HG.out (Ext.grownBy hE4 none) (fun j hj => by cases hj))
      have HO4 := Lib.hid (own_ext hE4 HOW.out)
      clear p0 p1 hb hE4 HOW HEE
      have hss := HE4.out.size
      obtain ⟨i0, hz1, hz2, hz3, hz4⟩ := info_parts int_info
      have hsz2 := HG4.out.size
      go_wp2_with (at_builtin; go_must (refine wpList_app_any _ rfl _ _ 33 rfl w.heap.size 3 i0 _ 1 8 Tryz.underlying33 hz1 hz2 hz3 hz4 rfl (by decide) _ k (iv ps) rfl (own_ext ((Ext.refl w4).alloc _) HO4.out) _ 1 1 (iv [(t : Int)]) rfl (one_int (by simp)) (iv_one _) (by unfold maxLen; omega) (by omega) (by simp; omega) ?_))
      intro a5 c5 w5 hown5 hg5 hl5
      have HG5 := Lib.hid (World.grownBy.andThen (World.grownBy.andThen HG4.out (Ext.grownBy ((Ext.refl w4).alloc _) none) (fun j hj => by cases hj)) hg5 (fun j hj => (HRW.out j hj).imp id (fun e => by rw [e])))
      have HR5 := Lib.hid (fun q (hq : (Value.slice a5 (k + 1) c5).ownBlock = some q) => show w2.heap.size ≤ q ∨ q = w.heap.size from by
        rcases hl5 with h1 | h1
        · exact HRW.out q (h1 ▸ hq)
        · rw [h1] at hq; simp at hq; omega)
      have HO5 := Lib.hid hown5
      clear hown5 hg5 hl5
      go_wp2
      go_roundw
      case rel => exact ⟨k + 1, a5, c5, by omega, by go_num, by simp, by rw [HT.out]; simpa [iv] using HO5.out, HG5.out, HR5.out⟩
      case measure => simp [intOf]; omega
    · obtain rfl : k = L.length := by omega
      have hct : (cornC zs x).take L.length = cornC zs x := by rw [List.take_of_length_le (by rw [HCL.out]; omega)]
      rw [hct] at hown
      have HO := Lib.hid hown
      have HE := Lib.hid hE
      clear hown hE hct
      go_wp2
      go_ret
      exact ⟨a1, c1, by rw [HCL.out] <;> rfl, by rw [HCL.out]; exact HO.out, HE.out⟩
theorem pair_any (x y : Int) (w : World) :
    Calls Tryz.prog 51 #[.int .i64 x, .int .i64 y] w fun r w' => r = .returned (.agg #[.int .i64 (minI x y), .int .i64 (maxI x y)]) ∧ Ext w w' := by
  go_enter Tryz.func51, Tryz.ntmps51
  go_wp2
  refine bodyPost_ret (v := (.agg #[.int .i64 (minI x y), .int .i64 (maxI x y)])) (by simp [results, Tryz.results51, go_sem]) rfl ⟨rfl, (by repeat (first | exact Ext.refl _ | assumption | apply Ext.alloc | apply Ext.drew | apply Ext.drewN | (refine Ext.trans ?_ (by assumption)) | (refine Ext.setCell ?_ (by (try simp) <;> omega) _)))⟩
end Go.Proofs.YtngbdopgdcjdeaaGreatDoor

namespace Go.Proofs.YtngbdopgdcjdeaaGreatDoor
open Go.RowKit Go.WideMaps Go.WideElems Go.MapKept

/-- Block g is a subdivision with these five fields. -/
def StructG (w : World) (g : Nat) (v0 v1 v2 v3 v4 : Value) : Prop := w.heap[g]? = some (.cells #[v0, v1, v2, v3, v4] 68 (0, 0))
section
variable {w w' : World} {g : Nat} {v0 v1 v2 v3 v4 : Value}
theorem StructG.lt (h : StructG w g v0 v1 v2 v3 v4) : g < w.heap.size := (Array.getElem?_eq_some_iff.1 h).1
theorem StructG.c0 (h : StructG w g v0 v1 v2 v3 v4) : w.cell? ⟨g, 0, none⟩ = some v0 := by unfold StructG at h; simp [World.cell?, h]
theorem StructG.c1 (h : StructG w g v0 v1 v2 v3 v4) : w.cell? ⟨g, 1, none⟩ = some v1 := by unfold StructG at h; simp [World.cell?, h]
theorem StructG.c2 (h : StructG w g v0 v1 v2 v3 v4) : w.cell? ⟨g, 2, none⟩ = some v2 := by unfold StructG at h; simp [World.cell?, h]
theorem StructG.c3 (h : StructG w g v0 v1 v2 v3 v4) : w.cell? ⟨g, 3, none⟩ = some v3 := by unfold StructG at h; simp [World.cell?, h]
theorem StructG.c4 (h : StructG w g v0 v1 v2 v3 v4) : w.cell? ⟨g, 4, none⟩ = some v4 := by unfold StructG at h; simp [World.cell?, h]
theorem StructG.thaw (h : StructG w g v0 v1 v2 v3 v4) (o : Nat) : w.frozen? ⟨g, o, none⟩ = false := by unfold StructG at h; simp [World.frozen?, h]
theorem StructG.kept {row : Option Nat} (h : StructG w g v0 v1 v2 v3 v4) (hg : w.grownBy w' row) (hr : row ≠ some g) : StructG w' g v0 v1 v2 v3 v4 := by
  have := hg.block g h.lt (Ne.symm hr)
  unfold StructG at h ⊢
  rw [this, h]
theorem StructG.ext (h : StructG w g v0 v1 v2 v3 v4) (e : Ext w w') : StructG w' g v0 v1 v2 v3 v4 := h.kept (Ext.grownBy e none) (by simp)
theorem StructG.set2 (h : StructG w g v0 v1 v2 v3 v4) (v : Value) : StructG (w.setCell ⟨g, 2, none⟩ v) g v0 v1 v v3 v4 := by
  unfold StructG at h ⊢
  simp [World.setCell, Array.getElem?_modify, h]
theorem StructG.set3 (h : StructG w g v0 v1 v2 v3 v4) (v : Value) : StructG (w.setCell ⟨g, 3, none⟩ v) g v0 v1 v2 v v4 := by
  unfold StructG at h ⊢
  simp [World.setCell, Array.getElem?_modify, h]
theorem StructG.new (w : World) (v0 v1 v2 v3 v4 : Value) : StructG (w.alloc (.cells #[v0, v1, v2, v3, v4] 68)) w.heap.size v0 v1 v2 v3 v4 := by
  exact (MapKept.heap_alloc w _).1
end
theorem grown_at (w : World) (p : Addr) (v : Value) : w.grownBy (w.setCell p v) (some p.block) :=
  ⟨rfl, rfl, rfl, by simp, fun k _ hk => by
    simp only [World.setCell, Array.getElem?_modify]
    rw [if_neg (fun e => hk (by rw [e]))]⟩

/-- A slice of slices of ints, all of the call's own, no two in one row. -/
def OwnL (w : World) (B : Nat) (s : Value) (ps : List (Value × List Int)) : Prop :=
  w.ownsRow B 33 1 s ps.length (ps.map (·.1)) ∧ (∀ p ∈ ps, (∃ q, p.1.ownBlock = some q) ∧ w.ownsRow B 3 1 p.1 p.2.length (iv p.2) ∧ p.1.ownBlock ≠ s.ownBlock) ∧ ps.Pairwise (fun p q => p.1.ownBlock ≠ q.1.ownBlock)
section
variable {w w' : World} {B : Nat} {s s' : Value} {ps qs : List (Value × List Int)}
theorem OwnL.kept {row : Option Nat} (h : OwnL w B s ps) (hg : w.grownBy w' row) (hr : ∀ q, row = some q → q < B) : OwnL w' B s ps := by
  obtain ⟨h1, h2, h3⟩ := h
  refine ⟨own_apartQ h1 hg fun q hq e => ?_, fun p hp => ?_, h3⟩
  · have := (h1.lt q hq).1; have := hr q e; omega
  · obtain ⟨k1, k2, k3⟩ := h2 p hp
    exact ⟨k1, own_apartQ k2 hg fun q hq e => by have := (k2.lt q hq).1; have := hr q e; omega, k3⟩
theorem OwnL.ext (h : OwnL w B s ps) (e : Ext w w') : OwnL w' B s ps := h.kept (Ext.grownBy e none) (by simp)
theorem ownL_nil (w : World) (B : Nat) : OwnL w B (.slice none 0 0) [] := ⟨⟨rfl, .inl ⟨rfl, rfl⟩⟩, by simp, .nil⟩
theorem OwnL.base {B' : Nat} (h : OwnL w B s ps) (e : B' ≤ B) : OwnL w B' s ps := ⟨own_mono e h.1, fun p hp => by obtain ⟨k1, k2, k3⟩ := h.2.1 p hp; exact ⟨k1, own_mono e k2, k3⟩, h.2.2⟩
theorem OwnL.form (h : OwnL w B s ps) : ∃ a c, s = .slice a ps.length c := own_form h.1
/-- Behind a turn of the outer row alone: rows of the old ones, in the same block. -/
theorem OwnL.turn (h : OwnL w B s ps) (hg : w.grownBy w' s.ownBlock) (hs : w'.ownsRow B 33 1 s' qs.length (qs.map (·.1))) (he : s'.ownBlock = s.ownBlock) (hm : ∀ p ∈ qs, p ∈ ps) (hp : qs.Pairwise (fun p q => p.1.ownBlock ≠ q.1.ownBlock)) : OwnL w' B s' qs := by
  obtain ⟨h1, h2, h3⟩ := h
  refine ⟨hs, fun p hp => ?_, hp⟩
  obtain ⟨k1, k2, k3⟩ := h2 p (hm p hp)
  exact ⟨k1, own_apartQ k2 hg fun q hq e => k3 (by rw [hq, e]), by rw [he]; exact k3⟩
/-- Behind an append of a row that is new. -/
theorem OwnL.push {v : Value} {x : List Int} {q : Nat} (h : OwnL w B s ps) (hv : w.ownsRow B 3 1 v x.length (iv x)) (hq : v.ownBlock = some q) (hsq : s.ownBlock ≠ some q) (hpq : ∀ p ∈ ps, p.1.ownBlock ≠ some q)
    (hg : w.grownBy w' s.ownBlock) (hs : w'.ownsRow B 33 1 s' (ps.length + 1) (ps.map (·.1) ++ [v])) (he : s'.ownBlock = s.ownBlock ∨ ∃ t, s'.ownBlock = some t ∧ w.heap.size ≤ t) : OwnL w' B s' (ps ++ [(v, x)]) := by
  obtain ⟨h1, h2, h3⟩ := h
  refine ⟨by simpa using hs, fun p hp => ?_, ?_⟩
  · rcases List.mem_append.1 hp with hp | hp
    · obtain ⟨⟨t, k1⟩, k2, k3⟩ := h2 p hp
      refine ⟨⟨t, k1⟩, own_apartQ k2 hg fun u hu e => k3 (by rw [hu, e]), ?_⟩
      rcases he with e | ⟨u, e1, e2⟩
      · rw [e]; exact k3
      · rw [e1, k1]
        intro e
        cases e
        have := (k2.lt t k1).2
        omega
    · simp only [List.mem_singleton] at hp
      subst hp
      refine ⟨⟨q, hq⟩, own_apartQ hv hg fun u hu e => hsq (by rw [e, ← hu, hq]), ?_⟩
      rcases he with e | ⟨u, e1, e2⟩
      · rw [e, hq]; exact Ne.symm hsq
      · rw [e1, hq]
        intro e
        cases e
        have := (hv.lt q hq).2
        omega
  · rw [List.pairwise_append]
    refine ⟨h3, by simp, fun p hp r hr => ?_⟩
    simp only [List.mem_singleton] at hr
    subst hr
    rw [hq]
    exact hpq p hp
theorem OwnL.fresh (h : OwnL w B s ps) {q : Nat} (hq : w.heap.size ≤ q) : s.ownBlock ≠ some q ∧ ∀ p ∈ ps, p.1.ownBlock ≠ some q :=
  ⟨fun e => by have := (h.1.lt q e).2; omega, fun p hp e => by have := ((h.2.1 p hp).2.1.lt q e).2; omega⟩
theorem OwnL.rowQ (h : OwnL w B s ps) {g : Nat} (hg : s.ownBlock = some g) (hl : ∀ p ∈ ps, p.2.length ≤ 1000) : ∀ p ∈ ps, RowQ w g p := fun p hp => by
  obtain ⟨_, k2, k3⟩ := h.2.1 p hp
  obtain ⟨a, c, e⟩ := own_form k2
  rw [e] at k2
  exact ⟨a, c, e, own_reads k2, by rw [← hg]; exact k3, hl p hp⟩
theorem VA.of : ∀ {ps : List (Value × List Int)}, (∀ p ∈ ps, w.ownsRow B 3 1 p.1 p.2.length (iv p.2)) → VA w (ps.map (·.1)) (ps.map (·.2))
  | [], _ => trivial
  | p :: ps, h => by
    have h1 := h p (by simp)
    obtain ⟨a, c, e⟩ := own_form h1
    rw [e] at h1
    exact ⟨⟨a, c, e, own_reads h1⟩, VA.of fun q hq => h q (by simp [hq])⟩
theorem OwnL.va (h : OwnL w B s ps) : VA w (ps.map (·.1)) (ps.map (·.2)) := VA.of fun p hp => (h.2.1 p hp).2.1
end
theorem nodup_of_sort {ps : List (Value × List Int)} {qs : List (Value × List Int)} (h : qs.Perm ps) (hp : ps.Pairwise (fun p q => p.1.ownBlock ≠ q.1.ownBlock)) : qs.Pairwise (fun p q => p.1.ownBlock ≠ q.1.ownBlock) :=
  (h.pairwise_iff (fun {_ _} h => Ne.symm h)).2 hp

theorem GroupM.mono {w : World} {B b n n' : Nat} {F : Int → Int → List Int} (h : GroupM w B b n F) (e : n ≤ n') : GroupM w B b n' F := by
  obtain ⟨es, clock, h1, hf, hs, r⟩ := h
  exact ⟨es, clock, h1, hf, Nat.le_trans hs e, r⟩

/-- What the walks behind 'subdivide' want of a subdivision. -/
def SubD (w : World) (B g : Nat) (a : Option Addr) (n c : Nat) (zs : List (Int × Int × Int)) : Prop :=
  ∃ pa pc s e b m B1 ps qs, StructG w g (.slice a n c) (.slice pa n pc) s e (.map (some b)) ∧ B ≤ g ∧ Reads w a 3 n (tv zs) ∧ Reads w pa 2 n (pv (ptsL zs)) ∧
    OwnL w B s ps ∧ ps.map (·.2) = cellsL zs ∧ OwnL w B e qs ∧ qs.map (·.2) = onceL zs ∧ GroupM w B1 b m (fun i j => sidesAt zs [i, j])
theorem SubD.ext {w w' : World} {B g : Nat} {a : Option Addr} {n c : Nat} {zs : List (Int × Int × Int)} (h : SubD w B g a n c zs) (e : Ext w w') : SubD w' B g a n c zs := by
  obtain ⟨pa, pc, s, t, b, m, B1, ps, qs, h1, h2, h3, h4, h5, h6, h7, h8, h9⟩ := h
  exact ⟨pa, pc, s, t, b, m, B1, ps, qs, h1.ext e, h2, Reads.ext e h3, Reads.ext e h4, h5.ext e, h6, h7.ext e, h8, h9.ext e⟩
theorem SubD.of {w : World} {B g : Nat} {a : Option Addr} {n c : Nat} {zs : List (Int × Int × Int)} (h : SubD w B g a n c zs) : SubOf w g a n c zs := by
  obtain ⟨pa, pc, s, t, b, m, B1, ps, qs, h1, h2, h3, h4, _⟩ := h
  exact ⟨pa, pc, h1.c0, h1.c1, h3, h4⟩
end Go.Proofs.YtngbdopgdcjdeaaGreatDoor

namespace Go.Proofs.YtngbdopgdcjdeaaGreatDoor
open Go.RowKit

/-- Behind the sort: a permutation in order. -/
def SortedO (B : Nat) (s : Value) (ps : List (Value × List Int)) (w : World) (e : Ending) (w' : World) : Prop :=
  e = .returned (.tuple #[]) ∧ ∃ qs : List (Value × List Int), qs.Perm ps ∧ qs.Pairwise (fun a b => ltL b.2 a.2 = false) ∧ OwnL w' B s qs ∧ w.grownBy w' s.ownBlock
theorem sortC_any (B : Nat) (s : Value) (ps : List (Value × List Int)) (w : World) (hn : ps.length ≤ 1048576) (hl : ∀ p ∈ ps, p.2.length ≤ 1000) (h : OwnL w B s ps) :
    Calls Tryz.prog 46 #[s, .func (.func 47) #[] #[]] w (SortedO B s ps w) := by
  obtain ⟨a, c, rfl⟩ := h.form
  rcases Nat.eq_zero_or_pos ps.length with e | e
  · have hp : ps = [] := List.length_eq_zero_iff.1 e
    subst hp
    refine (sortL_none a c w).mono fun _ _ ⟨h1, h2⟩ => ⟨h1, [], .refl _, .nil, h2 ▸ h, h2 ▸ World.grownBy.refl _ _⟩
  · obtain ⟨g, rfl, hg1, hg2⟩ := own_head h.1 e
    refine (sortL_any ps B ps.length c g w hn h.1 (h.rowQ rfl hl)).mono fun _ w' ⟨h1, qs, h2, h3, h4, h5⟩ => ⟨h1, qs, h2, h3, ?_, h5⟩
    have hq := h2.length_eq
    rw [← hq] at h4 ⊢
    rw [hq] at h4 ⊢
    exact h.turn h5 (by rw [hq]; exact h4) rfl (fun p hp => h2.mem_iff.1 hp) (nodup_of_sort h2 h.2.2)
theorem compact_none (p : Option Addr) (c : Nat) (w : World) : Calls Tryz.prog 48 #[.slice p 0 c, .func (.func 49) #[] #[]] w fun e w' => e = .returned (.slice p 0 c) ∧ w = w' := by
  go_enter Tryz.func48, Tryz.ntmps48
  go_wp2
  go_ret
  exact ⟨rfl, rfl⟩
/-- Behind CompactFunc: each row once. -/
def CompactO (B : Nat) (s : Value) (ps : List (Value × List Int)) (w : World) (e : Ending) (w' : World) : Prop :=
  ∃ a c, ∃ qs : List (Value × List Int), e = .returned (.slice a qs.length c) ∧ SortL (qs.map (·.2)) ∧ (∀ y, y ∈ qs.map (·.2) ↔ y ∈ ps.map (·.2)) ∧ OwnL w' B (.slice a qs.length c) qs ∧ w.grownBy w' s.ownBlock
theorem compactC_any (B : Nat) (s : Value) (ps : List (Value × List Int)) (w : World) (hn : ps.length ≤ 1048576) (hl : ∀ p ∈ ps, p.2.length ≤ 1000) (hs : ps.Pairwise (fun a b => ltL b.2 a.2 = false)) (h : OwnL w B s ps) :
    Calls Tryz.prog 48 #[s, .func (.func 49) #[] #[]] w (CompactO B s ps w) := by
  obtain ⟨a, c, rfl⟩ := h.form
  rcases Nat.eq_zero_or_pos ps.length with e | e
  · have hp : ps = [] := List.length_eq_zero_iff.1 e
    subst hp
    refine (compact_none a c w).mono fun _ _ ⟨h1, h2⟩ => ⟨a, c, [], h1, by simp [SortL], fun _ => Iff.rfl, h2 ▸ h, h2 ▸ World.grownBy.refl _ _⟩
  · obtain ⟨g, rfl, hg1, hg2⟩ := own_head h.1 e
    refine (compactL_any ps B ps.length c g w hn h.1 (h.rowQ rfl hl)).mono fun _ w' ⟨h1, h2, h3⟩ => ⟨_, _, ddTo ps ps.length, h1, ddTo_sort hs _ (Nat.le_refl _), fun y => by rw [ddTo_mem _ (Nat.le_refl _), List.take_length], ?_, h3⟩
    have hsub := ddTo_sub (ps := ps) ps.length (Nat.le_refl _)
    rw [List.take_length] at hsub
    exact h.turn h3 h2 rfl (fun p hp => hsub.subset hp) (h.2.2.sublist hsub)
end Go.Proofs.YtngbdopgdcjdeaaGreatDoor

namespace Go.Proofs.YtngbdopgdcjdeaaGreatDoor

/-- The numbers of the cells at a side: the first k cells, and the first q corners of cell k. -/
def grpF (zs : List (Int × Int × Int)) (k q : Nat) (i j : Int) : List Int := atE zs [i, j] k ++ if [i, j] ∈ pairsTo zs ((cellsL zs).getD k []) q then [(k : Int)] else []
theorem grpF_zero (zs : List (Int × Int × Int)) (k : Nat) (i j : Int) : grpF zs k 0 i j = atE zs [i, j] k := by simp [grpF, pairsTo]
theorem pairsTo_succ (zs : List (Int × Int × Int)) (x : List Int) (q : Nat) : pairsTo zs x (q + 1) = pairsTo zs x q ++ [sideC zs x q] := by simp [pairsTo, List.range_succ]
theorem grpF_end (zs : List (Int × Int × Int)) (k : Nat) (i j : Int) : grpF zs k (cornC zs ((cellsL zs).getD k [])).length i j = atE zs [i, j] (k + 1) := by
  rw [atE_succ]
  unfold grpF pairsL
  split <;> simp
theorem grpF_step {zs : List (Int × Int × Int)} (hA : Apt zs) {k q : Nat} (hk : k < (cellsL zs).length) (hq : q < (cornC zs ((cellsL zs).getD k [])).length) {lo hi : Int} (hs : sideC zs ((cellsL zs).getD k []) q = [lo, hi]) (i j : Int) :
    updG (grpF zs k q) lo hi (grpF zs k q lo hi ++ [(k : Int)]) i j = grpF zs k (q + 1) i j := by
  have hn := pairsL_nodup hA (cell_at hk)
  have hnot : [lo, hi] ∉ pairsTo zs ((cellsL zs).getD k []) q := by
    have h1 : (pairsTo zs ((cellsL zs).getD k []) (q + 1)).Nodup := by
      refine hn.sublist ?_
      unfold pairsL pairsTo
      refine List.Sublist.map _ ?_
      have h2 : (List.range (cornC zs ((cellsL zs).getD k [])).length).take (q + 1) = List.range (q + 1) := by rw [List.take_range]; congr 1; omega
      rw [← h2]
      exact List.take_sublist _ _
    rw [pairsTo_succ, hs, List.nodup_append] at h1
    intro hm
    exact h1.2.2 _ hm _ (by simp) rfl
  by_cases hij : i = lo ∧ j = hi
  · obtain ⟨rfl, rfl⟩ := hij
    rw [updG_same]
    unfold grpF
    rw [pairsTo_succ, hs, if_neg hnot, if_pos (by simp), List.append_nil]
  · rw [updG_other hij]
    unfold grpF
    rw [pairsTo_succ, hs]
    have : ([i, j] ∈ pairsTo zs ((cellsL zs).getD k []) q ++ [[lo, hi]]) ↔ [i, j] ∈ pairsTo zs ((cellsL zs).getD k []) q := by
      simp only [List.mem_append, List.mem_singleton, List.cons.injEq, and_true]
      exact ⟨fun h => h.resolve_right hij, .inl⟩
    simp only [this]
theorem grpF_len (zs : List (Int × Int × Int)) (k q : Nat) (i j : Int) : (grpF zs k q i j).length ≤ k + 1 := by
  have h1 : (atE zs [i, j] k).length ≤ k := by
    unfold atE
    rw [List.length_map]
    exact Nat.le_trans (List.length_filter_le _ _) (by simp)
  unfold grpF
  rw [List.length_append]
  split <;> simp <;> omega
end Go.Proofs.YtngbdopgdcjdeaaGreatDoor

namespace Go.Proofs.YtngbdopgdcjdeaaGreatDoor
open Go.RowKit Go.WideMaps Go.WideElems Go.MapKept

section
variable (w : World) {ops : Array Oper} {o : Oper} {a : Act} {K : Act → World → Prop} {Q : Exit → Act → World → Prop} {E : Prop}
theorem step_entry (hgd : o.guard = none) (m k : Operand) (ho : o.op = .mapEntry 66 m k) (B b n : Nat) (F : Int → Int → List Int) (h : GroupM w B b n F) (hn : n < maxLen) (i j : Int) (hi : B64 i) (hj : B64 j)
    (hm : a.eval m = .map (some b)) (hk : a.eval k = kv i j)
    (hK : ∀ v0 w1, ∀ st : Nat, w.grownBy w1 (some b) → w1.heap.size = w.heap.size → Entered w1 B b n F i j v0 st (fun lc => lc < w.heap.size ∧ Shun w b lc) → K (a.put o.dst (.tuple #[v0, .int .i64 st])) w1) :
    if Region.wanted o (yielded ops a.tmps) = true then Oper.wp Tryz.prog o a w K Q else E := by
  have hw : Region.wanted o (yielded ops a.tmps) = true := by simp [Region.wanted, hgd]
  rw [if_pos hw]
  obtain ⟨v0, w1, st, hrun, h1, h2, h3⟩ := group_entry h hn hi hj
  unfold Oper.wp execOp
  simp only [ho, Sem.run_bind, Sem.run_pure, Result.andThen_ok, hm, hk, hrun]
  exact hK v0 w1 st h1 h2 h3
theorem step_store (hgd : o.guard = none) (m s x : Operand) (ho : o.op = .entryStore 66 m s x) {B b n : Nat} {F : Int → Int → List Int} {i j : Int} {v0 : Value} {st : Nat} {Sh : Nat → Prop} {w1 : World} (h : Entered w1 B b n F i j v0 st Sh)
    (hg : w1.grownBy w v0.ownBlock) (v' : Value) (zs : List Int) (hown : w.ownsRow B 3 1 v' zs.length (iv zs)) (hpos : 0 < zs.length) (hloc : v'.ownBlock = v0.ownBlock ∨ ∃ q, v'.ownBlock = some q ∧ w1.heap.size ≤ q)
    (hm : a.eval m = .map (some b)) (hs : a.eval s = .int .i64 st) (hx : a.eval x = v')
    (hK : ∀ w3, GroupM w3 B b (n + 1) (updG F i j zs) → w.grownBy w3 (some b) → w3.heap.size = w.heap.size → (∀ lc, Sh lc → Shun w3 b lc) → K (a.put o.dst undef) w3) :
    if Region.wanted o (yielded ops a.tmps) = true then Oper.wp Tryz.prog o a w K Q else E := by
  have hw : Region.wanted o (yielded ops a.tmps) = true := by simp [Region.wanted, hgd]
  rw [if_pos hw]
  obtain ⟨w3, hrun, h1, h2, h3, h4⟩ := h.2.2.2.2 w v' zs hg hown hpos hloc
  have hrun2 : (Instr.entryStore 66 (.map (some b)) (.int .i64 st) v').run Tryz.prog w = .ok () w3 := hrun
  unfold Oper.wp execOp
  simp only [ho, Sem.run_bind, Sem.run_pure, Result.andThen_ok, hm, hs, hx, hrun2]
  exact hK w3 h1 h2 h3 h4
end
end Go.Proofs.YtngbdopgdcjdeaaGreatDoor

namespace Go.Proofs.YtngbdopgdcjdeaaGreatDoor
open Go Go.RowKit

section
variable {P : Program} {ops : Array Oper} {Q : Exit → Act → World → Prop} {md : Region.Mode} {S : World → Prop} {m : Nat}

/-- Whatever order comes: behind every operation but number m S holds. -/
def wpAnyT (P : Program) (md : Region.Mode) (ops : Array Oper) (Q : Exit → Act → World → Prop) (S : World → Prop) (m : Nat) : Nat → Array Bool → Act → World → Prop
  | 0, l, a, w => Region.ready md ops l = [] ∧ Q .normal a w
  | k + 1, l, a, w => (Region.ready md ops l = [] → Q .normal a w) ∧ ∀ i ∈ Region.ready md ops l, wpOp P ops Q i (fun a' w' => (i = m ∨ S w') ∧ wpAnyT P md ops Q S m k (l.setIfInBounds i true) a' w') a w
theorem wpAny_of_T : ∀ (k : Nat) (l : Array Bool) (a : Act) (w : World), wpAnyT P md ops Q S m k l a w → wpAny P md ops Q k l a w
  | 0, _, _, _, h => h
  | k + 1, _, _, _, h => ⟨h.1, fun i hi => wpOp_mono (fun a' w' h' => wpAny_of_T k _ a' w' h'.2) (h.2 i hi)⟩
/-- Number m waits for number i. -/
def waitsB (md : Region.Mode) (ops : Array Oper) (m i : Nat) : Bool := match ops[m]? with | some o => o.after.any fun e => Region.binds md e && e.on == i | none => false
theorem waits_ready {i : Nat} {l : Array Bool} (h : waitsB md ops m i = true) (hr : m ∈ Region.ready md ops l) : l[i]?.getD true = true := by
  obtain ⟨_, om, hom, hall⟩ := mem_ready.1 hr
  unfold waitsB at h
  rw [hom] at h
  obtain ⟨k, hk, hx⟩ := Array.any_eq_true.1 h
  simp only [Bool.and_eq_true, beq_iff_eq] at hx
  have h1 := hall _ (Array.getElem_mem hk) hx.1
  rw [hx.2] at h1
  first | exact h1 | (simpa using h1) | (cases hh : l[i]? <;> simp_all)
theorem wpAnyT_first {i : Nat} {oi : Oper} {v : Value} (hi : ops[i]? = some oi) (hsel : ∀ (j : Nat) (o : Oper) cs b, ops[j]? = some o → o.op ≠ .select cs b)
    (hQ : ∀ c a w, Q (.panic c) (a.put oi.dst v) w → Q (.panic c) a w) (hw : waitsB md ops m i = true) :
    ∀ (k : Nat) (l : Array Bool) (a : Act) (w : World),
      (∀ j oj, ops[j]? = some oj → j ≠ i → l.getD j true = false → (∀ e ∈ oj.after, Region.binds md e = true → e.on ≠ i) → oi.apart ops oj = true) →
      i ∈ Region.ready md ops l → YieldsIf P ops S oi v a → S w →
      wpAnyT P md ops Q S m k (l.setIfInBounds i true) (a.put oi.dst v) w → wpAnyT P md ops Q S m (k + 1) l a w := by
  intro k
  induction k with
  | zero =>
    intro l a w _ hr hy hS H
    refine ⟨fun h => (by rw [h] at hr; cases hr), fun j hj => ?_⟩
    by_cases hji : j = i
    · subst hji; exact hy.wpOp hi hS ⟨.inr hS, H⟩
    · have := ready_mono hj hji
      rw [H.1] at this
      cases this
  | succ k ih =>
    intro l a w hfree hr hy hS H
    refine ⟨fun h => (by rw [h] at hr; cases hr), fun j hj => ?_⟩
    by_cases hji : j = i
    · subst hji; exact hy.wpOp hi hS ⟨.inr hS, H⟩
    · have h1 := H.2 j (ready_mono hj hji)
      obtain ⟨hjun, oj, hoj, hall⟩ := mem_ready.1 hj
      have hun := (mem_ready.1 hr).1
      have hjm : j ≠ m := fun e => by
        subst e
        have h2 := waits_ready hw hj
        rcases Nat.lt_or_ge i l.size with h' | h'
        · simp [h'] at h2 hun; rw [hun] at h2; cases h2
        · simp [Array.getElem?_eq_none h'] at hun
      have hnot : ∀ e ∈ oj.after, Region.binds md e = true → e.on ≠ i := fun e he hb heq => by
        have h3 := hall e he hb
        rw [heq] at h3
        rcases Nat.lt_or_ge i l.size with h' | h'
        · simp [h'] at hun h3; rw [hun] at h3; cases h3
        · simp [Array.getElem?_eq_none h'] at hun
      have h2 := wpOp_putIf hoj (hfree j oj hoj hji hjun hnot) (fun cs b => hsel i oi cs b hi) (fun cs b => hsel j oj cs b hoj) hQ hy h1
      refine wpOp_mono (fun a' w' h3 => ?_) h2
      have hS' : S w' := h3.2.1.resolve_left hjm
      refine ⟨.inr hS', ih (l.setIfInBounds j true) a' w' (fun q oq hq hqi hqun hqno => hfree q oq hq hqi ?_ hqno) (ready_mono hr (Ne.symm hji)) h3.1 hS' ?_⟩
      · by_cases hjq : j = q
        · subst hjq; exact hjun
        · rw [getD_set_ne true hjq] at hqun; exact hqun
      · rw [Array.setIfInBounds_comm _ _ hji]
        exact h3.2.2
/-- Number i is taken first. -/
theorem wpAnyT_take {i : Nat} {oi : Oper} {v : Value} {k : Nat} {l : Array Bool} {a : Act} {w : World} (hi : ops[i]? = some oi)
    (hs : Region.noSelect ops = true) (hf : Region.free md ops l i = true) (hr : (Region.ready md ops l).contains i = true) (hw : waitsB md ops m i = true)
    (hQ : ∀ c a w, Q (.panic c) (a.put oi.dst v) w → Q (.panic c) a w) (hy : YieldsIf P ops S oi v a) (hS : S w)
    (h : wpAnyT P md ops Q S m k (l.setIfInBounds i true) (a.put oi.dst v) w) : wpAnyT P md ops Q S m (k + 1) l a w :=
  wpAnyT_first hi (Region.noSelect_spec hs) hQ hw k l a w (Region.free_spec hi hf) (by simpa using hr) hy hS h
/-- Number i alone may come up. -/
theorem wpAnyT_step {i : Nat} {o : Oper} {k : Nat} {l : Array Bool} {a : Act} {w : World} (hi : ops[i]? = some o) (hr : Region.ready md ops l = [i])
    (h : ∀ K' : Act → World → Prop, Hid (∀ a w, (i = m ∨ S w) → wpAnyT P md ops Q S m k (l.setIfInBounds i true) a w → K' a w) → if Region.wanted o (yielded ops a.tmps) = true then Oper.wp P o a w K' Q else K' (a.put o.dst undef) w) :
    wpAnyT P md ops Q S m (k + 1) l a w := by
  refine ⟨fun h0 => (by rw [hr] at h0; cases h0), fun j hj => ?_⟩
  rw [hr] at hj
  obtain rfl := List.mem_singleton.1 hj
  exact wpOp_step hi fun K' hK => h K' (Lib.hid fun a w h1 h2 => hK a w ⟨h1, h2⟩)
theorem wpAnyT_done {l : Array Bool} {a : Act} {w : World} (hr : Region.ready md ops l = []) (h : Q .normal a w) : ∀ k, wpAnyT P md ops Q S m k l a w
  | 0 => ⟨hr, h⟩
  | _ + 1 => ⟨fun _ => h, by rw [hr]; simp⟩
end
theorem wp_region_T {P : Program} {id : Nat} {Q : Exit → Act → World → Prop} {a : Act} {w : World} {l : List Oper} (S : World → Prop) (m : Nat) (hm : P.follows .mixedOrders = true)
    (h : wpAnyT P .any l.toArray Q S m l.length (Array.replicate l.length false) a w.drew) : (Code.region id l.toArray true).wp P Q a w :=
  wp_region_any hm (wpAny_of_T _ _ _ _ (by simpa using h))
end Go.Proofs.YtngbdopgdcjdeaaGreatDoor

namespace Go.Proofs.YtngbdopgdcjdeaaGreatDoor
open Go.RowKit

/-- The cells under way. -/
def CellSt (w2 wr : World) (B g : Nat) (T P M : Value) (acc : List (List Int)) : Prop :=
  ∃ s ps, StructG wr g T P s (.slice none 0 0) M ∧ OwnL wr B s ps ∧ ps.map (·.2) = acc ∧ w2.grownBy wr (some g)
theorem once_form {zs : List (Int × Int × Int)} (hA : Apt zs) {y : List Int} (h : y ∈ onceL zs) : ∃ i j : Nat, i < j ∧ j < zs.length ∧ y = [(i : Int), (j : Int)] := by
  have h1 := (foldE_mem (allE zs)).1 y h
  unfold allE at h1
  obtain ⟨x, hx, hy⟩ := List.mem_flatMap.1 h1
  obtain ⟨i, j, h2, h3, h4, _⟩ := side_way hA (mem_cellsL.1 hx) (mem_sidesL.1 hy)
  exact ⟨i, j, h2, h3, h4⟩
theorem sort_strict {qs : List (Value × List Int)} (h : qs.Pairwise (fun a b => ltL b.2 a.2 = false)) (hn : (qs.map (·.2)).Nodup) : SortL (qs.map (·.2)) := by
  unfold SortL
  rw [List.pairwise_map]
  rw [List.Nodup, List.pairwise_map] at hn
  refine (List.pairwise_and_iff.2 ⟨h, hn⟩).imp fun {a b} ⟨h1, h2⟩ => ?_
  rcases ltL_total a.2 b.2 with t | t | t
  · exact t
  · exact absurd t h2
  · rw [h1] at t; cases t
theorem mm_b64 {t s : Int} (h : B64 t ∧ B64 s) : B64 (minI t s) ∧ B64 (maxI t s) := by
  unfold minI maxI
  constructor <;> split <;> first | exact h.1 | exact h.2
theorem one_val {w : World} {g : Nat} {x : Value} (h0 : w.cell? ⟨g, 0, none⟩ = some x) : Reads w (some ⟨g, 0, none⟩) 1 1 [x] :=
  ⟨rfl, fun _ => ⟨g, 0, rfl, fun j u hj => by
    match j, hj with
    | 0, hj => simp at hj; subst hj; simpa using h0⟩⟩
set_option maxHeartbeats 4000000 in
set_option maxRecDepth 100000 in
theorem subdivide_any (a : Option Addr) (n c : Nat) (zs : List (Int × Int × Int)) (hZ : PZ zs) (w : World) (h : Reads w a 3 n (tv zs)) :
    Calls Tryz.prog 31 #[.slice a n c] w fun r w' => ∃ g, r = .returned (.pointer (some ⟨g, 0, none⟩)) ∧ SubD w' w.heap.size g a n c zs ∧ Ext w w' := by
  have hl : zs.length = n := by have := h.1; rw [tv_len] at this; omega
  have hn : n ≤ 12 := by rw [← hl]; exact hZ.1
  have HI := Lib.hid (fun i (hi : i ≤ n) => show (tripI (stepA zs) n i).length ≤ 2000 by
    have h1 := len_tripI (len_stepA zs) (n := n) i hi
    have h2 : i * (n * n) ≤ 12 * (12 * 12) := Nat.mul_le_mul (by omega) (Nat.mul_le_mul hn hn)
    omega)
  have HN := Lib.hid hl
  have HB := Lib.hid (fun m (hm : m < n) => hZ.2.1 m (by rw [hl]; exact hm))
  have HZ := Lib.hid hZ
  clear hl hZ
  have hmm := @run_makeMap Tryz.prog
  go_enter Tryz.func31, Tryz.ntmps31
  go_wp2_with fail
  refine (pointsOf_any _ _ _ zs (by omega) w h).mono ?_
  rintro e w1 ⟨pa, pc, rfl, ho1, hE1⟩
  have hpn : (ptsL zs).length = n := by rw [ptsL_len]; exact HN.out
  rw [hpn] at ho1 ⊢
  clear hpn
  go_wp2
  obtain ⟨w2, hw2⟩ : ∃ w2, w2 = (w1.alloc (.map #[] 0)).alloc (.cells #[.slice a n c, .slice pa n pc, .slice none 0 0, .slice none 0 0, .map (some w1.heap.size)] 68) := ⟨_, rfl⟩
  have hsg := StructG.new (w1.alloc (.map #[] 0)) (.slice a n c) (.slice pa n pc) (.slice none 0 0) (.slice none 0 0) (.map (some w1.heap.size))
  have hmp : w2.heap[w1.heap.size]? = some (.map #[] 0) := by rw [hw2, (MapKept.heap_alloc (w1.alloc (.map #[] 0)) _).2 _ (by simp)]; exact (MapKept.heap_alloc w1 _).1
  rw [← hw2] at hsg ⊢
  rw [show (w1.alloc (.map #[] 0)).heap.size = w1.heap.size + 1 by simp] at hsg
  have hE12 : Ext w1 w2 := by rw [hw2]; exact Ext.alloc (Ext.alloc (Ext.refl _) _) _
  have hsz : w2.heap.size = w1.heap.size + 1 + 1 := by rw [hw2]; simp
  clear hw2
  obtain ⟨g, hg⟩ : ∃ g, g = w1.heap.size + 1 := ⟨_, rfl⟩
  obtain ⟨b, hb⟩ : ∃ b, b = w1.heap.size := ⟨_, rfl⟩
  obtain ⟨B, hB⟩ : ∃ B, B = w2.heap.size := ⟨_, rfl⟩
  rw [← hg] at hsg ⊢
  rw [← hb] at hsg hmp ⊢
  have HE1 := Lib.hid (fun (wr : World) (hgr : w2.grownBy wr (some g)) => show Ext w wr ∧ Ext w1 wr from ⟨Ext.grown (hE1.trans hE12) hgr (fun k hk => by cases hk; have := hE1.size; omega), Ext.grown hE12 hgr (fun k hk => by cases hk; omega)⟩)
  have HH := Lib.hid h
  have HP := Lib.hid (own_reads ho1)
  have HBB := Lib.hid (show B ≤ w2.heap.size by omega)
  have HBB2 := Lib.hid (show w2.heap.size ≤ B by omega)
  have HGB := Lib.hid (show g < B by omega)
  have HBG := Lib.hid (show b < g by omega)
  have HMP := Lib.hid hmp
  have HWB := Lib.hid (show w.heap.size ≤ b by have := hE1.size; omega)
  have HW1B := Lib.hid (show w1.heap.size ≤ b by omega)
  have hst : CellSt w2 w2 B g (.slice a n c) (.slice pa n pc) (.map (some b)) (tripI (stepA zs) n 0) := ⟨.slice none 0 0, [], hsg, ownL_nil _ _, rfl, World.grownBy.refl _ _⟩
  clear h hmp hsg hE1 hE12 hsz hg hb hB ho1 hmm
  go_loopw [26] (fun t wr => ∃ (i : Nat), i ≤ n ∧ t = .int .i64 i ∧ CellSt w2 wr B g (.slice a n c) (.slice pa n pc) (.map (some b)) (tripI (stepA zs) n i)) (fun t _ => n - (intOf t).toNat)
  case atStart => exact ⟨0, Nat.zero_le _, rfl, hst⟩
  case round =>
    clear hst
    obtain ⟨i, hi, rfl, hr⟩ := hrel
    by_cases hlt : i < n
    · have HTI := Lib.hid (show tripI (stepA zs) n (i + 1) = tripJ (stepA zs) n i (tripI (stepA zs) n i) (n - i - 1) from rfl)
      have HA := Lib.hid (HI.out i hi)
      generalize tripI (stepA zs) n i = acc at *
      obtain ⟨wo, hwo⟩ : ∃ wo, wo = wr := ⟨_, rfl⟩
      subst hwo
      have hi2 : (i : Int) < (n : Int) := by omega
      go_wp2
      go_loopw [6] (fun t wr => ∃ (j d : Nat), j = i + 1 + d ∧ j ≤ n ∧ t = .int .i64 j ∧ CellSt w2 wr B g (.slice a n c) (.slice pa n pc) (.map (some b)) (tripJ (stepA zs) n i acc d)) (fun t _ => n - (intOf t).toNat)
      case atStart => exact ⟨i + 1, 0, rfl, by omega, by go_num, hr⟩
      case round =>
        clear hr
        obtain ⟨j, d, hjd, hj, rfl, hr⟩ := hrel
        by_cases hlj : j < n
        · have HTJ := Lib.hid (show tripJ (stepA zs) n i acc (d + 1) = tripK (stepA zs) i j (tripJ (stepA zs) n i acc d) (n - j - 1) by rw [hjd]; rfl)
          have HA2 := Lib.hid (show (tripJ (stepA zs) n i acc d).length ≤ 3000 by
            have h1 := len_tripJ (len_stepA zs) (n := n) (i := i) (acc := acc) d
            have h2 : d * n ≤ 12 * 12 := Nat.mul_le_mul (by omega) hn
            have := HA.out
            omega)
          generalize tripJ (stepA zs) n i acc d = bcc at *
          obtain ⟨wp, hwp⟩ : ∃ wp, wp = wr := ⟨_, rfl⟩
          subst hwp
          have HJD := Lib.hid hjd
          clear hjd
          have hj2 : (j : Int) < (n : Int) := by omega
          go_wp2
          go_loopw [7] (fun t wr => ∃ (k e : Nat), k = j + 1 + e ∧ k ≤ n ∧ t = .int .i64 k ∧ CellSt w2 wr B g (.slice a n c) (.slice pa n pc) (.map (some b)) (tripK (stepA zs) i j bcc e)) (fun t _ => n - (intOf t).toNat)
          case atStart => exact ⟨j + 1, 0, rfl, by omega, by go_num, hr⟩
          case round =>
            clear hr
            obtain ⟨k, e, hke, hk, rfl, hr⟩ := hrel
            by_cases hlk : k < n
            · have HTK := Lib.hid (show tripK (stepA zs) i j bcc (e + 1) = stepA zs i j k (tripK (stepA zs) i j bcc e) by rw [hke]; rfl)
              have HA3 := Lib.hid (show (tripK (stepA zs) i j bcc e).length ≤ 4000 by
                have h1 := len_tripK (len_stepA zs) (i := i) (j := j) (acc := bcc) e
                have := HA2.out
                omega)
              generalize tripK (stepA zs) i j bcc e = ccc at *
              have HKE := Lib.hid hke
              clear hke
              have hk2 : (k : Int) < (n : Int) := by omega
              obtain ⟨s, ps, hsg, hol, hps, hgr⟩ := hr
              have HGR := Lib.hid hgr
              have HOL := Lib.hid hol
              have HSG := Lib.hid hsg
              have HPS := Lib.hid hps
              have hE1 := HE1.out wr hgr
              have HSO := Lib.hid (show SubOf wr g a n c zs from ⟨pa, pc, hsg.c0, hsg.c1, Reads.ext hE1.1 HH.out, Reads.ext hE1.2 HP.out⟩)
              clear hsg hol hps hgr hE1
              go_wp2_with fail
              refine (cellOf_any g a n c zs hn HB.out i j k hlt hlj hlk wr HSO.out).mono ?_
              rintro e5 w5 ⟨a5, c5, rfl, ho5, hE5⟩
              obtain ⟨L, hL⟩ : ∃ L, L = cellL zs i j k := ⟨_, rfl⟩
              have hL12 : L.length ≤ 12 := by rw [hL]; exact Nat.le_trans (onTo'_len zs i j k zs.length) (by rw [HN.out]; exact hn)
              have hLp : 0 < L.length := by rw [hL]; exact cell_some (by rw [HN.out]; exact hlt)
              have HST := Lib.hid (show stepA zs i j k ccc = if cellB zs i j k = true then ccc ++ [L] else ccc by rw [hL]; rfl)
              rw [← hL] at ho5 ⊢
              clear hL
              generalize cellB zs i j k = ok at *
              have HSG5 := Lib.hid (HSG.out.ext hE5)
              have HOL5 := Lib.hid (HOL.out.ext hE5)
              have HGR5 := Lib.hid (grown_trans HGR.out (Ext.grownBy hE5 (some g)))
              cases ok
              · have HV := Lib.hid (HTK.out.trans (HST.out.trans (if_neg (by simp))))
                clear ho5 hE5 HST
                go_wp2
                go_roundw
                case rel => exact ⟨k + 1, e + 1, by have := HKE.out; omega, by omega, by go_num, by rw [HV.out]; exact ⟨s, ps, HSG5.out, HOL5.out, HPS.out, HGR5.out⟩⟩
                case measure => simp [intOf]; omega
              · have HV := Lib.hid (HTK.out.trans (HST.out.trans (if_pos rfl)))
                simp only [gL, if_true] at ho5
                obtain ⟨q5, hq5, hq6, hq7⟩ := own_some ho5 hLp
                have HF5 := Lib.hid (HOL.out.fresh hq6)
                have HO5 := Lib.hid (own_mono (show B ≤ wr.heap.size from Nat.le_trans HBB.out HGR.out.size) ho5)
                obtain ⟨sa, sc, rfl⟩ := HOL.out.form
                have hpl : ps.length ≤ 4000 := by have h1 := HA3.out; rw [← HPS.out, List.length_map] at h1; exact h1
                have hc2 := HSG5.out.c2
                have hgl := HSG5.out.lt
                have HQ5 := Lib.hid hq5
                have hsz5 : B ≤ w5.heap.size := Nat.le_trans HBB.out HGR5.out.size
                clear ho5 hE5 HST hq5 HTK
                obtain ⟨i0, hz1, hz2, hz3, hz4⟩ := info_parts ints_info2
                simp only [gL, if_true] at *
                go_wp2_with (at_builtin; go_must (refine wpList_app_any _ rfl _ _ 31 rfl B 33 i0 _ 1 24 Tryz.underlying31 hz1 hz2 hz3 hz4 rfl (by decide) _ ps.length (ps.map (·.1)) rfl ((HOL5.out.ext ((Ext.refl w5).alloc _)).1) _ 1 1 [.slice a5 L.length c5] rfl (one_val (by simp)) (by simp [Value.oneCell']) (by unfold maxLen; omega) (by omega) (by simp; omega) ?_))
                intro a6 c6 w6 hown6 hg6 hl6
                have hal : w5.grownBy (w5.alloc (.cells #[.slice a5 L.length c5] 33)) none := World.grownBy_alloc w5 _ none
                have HOL6 := Lib.hid ((HOL5.out.ext ((Ext.refl w5).alloc _)).push (own_ext ((Ext.refl w5).alloc _) (own_ext (Ext.refl w5) HO5.out)) HQ5.out HF5.out.1 HF5.out.2 hg6 hown6 (hl6.imp id fun e => ⟨_, e, by simp⟩))
                have hne : (Value.slice sa ps.length sc).ownBlock ≠ some g := fun e => by have h1 := (HOL.out.1.lt g e).1; have h2 := HGB.out; omega
                have HSG6 := Lib.hid ((HSG5.out.ext ((Ext.refl w5).alloc _)).kept hg6 hne)
                have HGR6 := Lib.hid (World.grownBy.andThen (World.grownBy.andThen HGR5.out hal (fun j hj => by cases hj)) hg6 (fun j hj => .inl (by have h1 := (HOL.out.1.lt j hj).1; have h2 := HBB2.out; omega)))
                have hc6 := HSG6.out.c2
                have hf6 := HSG6.out.thaw 2
                clear hown6 hg6 hl6 hal hne hc2 hgl hz1 hz2 hz3 hz4
                have hgl := HSG6.out.lt
                go_wp2
                go_roundw
                case rel => exact ⟨k + 1, e + 1, by have := HKE.out; omega, by omega, by go_num, by rw [HV.out]; exact ⟨_, ps ++ [(.slice a5 L.length c5, L)], HSG6.out.set2 _, HOL6.out.kept (grown_at _ _ _) (fun q hq => by cases hq; exact HGB.out), by rw [List.map_append, HPS.out]; rfl, grown_trans HGR6.out (grown_at _ _ _)⟩⟩
                case measure => simp [intOf]; omega
            · have HV := Lib.hid (show tripJ (stepA zs) n i acc (d + 1) = tripK (stepA zs) i j bcc e by rw [HTJ.out]; congr 1; omega)
              have hk2 : ¬ (k : Int) < (n : Int) := by omega
              have HR := Lib.hid hr
              clear hr
              go_wp2
              go_roundw
              case rel => exact ⟨j + 1, d + 1, by have := HJD.out; omega, by omega, by go_num, by rw [HV.out]; exact HR.out⟩
              case measure => simp [intOf]; omega
        · have HV := Lib.hid (show tripI (stepA zs) n (i + 1) = tripJ (stepA zs) n i acc d by rw [HTI.out]; congr 1; omega)
          have hj2 : ¬ (j : Int) < (n : Int) := by omega
          have HR := Lib.hid hr
          clear hr
          go_wp2
          go_roundw
          case rel => exact ⟨i + 1, by omega, by go_num, by rw [HV.out]; exact HR.out⟩
          case measure => simp [intOf]; omega
    · obtain rfl : i = n := by omega
      have hi2 : ¬ (i : Int) < (i : Int) := by omega
      have HCA := Lib.hid (show tripI (stepA zs) i i = cellsA zs by unfold cellsA; rw [HN.out])
      have HIL := Lib.hid (HI.out i (Nat.le_refl _))
      have HSH := Lib.hid (keep_tripI (n := i) (short_stepA zs) (short_nil _) i)
      generalize tripI (stepA zs) i i = acc at *
      obtain ⟨s, ps, hsg, hol, hps, hgr⟩ := hr
      have hpl : ps.length ≤ 2000 := by have h1 := HIL.out; rw [← hps, List.length_map] at h1; exact h1
      have hpp : ∀ p ∈ ps, p.2.length ≤ 12 := fun p hp => Nat.le_trans (HSH.out p.2 (by rw [← hps]; exact List.mem_map_of_mem hp)) (by rw [HN.out]; exact hn)
      have hne : ∀ q, s.ownBlock = some q → q ≠ g ∧ w2.heap.size ≤ q := fun q hq => by have h1 := (hol.1.lt q hq).1; have h2 := HGB.out; have h3 := HBB2.out; exact ⟨by omega, by omega⟩
      have hc2 := hsg.c2
      have hgl := hsg.lt
      have HSG := Lib.hid hsg
      have HOL := Lib.hid hol
      have HPS := Lib.hid hps
      have HGR := Lib.hid hgr
      have HPP := Lib.hid hpp
      have HNE := Lib.hid hne
      clear hsg hol hps hgr hpp hne
      go_wp2_with fail
      refine (sortC_any B s ps wr (by omega) (fun p hp => by have := HPP.out p hp; omega) HOL.out).mono ?_
      rintro e w3 ⟨rfl, qs, hqp, hqs, hol3, hg3⟩
      have HSG3 := Lib.hid (HSG.out.kept hg3 (fun e => (HNE.out g e).1 rfl))
      have HGR3 := Lib.hid (World.grownBy.andThen HGR.out hg3 (fun j hj => .inl (HNE.out j hj).2))
      have hc3 := HSG3.out.c2
      have hgl3 := HSG3.out.lt
      clear hc2 hgl hg3
      go_wp2_with fail
      refine (compactC_any B s qs w3 (by rw [hqp.length_eq]; omega) (fun p hp => by have := HPP.out p (hqp.mem_iff.1 hp); omega) hqs hol3).mono ?_
      rintro e w4 ⟨a4, c4, rs, rfl, hso, hmem, hol4, hg4⟩
      have HSG4 := Lib.hid (HSG3.out.kept hg4 (fun e => (HNE.out g e).1 rfl))
      have HGR4 := Lib.hid (World.grownBy.andThen HGR3.out hg4 (fun j hj => .inl (HNE.out j hj).2))
      have HRS := Lib.hid (show rs.map (·.2) = cellsL zs from sort_unique hso (sort_cellsL zs) (fun y => by rw [hmem y, mem_cellsL, ← mem_cellsA, ← HCA.out, ← HPS.out]; exact (hqp.map (·.2)).mem_iff))
      have HOL4 := Lib.hid hol4
      have HRL := Lib.hid (show rs.length = (cellsL zs).length by rw [← HRS.out, List.length_map])
      have hrl2 : rs.length ≤ 2000 := by rw [HRL.out]; exact cells_most HZ.out
      have hc4 := HSG4.out.c2
      have hgl4 := HSG4.out.lt
      have hf4 := HSG4.out.thaw 2
      clear hc3 hgl3 hqp hqs hol3 hso hmem hol4 hg4 HPP HNE HSH HIL HI
      go_wp2_with fail
      obtain ⟨w5, hw5⟩ : ∃ w5, w5 = w4.setCell ⟨g, 2, none⟩ (.slice a4 rs.length c4) := ⟨_, rfl⟩
      rw [← hw5]
      have HSG5 := Lib.hid (show StructG w5 g (.slice a i c) (.slice pa i pc) (.slice a4 rs.length c4) (.slice none 0 0) (.map (some b)) by rw [hw5]; exact HSG4.out.set2 _)
      have HOL5 := Lib.hid (show OwnL w5 B (.slice a4 rs.length c4) rs by rw [hw5]; exact HOL4.out.kept (grown_at _ _ _) (fun q hq => by cases hq; exact HGB.out))
      have HGR5 := Lib.hid (show w2.grownBy w5 (some g) by rw [hw5]; exact grown_trans HGR4.out (grown_at _ _ _))
      clear hw5 hc4 hgl4 hf4
      have HMP5 := Lib.hid (show w5.heap[b]? = some (.map #[] 0) by rw [HGR5.out.block b (by have := HBG.out; have := HGB.out; have := HBB.out; omega) (by simp; have := HBG.out; omega)]; exact HMP.out)
      obtain ⟨C, hC⟩ : ∃ C, C = w5.heap.size := ⟨_, rfl⟩
      have HC := Lib.hid hC
      have HBC := Lib.hid (show B ≤ C by rw [hC]; exact Nat.le_trans HBB.out HGR5.out.size)
      clear hC
      have HE5 := Lib.hid (fun (wr : World) (hgr : w5.grownBy wr (some b)) => show Ext w wr ∧ Ext w1 wr from ⟨Ext.grown (HE1.out w5 HGR5.out).1 hgr (fun k hk => by cases hk; exact HWB.out), Ext.grown (HE1.out w5 HGR5.out).2 hgr (fun k hk => by cases hk; exact HW1B.out)⟩)
      have hgm : GroupM w5 C b 0 (fun i j => atE zs [i, j] 0) := (groupM_new w5 C b HMP5.out (by have := HBG.out; have := HGB.out; have := HBC.out; omega)).congr (fun i j => rfl)
      go_loopw [81] (fun t wr => ∃ (k : Nat), k ≤ rs.length ∧ t = .int .i64 k ∧ GroupM wr C b (k * 24) (fun i j => atE zs [i, j] k) ∧ w5.grownBy wr (some b)) (fun t _ => rs.length - (intOf t).toNat)
      case atStart => exact ⟨0, Nat.zero_le _, rfl, hgm, World.grownBy.refl _ _⟩
      case round =>
        clear hgm
        obtain ⟨k, hk, rfl, hgm, hgr⟩ := hrel
        by_cases hlk : k < rs.length
        · have hkc : k < (cellsL zs).length := by rw [← HRL.out]; exact hlk
          have HX := Lib.hid (cell_at hkc)
          have HG := Lib.hid hgm
          have HR := Lib.hid hgr
          have hol := HOL5.out.kept hgr (fun q hq => by cases hq; have := HBG.out; have := HGB.out; omega)
          have hva := hol.va
          rw [HRS.out] at hva
          obtain ⟨ak, ck, hvk, hrk⟩ := hva.at k hkc
          obtain ⟨gc, rfl, hgc1, hgc2⟩ := own_head hol.1 (by omega)
          have hck := (hol.1.cellAt k (by omega)).trans hvk
          have HSGr := Lib.hid (HSG5.out.kept hgr (by simp; have := HBG.out; omega))
          have HSO := Lib.hid (show SubOf wr g a i c zs from ⟨pa, pc, HSGr.out.c0, HSGr.out.c1, Reads.ext (HE5.out wr hgr).1 HH.out, Reads.ext (HE5.out wr hgr).2 HP.out⟩)
          have HRK := Lib.hid hrk
          have hkn : (k : Int) < (rs.length : Int) := by omega
          have HKC := Lib.hid hkc
          clear hgm hol hva hvk hrk hkc
          obtain ⟨x, hx⟩ : ∃ x, x = (cellsL zs).getD k [] := ⟨_, rfl⟩
          rw [← hx] at HX HRK hck
          have HXE := Lib.hid hx
          clear hx
          go_wp2_with fail
          refine (corners_any g a ak i c _ _ zs HZ.out x HX.out wr HSO.out HRK.out).mono ?_
          rintro e w6 ⟨al, cl, rfl, hol6, hE6⟩
          have HL3 := Lib.hid (show 3 ≤ (cornC zs x).length by obtain ⟨m', n', _, h1, h2⟩ := corn_len HZ.out.2.2 HX.out; omega)
          have HL24 := Lib.hid (show (cornC zs x).length ≤ 24 by rw [cornC_len]; exact corn_most HZ.out HX.out)
          obtain ⟨L, hL⟩ : ∃ L, L = cornC zs x := ⟨_, rfl⟩
          rw [← hL] at HL3 HL24 hol6 ⊢
          have HLE := Lib.hid hL
          clear hL
          have hl3 := HL3.out
          have hl24 := HL24.out
          obtain ⟨lc, rfl, hlc1, hlc2⟩ := own_head hol6 (by omega)
          have hg6 : GroupM w6 C b (k * 24 + 0) (grpF zs k 0) := (HG.out.ext hE6).congr (fun i j => (grpF_zero zs k i j).symm)
          have hs6 : Shun w6 b lc := (HG.out.shun hlc1).kept (Ext.grownBy hE6 none) HG.out.lt (by simp)
          have hr6 := grown_trans hgr (Ext.grownBy hE6 (some b))
          have hbl : b < lc := by have := HG.out.lt; omega
          have HBL := Lib.hid hbl
          clear hgr hck hE6 hbl hgc1 hgc2
          obtain ⟨wo, hwo⟩ : ∃ wo, wo = wr := ⟨_, rfl⟩
          subst hwo
          go_wp2
          go_loopw [91] (fun t wr => ∃ (q : Nat), q ≤ L.length ∧ t = .int .i64 q ∧ GroupM wr C b (k * 24 + q) (grpF zs k q) ∧ w5.grownBy wr (some b) ∧ Shun wr b lc ∧ wr.ownsRow wo.heap.size 3 1 (.slice (some ⟨lc, 0, none⟩) L.length cl) L.length (iv L)) (fun t _ => L.length - (intOf t).toNat)
          case atStart => exact ⟨0, Nat.zero_le _, rfl, hg6, hr6, hs6, hol6⟩
          case round =>
            clear hg6 hr6 hs6 hol6
            obtain ⟨q, hq, rfl, hgm, hgr, hsh, hol⟩ := hrel
            by_cases hlq : q < L.length
            · have HG := Lib.hid hgm
              have HR := Lib.hid hgr
              have HSH := Lib.hid hsh
              have HOLQ := Lib.hid hol
              obtain ⟨y, hy⟩ : ∃ y, y = (q + 1) % L.length := ⟨_, rfl⟩
              have hyl : y < L.length := by rw [hy]; exact Nat.mod_lt _ (by omega)
              have hmod : ((q : Int) + 1).tmod (L.length : Int) = (y : Int) := by rw [Int.tmod_eq_emod_of_nonneg (by omega), hy]; rfl
              have k0 := (hol.cellAt q (by omega)).trans (iv_at hlq)
              have k1 := (hol.cellAt y (by omega)).trans (iv_at hyl)
              have HBQ := Lib.hid (show B64 (L.getD q 0) ∧ B64 (L.getD y 0) by
                rw [HLE.out] at hlq hyl ⊢
                obtain ⟨t1, h1, _, _, h2⟩ := corn_term HZ.out.2.2 HX.out hlq
                obtain ⟨t2, h3, _, _, h4⟩ := corn_term HZ.out.2.2 HX.out hyl
                rw [h2, h4]
                have := HN.out
                unfold B64
                exact ⟨⟨by omega, by omega⟩, ⟨by omega, by omega⟩⟩)
              have HSD := Lib.hid (show sideC zs x q = [minI (L.getD q 0) (L.getD y 0), maxI (L.getD q 0) (L.getD y 0)] by unfold sideC; rw [← HLE.out, ← hy, minI_min, maxI_max])
              generalize L.getD q 0 = t at *
              generalize L.getD y 0 = s' at *
              have hcm : ¬ (L.length : Int) = 0 := by omega
              have hyi : (y : Int) < (L.length : Int) := by omega
              have hqi : (q : Int) < (L.length : Int) := by omega
              have hy0 : (0 : Int) ≤ (y : Int) := by omega
              clear hgm hgr hsh hol hy
              go_wp2_with fail
              refine (pair_any t s' _).mono ?_
              rintro e w7 ⟨rfl, hE7⟩
              have HLH := Lib.hid (mm_b64 HBQ.out)
              generalize minI t s' = lo at *
              generalize maxI t s' = hi at *
              clear k0 k1 hmod
              have HE7 := Lib.hid hE7
              clear hE7
              go_wp2_with fail
              have hg8 := Lib.hid (HG.out.ext HE7.out)
              obtain ⟨w8, hw8⟩ : ∃ w8, w8 = w7.alloc (.cells #[.int .i64 lo, .int .i64 hi] 85) := ⟨_, rfl⟩
              have hE78 : Ext w7 w8 := by rw [hw8]; exact Ext.alloc (Ext.refl _) _
              have hb0 : w8.cell? ⟨w7.heap.size, 0, none⟩ = some (.int .i64 lo) := by rw [hw8]; simp
              have hb1 : w8.cell? ⟨w7.heap.size, 1, none⟩ = some (.int .i64 hi) := by rw [hw8]; simp
              rw [← hw8]
              clear hw8
              obtain ⟨xb, hxb⟩ : ∃ xb, xb = w7.heap.size := ⟨_, rfl⟩
              rw [← hxb] at hb0 hb1 ⊢
              have HE8 := Lib.hid (HE7.out.trans hE78)
              have HG8 := Lib.hid (HG.out.ext HE8.out)
              have HR8 := Lib.hid (grown_trans HR.out (Ext.grownBy HE8.out (some b)))
              have HS8 := Lib.hid (HSH.out.kept (Ext.grownBy HE8.out none) HG.out.lt (by simp))
              have HOL8 := Lib.hid (own_ext HE8.out HOLQ.out)
              have HSG8 := Lib.hid (HSG5.out.kept HR8.out (by simp; have := HBG.out; omega))
              have HEW := Lib.hid (HE5.out w8 HR8.out).1
              have hc4 := HSG8.out.c4
              have HLC8 := Lib.hid ((HOL8.out.lt lc rfl).2)
              have hgl := HSG8.out.lt
              have hxl := lt_of_cell hb0
              have hne1 : g ≠ b := by have := HBG.out; omega
              have hne2 : xb ≠ b := fun e => by have h1 := HG8.out; obtain ⟨es, clock, h2, _⟩ := h1; rw [e] at hb0; simp [World.cell?, h2] at hb0
              have HW8 := Lib.hid (show w.heap.size ≤ w8.heap.size from HEW.out.size)
              have HCL := Lib.hid (show C ≤ w8.heap.size by rw [HC.out]; exact HR8.out.size)
              have hbw : w.heap.size ≤ b := HWB.out
              have hgz : (grpF zs k q lo hi).length ≤ 2001 := Nat.le_trans (grpF_len zs k q lo hi) (by omega)
              have HZI := Lib.hid (info_parts int_info)
              obtain ⟨i0, hzz⟩ := HZI.out
              have HZJ := Lib.hid hzz
              clear hzz HZI HE7
              have HSX := Lib.hid ((hg8.out.shun (Nat.le_of_eq hxb.symm)).kept (Ext.grownBy hE78 none) hg8.out.lt (by simp))
              have HWC := Lib.hid (show w.heap.size ≤ C by rw [HC.out]; exact (HE5.out w5 (World.grownBy.refl _ _)).1.size)
              have HGC := Lib.hid (show g < C by have h1 := HGB.out; have h2 := HBC.out; omega)
              have hbl8 := HG8.out.lt
              clear hg8 hE78 hxb
              have HKE := Lib.hid (show Ext w w8 ∧ w8.cell? ⟨g, 4, none⟩ = some (.map (some b)) ∧ w8.cell? ⟨xb, 0, none⟩ = some (.int .i64 lo) ∧ w8.cell? ⟨xb, 1, none⟩ = some (.int .i64 hi) from ⟨HEW.out, hc4, hb0, hb1⟩)
              obtain ⟨v0, w9, st, hrun8, hg9, hs9, hE9⟩ := group_entry (u := (w8.alloc (.cells #[.int .i64 (k : Int)] 3)).drew) (HG8.out.ext (by repeat (first | exact Ext.refl _ | assumption | apply Ext.alloc | apply Ext.drew | apply Ext.drewN | (refine Ext.trans ?_ (by assumption)) | (refine Ext.setCell ?_ (by (try simp) <;> omega) _)))) (by unfold maxLen; omega) HLH.out.1 HLH.out.2
              have hrun9 : (Instr.mapEntry 66 (.map (some b)) (.agg #[.int .i64 lo, .int .i64 hi])).run Tryz.prog (w8.alloc (.cells #[.int .i64 (k : Int)] 3)).drew = .ok (.tuple #[v0, .int .i64 st]) w9 := hrun8
              have H1 := Lib.hid hE9
              have hcl := grown_keep (b := w8.heap.size) (o := 0) (v := .int .i64 (k : Int)) hg9 (by simp) (by simp; omega)
              have HK9 := Lib.hid (show Ext w w9 ∧ w9.cell? ⟨g, 4, none⟩ = some (.map (some b)) ∧ w9.cell? ⟨xb, 0, none⟩ = some (.int .i64 lo) ∧ w9.cell? ⟨xb, 1, none⟩ = some (.int .i64 hi) from ⟨Ext.grown (HEW.out.trans (by repeat (first | exact Ext.refl _ | assumption | apply Ext.alloc | apply Ext.drew | apply Ext.drewN | (refine Ext.trans ?_ (by assumption)) | (refine Ext.setCell ?_ (by (try simp) <;> omega) _)))) hg9 (fun k hk => by cases hk; exact hbw), grown_keep hg9 (Ext.keep (w := w8) (by repeat (first | exact Ext.refl _ | assumption | apply Ext.alloc | apply Ext.drew | apply Ext.drewN | (refine Ext.trans ?_ (by assumption)) | (refine Ext.setCell ?_ (by (try simp) <;> omega) _))) hc4) (by simp; omega), grown_keep hg9 (Ext.keep (w := w8) (by repeat (first | exact Ext.refl _ | assumption | apply Ext.alloc | apply Ext.drew | apply Ext.drewN | (refine Ext.trans ?_ (by assumption)) | (refine Ext.setCell ?_ (by (try simp) <;> omega) _))) hb0) (by simp; omega), grown_keep hg9 (Ext.keep (w := w8) (by repeat (first | exact Ext.refl _ | assumption | apply Ext.alloc | apply Ext.drew | apply Ext.drewN | (refine Ext.trans ?_ (by assumption)) | (refine Ext.setCell ?_ (by (try simp) <;> omega) _))) hb1) (by simp; omega)⟩)
              have HXX := Lib.hid (hE9.2.2.2.1 xb ⟨by simp; omega, HSX.out.kept (Ext.grownBy (w := w8) (by repeat (first | exact Ext.refl _ | assumption | apply Ext.alloc | apply Ext.drew | apply Ext.drewN | (refine Ext.trans ?_ (by assumption)) | (refine Ext.setCell ?_ (by (try simp) <;> omega) _))) none) HG8.out.lt (by simp)⟩)
              have HCL9 := Lib.hid (show C ≤ w9.heap.size by have := HCL.out; simp at hs9; omega)
              have HG9 := Lib.hid (grown_trans (Ext.grownBy (w := w8) (by repeat (first | exact Ext.refl _ | assumption | apply Ext.alloc | apply Ext.drew | apply Ext.drewN | (refine Ext.trans ?_ (by assumption)) | (refine Ext.setCell ?_ (by (try simp) <;> omega) _))) (some b)) hg9)
              have HS9 := Lib.hid hs9
              clear hg9 hE9 hrun8 hs9
              go_region_held3 (fun w' => Ext w w' ∧ w'.cell? ⟨g, 4, none⟩ = some (.map (some b)) ∧ w'.cell? ⟨xb, 0, none⟩ = some (.int .i64 lo) ∧ w'.cell? ⟨xb, 1, none⟩ = some (.int .i64 hi)) (first | (with_reducible exact HK11.out) | (with_reducible exact HK10.out) | (with_reducible exact HK9.out) | exact ⟨HEW.out.trans (by repeat (first | exact Ext.refl _ | assumption | apply Ext.alloc | apply Ext.drew | apply Ext.drewN | (refine Ext.trans ?_ (by assumption)) | (refine Ext.setCell ?_ (by (try simp) <;> omega) _))), Ext.keep (w := w8) (by repeat (first | exact Ext.refl _ | assumption | apply Ext.alloc | apply Ext.drew | apply Ext.drewN | (refine Ext.trans ?_ (by assumption)) | (refine Ext.setCell ?_ (by (try simp) <;> omega) _))) hc4, Ext.keep (w := w8) (by repeat (first | exact Ext.refl _ | assumption | apply Ext.alloc | apply Ext.drew | apply Ext.drewN | (refine Ext.trans ?_ (by assumption)) | (refine Ext.setCell ?_ (by (try simp) <;> omega) _))) hb0, Ext.keep (w := w8) (by repeat (first | exact Ext.refl _ | assumption | apply Ext.alloc | apply Ext.drew | apply Ext.drewN | (refine Ext.trans ?_ (by assumption)) | (refine Ext.setCell ?_ (by (try simp) <;> omega) _))) hb1⟩) (first | (refine step_app_any _ (by rfl) _ _ 33 (by rfl) C 3 i0 _ 1 8 Tryz.underlying33 HZJ.out.1 HZJ.out.2.1 HZJ.out.2.2.1 HZJ.out.2.2.2 rfl (by decide) _ (grpF zs k q lo hi).length (iv (grpF zs k q lo hi)) (by rfl) H1.out.1 _ 1 1 [.int .i64 k] (by rfl) (one_val hcl) (by simp [Value.oneCell']) (by unfold maxLen; omega) (by omega) HCL9.out ?_; intro a10 c10 w10 hown10 hg10 hl10; have HK10 := Lib.hid (show Ext w w10 ∧ w10.cell? ⟨g, 4, none⟩ = some (.map (some b)) ∧ w10.cell? ⟨xb, 0, none⟩ = some (.int .i64 lo) ∧ w10.cell? ⟨xb, 1, none⟩ = some (.int .i64 hi) from ⟨Ext.grown HK9.out.1 hg10 (fun k hk => by have h1 := (H1.out.1.lt k hk).1; have h2 := HWC.out; omega), grown_keep hg10 HK9.out.2.1 (fun e => by have h1 := (H1.out.1.lt g e.symm).1; have h2 := HGC.out; omega), grown_keep hg10 HK9.out.2.2.1 (fun e => HXX.out e.symm), grown_keep hg10 HK9.out.2.2.2 (fun e => HXX.out e.symm)⟩); obtain ⟨w11, hrun11, hG11, hgr11, hs11, hsh11⟩ := H1.out.2.2.2.2 w10 (.slice a10 ((grpF zs k q lo hi).length + 1) c10) (grpF zs k q lo hi ++ [(k : Int)]) hg10 (by simpa [iv] using hown10) (by simp) (hl10.imp id fun e => ⟨_, e, Nat.le_refl _⟩); have hrun12 : (Instr.entryStore 66 (.map (some b)) (.int .i64 st) (.slice a10 ((grpF zs k q lo hi).length + 1) c10)).run Tryz.prog w10 = .ok () w11 := hrun11; have HG11 := Lib.hid hG11; have HR10 := Lib.hid hg10; have HR11 := Lib.hid hgr11; have HS11 := Lib.hid hsh11; have HV0 := Lib.hid hown10; have HK11 := Lib.hid (show Ext w w11 ∧ w11.cell? ⟨g, 4, none⟩ = some (.map (some b)) ∧ w11.cell? ⟨xb, 0, none⟩ = some (.int .i64 lo) ∧ w11.cell? ⟨xb, 1, none⟩ = some (.int .i64 hi) from ⟨Ext.grown HK10.out.1 hgr11 (fun k hk => by cases hk; exact hbw), grown_keep hgr11 HK10.out.2.1 (by simp; omega), grown_keep hgr11 HK10.out.2.2.1 (by simp; omega), grown_keep hgr11 HK10.out.2.2.2 (by simp; omega)⟩); clear hown10 hg10 hl10 hrun11 hG11 hgr11 hs11 hsh11))
              have hr11 := Lib.hid (World.grownBy.andThen (World.grownBy.andThen (World.grownBy.andThen HR8.out HG9.out (fun j hj => .inr hj)) HR10.out (fun j hj => .inl (by have h1 := (H1.out.1.lt j hj).1; rw [← HC.out]; exact h1))) HR11.out (fun j hj => .inr hj))
              have hlt8 := HLC8.out
              have hsh := Lib.hid (show Shun (w8.alloc (.cells #[.int .i64 (k : Int)] 3)).drew b lc from HS8.out.kept (Ext.grownBy (w := w8) (by repeat (first | exact Ext.refl _ | assumption | apply Ext.alloc | apply Ext.drew | apply Ext.drewN | (refine Ext.trans ?_ (by assumption)) | (refine Ext.setCell ?_ (by (try simp) <;> omega) _))) none) HG8.out.lt (by simp))
              have hlc9 : lc < (w8.alloc (.cells #[.int .i64 (k : Int)] 3)).drew.heap.size := by simp; omega
              have ho11 := Lib.hid (own_apartQ (own_apartQ (own_apartQ HOL8.out HG9.out (fun j hj e => by have h1 := HBL.out; simp [Value.ownBlock] at hj e; omega)) HR10.out (fun j hj => by cases hj; exact H1.out.2.2.2.1 lc ⟨hlc9, hsh.out⟩)) HR11.out (fun j hj e => by have h1 := HBL.out; simp [Value.ownBlock] at hj e; omega))
              have hg11 := Lib.hid (HG11.out.congr (G := grpF zs k (q + 1)) (fun i j => grpF_step HZ.out.2.2 HKC.out (by rw [← HXE.out, ← HLE.out]; exact hlq) (by rw [← HXE.out]; exact HSD.out) i j))
              have hs11 := Lib.hid (HS11.out lc ⟨hlc9, hsh.out⟩)
              clear hrun9 hrun12 hcl hc4 hb0 hb1 hne1 hne2 hgz hbw hlt8 hlc9
              go_wp2
              go_roundw
              case rel => exact ⟨q + 1, by omega, by go_num, hg11.out, hr11.out, hs11.out, ho11.out⟩
              case measure => simp [intOf]; omega
            · obtain rfl : q = L.length := by omega
              have hg2 := Lib.hid ((hgm.congr (G := fun i j => atE zs [i, j] (k + 1)) (fun i j => by rw [HLE.out, HXE.out]; exact grpF_end zs k i j)).mono (show k * 24 + L.length ≤ (k + 1) * 24 by omega))
              have hr2 := Lib.hid hgr
              clear hgm hgr hsh hol
              go_wp2
              go_roundw
              case rel => exact ⟨k + 1, by omega, by go_num, hg2.out, hr2.out⟩
              case measure => simp [intOf]; omega
        · obtain rfl : k = rs.length := by omega
          have hkn : ¬ (rs.length : Int) < (rs.length : Int) := by omega
          have HGM := Lib.hid (hgm.congr (G := fun i j => sidesAt zs [i, j]) (fun i j => by rw [HRL.out]; rfl))
          have HR12 := Lib.hid hgr
          have HSG12 := Lib.hid (HSG5.out.kept hgr (by simp; have := HBG.out; omega))
          have HOL12 := Lib.hid (HOL5.out.kept hgr (fun q hq => by cases hq; have := HBG.out; have := HGB.out; omega))
          obtain ⟨wa, cnt, hrange, hrd, hcn, hga, hsa⟩ := ranged_start HGM.out
          have hc4 := HSG12.out.c4
          have hgl := HSG12.out.lt
          obtain ⟨w12, hw12⟩ : ∃ w12, w12 = wr := ⟨_, rfl⟩
          subst hw12
          go_wp2
          obtain ⟨r, hr⟩ : ∃ r, r = w12.heap.size := ⟨_, rfl⟩
          rw [← hr] at hrd hsa hrange ⊢
          have HRE := Lib.hid hr
          obtain ⟨D, hD⟩ : ∃ D, D = wa.heap.size := ⟨_, rfl⟩
          have hDr : D = r + 1 := by omega
          have HDR := Lib.hid hDr
          have hgm0 := Lib.hid (HSG12.out.kept hga (by simp))
          have HGA := Lib.hid hga
          have HWA := Lib.hid (show D ≤ wa.heap.size by omega)
          have HN24 := Lib.hid hcn
          have hst : ∃ L e qs cn, Ranged wa b r (rs.length * 24) (fun i j => sidesAt zs [i, j]) L cn ∧ StructG wa g (.slice a i c) (.slice pa i pc) (.slice a4 rs.length c4) e (.map (some b)) ∧ OwnL wa D e qs ∧ qs.map (·.2) = L ∧ w12.grownBy wa (some g) ∧ D ≤ wa.heap.size ∧ L.length + cn ≤ 48000 := ⟨[], _, [], cnt, hrd, hgm0.out, ownL_nil _ _, rfl, hga.but _, by omega, by simp; omega⟩
          clear hgm hgr hrange hrd hcn hga hsa hc4 hgl hr hD hDr
          go_loopw [16] (fun _ wr => ∃ L e qs cn, Ranged wr b r (rs.length * 24) (fun i j => sidesAt zs [i, j]) L cn ∧ StructG wr g (.slice a i c) (.slice pa i pc) (.slice a4 rs.length c4) e (.map (some b)) ∧ OwnL wr D e qs ∧ qs.map (·.2) = L ∧ w12.grownBy wr (some g) ∧ D ≤ wr.heap.size ∧ L.length + cn ≤ 48000) (fun _ wr => wr.rangeLeft b r)
          case atStart => exact hst
          case round =>
            clear hst
            obtain ⟨L, e, qs, cn, hrd, hsg, hol, hqs, hgr, hdw, hln⟩ := hrel
            rcases ranged_next hrd 0 with ⟨hdone, hall⟩ | ⟨i', j', v, wn, cn', b1, b2, hnext, hentry, hrd', hlt', hgn, hsn⟩
            · have hdone2 : ∀ ty, (Instr.next (.pointer (some ⟨r, 0, none⟩)) false ty).run Tryz.prog wr = .ok (.tuple #[.bool false]) wr := fun ty => hdone
              clear hdone
              have HR16 := Lib.hid (World.grownBy.refl w12 none)
              obtain ⟨ea, ec, rfl⟩ := hol.form
              have HND := Lib.hid (show L.Nodup ∧ ∀ y ∈ L, ∃ i j, B64 i ∧ B64 j ∧ y = [i, j] by obtain ⟨_, _, _, _, _, h4, h5⟩ := hrd; exact ⟨h4, h5⟩)
              have HALL := Lib.hid hall
              have HSGr := Lib.hid hsg
              have HOLr := Lib.hid hol
              have HQS := Lib.hid hqs
              have HGRr := Lib.hid hgr
              have hql : qs.length ≤ 48000 := by rw [← List.length_map (f := (·.2)), hqs]; omega
              have hc3 := hsg.c3
              have hgl := hsg.lt
              clear hrd hall hsg hol hqs hgr hdw hln HR16
              go_wp2_with fail
              refine (sortC_any D _ qs wr (by omega) (fun p hp => by obtain ⟨i', j', _, _, e⟩ := HND.out.2 p.2 (by rw [← HQS.out]; exact List.mem_map_of_mem hp); rw [e]; simp) HOLr.out).mono ?_
              rintro e' w17 ⟨rfl, ts, htp, hts, hol17, hg17⟩
              have hne17 : ∀ q, (Value.slice ea qs.length ec).ownBlock = some q → w12.heap.size ≤ q := fun q hq => by have h1 := (HOLr.out.1.lt q hq).1; have h2 := HDR.out; have h3 := HRE.out; omega
              have HGR17 := Lib.hid (World.grownBy.andThen HGRr.out hg17 (fun j hj => .inl (hne17 j hj)))
              have HSG17 := Lib.hid (HSGr.out.kept hg17 (fun e => by have h1 := hne17 g e; have h2 := HSG12.out.lt; omega))
              have HTL := Lib.hid (show ts.map (·.2) = onceL zs from sort_unique (sort_strict hts ((htp.map (·.2)).nodup_iff.2 (by rw [HQS.out]; exact HND.out.1))) (sort_onceL zs) (fun y => by
                rw [(htp.map (·.2)).mem_iff, HQS.out]
                constructor
                · intro hy
                  obtain ⟨i', j', b1, b2, rfl⟩ := HND.out.2 y hy
                  exact (mem_onceL HZ.out.2.2).2 ((HALL.out i' j' b1 b2).1 hy)
                · intro hy
                  obtain ⟨i', j', h1, h2, rfl⟩ := once_form HZ.out.2.2 hy
                  have h3 := HN.out
                  exact (HALL.out i' j' (by unfold B64; omega) (by unfold B64; omega)).2 ((mem_onceL HZ.out.2.2).1 hy)))
              have HOL17 := Lib.hid hol17
              have HEW17 := Lib.hid (Ext.grown (HE5.out w12 HR12.out).1 HGR17.out (fun k hk => by cases hk; have h1 := HWB.out; have h2 := HBG.out; omega))
              have HEW18 := Lib.hid (Ext.grown (HE5.out w12 HR12.out).2 HGR17.out (fun k hk => by cases hk; have h1 := HW1B.out; have h2 := HBG.out; omega))
              clear htp hts hol17 hg17 hne17 hc3 hgl hdone2
              go_wp2
              go_ret
              exact ⟨g, rfl, ⟨pa, pc, _, _, b, _, C, rs, ts, HSG17.out, by have h1 := HWB.out; have h2 := HBG.out; omega, Reads.ext HEW17.out HH.out, Reads.ext HEW18.out HP.out, (HOL12.out.kept HGR17.out (fun q hq => by cases hq; exact HGB.out)).base (by have h1 := HWB.out; have h2 := HBG.out; have h3 := HGB.out; omega), HRS.out, HOL17.out.base (by have h1 := HWB.out; have h2 := HBG.out; have h3 := HDR.out; have h4 := HRE.out; have h5 := HSG12.out.lt; omega), HTL.out, HGM.out.kept HGR17.out (by simp; have := HBG.out; omega) (fun q hq => by cases hq; have h1 := HGB.out; have h2 := HBC.out; omega)⟩, HEW17.out⟩
            · have hnext2 : ∀ ty, (Instr.next (.pointer (some ⟨r, 0, none⟩)) false ty).run Tryz.prog wr = .ok (.tuple #[.bool true, .agg #[.int .i64 i', .int .i64 j'], v]) wn := fun ty => hnext
              have hentry2 : (Instr.entry (.pointer (some ⟨r, 0, none⟩))).run Tryz.prog wn = .ok (.tuple #[.agg #[.int .i64 i', .int .i64 j'], v]) wn := hentry
              clear hnext hentry
              obtain ⟨ea, ec, rfl⟩ := hol.form
              have hql : qs.length ≤ 48000 := by rw [← List.length_map (f := (·.2)), hqs]; omega
              have HSN := Lib.hid hsn
              have HSGn := Lib.hid (hsg.kept hgn (by simp; have h1 := HRE.out; have h2 := HSG12.out.lt; omega))
              have HOLn := Lib.hid (hol.kept hgn (fun q hq => by cases hq; have := HDR.out; omega))
              have HQS := Lib.hid hqs
              have HRD := Lib.hid hrd'
              have HLN := Lib.hid hln
              have HLT := Lib.hid hlt'
              have HGRn := Lib.hid (World.grownBy.andThen hgr hgn (fun j hj => .inl (by cases hj; have := HRE.out; omega)))
              have HDWn := Lib.hid (show D ≤ wn.heap.size by omega)
              have HRL' := Lib.hid hrd.left
              clear hsn hsg hol hqs hrd hrd' hgr hgn hln hdw hlt'
              go_wp2_with fail
              obtain ⟨w13, hw13⟩ : ∃ w13, w13 = wn.alloc (.cells #[.int .i64 i', .int .i64 j'] 85) := ⟨_, rfl⟩
              have hE13 : Ext wn w13 := by rw [hw13]; exact Ext.alloc (Ext.refl _) _
              have hb0 : w13.cell? ⟨wn.heap.size, 0, none⟩ = some (.int .i64 i') := by rw [hw13]; simp
              have hb1 : w13.cell? ⟨wn.heap.size, 1, none⟩ = some (.int .i64 j') := by rw [hw13]; simp
              rw [← hw13]
              clear hw13
              obtain ⟨xb, hxb⟩ : ∃ xb, xb = wn.heap.size := ⟨_, rfl⟩
              rw [← hxb] at hb0 hb1 ⊢
              have HXB := Lib.hid hxb
              clear hxb
              have HSG13 := Lib.hid (HSGn.out.ext hE13)
              have HOL13 := Lib.hid (HOLn.out.ext hE13)
              have HGR13 := Lib.hid (grown_trans HGRn.out (Ext.grownBy hE13 (some g)))
              have HRD13 := Lib.hid (HRD.out.kept (Ext.grownBy hE13 none) (by simp) (by simp))
              have HSZ13 := Lib.hid hE13.size
              have hc3 := HSG13.out.c3
              have hgl := HSG13.out.lt
              have hxl := lt_of_cell hb0
              have HE13 := Lib.hid hE13
              clear hE13
              obtain ⟨S, hSd⟩ : ∃ S : World → Prop, S = fun w' => w'.cell? ⟨g, 3, none⟩ = some (.slice ea qs.length ec) ∧ w'.cell? ⟨xb, 0, none⟩ = some (.int .i64 i') ∧ w'.cell? ⟨xb, 1, none⟩ = some (.int .i64 j') := ⟨_, rfl⟩
              have hS0 : S w13.drew := by rw [hSd]; exact ⟨hc3, hb0, hb1⟩
              refine wp_region_T S 14 (by kernel_rfl) ?_
              simp only [List.length_cons, List.length_nil, Nat.reduceAdd]
              refine wpAnyT_take (i := 0) (v := .pointer (some ⟨g, 0, none⟩)) rfl (by kernel_rfl) (by kernel_rfl) (by kernel_rfl) (by kernel_rfl) (fun _ _ _ h => h) (.inl ⟨by rfl, fun _ _ => by
                simp [go_sem]⟩) hS0 ?_
              simp only [Act.put, List.setIfInBounds_toArray]
              refine wpAnyT_take (i := 1) (v := .pointer (some ⟨g, 0, none⟩)) rfl (by kernel_rfl) (by kernel_rfl) (by kernel_rfl) (by kernel_rfl) (fun _ _ _ h => h) (.inl ⟨by rfl, fun _ _ => by
                simp [go_sem]⟩) hS0 ?_
              simp only [Act.put]
              refine wpAnyT_take (i := 2) (v := .pointer (some ⟨g, 0, none⟩)) rfl (by kernel_rfl) (by kernel_rfl) (by kernel_rfl) (by kernel_rfl) (fun _ _ _ h => h) (.inl ⟨by rfl, fun _ _ => by
                simp [go_sem]⟩) hS0 ?_
              simp only [Act.put]
              refine wpAnyT_take (i := 3) (v := .pointer (some ⟨g, 3, none⟩)) rfl (by kernel_rfl) (by kernel_rfl) (by kernel_rfl) (by kernel_rfl) (fun _ _ _ h => h) (.inl ⟨by rfl, fun _ _ => by
                simp [go_sem]⟩) hS0 ?_
              simp only [Act.put]
              refine wpAnyT_take (i := 4) (v := .slice ea qs.length ec) rfl (by kernel_rfl) (by kernel_rfl) (by kernel_rfl) (by kernel_rfl) (fun _ _ _ h => h) (.inl ⟨by rfl, fun w' hw' => by
                rw [hSd] at hw'
                have t3 := hw'.1
                simp [go_sem, t3]⟩) hS0 ?_
              simp only [Act.put]
              refine wpAnyT_take (i := 5) (v := .pointer (some ⟨xb, 0, none⟩)) rfl (by kernel_rfl) (by kernel_rfl) (by kernel_rfl) (by kernel_rfl) (fun _ _ _ h => h) (.inl ⟨by rfl, fun _ _ => by
                simp [go_sem]⟩) hS0 ?_
              simp only [Act.put]
              refine wpAnyT_take (i := 6) (v := .int .i64 i') rfl (by kernel_rfl) (by kernel_rfl) (by kernel_rfl) (by kernel_rfl) (fun _ _ _ h => h) (.inl ⟨by rfl, fun w' hw' => by
                rw [hSd] at hw'
                have t0 := hw'.2.1
                simp [go_sem, t0]⟩) hS0 ?_
              simp only [Act.put]
              refine wpAnyT_take (i := 7) (v := .pointer (some ⟨xb, 1, none⟩)) rfl (by kernel_rfl) (by kernel_rfl) (by kernel_rfl) (by kernel_rfl) (fun _ _ _ h => h) (.inl ⟨by rfl, fun _ _ => by
                simp [go_sem]⟩) hS0 ?_
              simp only [Act.put]
              refine wpAnyT_take (i := 8) (v := .int .i64 j') rfl (by kernel_rfl) (by kernel_rfl) (by kernel_rfl) (by kernel_rfl) (fun _ _ _ h => h) (.inl ⟨by rfl, fun w' hw' => by
                rw [hSd] at hw'
                have t1 := hw'.2.2
                simp [go_sem, t1]⟩) hS0 ?_
              simp only [Act.put]
              refine wpAnyT_step (i := 9) rfl (by kernel_rfl) (fun K' hK => ?_)
              go_simp
              refine hK.out _ _ (.inr (by rw [hSd]; exact ⟨Ext.keep (w := w13) (by repeat (first | exact Ext.refl _ | assumption | apply Ext.alloc | apply Ext.drew | apply Ext.drewN | (refine Ext.trans ?_ (by assumption)) | (refine Ext.setCell ?_ (by (try simp) <;> omega) _))) hc3, Ext.keep (w := w13) (by repeat (first | exact Ext.refl _ | assumption | apply Ext.alloc | apply Ext.drew | apply Ext.drewN | (refine Ext.trans ?_ (by assumption)) | (refine Ext.setCell ?_ (by (try simp) <;> omega) _))) hb0, Ext.keep (w := w13) (by repeat (first | exact Ext.refl _ | assumption | apply Ext.alloc | apply Ext.drew | apply Ext.drewN | (refine Ext.trans ?_ (by assumption)) | (refine Ext.setCell ?_ (by (try simp) <;> omega) _))) hb1⟩)) ?_
              clear hK K'
              have hE14 : Ext w13 (w13.alloc (.cells #[.int .i64 i', .int .i64 j'] 3)).drew := (by repeat (first | exact Ext.refl _ | assumption | apply Ext.alloc | apply Ext.drew | apply Ext.drewN | (refine Ext.trans ?_ (by assumption)) | (refine Ext.setCell ?_ (by (try simp) <;> omega) _)))
              have hv14 : (w13.alloc (.cells #[.int .i64 i', .int .i64 j'] 3)).drew.ownsRow D 3 1 (.slice (some ⟨w13.heap.size, 0, none⟩) 2 2) 2 (iv [i', j']) := own_ext (Ext.drew (Ext.refl _)) (World.ownsRow_lit w13 #[.int .i64 i', .int .i64 j'] 2 (by have h1 := HSZ13.out; have h2 := HDWn.out; omega) (by unfold maxLen; omega) rfl)
              obtain ⟨w14, hw14⟩ : ∃ w14, w14 = (w13.alloc (.cells #[.int .i64 i', .int .i64 j'] 3)).drew := ⟨_, rfl⟩
              rw [← hw14] at hE14 hv14 ⊢
              clear hw14
              refine wpAnyT_step (i := 10) rfl (by kernel_rfl) (fun K' hK => ?_)
              go_simp
              refine hK.out _ _ (.inr (by rw [hSd]; exact ⟨Ext.keep (w := w13) (Ext.alloc hE14 _) hc3, Ext.keep (w := w13) (Ext.alloc hE14 _) hb0, Ext.keep (w := w13) (Ext.alloc hE14 _) hb1⟩)) ?_
              clear hK K'
              obtain ⟨v5, hv5⟩ : ∃ v5, v5 = Value.slice (some ⟨w13.heap.size, 0, none⟩) 2 2 := ⟨_, rfl⟩
              have hq5 : v5.ownBlock = some w13.heap.size := by rw [hv5]; rfl
              have hone5 : v5.oneCell' = true := by rw [hv5]; rfl
              rw [← hv5] at hv14 ⊢
              clear hv5
              have hcl : (w14.alloc (.cells #[v5] 33)).cell? ⟨w14.heap.size, 0, none⟩ = some v5 := by simp
              obtain ⟨w15, hw15⟩ : ∃ w15, w15 = w14.alloc (.cells #[v5] 33) := ⟨_, rfl⟩
              have hE15 : Ext w13 w15 := by rw [hw15]; exact Ext.alloc hE14 _
              have hv15 : w15.ownsRow D 3 1 v5 2 (iv [i', j']) := by rw [hw15]; exact own_ext (Ext.alloc (Ext.refl _) _) hv14
              rw [← hw15] at hcl ⊢
              clear hw15 hE14 hv14
              have HOL15 := Lib.hid (HOL13.out.ext hE15)
              have HF15 := Lib.hid (HOL13.out.fresh (Nat.le_refl w13.heap.size))
              have HFX := Lib.hid ((HOLn.out.fresh (Nat.le_of_eq HXB.out.symm)).1)
              have HGD := Lib.hid (show g < D by have h1 := HDR.out; have h2 := HRE.out; have h3 := HSG12.out.lt; omega)
              obtain ⟨i0, hz1, hz2, hz3, hz4⟩ := info_parts ints_info2
              refine wpAnyT_step (i := 11) rfl (by kernel_rfl) (fun K' hK => ?_)
              refine step_app_any _ rfl _ _ 31 rfl D 33 i0 _ 1 24 Tryz.underlying31 hz1 hz2 hz3 hz4 rfl (by decide) (.slice ea qs.length ec) qs.length (qs.map (·.1)) (by rfl) HOL15.out.1 (some ⟨w14.heap.size, 0, none⟩) 1 1 [v5] (by rfl) (one_val hcl) (by simpa using hone5) (by unfold maxLen; omega) (by omega) (by have h1 := HDWn.out; have h2 := HSZ13.out; have h3 := hE15.size; omega) ?_
              intro a16 c16 w16 hown16 hg16 hl16
              have HO16 := Lib.hid (HOL15.out.push (x := [i', j']) hv15 hq5 HF15.out.1 HF15.out.2 hg16 hown16 (hl16.imp id fun e => ⟨_, e, Nat.le_refl _⟩))
              have hne16 : (Value.slice ea qs.length ec).ownBlock ≠ some g := fun e => by have h1 := (HOL15.out.1.lt g e).1; have h2 := HGD.out; omega
              have HSG16 := Lib.hid ((HSG13.out.ext hE15).kept hg16 hne16)
              have hS16 : S w16 := by rw [hSd]; exact ⟨HSG16.out.c3, grown_keep hg16 (hE15.keep hb0) (fun e => HFX.out e.symm), grown_keep hg16 (hE15.keep hb1) (fun e => HFX.out e.symm)⟩
              have HGR16 := Lib.hid (World.grownBy.andThen (World.grownBy.andThen HGR13.out (Ext.grownBy hE15 none) (fun j hj => by cases hj)) hg16 (fun j hj => .inl (by have h1 := (HOL15.out.1.lt j hj).1; have h2 := HDR.out; have h3 := HRE.out; omega)))
              have HRD16 := Lib.hid ((HRD13.out.kept (Ext.grownBy hE15 none) (by simp) (by simp)).kept hg16 (fun e => by have h1 := (HOL15.out.1.lt b e).1; have h2 := HGD.out; have h3 := HBG.out; omega) (fun e => by have h1 := (HOL15.out.1.lt r e).1; have h2 := HDR.out; omega))
              have HD16 := Lib.hid (show D ≤ w16.heap.size by have h1 := hg16.size; have h2 := hE15.size; have h3 := HDWn.out; have h4 := HSZ13.out; omega)
              have hc16 := HSG16.out.c3
              have hf16 := HSG16.out.thaw 3
              have hgl16 := HSG16.out.lt
              refine hK.out _ _ (.inr hS16) ?_
              simp only [Act.put]
              clear hK K' hown16 hg16 hl16 hcl hv15 hE15 hb0 hb1 hc3 hne16
              refine wpAnyT_step (i := 12) rfl (by kernel_rfl) (fun K' hK => ?_)
              go_simp
              refine hK.out _ _ (.inr hS16) ?_
              clear hK K'
              refine wpAnyT_step (i := 13) rfl (by kernel_rfl) (fun K' hK => ?_)
              go_simp
              refine hK.out _ _ (.inr hS16) ?_
              clear hK K'
              refine wpAnyT_step (i := 14) rfl (by kernel_rfl) (fun K' hK => ?_)
              go_simp
              refine hK.out _ _ (.inl rfl) ?_
              clear hK K'
              refine wpAnyT_done (by kernel_rfl) ?_ _
              have HRNX := Lib.hid (HRD16.out.kept (grown_at w16 ⟨g, 3, none⟩ (.slice a16 (qs.length + 1) c16)) (by simp; have := HBG.out; omega) (by simp; have h1 := HRE.out; have h2 := HSG12.out.lt; omega))
              clear hS0 hS16 hSd hc16 hf16 hnext2 hentry2
              go_wp2
              go_roundw
              case rel => exact ⟨L ++ [[i', j']], _, qs ++ [(v5, [i', j'])], cn', HRNX.out, HSG16.out.set3 _, HO16.out.kept (grown_at _ _ _) (fun q hq => by cases hq; exact HGD.out), by rw [List.map_append, HQS.out]; rfl, grown_trans HGR16.out (grown_at _ _ _), by simpa using HD16.out, by have h1 := HLN.out; have h2 := HLT.out; simp; omega⟩
              case measure => rw [HRNX.out.left, HRL'.out]; exact HLT.out
end Go.Proofs.YtngbdopgdcjdeaaGreatDoor

namespace Go.Proofs.YtngbdopgdcjdeaaGreatDoor
open Go.RowKit

/-- A slice of ints that is read. -/
def RdInts (L : List Int) (w : World) (r : Ending) (w' : World) : Prop := ∃ a c, r = .returned (.slice a L.length c) ∧ Reads w' a 1 L.length (iv L) ∧ Ext w w'
/-- A slice of slices of ints, all of the call's own. -/
def OwnsL (B : Nat) (ys : List (List Int)) (w : World) (r : Ending) (w' : World) : Prop := ∃ s ps, r = .returned s ∧ OwnL w' B s ps ∧ ps.map (·.2) = ys ∧ Ext w w'
theorem subD_len {w : World} {B g : Nat} {a : Option Addr} {n c : Nat} {zs : List (Int × Int × Int)} (h : SubD w B g a n c zs) : zs.length = n := by
  obtain ⟨_, _, _, _, _, _, _, _, _, _, _, h3, _⟩ := h
  have := h3.1
  rw [tv_len] at this
  omega
theorem ownL_empty (w : World) (B : Nat) (h : B ≤ w.heap.size) : OwnL (w.alloc (.cells #[] 33)) B (.slice (some ⟨w.heap.size, 0, none⟩) 0 0) [] := ⟨own_empty w B _ 1 h, by simp, .nil⟩
theorem once_take {l : List (List Int)} {f : List Int → Bool} {k : Nat} (h : k < l.length) : (l.take (k + 1)).filter f = (l.take k).filter f ++ if f (l.getD k []) = true then [l.getD k []] else [] := by
  rw [List.take_succ_eq_append_getElem h, List.filter_append]
  simp only [List.getD, h, List.getElem?_eq_getElem, Option.getD_some]
  congr 1
  by_cases hf : f l[k] = true
  · rw [if_pos hf, List.filter_cons_of_pos hf, List.filter_nil]
  · rw [if_neg hf, List.filter_cons_of_neg hf, List.filter_nil]
theorem onceL_len {zs : List (Int × Int × Int)} (hZ : PZ zs) : (onceL zs).length ≤ 48000 := by
  have h1 := (foldE_len (allE zs)).1
  have h2 := allTo_len hZ (cellsL zs).length (Nat.le_refl _)
  have h3 := cells_most hZ
  have h4 : allTo zs (cellsL zs).length = allE zs := by unfold allTo allE; rw [List.take_length]
  rw [h4] at h2
  unfold onceL
  omega
theorem subdivided_no (a : Option Addr) (n c : Nat) (zs : List (Int × Int × Int)) (hn : n ≤ 1048576) (hp : planeB zs = false) (w : World) (h : Reads w a 3 n (tv zs)) :
    Calls Tryz.prog 14 #[.slice a n c] w fun r w' => r = .returned (.tuple #[.pointer none, .bool false]) ∧ Ext w w' := by
  go_enter Tryz.func14, Tryz.ntmps14
  go_wp2_with fail
  refine (isPlane_any _ _ _ zs (by omega) _ h).mono ?_
  rw [hp]
  rintro e w1 ⟨rfl, hb1⟩
  go_wp2
  go_ret2
  exact ⟨rfl, hb1⟩
theorem subdivided_yes (a : Option Addr) (n c : Nat) (zs : List (Int × Int × Int)) (hn : n ≤ 1048576) (hp : planeB zs = true) (w : World) (h : Reads w a 3 n (tv zs)) :
    Calls Tryz.prog 14 #[.slice a n c] w fun r w' => ∃ g, r = .returned (.tuple #[.pointer (some ⟨g, 0, none⟩), .bool true]) ∧ SubD w' w.heap.size g a n c zs ∧ Ext w w' := by
  have HZ := Lib.hid (pz_of hp)
  go_enter Tryz.func14, Tryz.ntmps14
  go_wp2_with fail
  refine (isPlane_any _ _ _ zs (by omega) _ h).mono ?_
  rw [hp]
  rintro e w1 ⟨rfl, hb1⟩
  go_wp2_with fail
  refine (subdivide_any _ _ _ zs HZ.out _ (h.ext hb1)).mono ?_
  rintro e w2 ⟨g, rfl, hs, hb2⟩
  have HS := Lib.hid hs
  have HE := Lib.hid (hb1.trans hb2)
  have HB := Lib.hid hb1.size
  clear hs hb2
  go_wp2
  go_ret2
  refine ⟨g, rfl, ?_, HE.out⟩
  obtain ⟨pa, pc, s, e, b, m, B1, ps, qs, h1, h2, h3, h4, h5, h6, h7, h8, h9⟩ := HS.out
  exact ⟨pa, pc, s, e, b, m, B1, ps, qs, h1, Nat.le_trans HB.out h2, h3, h4, h5.base HB.out, h6, h7.base HB.out, h8, h9⟩
end Go.Proofs.YtngbdopgdcjdeaaGreatDoor

namespace Go.Proofs.YtngbdopgdcjdeaaGreatDoor
open Go.RowKit

/-- A slice of slices of ints that reads so. -/
def RdL (w : World) (s : Value) (ys : List (List Int)) : Prop := ∃ a c vs, s = .slice a ys.length c ∧ Reads w a 1 ys.length vs ∧ VA w vs ys
theorem RdL.ext {w w' : World} {s : Value} {ys : List (List Int)} (h : RdL w s ys) (e : Ext w w') : RdL w' s ys := by
  obtain ⟨a, c, vs, h1, h2, h3⟩ := h
  exact ⟨a, c, vs, h1, Reads.ext e h2, h3.ext e⟩
theorem OwnL.rd {w : World} {B : Nat} {s : Value} {ps : List (Value × List Int)} (h : OwnL w B s ps) : RdL w s (ps.map (·.2)) := by
  obtain ⟨a, c, rfl⟩ := h.form
  refine ⟨a, c, ps.map (·.1), by rw [List.length_map], ?_, h.va⟩
  rw [List.length_map]
  exact own_reads h.1
theorem RdL.of {w : World} {B : Nat} {a : Option Addr} {c : Nat} {ys : List (List Int)} {vs : List Value} (h : w.ownsRow B 33 1 (.slice a ys.length c) ys.length vs) (hv : VA w vs ys) : RdL w (.slice a ys.length c) ys := ⟨a, c, vs, rfl, own_reads h, hv⟩
theorem rdL_none (w : World) : RdL w (.slice none 0 0) [] := ⟨none, 0, [], rfl, ⟨rfl, fun h => absurd h (by simp)⟩, trivial⟩
theorem RdL.at {w : World} {s : Value} {ys : List (List Int)} (h : RdL w s ys) {k : Nat} (hk : k < ys.length) : ∃ b off c ak ck, s = .slice (some ⟨b, off, none⟩) ys.length c ∧ w.cell? ⟨b, off + k, none⟩ = some (.slice ak (ys.getD k []).length ck) ∧ Reads w ak 1 (ys.getD k []).length (iv (ys.getD k [])) := by
  obtain ⟨a, c, vs, h1, h2, h3⟩ := h
  obtain ⟨b, off, rfl, hc⟩ := h2.2 (by omega)
  obtain ⟨ak, ck, k1, k2⟩ := h3.at k hk
  exact ⟨b, off, c, ak, ck, h1, hc k _ k1, k2⟩
/-- The rows when they have been marked from k on. -/
def mkL (k : Int) : List (Value × List Int) → List (Value × List Int)
  | [] => []
  | p :: ps => (p.1, marks k p.2.length) :: mkL (k + p.2.length) ps
def totL : List (Value × List Int) → Nat
  | [] => 0
  | p :: ps => p.2.length + totL ps
theorem mkL_len : ∀ (k : Int) (ps : List (Value × List Int)), (mkL k ps).length = ps.length
  | _, [] => rfl
  | k, _ :: ps => by simp [mkL, mkL_len _ ps]
theorem mkL_snoc : ∀ (k : Int) (ps : List (Value × List Int)) (p : Value × List Int), mkL k (ps ++ [p]) = mkL k ps ++ [(p.1, marks (k + totL ps) p.2.length)]
  | k, [], p => by simp [mkL, totL]
  | k, q :: ps, p => by
    have e : k + (q.2.length : Int) + (totL ps : Int) = k + ((q.2.length + totL ps : Nat) : Int) := by omega
    simp only [List.cons_append, mkL, mkL_snoc _ ps p, totL, e]
theorem totL_snoc : ∀ (ps : List (Value × List Int)) (p : Value × List Int), totL (ps ++ [p]) = totL ps + p.2.length
  | [], p => by simp [totL]
  | q :: ps, p => by simp only [List.cons_append, totL, totL_snoc ps p]; omega
theorem totL_take : ∀ (ps : List (Value × List Int)) (k : Nat), totL (ps.take k) ≤ totL ps
  | [], k => by simp [totL]
  | p :: ps, 0 => by simp [totL]
  | p :: ps, k + 1 => by simp only [List.take_succ_cons, totL]; have := totL_take ps k; omega
theorem totL_le {ps : List (Value × List Int)} {m : Nat} (h : ∀ p ∈ ps, p.2.length ≤ m) : totL ps ≤ ps.length * m := by
  induction ps with
  | nil => simp [totL]
  | cons p ps ih =>
    have h1 := h p (by simp)
    have h2 := ih (fun q hq => h q (by simp [hq]))
    simp only [totL, List.length_cons, Nat.add_mul]
    omega
def mkTo (k : Int) (ps : List (Value × List Int)) (i : Nat) : List (Value × List Int) := mkL k (ps.take i) ++ ps.drop i
theorem mkTo_zero (k : Int) (ps : List (Value × List Int)) : mkTo k ps 0 = ps := by simp [mkTo, mkL]
theorem mkTo_full (k : Int) (ps : List (Value × List Int)) : mkTo k ps ps.length = mkL k ps := by simp [mkTo]
theorem mkTo_len (k : Int) (ps : List (Value × List Int)) (i : Nat) : (mkTo k ps i).length = ps.length := by
  simp only [mkTo, List.length_append, mkL_len, List.length_take, List.length_drop]
  omega
theorem mkTo_get {k : Int} {ps : List (Value × List Int)} {i : Nat} (h : i < ps.length) : (mkTo k ps i)[i]? = some ps[i] := by
  unfold mkTo
  rw [List.getElem?_append_right (by rw [mkL_len, List.length_take]; omega), mkL_len, List.length_take, Nat.min_eq_left (by omega), Nat.sub_self, List.getElem?_drop]
  simp [h]
theorem mkTo_step {k : Int} {ps : List (Value × List Int)} {i : Nat} (h : i < ps.length) : (mkTo k ps i).set i (ps[i].1, marks (k + totL (ps.take i)) ps[i].2.length) = mkTo k ps (i + 1) := by
  have hl : (mkL k (ps.take i)).length = i := by rw [mkL_len, List.length_take]; omega
  unfold mkTo
  rw [List.set_append_right _ _ (by omega), hl, Nat.sub_self, List.drop_eq_getElem_cons h, List.set_cons_zero, List.take_succ_eq_append_getElem h, mkL_snoc, List.append_assoc]
  rfl
theorem OwnL.mark {w w' : World} {B : Nat} {s : Value} {ps : List (Value × List Int)} (h : OwnL w B s ps) {i : Nat} {p : Value × List Int} {x : List Int} (hi : ps[i]? = some p) (hg : w.grownBy w' p.1.ownBlock) (hx : w'.ownsRow B 3 1 p.1 x.length (iv x)) : OwnL w' B s (ps.set i (p.1, x)) := by
  obtain ⟨h1, h2, h3⟩ := h
  have hil : i < ps.length := (List.getElem?_eq_some_iff.1 hi).1
  have hpi : ps[i] = p := (List.getElem?_eq_some_iff.1 hi).2
  have hpm : p ∈ ps := by rw [← hpi]; exact List.getElem_mem _
  have hm : (ps.set i (p.1, x)).map (·.1) = ps.map (·.1) := by
    rw [List.map_set]
    apply List.ext_getElem?
    intro j
    rw [List.getElem?_set]
    split
    · rename_i e
      subst e
      simp [hil, hpi]
    · rfl
  have hap : ∀ q ∈ ps, q.1.ownBlock ≠ p.1.ownBlock ∨ q.1.ownBlock = p.1.ownBlock := fun q _ => (Classical.em _).symm
  obtain ⟨⟨bp, hbp⟩, _, hsp⟩ := h2 p hpm
  -- an element of the new list: an old one at another place, or the marked one
  have who : ∀ q ∈ ps.set i (p.1, x), q = (p.1, x) ∨ (q ∈ ps ∧ q.1.ownBlock ≠ p.1.ownBlock) := by
    intro q hq
    obtain ⟨j, hj, e⟩ := List.getElem_of_mem hq
    rw [List.getElem_set] at e
    split at e
    · exact .inl e.symm
    · rename_i hne
      have hj' : j < ps.length := by simpa using hj
      refine .inr ⟨e ▸ List.getElem_mem hj', ?_⟩
      rw [List.pairwise_iff_getElem] at h3
      rcases Nat.lt_or_ge i j with hl | hl
      · have t := h3 i j hil hj' hl
        rw [hpi, e] at t
        exact t.symm
      · have t := h3 j i hj' hil (by omega)
        rw [hpi, e] at t
        exact t
  refine ⟨by rw [List.length_set, hm]; exact own_apartQ h1 hg (fun q hq e => hsp (by rw [hq, e])), fun q hq => ?_, ?_⟩
  · rcases who q hq with rfl | ⟨k1, k2⟩
    · exact ⟨⟨bp, hbp⟩, hx, hsp⟩
    · obtain ⟨g1, g2, g3⟩ := h2 q k1
      exact ⟨g1, own_apartQ g2 hg (fun u hu e => k2 (by rw [hu, e])), g3⟩
  · have : (ps.map (·.1)).Pairwise (fun u v => u.ownBlock ≠ v.ownBlock) := by rw [List.pairwise_map]; exact h3
    rw [← hm, List.pairwise_map] at this
    exact this
end Go.Proofs.YtngbdopgdcjdeaaGreatDoor
