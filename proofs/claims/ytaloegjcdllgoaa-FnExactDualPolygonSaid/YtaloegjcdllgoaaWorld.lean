/-
  A world that has grown: what was there before a call is there behind it; small laws by which a walk hands that on.
-/
import Derived.Test.YtaloegjcdllgoaaPlain
import Derived.WalkKit
import Derived.WalkSpells
import Derived.WalkLawsBesides
import Derived.BigQuiet
import Derived.Deep.QuietTactic
import Derived.Lib.Hide
import Derived.Deep.RegionHeld3
namespace Go.Proofs.Ytaloegjcdllgoaa
open Go.RowKit

/-- Go's min and max of two numbers, under a name: a walk does not part on it. -/
theorem run_min_I {P : Program} {w : World} (ts : Array TypeId) (t : TypeId) (k k' : IntKind) (x y : Int) : (Builtin.min_ ts t #[.int k x, .int k' y]).run P w = .ok (.int k (minI x y)) w := by
  simp [Builtin.min_, Builtin.min2, minI]
theorem run_max_I {P : Program} {w : World} (ts : Array TypeId) (t : TypeId) (k k' : IntKind) (x y : Int) : (Builtin.max_ ts t #[.int k x, .int k' y]).run P w = .ok (.int k (maxI x y)) w := by
  simp [Builtin.max_, Builtin.max2, maxI]
attribute [go_sem ↓] run_min_I run_max_I

theorem ret_int {k : IntKind} {a b : Int} (h : a = b) : Ending.returned (.int k a) = .returned (.int k b) := by rw [h]
theorem ret_bool {a b : Bool} (h : a = b) : Ending.returned (.bool a) = .returned (.bool b) := by rw [h]

theorem ret_ii {a a' b b' : Int} (h1 : a = a') (h2 : b = b') : Ending.returned (.tuple #[.int .i64 a, .int .i64 b]) = .returned (.tuple #[.int .i64 a', .int .i64 b']) := by rw [h1, h2]
theorem ret_bb {a b a' b' : Bool} (h1 : a = a') (h2 : b = b') : Ending.returned (.tuple #[.bool a, .bool b]) = .returned (.tuple #[.bool a', .bool b']) := by rw [h1, h2]
theorem ret_ib {a a' : Int} {b b' : Bool} (h1 : a = a') (h2 : b = b') : Ending.returned (.tuple #[.int .i64 a, .bool b]) = .returned (.tuple #[.int .i64 a', .bool b']) := by rw [h1, h2]
theorem ret_iib {a a' b b' : Int} {c c' : Bool} (h1 : a = a') (h2 : b = b') (h3 : c = c') : Ending.returned (.tuple #[.int .i64 a, .int .i64 b, .bool c]) = .returned (.tuple #[.int .i64 a', .int .i64 b', .bool c']) := by rw [h1, h2, h3]
theorem ret_sb3 {a a' b b' c c' : Int} {d d' : Bool} (h1 : a = a') (h2 : b = b') (h3 : c = c') (h4 : d = d') : Ending.returned (.tuple #[.agg #[.int .i64 a, .int .i64 b, .int .i64 c], .bool d]) = .returned (.tuple #[.agg #[.int .i64 a', .int .i64 b', .int .i64 c'], .bool d']) := by rw [h1, h2, h3, h4]

/-- A contract that leaves the world alone, inside a region that draws its order. -/
theorem quiet_left {P : Program} {f : FuncId} {args : Array Value} {w : World} {n : Nat} {v : Value}
    (h : Calls P f args (w.drewN n) fun e w' => e = .returned v ∧ w.drewN n = w') : Calls P f args (w.drewN n) fun e w'' => e = .returned v ∧ ∃ m, w'' = w.drewN m :=
  h.mono fun _ _ ⟨he, hm⟩ => ⟨he, n, hm.symm⟩

theorem wrap_i64 {n : Int} (h1 : -9223372036854775808 ≤ n) (h2 : n ≤ 9223372036854775807) : IntKind.i64.wrap n = n := IntWalk.i64_in _ (by omega)

/-- A number that is told only where it is valid. -/
def gI (t : Bool) (n : Int) : Int := if t then n else 0
theorem gI_yes {t : Bool} {n : Int} (h : t = true) : n = gI t n := by simp [gI, h]
theorem gI_no {t : Bool} {n : Int} (h : t = false) : 0 = gI t n := by simp [gI, h]

/-- All that was there is as it was; there may be new blocks. -/
def Ext (w w' : World) : Prop := Below w.heap.size w w'
theorem Ext.below {w w' : World} (h : Ext w w') : Below w.heap.size w w' := h
theorem Ext.refl (w : World) : Ext w w := Below.refl _ _
theorem Ext.of_eq {w w' : World} (h : w = w') : Ext w w' := h ▸ Ext.refl w
theorem Ext.size {w w' : World} (h : Ext w w') : w.heap.size ≤ w'.heap.size := Below.size h
theorem Ext.trans {a b c : World} (h : Ext a b) (k : Ext b c) : Ext a c := Below.trans h (Below.mono k h.size)
theorem Ext.alloc {a w : World} (h : Ext a w) (o : Obj) : Ext a (w.alloc o) := Below.alloc h h.size o
theorem Ext.setCell {a w : World} (h : Ext a w) {p : Addr} (hp : a.heap.size ≤ p.block) (u : Value) : Ext a (w.setCell p u) := Below.setCell h hp u
theorem Ext.drew {a w : World} (h : Ext a w) : Ext a w.drew := Below.drew h
theorem Ext.drewN {a w : World} (h : Ext a w) (n : Nat) : Ext a (w.drewN n) := ⟨h.os, h.tape, h.output, h.size, h.block⟩
theorem Ext.grown {a w w' : World} {row : Option Nat} (h : Ext a w) (hg : w.grownBy w' row) (hr : ∀ k, row = some k → a.heap.size ≤ k) : Ext a w' := Below.grown h hg h.size hr
theorem Ext.cell {w w' : World} (h : Ext w w') : ∀ b o, b < w.heap.size → w'.cell? ⟨b, o, none⟩ = w.cell? ⟨b, o, none⟩ := fun b o hb => Below.cell h (p := ⟨b, o, none⟩) hb
theorem Ext.frozen {w w' : World} (h : Ext w w') : ∀ b o, b < w.heap.size → w'.frozen? ⟨b, o, none⟩ = w.frozen? ⟨b, o, none⟩ := fun b o hb => Below.frozen h (p := ⟨b, o, none⟩) hb
/-- What a walk wants of the world behind a call, in one word. -/
theorem Ext.facts {w w' : World} (h : Ext w w') : w.heap.size ≤ w'.heap.size ∧ (∀ b o, b < w.heap.size → w'.cell? ⟨b, o, none⟩ = w.cell? ⟨b, o, none⟩) ∧ (∀ b o, b < w.heap.size → w'.frozen? ⟨b, o, none⟩ = w.frozen? ⟨b, o, none⟩) :=
  ⟨h.size, h.cell, h.frozen⟩

/-- A cell that is there is there behind the call. -/
theorem Ext.keep {w w' : World} (h : Ext w w') {b o : Nat} {v : Value} (hc : w.cell? ⟨b, o, none⟩ = some v) : w'.cell? ⟨b, o, none⟩ = some v := by
  rw [h.cell b o ?_]
  · exact hc
  · rcases Nat.lt_or_ge b w.heap.size with hlt | hge
    · exact hlt
    · exfalso
      simp [World.cell?, Array.getElem?_eq_none hge] at hc

/-- A cell that is there is there in every world that comes of this one. -/
theorem Ext.keeps {w : World} {b o : Nat} {v : Value} (hc : w.cell? ⟨b, o, none⟩ = some v) : ∀ w', Ext w w' → w'.cell? ⟨b, o, none⟩ = some v := fun _ h => h.keep hc

theorem Ext.rebase {a b : World} {P : World → Prop} (hT : Ext a b) (h : ∀ w', Ext a w' → P w') : ∀ w', Ext b w' → P w' := fun w' k => h w' (Ext.trans hT k)

/-- A cell that can be written can be written in every world that comes of this one. -/
theorem Ext.thaws {w : World} {b o : Nat} {v : Value} (hc : w.cell? ⟨b, o, none⟩ = some v) (hf : w.frozen? ⟨b, o, none⟩ = false) : ∀ w', Ext w w' → w'.frozen? ⟨b, o, none⟩ = false := fun w' h => by
  rw [h.frozen b o ?_]
  · exact hf
  · rcases Nat.lt_or_ge b w.heap.size with hlt | hge
    · exact hlt
    · exfalso
      simp [World.cell?, Array.getElem?_eq_none hge] at hc

/-- Block b begins with these cells. -/
def Has (w : World) (b : Nat) (l : List Value) : Prop := ∀ (i : Nat) (v : Value), l[i]? = some v → w.cell? ⟨b, i, none⟩ = some v
theorem Has.ext {w w' : World} {b : Nat} {l : List Value} (h : Ext w w') (k : Has w b l) : Has w' b l := fun i v hi => h.keep (k i v hi)
theorem Has.alloc {w : World} {b : Nat} {l : List Value} (k : Has w b l) (o : Obj) : Has (w.alloc o) b l := Has.ext ((Ext.refl w).alloc o) k
theorem Has.new2 (w : World) (o : Obj) (cs : Array Value) (t : TypeId) : Has ((w.alloc o).alloc (.cells cs t)) (w.heap.size + 1) cs.toList := fun i v hi => by
  simp at hi
  simp [hi]
theorem Has.new3 (w : World) (o o' : Obj) (cs : Array Value) (t : TypeId) : Has (((w.alloc o).alloc o').alloc (.cells cs t)) (w.heap.size + 1 + 1) cs.toList := by
  have h := Has.new2 (w.alloc o) o' cs t
  simp at h
  exact h
theorem Has.new (w : World) (cs : Array Value) (t : TypeId) : Has (w.alloc (.cells cs t)) w.heap.size cs.toList := fun i v hi => by
  simp at hi
  simp [hi]

/-- The worlds that come of one: a class of worlds for a region that draws its order and whose callees make blocks of their own. -/
structure Past (W : World) where
  w : World
  ext : Ext W w
instance (W : World) : Nonempty (Past W) := ⟨⟨W, Ext.refl W⟩⟩
theorem wp_region_past {P : Program} {id : Nat} {Q : Exit → Act → World → Prop} {a : Act} {w : World} {l : List Oper} (W : World) (hE : Ext W w) (hm : P.follows .mixedOrders = true) (hB : Region.lexB .any l.toArray = true)
    (h : wpQuiet P l.toArray (fun w' => ∃ s : Past W, w' = s.w) (fun a' => ∀ w', (∃ s : Past W, w' = s.w) → Q .normal a' w') l a) : (Code.region id l.toArray true).wp P Q a w :=
  wp_region_quiet (C := fun w' => ∃ s : Past W, w' = s.w) hm hB ⟨⟨w.drew, hE.drew⟩, rfl⟩ (by simpa using h)
theorem past_ext {P : Program} {f : FuncId} {args : Array Value} {W : World} {s : Past W} {v : Value} (h : Calls P f args s.w fun e w' => e = .returned v ∧ Ext s.w w') :
    Calls P f args s.w fun e w'' => e = .returned v ∧ ∃ s' : Past W, w'' = s'.w := h.mono fun _ _ ⟨he, hb⟩ => ⟨he, ⟨_, s.ext.trans hb⟩, rfl⟩
theorem past_same {P : Program} {f : FuncId} {args : Array Value} {W : World} {s : Past W} {v : Value} (h : Calls P f args s.w fun e w' => e = .returned v ∧ s.w = w') :
    Calls P f args s.w fun e w'' => e = .returned v ∧ ∃ s' : Past W, w'' = s'.w := h.mono fun _ _ ⟨he, hb⟩ => ⟨he, s, hb.symm⟩

end Go.Proofs.Ytaloegjcdllgoaa
