/-
  ValueByRoots: both sides' walks.
-/
import Derived.Test.YtogbfhhioicbmaaVal
namespace Go.Proofs.Ytogbfhhioicbmaa
open Go.RowKit

def baseV (zs : List Int) (x : Int) : Int := cf zs ((cornR zs zs.length).reverse.getD ((cornR zs zs.length).reverse.length - 1) 0) + (cornR zs zs.length).reverse.getD 0 0 * x
def valR (zs : List Int) (x : Int) : Int := baseV zs x + partsI x (rts zs) (rts zs).length
theorem grown_set {w wr : World} {b i : Nat} (h : w.grownBy wr (some b)) (u : Value) : w.grownBy (wr.setCell ⟨b, i, none⟩ u) (some b) :=
  ⟨h.os, h.tape, h.output, by simpa using h.size, fun k hk hne => by rw [Go.Deep.blk_setCell_other wr ⟨b, i, none⟩ u k (fun e => hne (by simp [e]))]; exact h.block k hk hne⟩
theorem okM_whole {q n d : Int} (hd : 0 < d) (h : n = q * d) (hq : -1000000000 ≤ q ∧ q ≤ 1000000000) : okM n d = true ∧ lowN n d = q ∧ lowD n d = 1 := by
  have h1 := low_wholes hd h
  refine ⟨?_, h1⟩
  unfold okM
  rw [h1.1, h1.2, fracB_whole hq]
  simp; omega

theorem frMul_whole (a b c d q : Int) (ha : -1000000000 ≤ a ∧ a ≤ 1000000000) (hb : 1 ≤ b ∧ b ≤ 1000000000) (hc : -1000000000 ≤ c ∧ c ≤ 1000000000) (hd : 1 ≤ d ∧ d ≤ 1000000000) (hq : -1000000000 ≤ q ∧ q ≤ 1000000000) (hbd : 0 < b * d) (h : a * c = q * (b * d)) (w : World) :
    Calls Try.prog 99 #[.agg #[.int .i64 a, .int .i64 b], .agg #[.int .i64 c, .int .i64 d]] w fun r w' => r = .returned (.tuple #[.agg #[.int .i64 q, .int .i64 1], .bool true]) ∧ Ext w w' := by
  have h1 := okM_whole hbd h hq
  have h2 := frMul_any a b c d ha (by omega) hc (by omega) w
  rw [h1.1, h1.2.1, h1.2.2] at h2
  exact h2

theorem frAdd_whole (a c : Int) (ha : -1000000000 ≤ a ∧ a ≤ 1000000000) (hc : -1000000000 ≤ c ∧ c ≤ 1000000000) (hs : -1000000000 ≤ a + c ∧ a + c ≤ 1000000000) (w : World) :
    Calls Try.prog 101 #[.agg #[.int .i64 a, .int .i64 1], .agg #[.int .i64 c, .int .i64 1]] w fun r w' => r = .returned (.tuple #[.agg #[.int .i64 (a + c), .int .i64 1], .bool true]) ∧ Ext w w' := by
  have h1 := okM_whole (q := a + c) (n := a * 1 + c * 1) (d := 1 * 1) (by omega) (by omega) hs
  have h2 := frAdd_any a 1 c 1 ha (by omega) hc (by omega) w
  rw [h1.1, h1.2.1, h1.2.2] at h2
  exact h2

theorem Ext.newBox {w w' : World} {u v : Value} {t : TypeId} (h : Ext (w.alloc (.cells #[u, v] t)) w') : ∀ w'', Ext w' w'' → w''.cell? ⟨w.heap.size, 0, none⟩ = some u ∧ w''.cell? ⟨w.heap.size, 1, none⟩ = some v ∧ w''.frozen? ⟨w.heap.size, 0, none⟩ = false ∧ w''.frozen? ⟨w.heap.size, 1, none⟩ = false := fun _ k =>
  have h0 := Ext.newCell (Ext.trans h k) (i := 0) (v := u) rfl
  have h1 := Ext.newCell (Ext.trans h k) (i := 1) (v := v) rfl
  ⟨h0.1, h1.1, h0.2, h1.2⟩

end Go.Proofs.Ytogbfhhioicbmaa
