/-
  EdgeLength: both sides and the law's walk.
-/
import Derived.Test.YtngbdopgdcjdeaaGreatSubW
import Derived.Test.YtngbdopgdcjdeaaGreatBa4
import Derived.BigQuiet
import Derived.Deep.RegionHeld3
namespace Go.Proofs.YtngbdopgdcjdeaaGreat
open Go.RowKit

def inE (zs : List (Int × Int × Int)) (i k : Int) : Bool := decide ([i, k] ∈ onceL zs)
theorem ext_newCell {w w' : World} {cs : Array Value} {t : TypeId} (h : Ext (w.alloc (.cells cs t)) w') {i : Nat} {v : Value} (hi : cs[i]? = some v) : w'.cell? ⟨w.heap.size, i, none⟩ = some v ∧ w'.frozen? ⟨w.heap.size, i, none⟩ = false :=
  ⟨h.keep (Has.new w cs t i v (by simpa using hi)), by rw [h.frozen _ _ (by simp)]; simp⟩
set_option maxHeartbeats 2000000 in
theorem length_any (B g : Nat) (a ax : Option Addr) (n c cx : Nat) (zs : List (Int × Int × Int)) (hZ : PZ zs) (i j : Nat) (hi : i < n) (hj : j < n) (w : World) (h : SubD w B g a n c zs) (hx : Reads w ax 1 2 (iv [(i : Int), (j : Int)])) :
    Calls Tryz.prog 47 #[.pointer (some ⟨g, 0, none⟩), .slice ax 2 cx] w fun r w' => r = .returned (.int .i64 (sideI zs i j)) ∧ Ext w w' := by
  have hl := subD_len h
  obtain ⟨pa, pc, s, e, b, m, B1, ps, qs, h1, _, _, h4, _⟩ := h
  have hc1 := h1.c1
  have hgl := h1.lt
  obtain ⟨bp, op, rfl, p0, p1⟩ := h4.pair hi
  obtain ⟨bp', op', e', q0, q1⟩ := h4.pair hj
  cases e'
  rw [ptsL_pI (by omega)] at p0 p1 q0 q1
  obtain ⟨bx, ox, rfl, hcx⟩ := hx.2 (by omega)
  have k0 : w.cell? ⟨bx, ox, none⟩ = some (.int .i64 (i : Int)) := hcx 0 _ rfl
  have k1 : w.cell? ⟨bx, ox + 1, none⟩ = some (.int .i64 (j : Int)) := hcx 1 _ rfl
  have t1 := (hZ.2.1 i (by omega)).PB
  have t2 := (hZ.2.1 j (by omega)).PB
  have HV := Lib.hid (show sideI zs i j = gcdI ((pI zs j).1 - (pI zs i).1) ((pI zs j).2 - (pI zs i).2) from (gcdI_swap _ _ _ _).symm)
  unfold PB at t1 t2
  rw [HV.out]
  clear HV h1 h4 hx hcx hl hZ
  generalize pI zs i = p at *
  generalize pI zs j = q at *
  obtain ⟨x1, y1⟩ := p
  obtain ⟨x2, y2⟩ := q
  simp only at p0 p1 q0 q1 t1 t2 ⊢
  have i1 : (i : Int) < (n : Int) := by omega
  have j1 : (j : Int) < (n : Int) := by omega
  have i0 : (0 : Int) ≤ (i : Int) := by omega
  have j0 : (0 : Int) ≤ (j : Int) := by omega
  go_enter Tryz.func47, Tryz.ntmps47
  go_wp2
  go_region_held3 (fun w' => Ext w w' ∧ w'.cell? ⟨g, 1, none⟩ = some (.slice (some ⟨bp, op, none⟩) n pc) ∧ w'.cell? ⟨bx, ox, none⟩ = some (.int .i64 i) ∧ w'.cell? ⟨bx, ox + 1, none⟩ = some (.int .i64 j) ∧ w'.cell? ⟨bp, op + i * 2, none⟩ = some (.int .i64 x1) ∧ w'.cell? ⟨bp, op + i * 2 + 1, none⟩ = some (.int .i64 y1) ∧ w'.cell? ⟨bp, op + j * 2, none⟩ = some (.int .i64 x2) ∧ w'.cell? ⟨bp, op + j * 2 + 1, none⟩ = some (.int .i64 y2)) (first | exact HK2.out | exact ⟨(by repeat (first | exact Ext.refl _ | assumption | apply Ext.alloc | apply Ext.drew | apply Ext.drewN | (refine Ext.trans ?_ (by assumption)) | (refine Ext.setCell ?_ (by (try simp) <;> omega) _))), Ext.keep (w := w) ((by repeat (first | exact Ext.refl _ | assumption | apply Ext.alloc | apply Ext.drew | apply Ext.drewN | (refine Ext.trans ?_ (by assumption)) | (refine Ext.setCell ?_ (by (try simp) <;> omega) _)))) hc1, Ext.keep (w := w) ((by repeat (first | exact Ext.refl _ | assumption | apply Ext.alloc | apply Ext.drew | apply Ext.drewN | (refine Ext.trans ?_ (by assumption)) | (refine Ext.setCell ?_ (by (try simp) <;> omega) _)))) k0, Ext.keep (w := w) ((by repeat (first | exact Ext.refl _ | assumption | apply Ext.alloc | apply Ext.drew | apply Ext.drewN | (refine Ext.trans ?_ (by assumption)) | (refine Ext.setCell ?_ (by (try simp) <;> omega) _)))) k1, Ext.keep (w := w) ((by repeat (first | exact Ext.refl _ | assumption | apply Ext.alloc | apply Ext.drew | apply Ext.drewN | (refine Ext.trans ?_ (by assumption)) | (refine Ext.setCell ?_ (by (try simp) <;> omega) _)))) p0, Ext.keep (w := w) ((by repeat (first | exact Ext.refl _ | assumption | apply Ext.alloc | apply Ext.drew | apply Ext.drewN | (refine Ext.trans ?_ (by assumption)) | (refine Ext.setCell ?_ (by (try simp) <;> omega) _)))) p1, Ext.keep (w := w) ((by repeat (first | exact Ext.refl _ | assumption | apply Ext.alloc | apply Ext.drew | apply Ext.drewN | (refine Ext.trans ?_ (by assumption)) | (refine Ext.setCell ?_ (by (try simp) <;> omega) _)))) q0, Ext.keep (w := w) ((by repeat (first | exact Ext.refl _ | assumption | apply Ext.alloc | apply Ext.drew | apply Ext.drewN | (refine Ext.trans ?_ (by assumption)) | (refine Ext.setCell ?_ (by (try simp) <;> omega) _)))) q1⟩) (first | (go_at_call 80; refine (minus_any x2 y2 x1 y1 (by omega) (by omega) (by omega) (by omega) _).mono ?_; rintro e w2 ⟨rfl, hb⟩; have hbw : Ext w w2 := Ext.trans (by repeat (first | exact Ext.refl _ | assumption | apply Ext.alloc | apply Ext.drew | apply Ext.drewN | (refine Ext.trans ?_ (by assumption)) | (refine Ext.setCell ?_ (by (try simp) <;> omega) _))) hb; have hsz2 := hb.size; (try simp at hsz2); (try have hbn : Ext (w.alloc (.cells #[.int .i64 0, .int .i64 0] 70)) w2 := Ext.trans (Ext.drew (Ext.refl _)) hb); have HK2 := Lib.hid (show Ext w w2 ∧ w2.cell? ⟨g, 1, none⟩ = some (.slice (some ⟨bp, op, none⟩) n pc) ∧ w2.cell? ⟨bx, ox, none⟩ = some (.int .i64 i) ∧ w2.cell? ⟨bx, ox + 1, none⟩ = some (.int .i64 j) ∧ w2.cell? ⟨bp, op + i * 2, none⟩ = some (.int .i64 x1) ∧ w2.cell? ⟨bp, op + i * 2 + 1, none⟩ = some (.int .i64 y1) ∧ w2.cell? ⟨bp, op + j * 2, none⟩ = some (.int .i64 x2) ∧ w2.cell? ⟨bp, op + j * 2 + 1, none⟩ = some (.int .i64 y2) from ⟨hbw, Ext.keep (w := w) (hbw) hc1, Ext.keep (w := w) (hbw) k0, Ext.keep (w := w) (hbw) k1, Ext.keep (w := w) (hbw) p0, Ext.keep (w := w) (hbw) p1, Ext.keep (w := w) (hbw) q0, Ext.keep (w := w) (hbw) q1⟩); (try have z0 : w2.cell? ⟨w.heap.size, 0, none⟩ = some (.int .i64 0) := (ext_newCell (cs := #[.int .i64 0, .int .i64 0]) hbn (i := 0) (v := .int .i64 0) rfl).1); (try have f0 : w2.frozen? ⟨w.heap.size, 0, none⟩ = false := (ext_newCell (cs := #[.int .i64 0, .int .i64 0]) hbn (i := 0) (v := .int .i64 0) rfl).2); (try have z1 : w2.cell? ⟨w.heap.size, 1, none⟩ = some (.int .i64 0) := (ext_newCell (cs := #[.int .i64 0, .int .i64 0]) hbn (i := 1) (v := .int .i64 0) rfl).1); (try have f1 : w2.frozen? ⟨w.heap.size, 1, none⟩ = false := (ext_newCell (cs := #[.int .i64 0, .int .i64 0]) hbn (i := 1) (v := .int .i64 0) rfl).2)))
  all_goals
    go_wp2_with fail
    refine (gcd_any (x2 - x1) (y2 - y1) (by omega) (by omega) (by omega) (by omega) _).mono ?_
    rintro e _ ⟨rfl, u, rfl⟩
    go_wp2
    go_ret
    exact ⟨by rfl, (by repeat (first | exact Ext.refl _ | assumption | apply Ext.alloc | apply Ext.drew | apply Ext.drewN | (refine Ext.trans ?_ (by assumption)) | (refine Ext.setCell ?_ (by (try simp) <;> omega) _)))⟩
end Go.Proofs.YtngbdopgdcjdeaaGreat
