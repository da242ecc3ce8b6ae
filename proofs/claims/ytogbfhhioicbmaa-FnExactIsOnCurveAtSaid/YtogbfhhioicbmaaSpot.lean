/-
  A spot: how the law copies one.
-/
import Derived.Test.YtogbfhhioicbmaaCurI
namespace Go.Proofs.Ytogbfhhioicbmaa
open Go.RowKit

set_option maxHeartbeats 1000000 in
theorem toSpot_any (a b p q : Int) (w : World) :
    Calls Try.prog 18 #[.agg #[.int .i64 a, .int .i64 b, .int .i64 p, .int .i64 q]] w fun r w' => r = .returned (.agg #[.int .i64 a, .int .i64 b, .int .i64 p, .int .i64 q]) ∧ Ext w w' := by
  have HA := (Has.alloc (Has.new w #[.int .i64 a, .int .i64 b, .int .i64 p, .int .i64 q] 33) (.cells #[.int .i64 0, .int .i64 0, .int .i64 0, .int .i64 0] 41))
  have Ac0 := Ext.keeps (HA 0 _ rfl)
  have Ac1 := Ext.keeps (HA 1 _ rfl)
  have Ac2 := Ext.keeps (HA 2 _ rfl)
  have Ac3 := Ext.keeps (HA 3 _ rfl)
  clear HA
  have HR := (Has.new2 w (.cells #[.int .i64 a, .int .i64 b, .int .i64 p, .int .i64 q] 33) #[.int .i64 0, .int .i64 0, .int .i64 0, .int .i64 0] 41)
  have Rc0 := Ext.keeps (HR 0 _ rfl)
  have Rc1 := Ext.keeps (HR 1 _ rfl)
  have Rc2 := Ext.keeps (HR 2 _ rfl)
  have Rc3 := Ext.keeps (HR 3 _ rfl)
  have Rf0 := Ext.thaws (w := ((w.alloc (.cells #[.int .i64 a, .int .i64 b, .int .i64 p, .int .i64 q] 33)).alloc (.cells #[.int .i64 0, .int .i64 0, .int .i64 0, .int .i64 0] 41))) (HR 0 _ rfl) (by simp)
  have Rf1 := Ext.thaws (w := ((w.alloc (.cells #[.int .i64 a, .int .i64 b, .int .i64 p, .int .i64 q] 33)).alloc (.cells #[.int .i64 0, .int .i64 0, .int .i64 0, .int .i64 0] 41))) (HR 1 _ rfl) (by simp)
  have Rf2 := Ext.thaws (w := ((w.alloc (.cells #[.int .i64 a, .int .i64 b, .int .i64 p, .int .i64 q] 33)).alloc (.cells #[.int .i64 0, .int .i64 0, .int .i64 0, .int .i64 0] 41))) (HR 2 _ rfl) (by simp)
  have Rf3 := Ext.thaws (w := ((w.alloc (.cells #[.int .i64 a, .int .i64 b, .int .i64 p, .int .i64 q] 33)).alloc (.cells #[.int .i64 0, .int .i64 0, .int .i64 0, .int .i64 0] 41))) (HR 3 _ rfl) (by simp)
  clear HR
  have hE : Ext ((w.alloc (.cells #[.int .i64 a, .int .i64 b, .int .i64 p, .int .i64 q] 33)).alloc (.cells #[.int .i64 0, .int .i64 0, .int .i64 0, .int .i64 0] 41)) ((w.alloc (.cells #[.int .i64 a, .int .i64 b, .int .i64 p, .int .i64 q] 33)).alloc (.cells #[.int .i64 0, .int .i64 0, .int .i64 0, .int .i64 0] 41)) := Ext.refl _
  have hw0 : Ext w ((w.alloc (.cells #[.int .i64 a, .int .i64 b, .int .i64 p, .int .i64 q] 33)).alloc (.cells #[.int .i64 0, .int .i64 0, .int .i64 0, .int .i64 0] 41)) := (by repeat (first | exact Ext.refl _ | assumption | apply Ext.alloc | apply Ext.drew | apply Ext.drewN | (refine Ext.trans ?_ (by assumption)) | (refine Ext.setCell ?_ (by (try simp) <;> omega) _)))
  go_enter Try.func18, Try.ntmps18
  go_wp2_with fail
  refine (toFrac_any a b _).mono ?_
  rintro e w1 ⟨rfl, hb⟩
  have hE1 := Ext.trans (Ext.alloc hE _) hb
  have O0 := (Ext.newCell hb (i := 0) (v := .int .i64 0) rfl)
  have O1 := (Ext.newCell hb (i := 1) (v := .int .i64 0) rfl)
  have O2 := (Ext.newCell hb (i := 2) (v := .int .i64 0) rfl)
  have O3 := (Ext.newCell hb (i := 3) (v := .int .i64 0) rfl)
  simp at O0 O1 O2 O3
  obtain ⟨o0, l0⟩ := O0
  obtain ⟨o1, l1⟩ := O1
  obtain ⟨o2, l2⟩ := O2
  obtain ⟨o3, l3⟩ := O3
  have a2 := Ac2 _ hE1
  have a3 := Ac3 _ hE1
  have EU : Ext w ((w1.setCell ⟨w.heap.size + 1 + 1, 0, none⟩ (.int .i64 a)).setCell ⟨w.heap.size + 1 + 1, 1, none⟩ (.int .i64 b)) := Ext.setCell (Ext.setCell (hw0.trans hE1) (by simp; omega) _) (by simp; omega) _
  have hne : ∀ k, (⟨w.heap.size + 1 + 1, k, none⟩ : Addr).block ≠ w.heap.size + 1 := fun k => by simp
  have u0 : (((w1.setCell ⟨w.heap.size + 1 + 1, 0, none⟩ (.int .i64 a)).setCell ⟨w.heap.size + 1 + 1, 1, none⟩ (.int .i64 b))).cell? ⟨w.heap.size + 1 + 1, 0, none⟩ = some (.int .i64 a) := by simp [go_sem, o0]
  have u1 : (((w1.setCell ⟨w.heap.size + 1 + 1, 0, none⟩ (.int .i64 a)).setCell ⟨w.heap.size + 1 + 1, 1, none⟩ (.int .i64 b))).cell? ⟨w.heap.size + 1 + 1, 1, none⟩ = some (.int .i64 b) := by simp [go_sem, o1]
  have u2 : (((w1.setCell ⟨w.heap.size + 1 + 1, 0, none⟩ (.int .i64 a)).setCell ⟨w.heap.size + 1 + 1, 1, none⟩ (.int .i64 b))).cell? ⟨w.heap.size + 1 + 1, 2, none⟩ = some (.int .i64 0) := by simp [go_sem, o2]
  have u3 : (((w1.setCell ⟨w.heap.size + 1 + 1, 0, none⟩ (.int .i64 a)).setCell ⟨w.heap.size + 1 + 1, 1, none⟩ (.int .i64 b))).cell? ⟨w.heap.size + 1 + 1, 3, none⟩ = some (.int .i64 0) := by simp [go_sem, o3]
  have m2 : (((w1.setCell ⟨w.heap.size + 1 + 1, 0, none⟩ (.int .i64 a)).setCell ⟨w.heap.size + 1 + 1, 1, none⟩ (.int .i64 b))).frozen? ⟨w.heap.size + 1 + 1, 2, none⟩ = false := by simp [l2]
  have m3 : (((w1.setCell ⟨w.heap.size + 1 + 1, 0, none⟩ (.int .i64 a)).setCell ⟨w.heap.size + 1 + 1, 1, none⟩ (.int .i64 b))).frozen? ⟨w.heap.size + 1 + 1, 3, none⟩ = false := by simp [l3]
  have v0 : (((w1.setCell ⟨w.heap.size + 1 + 1, 0, none⟩ (.int .i64 a)).setCell ⟨w.heap.size + 1 + 1, 1, none⟩ (.int .i64 b))).cell? ⟨w.heap.size + 1, 0, none⟩ = some (.int .i64 0) := by simp [go_sem, Rc0 _ hE1]
  have v1 : (((w1.setCell ⟨w.heap.size + 1 + 1, 0, none⟩ (.int .i64 a)).setCell ⟨w.heap.size + 1 + 1, 1, none⟩ (.int .i64 b))).cell? ⟨w.heap.size + 1, 1, none⟩ = some (.int .i64 0) := by simp [go_sem, Rc1 _ hE1]
  have v2 : (((w1.setCell ⟨w.heap.size + 1 + 1, 0, none⟩ (.int .i64 a)).setCell ⟨w.heap.size + 1 + 1, 1, none⟩ (.int .i64 b))).cell? ⟨w.heap.size + 1, 2, none⟩ = some (.int .i64 0) := by simp [go_sem, Rc2 _ hE1]
  have v3 : (((w1.setCell ⟨w.heap.size + 1 + 1, 0, none⟩ (.int .i64 a)).setCell ⟨w.heap.size + 1 + 1, 1, none⟩ (.int .i64 b))).cell? ⟨w.heap.size + 1, 3, none⟩ = some (.int .i64 0) := by simp [go_sem, Rc3 _ hE1]
  have n0 : (((w1.setCell ⟨w.heap.size + 1 + 1, 0, none⟩ (.int .i64 a)).setCell ⟨w.heap.size + 1 + 1, 1, none⟩ (.int .i64 b))).frozen? ⟨w.heap.size + 1, 0, none⟩ = false := by simp [Rf0 _ hE1]
  have n1 : (((w1.setCell ⟨w.heap.size + 1 + 1, 0, none⟩ (.int .i64 a)).setCell ⟨w.heap.size + 1 + 1, 1, none⟩ (.int .i64 b))).frozen? ⟨w.heap.size + 1, 1, none⟩ = false := by simp [Rf1 _ hE1]
  have n2 : (((w1.setCell ⟨w.heap.size + 1 + 1, 0, none⟩ (.int .i64 a)).setCell ⟨w.heap.size + 1 + 1, 1, none⟩ (.int .i64 b))).frozen? ⟨w.heap.size + 1, 2, none⟩ = false := by simp [Rf2 _ hE1]
  have n3 : (((w1.setCell ⟨w.heap.size + 1 + 1, 0, none⟩ (.int .i64 a)).setCell ⟨w.heap.size + 1 + 1, 1, none⟩ (.int .i64 b))).frozen? ⟨w.heap.size + 1, 3, none⟩ = false := by simp [Rf3 _ hE1]
  clear hne
  go_wp2_with fail
  refine (toFrac_any p q _).mono ?_
  rintro e w2 ⟨rfl, hb2⟩
  have T0 := hb2.keep u0
  have T1 := hb2.keep u1
  have T2 := hb2.keep u2
  have T3 := hb2.keep u3
  have V0 := hb2.keep v0
  have V1 := hb2.keep v1
  have V2 := hb2.keep v2
  have V3 := hb2.keep v3
  have M2 := Ext.thaws u2 m2 _ hb2
  have M3 := Ext.thaws u3 m3 _ hb2
  have N0 := Ext.thaws v0 n0 _ hb2
  have N1 := Ext.thaws v1 n1 _ hb2
  have N2 := Ext.thaws v2 n2 _ hb2
  have N3 := Ext.thaws v3 n3 _ hb2
  have E2 := EU.trans hb2
  have hs1 := hE1.size
  clear u0 u1 u2 u3 m2 m3 v0 v1 v2 v3 n0 n1 n2 n3 EU hb2 hb o0 o1 o2 o3 l0 l1 l2 l3 a2 a3
  go_wp2
  refine bodyPost_ret (v := .agg #[.int .i64 a, .int .i64 b, .int .i64 p, .int .i64 q]) (by simp [results, Try.results18, go_sem, V0, V1, V2, V3]) rfl ⟨rfl, (Ext.setCell (Ext.setCell (Ext.setCell (Ext.setCell (Ext.setCell (Ext.setCell E2 (by show w.heap.size ≤ w.heap.size + 1 + 1; omega) _) (by show w.heap.size ≤ w.heap.size + 1 + 1; omega) _) (by show w.heap.size ≤ w.heap.size + 1; omega) _) (by show w.heap.size ≤ w.heap.size + 1; omega) _) (by show w.heap.size ≤ w.heap.size + 1; omega) _) (by show w.heap.size ≤ w.heap.size + 1; omega) _)⟩

end Go.Proofs.Ytogbfhhioicbmaa
