/-
  The contracts of the functions on lines: lines through points, meeting points, moves.
-/
import Derived.Test.YtlkhjedlokklaaaLine
namespace Go.Proofs.Ytlkhjedlokklaaa
open Go.RowKit

theorem lnAsked_any (a b c x y : Int) (w : World) :
    Calls Try.prog 83 #[.agg #[.int .i64 a, .int .i64 b, .int .i64 c], .int .i64 x, .int .i64 y] w fun r w' => r = .returned (.bool (fin3 a b c && finB x && finB y)) ∧ Ext w w' := by
  have HA := (Has.new w #[.int .i64 a, .int .i64 b, .int .i64 c] 55)
  have Ac0 := Ext.keeps (HA 0 _ rfl)
  have Ac1 := Ext.keeps (HA 1 _ rfl)
  have Ac2 := Ext.keeps (HA 2 _ rfl)
  clear HA
  have hE : Ext (w.alloc (.cells #[.int .i64 a, .int .i64 b, .int .i64 c] 55)) (w.alloc (.cells #[.int .i64 a, .int .i64 b, .int .i64 c] 55)) := Ext.refl _
  cases h : fin3 a b c <;> cases h1 : finB x <;> (
    go_enter Try.func83, Try.ntmps83
    go_wp2_with (first | (go_at_call 89; refine (lnGood_any _ _ _ _).mono ?_; rintro e w' ⟨rfl, hb⟩; (first | replace hE := Ext.trans hE hb | replace hE := Ext.trans (Ext.alloc hE _) hb | replace hE := Ext.trans (Ext.alloc (Ext.alloc hE _) _) hb | replace hE := Ext.trans (Ext.drew hE) hb | replace hE := Ext.trans (Ext.alloc (Ext.alloc (Ext.alloc hE _) _) _) hb)) | (go_at_call 88; refine (poFinite_any _ _).mono ?_; rintro e _ ⟨rfl, rfl⟩))
    go_ret
    exact ⟨rfl, (by repeat (first | exact Ext.refl _ | assumption | apply Ext.alloc | apply Ext.drew | apply Ext.drewN | (refine Ext.trans ?_ (by assumption)) | (refine Ext.setCell ?_ (by simp; done) _) | (refine Ext.setCell ?_ (by simp; omega) _)))⟩)

