/-
  MissingRay: the ray that a star lacks.
-/
import Derived.Test.YtaloegjcdllgoaaBal
import Derived.Test.YtaloegjcdllgoaaRay3
namespace Go.Proofs.Ytaloegjcdllgoaa
open Go.RowKit

theorem gcdI_neg (x y : Int) : gcdI (-x) (-y) = gcdI x y := by simp [gcdI]
/-- The ray that sums with (x, y) to zero. -/
def lackB (x y : Int) : Bool := rayB ((-x).tdiv (gcdI (-x) (-y))) ((-y).tdiv (gcdI (-x) (-y))) (gcdI (-x) (-y))
def missOk (zs : List (Int × Int × Int)) : Bool := starB zs && !balB zs && lackB (sX zs zs.length) (sY zs zs.length)
def missX (zs : List (Int × Int × Int)) : Int := gI (missOk zs) ((-(sX zs zs.length)).tdiv (gcdI (-(sX zs zs.length)) (-(sY zs zs.length))))
def missY (zs : List (Int × Int × Int)) : Int := gI (missOk zs) ((-(sY zs zs.length)).tdiv (gcdI (-(sX zs zs.length)) (-(sY zs zs.length))))
def missN (zs : List (Int × Int × Int)) : Int := gI (missOk zs) (gcdI (-(sX zs zs.length)) (-(sY zs zs.length)))
theorem miss_no {zs : List (Int × Int × Int)} (h : missOk zs = false) : missX zs = 0 ∧ missY zs = 0 ∧ missN zs = 0 := by simp [missX, missY, missN, h, gI]
theorem miss_yes {zs : List (Int × Int × Int)} (h : missOk zs = true) : missX zs = (-(sX zs zs.length)).tdiv (gcdI (-(sX zs zs.length)) (-(sY zs zs.length))) ∧ missY zs = (-(sY zs zs.length)).tdiv (gcdI (-(sX zs zs.length)) (-(sY zs zs.length))) ∧ missN zs = gcdI (-(sX zs zs.length)) (-(sY zs zs.length)) := by simp [missX, missY, missN, h, gI]
theorem balB_no {zs : List (Int × Int × Int)} (h : balB zs = false) : sX zs zs.length ≠ 0 ∨ sY zs zs.length ≠ 0 := by
  simp only [balB] at h
  by_cases h1 : sX zs zs.length = 0
  · refine .inr fun h2 => ?_
    rw [h1, h2] at h
    simp at h
  · exact .inl h1

theorem minus_any (a b c d : Int) (ha : -1000000000 ≤ a ∧ a ≤ 1000000000) (hb : -1000000000 ≤ b ∧ b ≤ 1000000000) (hc : -1000000000 ≤ c ∧ c ≤ 1000000000) (hd : -1000000000 ≤ d ∧ d ≤ 1000000000) (w : World) :
    Calls Try.prog 35 #[.agg #[.int .i64 a, .int .i64 b], .agg #[.int .i64 c, .int .i64 d]] w fun r w' => r = .returned (.agg #[.int .i64 (a - c), .int .i64 (b - d)]) ∧ Ext w w' := by
  have HA := (Has.alloc (Has.new w #[.int .i64 a, .int .i64 b] 49) (.cells #[.int .i64 c, .int .i64 d] 49))
  have Ac0 := Ext.keeps (HA 0 _ rfl)
  have Ac1 := Ext.keeps (HA 1 _ rfl)
  clear HA
  have HB := (Has.new2 w (.cells #[.int .i64 a, .int .i64 b] 49) #[.int .i64 c, .int .i64 d] 49)
  have Bc0 := Ext.keeps (HB 0 _ rfl)
  have Bc1 := Ext.keeps (HB 1 _ rfl)
  clear HB
  have hE : Ext ((w.alloc (.cells #[.int .i64 a, .int .i64 b] 49)).alloc (.cells #[.int .i64 c, .int .i64 d] 49)) ((w.alloc (.cells #[.int .i64 a, .int .i64 b] 49)).alloc (.cells #[.int .i64 c, .int .i64 d] 49)) := Ext.refl _
  go_enter Try.func35, Try.ntmps35
  go_wp2
  refine bodyPost_ret (v := .agg #[.int .i64 (a - c), .int .i64 (b - d)]) (by simp [results, Try.results35, go_sem]) rfl ⟨rfl, (by repeat (first | exact Ext.refl _ | assumption | apply Ext.alloc | apply Ext.drew | apply Ext.drewN | (refine Ext.trans ?_ (by assumption)) | (refine Ext.setCell ?_ (by (try simp) <;> omega) _)))⟩

end Go.Proofs.Ytaloegjcdllgoaa
