/-
  slices.Grow of a nil slice, slices.Concat of two slices of structs.
-/
import Derived.Test.YtaloegjcdllgoaaApp
import Derived.Test.YtaloegjcdllgoaaScale
import Derived.Test.YtaloegjcdllgoaaHalf
import Derived.Laws.AppendOwn
import Derived.Lib.SliceRun
import Derived.Lib.AppendZeros
namespace Go.Proofs.Ytaloegjcdllgoaa
open Go.RowKit

theorem run_growPoint (w : World) (ty : TypeId) (n : Nat) (h0 : 0 < n) (hn : n ≤ 1048576) : ∃ cap, n ≤ cap ∧ cap ≤ maxLen ∧ ∃ cur : Array Value, cur.size = cap * 2 ∧
    (Builtin.append_ #[31, 3] ty #[.slice none 0 0, .int .i64 (n : Int)]).run Try.prog w = .ok (.slice (some ⟨w.heap.size, 0, none⟩) n cap) (w.drew.alloc (.cells cur 49)) := by
  obtain ⟨i0, hi, hz, hs, hb⟩ := info_parts point_info
  have hzs : ((.agg #[.int .i64 0, .int .i64 0]) : Value).cells.size = i0.size := by rw [hs]; rfl
  have := Lib.run_append_nil_zeros (P := Try.prog) w 31 3 ty 49 i0 _ .i64 .i64 Try.underlying31 Try.underlying3 hi hz n h0 (by omega) (by omega) (by rw [hb]; omega)
  have hge := grownCap_ge w n 0 49
  refine ⟨_, hge, grownCap_le_maxLen w n 0 49 (by unfold maxLen; omega), _, ?_, this⟩
  rw [Array.size_append, size_zeroCells, size_zeroCells, hzs, hs, ← Nat.add_mul, Nat.add_sub_cancel' hge]
theorem growPoint_any (n : Nat) (hn : n ≤ 1048576) (w : World) :
    Calls Try.prog 64 #[.slice none 0 0, .int .i64 (n : Int)] w fun r w' => ∃ a c, r = .returned (.slice a 0 c) ∧ w'.ownsRow w.heap.size 49 2 (.slice a 0 c) 0 [] ∧ Ext w w' := by
  rcases Nat.eq_zero_or_pos n with h0 | h0
  · subst h0
    go_enter Try.func64, Try.ntmps64
    go_wp2
    go_ret
    exact ⟨none, 0, rfl, World.ownsRow_nil _ _ _ _, (by repeat (first | exact Ext.refl _ | assumption | apply Ext.alloc | apply Ext.drew | apply Ext.drewN | (refine Ext.trans ?_ (by assumption)) | (refine Ext.setCell ?_ (by (try simp) <;> omega) _)))⟩
  · have HG := Lib.hid (fun ty => run_growPoint w ty n h0 hn)
    have h1 : decide ((0 : Int) < (n : Int)) = true := by simp; omega
    have h2 : ¬ ((n : Int) < 0) := by omega
    go_enter Try.func64, Try.ntmps64
    obtain ⟨cap, hc1, hc2, cur, hcs, hrun⟩ := HG.out 31
    go_wp2_with (at_builtin; refine Lib.wpList_append_run _ rfl _ _ _ _ rfl _ _ rfl rfl _ _ hrun ?_)
    go_ret
    exact ⟨some ⟨w.heap.size, 0, none⟩, cap, rfl, World.ownsRow_made w.drew cur cap (Nat.le_refl _) hc2 hcs, Ext.alloc (Ext.drew (Ext.refl _)) _⟩
set_option maxHeartbeats 4000000 in
theorem concatPoint_any (a a' : Option Addr) (n n' c c' q : Nat) (zs ys : List (Int × Int)) (hn : n ≤ 1000) (hn' : n' ≤ 1000) (w : World) (h : Reads w a 2 n (pv zs)) (h' : Reads w a' 2 n' (pv ys))
    (hq0 : w.cell? ⟨q, 0, none⟩ = some (.slice a n c)) (hq1 : w.cell? ⟨q, 1, none⟩ = some (.slice a' n' c')) :
    Calls Try.prog 40 #[.slice (some ⟨q, 0, none⟩) 2 2] w fun r w' => ∃ a1 c1, r = .returned (.slice a1 (n + n') c1) ∧ w'.ownsRow w.heap.size 49 2 (.slice a1 (n + n') c1) (n + n') (pv (zs ++ ys)) ∧ Ext w w' := by
  obtain ⟨i0, hz1, hz2, hz3, hz4⟩ := info_parts point_info
  have HZI := Lib.hid (And.intro hz1 (And.intro hz2 (And.intro hz3 hz4)))
  have HR := Lib.hid (fun w' (e : Ext w w') => h.ext e)
  have HR' := Lib.hid (fun w' (e : Ext w w') => h'.ext e)
  have HQ0 := Lib.hid (fun w' (e : Ext w w') => e.keep hq0)
  have HQ1 := Lib.hid (fun w' (e : Ext w w') => e.keep hq1)
  clear hz1 hz2 hz3 hz4 h h'
  go_enter Try.func40, Try.ntmps40
  go_wp2
  go_loop [3, 11] (fun s t => ∃ (k m : Nat), k ≤ 2 ∧ t = .int .i64 (k : Int) ∧ s = .int .i64 (m : Int) ∧ Hid (m = if k = 0 then 0 else if k = 1 then n else n + n')) (fun _ t => 2 - (intOf t).toNat)
  case atStart => exact ⟨0, 0, by omega, rfl, rfl, Lib.hid rfl⟩
  case round =>
    obtain ⟨k, m, hk, rfl, rfl, HM⟩ := hrel
    by_cases h2 : k < 2
    · rcases (show k = 0 ∨ k = 1 by omega) with rfl | rfl
      · obtain rfl : m = 0 := HM.out
        go_wp2
        go_round
        case rel => exact ⟨1, n, by omega, rfl, by simp, Lib.hid rfl⟩
        case measure => simp [intOf]
      · obtain rfl : m = n := HM.out
        go_wp2
        go_round
        case rel => exact ⟨2, m + n', by omega, rfl, by simp, Lib.hid rfl⟩
        case measure => simp [intOf]
    · obtain rfl : k = 2 := by omega
      obtain rfl : m = n + n' := HM.out
      go_wp2_with fail
      refine (growPoint_any (n + n') (by omega) _).mono ?_
      rintro e w1 ⟨a1, c1, rfl, hown1, hE1⟩
      clear hq0 hq1
      have HO1 := Lib.hid hown1
      have hq0 := HQ0.out _ hE1
      have hq1 := HQ1.out _ hE1
      clear hown1
      go_wp2
      go_loopw [6, 27] (fun s t wr => ∃ (k m : Nat) (a2 : Option Addr) (c2 : Nat), k ≤ 2 ∧ t = .int .i64 (k : Int) ∧ s = .slice a2 m c2 ∧ Hid (m = if k = 0 then 0 else if k = 1 then n else n + n') ∧ wr.ownsRow w.heap.size 49 2 (.slice a2 m c2) m (pv (if k = 0 then [] else if k = 1 then zs else zs ++ ys)) ∧ Ext w wr) (fun _ t _ => 2 - (intOf t).toNat)
      case atStart => exact ⟨0, 0, a1, c1, by omega, rfl, rfl, Lib.hid rfl, HO1.out, hE1⟩
      case round =>
        clear hq0 hq1 HO1 hE1
        obtain ⟨k, m, a2, c2, hk, rfl, rfl, HM2, hown, hE⟩ := hrel
        have hq0 := HQ0.out _ hE
        have hq1 := HQ1.out _ hE
        have hR := HR.out _ hE
        have hR' := HR'.out _ hE
        by_cases h2 : k < 2
        · rcases (show k = 0 ∨ k = 1 by omega) with rfl | rfl
          · obtain rfl : m = 0 := HM2.out
            simp only [if_pos] at hown
            go_wp2_with (at_builtin; go_must (refine wpList_app_any _ rfl _ _ 31 rfl w.heap.size 49 i0 _ 2 16 Try.underlying31 HZI.out.1 HZI.out.2.1 HZI.out.2.2.1 HZI.out.2.2.2 rfl (by decide) _ 0 (pv []) rfl hown _ _ _ _ rfl hR (pv_one _) (by unfold maxLen; omega) (by omega) hE.size ?_))
            intro a4 c4 w4 hown4 hgr4 _
            have hE4 := Ext.grown hE hgr4 (fun k hk => (hown.lt k hk).1)
            go_wp2
            go_roundw
            case rel => exact ⟨1, n, a4, c4, by omega, rfl, by simp, Lib.hid rfl, by simpa [show pv [] = [] from rfl] using hown4, hE4⟩
            case measure => simp [intOf]
          · obtain rfl : m = n := HM2.out
            simp only [if_neg (show ¬ (1 = 0) by omega), if_pos] at hown
            go_wp2_with (at_builtin; go_must (refine wpList_app_any _ rfl _ _ 31 rfl w.heap.size 49 i0 _ 2 16 Try.underlying31 HZI.out.1 HZI.out.2.1 HZI.out.2.2.1 HZI.out.2.2.2 rfl (by decide) _ m (pv zs) rfl hown _ _ _ _ rfl hR' (pv_one _) (by unfold maxLen; omega) (by omega) hE.size ?_))
            intro a4 c4 w4 hown4 hgr4 _
            have hE4 := Ext.grown hE hgr4 (fun k hk => (hown.lt k hk).1)
            go_wp2
            go_roundw
            case rel => exact ⟨2, m + n', a4, c4, by omega, rfl, rfl, Lib.hid rfl, by simpa [pv_append] using hown4, hE4⟩
            case measure => simp [intOf]
        · obtain rfl : k = 2 := by omega
          obtain rfl : m = n + n' := HM2.out
          simp only [if_neg (show ¬ (2 = 0) by omega), if_neg (show ¬ (2 = 1) by omega)] at hown
          go_wp2
          go_ret
          exact ⟨a2, c2, rfl, hown, hE⟩

end Go.Proofs.Ytaloegjcdllgoaa
