/-
  The contracts of the functions on slices of triples that the laws share.
-/
import Derived.Test.YtaloegjcdllgoaaInts
import Derived.Test.YtaloegjcdllgoaaConv
namespace Go.Proofs.Ytaloegjcdllgoaa
open Go.RowKit

/-- What a slice of triples holds, as cells. -/
def tv : List (Int × Int × Int) → List Value
  | [] => []
  | r :: rs => .int .i64 r.1 :: .int .i64 r.2.1 :: .int .i64 r.2.2 :: tv rs
theorem tv_len : ∀ zs : List (Int × Int × Int), (tv zs).length = zs.length * 3
  | [] => rfl
  | _ :: rs => by simp only [tv, List.length_cons, tv_len rs]; omega
/-- The triple at a place. -/
def tat (zs : List (Int × Int × Int)) (k : Nat) : Int × Int × Int := zs.getD k (0, 0, 0)
theorem tv_at : ∀ {zs : List (Int × Int × Int)} {k : Nat}, k < zs.length → (tv zs)[k * 3]? = some (.int .i64 (tat zs k).1) ∧ (tv zs)[k * 3 + 1]? = some (.int .i64 (tat zs k).2.1) ∧ (tv zs)[k * 3 + 2]? = some (.int .i64 (tat zs k).2.2)
  | [], _, h => by simp at h
  | r :: rs, 0, _ => ⟨rfl, rfl, rfl⟩
  | r :: rs, k + 1, h => by
    have ih := tv_at (zs := rs) (k := k) (by simpa using h)
    have e : (k + 1) * 3 = k * 3 + 1 + 1 + 1 := by omega
    have e2 : tat (r :: rs) (k + 1) = tat rs k := by simp [tat, List.getD]
    rw [e, e2]
    exact ih
theorem tv_append : ∀ xs ys : List (Int × Int × Int), tv (xs ++ ys) = tv xs ++ tv ys
  | [], _ => rfl
  | r :: rs, ys => by simp [tv, tv_append rs ys]
theorem tv_take : ∀ (zs : List (Int × Int × Int)) (k : Nat), (tv zs).take (k * 3) = tv (zs.take k)
  | _, 0 => by simp [tv]
  | [], k + 1 => by simp [tv]
  | r :: rs, k + 1 => by
    have e : (k + 1) * 3 = k * 3 + 1 + 1 + 1 := by omega
    rw [e]
    simp [tv, tv_take rs k]
theorem take_set3 {xs ys : List Value} {k m : Nat} {a b c : Value} (hy : ys.length = m) (hk : k * 3 + 2 < m) (h : ys.take (k * 3) = xs.take (k * 3)) (h0 : xs[k * 3]? = some a) (h1 : xs[k * 3 + 1]? = some b) (h2 : xs[k * 3 + 2]? = some c) :
    (((ys.set (k * 3) a).set (k * 3 + 1) b).set (k * 3 + 2) c).take ((k + 1) * 3) = xs.take ((k + 1) * 3) := by
  apply List.ext_getElem?
  intro i
  rw [List.getElem?_take, List.getElem?_take]
  by_cases hi : i < (k + 1) * 3
  · rw [if_pos hi, if_pos hi]
    rcases Nat.lt_or_ge i (k * 3) with hlt | hge
    · have e := congrArg (fun l => l[i]?) h
      simp only [List.getElem?_take, if_pos hlt] at e
      rw [List.getElem?_set_ne (by omega), List.getElem?_set_ne (by omega), List.getElem?_set_ne (by omega), e]
    · have h3 : i = k * 3 ∨ i = k * 3 + 1 ∨ i = k * 3 + 2 := by omega
      rcases h3 with rfl | rfl | rfl
      · rw [List.getElem?_set_ne (by omega), List.getElem?_set_ne (by omega), List.getElem?_set_self (by omega), h0]
      · rw [List.getElem?_set_ne (by omega), List.getElem?_set_self (by simp; omega), h1]
      · rw [List.getElem?_set_self (by simp; omega), h2]
  · rw [if_neg hi, if_neg hi]

theorem tv_set3 : ∀ (l : List (Int × Int × Int)) (j : Nat) (a b c : Int), j < l.length → (((tv l).set (j * 3) (.int .i64 a)).set (j * 3 + 1) (.int .i64 b)).set (j * 3 + 2) (.int .i64 c) = tv (l.set j (a, b, c))
  | [], _, _, _, _, h => by simp at h
  | r :: rs, 0, _, _, _, _ => rfl
  | r :: rs, j + 1, a, b, c, h => by
    have ih := tv_set3 rs j a b c (by simpa using h)
    have e : (j + 1) * 3 = j * 3 + 1 + 1 + 1 := by omega
    rw [e]
    simp only [tv, List.set_cons_succ]
    exact congrArg _ (congrArg _ (congrArg _ ih))
/-- The marks that a law lays into a slice of triples. -/
def tmarks (k : Int) (n : Nat) : List (Int × Int × Int) := (List.range n).map fun i : Nat => (k + 3 * (i : Int), k + 3 * (i : Int) + 1, k + 3 * (i : Int) + 1 + 1)
theorem tmarks_len (k : Int) (n : Nat) : (tmarks k n).length = n := by simp [tmarks]
theorem tmarks_at {k : Int} {n i : Nat} (h : i < n) : tat (tmarks k n) i = (k + 3 * (i : Int), k + 3 * (i : Int) + 1, k + 3 * (i : Int) + 1 + 1) := by simp [tat, tmarks, List.getD, h]
theorem tmarks_step {zs : List (Int × Int × Int)} {k : Int} {i : Nat} (h : i < zs.length) : ((tmarks k i ++ zs.drop i).set i (k + 3 * (i : Int), k + 3 * (i : Int) + 1, k + 3 * (i : Int) + 1 + 1)) = tmarks k (i + 1) ++ zs.drop (i + 1) := by
  have e : (tmarks k i).length = i := tmarks_len k i
  rw [List.set_append_right _ _ (by omega), e, Nat.sub_self, List.drop_eq_getElem_cons h, List.set_cons_zero]
  simp [tmarks, List.range_succ]

/-- A new slice of n triples. -/
def MadeTri (E : TypeId) (B n : Nat) (zs : List (Int × Int × Int)) (w : World) (r : Ending) (w' : World) : Prop :=
  ∃ g, r = .returned (.slice (some ⟨g, 0, none⟩) n n) ∧ w'.ownsRow B E 3 (.slice (some ⟨g, 0, none⟩) n n) n (tv zs) ∧ Ext w w'

/-- The cells of a slice of triples, read at a place. -/
theorem Reads.tri {w : World} {a : Option Addr} {n : Nat} {zs : List (Int × Int × Int)} (h : Reads w a 3 n (tv zs)) {k : Nat} (hk : k < n) :
    ∃ b off, a = some ⟨b, off, none⟩ ∧ w.cell? ⟨b, off + k * 3, none⟩ = some (.int .i64 (tat zs k).1) ∧ w.cell? ⟨b, off + k * 3 + 1, none⟩ = some (.int .i64 (tat zs k).2.1) ∧ w.cell? ⟨b, off + k * 3 + 2, none⟩ = some (.int .i64 (tat zs k).2.2) := by
  have hl : zs.length = n := by have := h.1; rw [tv_len] at this; omega
  obtain ⟨b, off, ha, hc⟩ := h.2 (by omega)
  have h3 := tv_at (zs := zs) (k := k) (by omega)
  exact ⟨b, off, ha, hc _ _ h3.1, hc _ _ h3.2.1, hc _ _ h3.2.2⟩

theorem ray_info : (Try.prog.info? 52).map (fun i => (i.zero, i.size, i.bytes)) = some (some (.agg #[.int .i64 0, .int .i64 0, .int .i64 0]), 3, 24) := by kernel_rfl

set_option maxHeartbeats 1000000 in
theorem toRayS_any (a : Option Addr) (n c : Nat) (zs : List (Int × Int × Int)) (hn : n ≤ 1048576) (w : World) (h : Reads w a 3 n (tv zs)) :
    Calls Try.prog 13 #[.slice a n c] w (MadeTri 52 w.heap.size n zs w) := by
  obtain ⟨i0, hi, hz0, hz1, hz2⟩ := info_parts ray_info
  have hl : zs.length = n := by have := h.1; rw [tv_len] at this; omega
  go_enter Try.func13, Try.ntmps13
  go_wp2_with (refine wpList_make_full _ rfl (.tmp 6) (.tmp 6) 34 rfl w.heap.size 52 i0 (.agg #[.int .i64 0, .int .i64 0, .int .i64 0]) 3 Try.underlying34 hi hz0 hz1 .i64 .i64 _ _ n rfl rfl rfl rfl (by rw [hz2]; omega) (by unfold maxLen; omega) (Nat.le_refl _) ?_)
  intro w1 hown hgr
  have hb1 : Ext w w1 := Ext.of_grown hgr
  clear hi hz0 hz1 hz2
  go_wp2
  go_loopw [4] (fun s wr => ∃ (k : Nat) (ys : List Value), k ≤ n ∧ s = .int .i64 k ∧ wr.ownsRow w.heap.size 52 3 (.slice (some ⟨w.heap.size, 0, none⟩) n n) n ys ∧ ys.take (k * 3) = (tv zs).take (k * 3) ∧ Ext w wr) (fun s _ => n - (intOf s).toNat)
  case atStart => exact ⟨0, _, Nat.zero_le _, rfl, hown, by simp, hb1⟩
  case round =>
    obtain ⟨k, ys, hk, rfl, hownr, hys, hbr⟩ := hrel
    have hyl : ys.length = n * 3 := hownr.1
    have HY := Lib.hid hys
    clear hys hown hgr
    by_cases hlt : k < n
    · obtain ⟨b, off, rfl, hc0, hc1, hc2⟩ := (Reads.ext hbr h).tri hlt
      have T := tv_at (zs := zs) (k := k) (by omega)
      generalize (tat zs k).1 = x at hc0 T
      generalize (tat zs k).2.1 = y at hc1 T
      generalize (tat zs k).2.2 = z at hc2 T
      have HT := Lib.hid T
      have HL := Lib.hid hyl
      clear h T hl
      go_wp2_with fail
      refine (toRay_any _ _ _ _).mono ?_
      rintro e w2 ⟨rfl, hb2⟩
      replace hownr := own_ext hb2 hownr
      obtain ⟨o0, ho0⟩ : ∃ o, w2.cell? ⟨w.heap.size, k * 3, none⟩ = some o := ⟨_, by rw [hownr.cellAt _ (by omega)]; exact List.getElem?_eq_getElem (by omega)⟩
      obtain ⟨o1, ho1⟩ : ∃ o, w2.cell? ⟨w.heap.size, k * 3 + 1, none⟩ = some o := ⟨_, by rw [hownr.cellAt _ (by omega)]; exact List.getElem?_eq_getElem (by omega)⟩
      obtain ⟨o2, ho2⟩ : ∃ o, w2.cell? ⟨w.heap.size, k * 3 + 2, none⟩ = some o := ⟨_, by rw [hownr.cellAt _ (by omega)]; exact List.getElem?_eq_getElem (by omega)⟩
      have f0 := hownr.frozenAt (k * 3)
      have f1 := hownr.frozenAt (k * 3 + 1)
      have f2 := hownr.frozenAt (k * 3 + 2)
      have s0 := hownr.stored (k * 3) (.int .i64 x)
      have s1 := s0.1.stored (k * 3 + 1) (.int .i64 y)
      have s2 := s1.1.stored (k * 3 + 2) (.int .i64 z)
      clear hownr hyl
      go_wp2
      go_roundw
      case rel => exact ⟨k + 1, _, by omega, by go_num, s2.1, take_set3 HL.out (by omega) HY.out HT.out.1 HT.out.2.1 HT.out.2.2, ((((hbr.trans hb2).grown s0.2 (by simp)).grown s1.2 (by simp)).grown s2.2 (by simp))⟩
      case measure => simp [intOf]; omega
    · have hkn : n = k := by omega
      have e : ys = tv zs := by
        have h1 := HY.out
        rwa [List.take_of_length_le (by omega), List.take_of_length_le (by rw [tv_len]; omega)] at h1
      subst e
      clear hkn
      go_wp2
      go_ret
      exact ⟨_, rfl, hownr, hbr⟩

theorem szRayS_yes (a : Option Addr) (n c : Nat) (left : Int) (h : (n : Int) ≤ left) (hl : left ≤ 1073741824) (w : World) :
    Calls Try.prog 11 #[.slice a n c, .int .i64 left] w fun r w' => r = .returned (.int .i64 (left - n)) ∧ w = w' := by
  go_enter Try.func11, Try.ntmps11
  go_wp2
  go_ret
  exact ⟨rfl, rfl⟩

theorem szRayS_no (a : Option Addr) (n c : Nat) (left : Int) (h : left < (n : Int)) (h0 : 0 ≤ left) (hl : left ≤ 1073741824) (hn : n ≤ 9223372036854775807) (w : World) :
    Calls Try.prog 11 #[.slice a n c, .int .i64 left] w fun r w' => r = .returned (.int .i64 (-1)) ∧ w = w' := by
  go_enter Try.func11, Try.ntmps11
  go_wp2
  go_ret
  exact ⟨rfl, rfl⟩

theorem eqRayS_same (a a' : Option Addr) (n c c' : Nat) (zs : List (Int × Int × Int)) (hn : n ≤ 1073741824) (w : World) (h : Reads w a 3 n (tv zs)) (h' : Reads w a' 3 n (tv zs)) :
    Calls Try.prog 16 #[.slice a n c, .slice a' n c'] w fun r w' => r = .returned (.bool true) ∧ Ext w w' := by
  go_enter Try.func16, Try.ntmps16
  go_wp2
  go_loopw [5] (fun s wr => ∃ k : Nat, k ≤ n ∧ s = .int .i64 k ∧ Ext w wr) (fun s _ => n - (intOf s).toNat)
  case atStart => exact ⟨0, Nat.zero_le _, rfl, Ext.refl _⟩
  case round =>
    obtain ⟨k, hk, rfl, hbr⟩ := hrel
    by_cases hlt : k < n
    · obtain ⟨b, off, rfl, hp0, hp1, hp2⟩ := (Reads.ext hbr h).tri hlt
      obtain ⟨b', off', rfl, hq0, hq1, hq2⟩ := (Reads.ext hbr h').tri hlt
      generalize (tat zs k).1 = x at hp0 hq0
      generalize (tat zs k).2.1 = y at hp1 hq1
      generalize (tat zs k).2.2 = z at hp2 hq2
      have Pc0 := Ext.keeps hp0
      have Pc1 := Ext.keeps hp1
      have Pc2 := Ext.keeps hp2
      have Qc0 := Ext.keeps hq0
      have Qc1 := Ext.keeps hq1
      have Qc2 := Ext.keeps hq2
      clear h h'
      have hE : Ext wr wr := Ext.refl _
      go_wp2
      have qP0 := fun s : Past wr => Pc0 s.w s.ext
      have qP1 := fun s : Past wr => Pc1 s.w s.ext
      have qP2 := fun s : Past wr => Pc2 s.w s.ext
      have qQ0 := fun s : Past wr => Qc0 s.w s.ext
      have qQ1 := fun s : Past wr => Qc1 s.w s.ext
      have qQ2 := fun s : Past wr => Qc2 s.w s.ext
      refine wp_region_past wr (by first | exact hE | exact Ext.alloc hE _ | exact Ext.drew hE | exact Ext.drewN hE _) (by kernel_rfl) (by kernel_rfl) ?_
      repeat (go_big_quiet_step (((go_at_call 42; exact past_ext (eqRay_same _ _ _ _)))))
      refine wpQuiet_nil ?_
      intro _ hw'
      obtain ⟨⟨w2, hE⟩, hw''⟩ := hw'
      subst hw''
      clear qP0 qP1 qP2 qQ0 qQ1 qQ2
      go_wp2
      go_roundw
      case rel => exact ⟨k + 1, by omega, by go_num, hbr.trans hE⟩
      case measure => simp [intOf]; omega
    · go_wp2
      go_ret
      exact ⟨rfl, hbr⟩

set_option maxHeartbeats 1000000 in
theorem markRayS_any (a : Option Addr) (n c : Nat) (k : Int) (xs : List (Int × Int × Int)) (B : Nat) (hn : n ≤ 1073741824) (hk0 : 0 ≤ k) (hk1 : k ≤ 1073741824) (w : World) (h : w.ownsRow B 52 3 (.slice a n c) n (tv xs)) :
    Calls Try.prog 17 #[.slice a n c, .int .i64 k] w fun r w' => r = .returned (.int .i64 (k + 3 * n)) ∧ w'.ownsRow B 52 3 (.slice a n c) n (tv (tmarks k n)) ∧ w.grownBy w' (Value.slice a n c).ownBlock := by
  have hl : xs.length = n := by have := h.1; rw [tv_len] at this; omega
  by_cases hz : n = 0
  · subst hz
    have hx : xs = [] := List.eq_nil_of_length_eq_zero hl
    subst hx
    go_enter Try.func17, Try.ntmps17
    go_wp2
    go_loop [1, 5] (fun t s => s = .int .i64 0 ∧ t = .int .i64 k) (fun _ _ => 0)
    case atStart => exact ⟨rfl, rfl⟩
    case round =>
      obtain ⟨rfl, rfl⟩ := hrel
      go_wp2
      go_ret
      exact ⟨ret_int (by simp), h, World.grownBy.refl _ _⟩
  · obtain ⟨g, rfl, hgB, hgw⟩ := own_head h (by omega)
    go_enter Try.func17, Try.ntmps17
    go_wp2
    go_loopw [1, 5] (fun t s wr => ∃ i : Nat, i ≤ n ∧ s = .int .i64 i ∧ t = .int .i64 (k + 3 * i) ∧ wr.ownsRow B 52 3 (.slice (some ⟨g, 0, none⟩) n c) n (tv (tmarks k i ++ xs.drop i)) ∧ w.grownBy wr (some g)) (fun _ s _ => n - (intOf s).toNat)
    case atStart => exact ⟨0, Nat.zero_le _, rfl, by simp, by simpa [tmarks] using h, World.grownBy.refl _ _⟩
    case round =>
      obtain ⟨i, hi, rfl, rfl, hown, hgr⟩ := hrel
      by_cases hlt : i < n
      · have hyl := hown.1
        obtain ⟨o0, ho0⟩ : ∃ o, wr.cell? ⟨g, i * 3, none⟩ = some o := ⟨_, by rw [hown.cellAt _ (by omega)]; exact List.getElem?_eq_getElem (by omega)⟩
        obtain ⟨o1, ho1⟩ : ∃ o, wr.cell? ⟨g, i * 3 + 1, none⟩ = some o := ⟨_, by rw [hown.cellAt _ (by omega)]; exact List.getElem?_eq_getElem (by omega)⟩
        obtain ⟨o2, ho2⟩ : ∃ o, wr.cell? ⟨g, i * 3 + 2, none⟩ = some o := ⟨_, by rw [hown.cellAt _ (by omega)]; exact List.getElem?_eq_getElem (by omega)⟩
        have f0 := hown.frozenAt (i * 3)
        have f1 := hown.frozenAt (i * 3 + 1)
        have f2 := hown.frozenAt (i * 3 + 2)
        have s0 := hown.stored (i * 3) (.int .i64 (k + 3 * i))
        have s1 := s0.1.stored (i * 3 + 1) (.int .i64 (k + 3 * i + 1))
        have s2 := s1.1.stored (i * 3 + 2) (.int .i64 (k + 3 * i + 1 + 1))
        have e := Lib.hid (tmarks_step (zs := xs) (k := k) (i := i) (by omega))
        have e3 := Lib.hid (tv_set3 (tmarks k i ++ xs.drop i) i (k + 3 * i) (k + 3 * i + 1) (k + 3 * i + 1 + 1) (by simp [tmarks_len]; omega))
        clear hown h hl hyl
        go_wp2
        go_roundw
        case rel =>
          refine ⟨i + 1, by omega, by go_num, congrArg (Value.int .i64) (by omega), ?_, grown_trans hgr (grown_trans s0.2 (grown_trans s1.2 s2.2))⟩
          have h1 := s2.1
          rw [e3.out, e.out] at h1
          exact h1
        case measure => simp [intOf]; omega
      · have hin : i = n := by omega
        have e : tmarks k i ++ xs.drop i = tmarks k n := by rw [hin, List.drop_of_length_le (by omega), List.append_nil]
        have E := Lib.hid e
        have HN := Lib.hid hin
        clear e hin
        go_wp2
        go_ret
        exact ⟨ret_int (by rw [HN.out]), by rw [← E.out]; exact hown, hgr⟩

end Go.Proofs.Ytaloegjcdllgoaa
