/-
  The contracts of the functions on slices of ints that the laws share.
-/
import Derived.Test.YtaloegjcdllgoaaNum
import Derived.Test.YtaloegjcdllgoaaSlice
namespace Go.Proofs.Ytaloegjcdllgoaa
open Go.RowKit

theorem int_info : (Try.prog.info? 3).map (fun i => (i.zero, i.size, i.bytes)) = some (some (.int .i64 0), 1, 8) := by kernel_rfl

/-- What a slice of ints holds, as cells. -/
def iv (zs : List Int) : List Value := zs.map (Value.int .i64)
theorem iv_len (zs : List Int) : (iv zs).length = zs.length := by simp [iv]
theorem iv_at {zs : List Int} {k : Nat} (h : k < zs.length) : (iv zs)[k]? = some (.int .i64 (zs.getD k 0)) := intsAt h
theorem take_set_succ {zs : List Int} {ys : List Value} {n k : Nat} {z : Int} (hy : ys.length = n) (hz : zs.length = n) (hk : k < n) (h : ys.take k = (iv zs).take k) (e : z = zs.getD k 0) : (ys.set k (.int .i64 z)).take (k + 1) = (iv zs).take (k + 1) := by
  rw [List.take_succ_eq_append_getElem (by simp; omega), List.take_succ_eq_append_getElem (by rw [iv_len]; omega), List.take_set_of_le (Nat.le_refl _), h, e]
  simp [iv, List.getD, List.getElem?_eq_getElem (show k < zs.length by omega)]

theorem iv_set (zs : List Int) (i : Nat) (z : Int) : (iv zs).set i (.int .i64 z) = iv (zs.set i z) := by simp [iv, List.map_set]
theorem grown_trans {a b c : World} {row : Option Nat} (h : a.grownBy b row) (k : b.grownBy c row) : a.grownBy c row :=
  ⟨k.os.trans h.os, k.tape.trans h.tape, k.output.trans h.output, Nat.le_trans h.size k.size, fun i hi hne => (k.block i (Nat.lt_of_lt_of_le hi h.size) hne).trans (h.block i hi hne)⟩

/-- A new slice of n ints. -/
def MadeInts (B n : Nat) (zs : List Int) (w : World) (r : Ending) (w' : World) : Prop :=
  ∃ g, r = .returned (.slice (some ⟨g, 0, none⟩) n n) ∧ w'.ownsRow B 3 1 (.slice (some ⟨g, 0, none⟩) n n) n (iv zs) ∧ Ext w w'

/-- The marks that a law lays into a slice. -/
def marks (k : Int) (n : Nat) : List Int := (List.range n).map fun i : Nat => k + (i : Int)
theorem marks_len (k : Int) (n : Nat) : (marks k n).length = n := by simp [marks]
theorem marks_at {k : Int} {n i : Nat} (h : i < n) : (marks k n).getD i 0 = k + (i : Int) := by simp [marks, List.getD, h]
/-- Marking one place more. -/
theorem marks_step {zs : List Int} {k : Int} {i : Nat} (h : i < zs.length) : ((marks k i ++ zs.drop i).set i (k + (i : Int))) = marks k (i + 1) ++ zs.drop (i + 1) := by
  have e : (marks k i).length = i := marks_len k i
  rw [List.set_append_right _ _ (by omega), e, Nat.sub_self, List.drop_eq_getElem_cons h, List.set_cons_zero]
  simp [marks, List.range_succ]

set_option maxHeartbeats 1000000 in
theorem toIntS_any (a : Option Addr) (n c : Nat) (zs : List Int) (hn : n ≤ 1048576) (w : World) (h : Reads w a 1 n (iv zs)) :
    Calls Try.prog 6 #[.slice a n c] w (MadeInts w.heap.size n zs w) := by
  obtain ⟨i0, hi, hz0, hz1, hz2⟩ := info_parts int_info
  have hl : zs.length = n := by have := h.1; rw [iv_len] at this; omega
  go_enter Try.func6, Try.ntmps6
  go_wp2_with (refine wpList_make_full _ rfl (.tmp 6) (.tmp 6) 22 rfl w.heap.size 3 i0 (.int .i64 0) 1 Try.underlying22 hi hz0 hz1 .i64 .i64 _ _ n rfl rfl rfl rfl (by rw [hz2]; omega) (by unfold maxLen; omega) (Nat.le_refl _) ?_)
  intro w1 hown hgr
  have hb1 : Ext w w1 := Ext.of_grown hgr
  clear hi hz0 hz1 hz2
  go_wp2
  go_loopw [4] (fun s wr => ∃ (k : Nat) (ys : List Value), k ≤ n ∧ s = .int .i64 k ∧ wr.ownsRow w.heap.size 3 1 (.slice (some ⟨w.heap.size, 0, none⟩) n n) n ys ∧ ys.take k = (iv zs).take k ∧ Ext w wr) (fun s _ => n - (intOf s).toNat)
  case atStart => exact ⟨0, _, Nat.zero_le _, rfl, hown, by simp, hb1⟩
  case round =>
    obtain ⟨k, ys, hk, rfl, hownr, hys, hbr⟩ := hrel
    have hyl : ys.length = n := by have := hownr.1; omega
    have HY := Lib.hid hys
    clear hys hown hgr
    by_cases hlt : k < n
    · obtain ⟨b, off, rfl, hcell⟩ := (Reads.ext hbr h).2 (by omega)
      have hck := hcell k _ (iv_at (by omega))
      obtain ⟨z, hz⟩ : ∃ z, z = zs.getD k 0 := ⟨_, rfl⟩
      rw [← hz] at hck
      have HZ := Lib.hid hz
      obtain ⟨old, hco⟩ : ∃ old, wr.cell? ⟨w.heap.size, k, none⟩ = some old := ⟨ys[k]'(by omega), by rw [hownr.cellAt k (by omega), List.getElem?_eq_getElem]⟩
      have hfo := hownr.frozenAt k
      have hst := hownr.stored k (.int .i64 z)
      have HL := Lib.hid hl
      have HYL := Lib.hid hyl
      clear hz hcell hownr hl hyl h
      go_wp2
      go_roundw
      case rel => exact ⟨k + 1, ys.set k (.int .i64 z), by omega, by go_num, hst.1, take_set_succ HYL.out HL.out hlt HY.out HZ.out, hbr.grown hst.2 (by simp)⟩
      case measure => simp [intOf]; omega
    · have hkn : n = k := by omega
      have e : ys = iv zs := by
        have h1 := HY.out
        rwa [List.take_of_length_le (by omega), List.take_of_length_le (by rw [iv_len]; omega)] at h1
      subst e
      clear hkn
      go_wp2
      go_ret
      exact ⟨_, rfl, hownr, hbr⟩

theorem eqIntS_same (a a' : Option Addr) (n c c' : Nat) (zs : List Int) (hn : n ≤ 1073741824) (w : World) (h : Reads w a 1 n (iv zs)) (h' : Reads w a' 1 n (iv zs)) :
    Calls Try.prog 8 #[.slice a n c, .slice a' n c'] w fun r w' => r = .returned (.bool true) ∧ Ext w w' := by
  have hl : zs.length = n := by have := h.1; rw [iv_len] at this; omega
  go_enter Try.func8, Try.ntmps8
  go_wp2
  go_loopw [5] (fun s wr => ∃ k m : Nat, k ≤ n ∧ s = .int .i64 k ∧ wr = w.drewN m) (fun s _ => n - (intOf s).toNat)
  case atStart => exact ⟨0, 0, Nat.zero_le _, rfl, rfl⟩
  case round =>
    obtain ⟨k, m, hk, rfl, rfl⟩ := hrel
    by_cases hlt : k < n
    · obtain ⟨b, off, rfl, hcell⟩ := h.2 (by omega)
      obtain ⟨b', off', rfl, hcell'⟩ := h'.2 (by omega)
      have hck := hcell k _ (iv_at (by omega))
      have hck' := hcell' k _ (iv_at (by omega))
      generalize zs.getD k 0 = z at hck hck'
      clear hcell hcell' h h' hl
      go_wp2
      go_quiet (fail)
      go_wp2
      go_roundw
      case rel => exact ⟨k + 1, _, by omega, by go_num, rfl⟩
      case measure => simp [intOf]; omega
    · go_wp2
      go_ret
      exact ⟨rfl, Ext.drewN (Ext.refl w) m⟩

set_option maxHeartbeats 1000000 in
theorem markIntS_any (a : Option Addr) (n c : Nat) (k : Int) (xs : List Int) (B : Nat) (hn : n ≤ 1073741824) (hk0 : 0 ≤ k) (hk1 : k ≤ 1073741824) (w : World) (h : w.ownsRow B 3 1 (.slice a n c) n (iv xs)) :
    Calls Try.prog 9 #[.slice a n c, .int .i64 k] w fun r w' => r = .returned (.int .i64 (k + n)) ∧ w'.ownsRow B 3 1 (.slice a n c) n (iv (marks k n)) ∧ w.grownBy w' (Value.slice a n c).ownBlock := by
  have hl : xs.length = n := by have := h.1; rw [iv_len] at this; omega
  by_cases hz : n = 0
  · subst hz
    have hx : xs = [] := List.eq_nil_of_length_eq_zero hl
    subst hx
    go_enter Try.func9, Try.ntmps9
    go_wp2
    go_loop [1, 5] (fun t s => s = .int .i64 0 ∧ t = .int .i64 k) (fun _ _ => 0)
    case atStart => exact ⟨rfl, rfl⟩
    case round =>
      obtain ⟨rfl, rfl⟩ := hrel
      go_wp2
      go_ret
      exact ⟨ret_int (by simp), h, World.grownBy.refl _ _⟩
  · obtain ⟨g, rfl, hgB, hgw⟩ := own_head h (by omega)
    go_enter Try.func9, Try.ntmps9
    go_wp2
    go_loopw [1, 5] (fun t s wr => ∃ i : Nat, i ≤ n ∧ s = .int .i64 i ∧ t = .int .i64 (k + i) ∧ wr.ownsRow B 3 1 (.slice (some ⟨g, 0, none⟩) n c) n (iv (marks k i ++ xs.drop i)) ∧ w.grownBy wr (some g)) (fun _ s _ => n - (intOf s).toNat)
    case atStart => exact ⟨0, Nat.zero_le _, rfl, by simp, by simpa [marks] using h, World.grownBy.refl _ _⟩
    case round =>
      obtain ⟨i, hi, rfl, rfl, hown, hgr⟩ := hrel
      by_cases hlt : i < n
      · obtain ⟨old, hco⟩ : ∃ old, wr.cell? ⟨g, i, none⟩ = some old := by
          rw [hown.cellAt i (by omega)]
          exact ⟨_, List.getElem?_eq_getElem (by rw [iv_len]; simp [marks_len]; omega)⟩
        have hfo := hown.frozenAt i
        have hst := hown.stored i (.int .i64 (k + i))
        have e := Lib.hid (marks_step (zs := xs) (k := k) (i := i) (by omega))
        clear hown h hl
        go_wp2
        go_roundw
        case rel => exact ⟨i + 1, by omega, by go_num, by go_num, by have h1 := hst.1; rw [iv_set, e.out] at h1; exact h1, grown_trans hgr hst.2⟩
        case measure => simp [intOf]; omega
      · have hin : i = n := by omega
        have e : marks k i ++ xs.drop i = marks k n := by rw [hin, List.drop_of_length_le (by omega), List.append_nil]
        have E := Lib.hid e
        have HN := Lib.hid hin
        clear e hin
        go_wp2
        go_ret
        exact ⟨ret_int (by rw [HN.out]), by rw [← E.out]; exact hown, hgr⟩

theorem heldIntS_any (a : Option Addr) (n c : Nat) (k : Int) (hn : n ≤ 1073741824) (hk0 : 0 ≤ k) (hk1 : k ≤ 1073741824) (w : World) (h : Reads w a 1 n (iv (marks k n))) :
    Calls Try.prog 10 #[.slice a n c, .int .i64 k] w fun r w' => r = .returned (.int .i64 (k + n)) ∧ w = w' := by
  go_enter Try.func10, Try.ntmps10
  go_wp2
  go_loop [1, 5] (fun t s => ∃ i : Nat, i ≤ n ∧ s = .int .i64 i ∧ t = .int .i64 (k + i)) (fun _ s => n - (intOf s).toNat)
  case atStart => exact ⟨0, Nat.zero_le _, rfl, by simp⟩
  case round =>
    obtain ⟨i, hi, rfl, rfl⟩ := hrel
    by_cases hlt : i < n
    · obtain ⟨b, off, rfl, hcell⟩ := h.2 (by omega)
      have hck := hcell i _ (iv_at (by rw [marks_len]; exact hlt))
      rw [marks_at hlt] at hck
      clear hcell h
      go_wp2
      go_round
      case rel => exact ⟨i + 1, by omega, by go_num, by go_num⟩
      case measure => simp [intOf]; omega
    · have hin := Lib.hid (show i = n by omega)
      go_wp2
      go_ret
      exact ⟨ret_int (by rw [hin.out]), rfl⟩

end Go.Proofs.Ytaloegjcdllgoaa
