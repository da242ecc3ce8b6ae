/-
  The contracts of the functions on slices of ints that the laws share.
-/
import Derived.Test.YtlkhjedlokklaaaNum
import Derived.Test.YtlkhjedlokklaaaSlice
namespace Go.Proofs.Ytlkhjedlokklaaa
open Go.RowKit

theorem int_info : (Try.prog.info? 3).map (fun i => (i.zero, i.size, i.bytes)) = some (some (.int .i64 0), 1, 8) := by kernel_rfl

/-- What a slice of ints holds, as cells. -/
def iv (zs : List Int) : List Value := zs.map (Value.int .i64)
theorem iv_len (zs : List Int) : (iv zs).length = zs.length := by simp [iv]
theorem iv_at {zs : List Int} {k : Nat} (h : k < zs.length) : (iv zs)[k]? = some (.int .i64 (zs.getD k 0)) := intsAt h
theorem take_set_succ {zs : List Int} {ys : List Value} {n k : Nat} {z : Int} (hy : ys.length = n) (hz : zs.length = n) (hk : k < n) (h : ys.take k = (iv zs).take k) (e : z = zs.getD k 0) : (ys.set k (.int .i64 z)).take (k + 1) = (iv zs).take (k + 1) := by
  rw [List.take_succ_eq_append_getElem (by simp; omega), List.take_succ_eq_append_getElem (by rw [iv_len]; omega), List.take_set_of_le (Nat.le_refl _), h, e]
  simp [iv, List.getD, List.getElem?_eq_getElem (show k < zs.length by omega)]

theorem iv_set (zs : List Int) (i : Nat) (z : Int) : (iv zs).set i (.int .i64 z) = iv (zs.set i z) := by simp [iv, List.map_set]
theorem grown_trans {a b c : World} {row : Option Nat} (h : a.grownBy b row) (k : b.grownBy c row) : a.grownBy c row :=
  ⟨k.os.trans h.os, k.tape.trans h.tape, k.output.trans h.output, Nat.le_trans h.size k.size, fun i hi hne => (k.block i (Nat.lt_of_lt_of_le hi h.size) hne).trans (h.block i hi hne)⟩

/-- A new slice of n ints. -/
def MadeInts (B n : Nat) (zs : List Int) (w : World) (r : Ending) (w' : World) : Prop :=
  ∃ g, r = .returned (.slice (some ⟨g, 0, none⟩) n n) ∧ w'.ownsRow B 3 1 (.slice (some ⟨g, 0, none⟩) n n) n (iv zs) ∧ Ext w w'

/-- The marks that a law lays into a slice. -/
def marks (k : Int) (n : Nat) : List Int := (List.range n).map fun i : Nat => k + (i : Int)
theorem marks_len (k : Int) (n : Nat) : (marks k n).length = n := by simp [marks]
theorem marks_at {k : Int} {n i : Nat} (h : i < n) : (marks k n).getD i 0 = k + (i : Int) := by simp [marks, List.getD, h]
/-- Marking one place more. -/
theorem marks_step {zs : List Int} {k : Int} {i : Nat} (h : i < zs.length) : ((marks k i ++ zs.drop i).set i (k + (i : Int))) = marks k (i + 1) ++ zs.drop (i + 1) := by
  have e : (marks k i).length = i := marks_len k i
  rw [List.set_append_right _ _ (by omega), e, Nat.sub_self, List.drop_eq_getElem_cons h, List.set_cons_zero]
  simp [marks, List.range_succ]

theorem eqIntS_same (a a' : Option Addr) (n c c' : Nat) (zs : List Int) (hn : n ≤ 1073741824) (w : World) (h : Reads w a 1 n (iv zs)) (h' : Reads w a' 1 n (iv zs)) :
    Calls Try.prog 44 #[.slice a n c, .slice a' n c'] w fun r w' => r = .returned (.bool true) ∧ Ext w w' := by
  have hl : zs.length = n := by have := h.1; rw [iv_len] at this; omega
  go_enter Try.func44, Try.ntmps44
  go_wp2
  go_loopw [5] (fun s wr => ∃ k m : Nat, k ≤ n ∧ s = .int .i64 k ∧ wr = w.drewN m) (fun s _ => n - (intOf s).toNat)
  case atStart => exact ⟨0, 0, Nat.zero_le _, rfl, rfl⟩
  case round =>
    obtain ⟨k, m, hk, rfl, rfl⟩ := hrel
    by_cases hlt : k < n
    · obtain ⟨b, off, rfl, hcell⟩ := h.2 (by omega)
      obtain ⟨b', off', rfl, hcell'⟩ := h'.2 (by omega)
      have hck := hcell k _ (iv_at (by omega))
      have hck' := hcell' k _ (iv_at (by omega))
      generalize zs.getD k 0 = z at hck hck'
      clear hcell hcell' h h' hl
      go_wp2
      go_quiet (fail)
      go_wp2
      go_roundw
      case rel => exact ⟨k + 1, _, by omega, by go_num, rfl⟩
      case measure => simp [intOf]; omega
    · go_wp2
      go_ret
      exact ⟨rfl, Ext.drewN (Ext.refl w) m⟩

set_option maxHeartbeats 1000000 in
theorem markIntS_any (a : Option Addr) (n c : Nat) (k : Int) (xs : List Int) (B : Nat) (hn : n ≤ 1073741824) (hk0 : 0 ≤ k) (hk1 : k ≤ 1073741824) (w : World) (h : w.ownsRow B 3 1 (.slice a n c) n (iv xs)) :
    Calls Try.prog 45 #[.slice a n c, .int .i64 k] w fun r w' => r = .returned (.int .i64 (k + n)) ∧ w'.ownsRow B 3 1 (.slice a n c) n (iv (marks k n)) ∧ w.grownBy w' (Value.slice a n c).ownBlock := by
  have hl : xs.length = n := by have := h.1; rw [iv_len] at this; omega
  by_cases hz : n = 0
  · subst hz
    have hx : xs = [] := List.eq_nil_of_length_eq_zero hl
    subst hx
    go_enter Try.func45, Try.ntmps45
    go_wp2
    go_loop [1, 5] (fun t s => s = .int .i64 0 ∧ t = .int .i64 k) (fun _ _ => 0)
    case atStart => exact ⟨rfl, rfl⟩
    case round =>
      obtain ⟨rfl, rfl⟩ := hrel
      go_wp2
      go_ret
      exact ⟨ret_int (by simp), h, World.grownBy.refl _ _⟩
  · obtain ⟨g, rfl, hgB, hgw⟩ := own_head h (by omega)
    go_enter Try.func45, Try.ntmps45
    go_wp2
    go_loopw [1, 5] (fun t s wr => ∃ i : Nat, i ≤ n ∧ s = .int .i64 i ∧ t = .int .i64 (k + i) ∧ wr.ownsRow B 3 1 (.slice (some ⟨g, 0, none⟩) n c) n (iv (marks k i ++ xs.drop i)) ∧ w.grownBy wr (some g)) (fun _ s _ => n - (intOf s).toNat)
    case atStart => exact ⟨0, Nat.zero_le _, rfl, by simp, by simpa [marks] using h, World.grownBy.refl _ _⟩
    case round =>
      obtain ⟨i, hi, rfl, rfl, hown, hgr⟩ := hrel
      by_cases hlt : i < n
      · obtain ⟨old, hco⟩ : ∃ old, wr.cell? ⟨g, i, none⟩ = some old := by
          rw [hown.cellAt i (by omega)]
          exact ⟨_, List.getElem?_eq_getElem (by rw [iv_len]; simp [marks_len]; omega)⟩
        have hfo := hown.frozenAt i
        have hst := hown.stored i (.int .i64 (k + i))
        have e := Lib.hid (marks_step (zs := xs) (k := k) (i := i) (by omega))
        clear hown h hl
        go_wp2
        go_roundw
        case rel => exact ⟨i + 1, by omega, by go_num, by go_num, by have h1 := hst.1; rw [iv_set, e.out] at h1; exact h1, grown_trans hgr hst.2⟩
        case measure => simp [intOf]; omega
      · have hin : i = n := by omega
        have e : marks k i ++ xs.drop i = marks k n := by rw [hin, List.drop_of_length_le (by omega), List.append_nil]
        have E := Lib.hid e
        have HN := Lib.hid hin
        clear e hin
        go_wp2
        go_ret
        exact ⟨ret_int (by rw [HN.out]), by rw [← E.out]; exact hown, hgr⟩

theorem heldIntS_any (a : Option Addr) (n c : Nat) (k : Int) (hn : n ≤ 1073741824) (hk0 : 0 ≤ k) (hk1 : k ≤ 1073741824) (w : World) (h : Reads w a 1 n (iv (marks k n))) :
    Calls Try.prog 46 #[.slice a n c, .int .i64 k] w fun r w' => r = .returned (.int .i64 (k + n)) ∧ w = w' := by
  go_enter Try.func46, Try.ntmps46
  go_wp2
  go_loop [1, 5] (fun t s => ∃ i : Nat, i ≤ n ∧ s = .int .i64 i ∧ t = .int .i64 (k + i)) (fun _ s => n - (intOf s).toNat)
  case atStart => exact ⟨0, Nat.zero_le _, rfl, by simp⟩
  case round =>
    obtain ⟨i, hi, rfl, rfl⟩ := hrel
    by_cases hlt : i < n
    · obtain ⟨b, off, rfl, hcell⟩ := h.2 (by omega)
      have hck := hcell i _ (iv_at (by rw [marks_len]; exact hlt))
      rw [marks_at hlt] at hck
      clear hcell h
      go_wp2
      go_round
      case rel => exact ⟨i + 1, by omega, by go_num, by go_num⟩
      case measure => simp [intOf]; omega
    · have hin := Lib.hid (show i = n by omega)
      go_wp2
      go_ret
      exact ⟨ret_int (by rw [hin.out]), rfl⟩

end Go.Proofs.Ytlkhjedlokklaaa
