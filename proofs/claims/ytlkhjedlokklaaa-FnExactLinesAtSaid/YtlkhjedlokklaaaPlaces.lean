/-
  The contracts of the functions that gather places: append onto a slice of the call's own.
-/
import Derived.Test.YtlkhjedlokklaaaInts
namespace Go.Proofs.Ytlkhjedlokklaaa
open Go.RowKit

/-- A slice of the call's own, and nothing that was there has turned. -/
def OwnsInts (B : Nat) (zs : List Int) (w : World) (r : Ending) (w' : World) : Prop :=
  ∃ a c, r = .returned (.slice a zs.length c) ∧ w'.ownsRow B 3 1 (.slice a zs.length c) zs.length (iv zs) ∧ Ext w w'

/-- 'append(out, z)', out nil or the call's own. -/
theorem wpList_app1 {w : World} {ops : Array Oper} {rest : List Oper} {o : Oper} {a : Act} {Q : Exit → Act → World → Prop} (hgd : o.guard = none) (s x : Operand)
    (ho : o.op = .call { callee := .builtin .append, args := #[s, x], argTypes := #[52, 52] })
    (W : World) (base : Nat) (a0 : Option Addr) (n c : Nat) (xs : List Int) (z : Int) (hs : a.eval s = .slice a0 n c) (hown : w.ownsRow base 3 1 (.slice a0 n c) n (iv xs))
    (g : Nat) (hx : a.eval x = .slice (some ⟨g, 0, none⟩) 1 1) (hc : w.cell? ⟨g, 0, none⟩ = some (.int .i64 z)) (hn : n ≤ 1073741824) (hb : base ≤ w.heap.size) (hE : Ext W w) (hW : W.heap.size ≤ base)
    (h : ∀ a1 c1 w', w'.ownsRow base 3 1 (.slice a1 (n + 1) c1) (n + 1) (iv (xs ++ [z])) → Ext W w' → wpList Try.prog ops Q rest (a.put o.dst (.slice a1 (n + 1) c1)) w') :
    wpList Try.prog ops Q (o :: rest) a w := by
  obtain ⟨i0, hi, hz0, hz1, hz2⟩ := info_parts int_info
  refine wpList_append_own w hgd s x 52 ho base 3 i0 (.int .i64 0) 1 8 Try.underlying52 hi hz0 hz1 hz2 rfl (by decide) _ n (iv xs) hs hown ⟨g, 0, none⟩ 1 1 [.int .i64 z] hx rfl ?_ ?_ ?_ ?_ hb ?_
  · intro j u hj
    match j, hj with
    | 0, hj => simp at hj; subst hj; simpa [Addr.add] using hc
  · intro u hu; simp at hu; subst hu; rfl
  · unfold maxLen; omega
  · omega
  · intro v' w' h1 h2 _
    have hf := own_form h1
    obtain ⟨a1, c1, rfl⟩ : ∃ a1 c1, v' = .slice a1 (n + 1) c1 := by
      rcases h1.2 with ⟨_, h0⟩ | ⟨g1, cap, cur, hv, _⟩
      · omega
      · exact ⟨_, _, hv⟩
    refine h a1 c1 w' ?_ (hE.grown h2 fun k hk => Nat.le_trans hW (hown.lt k hk).1)
    have e : iv (xs ++ [z]) = iv xs ++ [.int .i64 z] := by simp [iv]
    rw [e]; exact h1

set_option maxHeartbeats 1000000 in
theorem placesOf_any (a : Option Addr) (n c : Nat) (zs : List Int) (z : Int) (hn : n ≤ 1073741824) (w : World) (h : Reads w a 1 n (iv zs)) :
    Calls Try.prog 107 #[.slice a n c, .int .i64 z] w (OwnsInts w.heap.size (placesTo zs z n) w) := by
  have hl : zs.length = n := by have := h.1; rw [iv_len] at this; omega
  go_enter Try.func107, Try.ntmps107
  go_wp2
  go_loopw [5, 6, 7, 11] (fun s _ _ t wr => ∃ (k : Nat) (a1 : Option Addr) (c1 : Nat), k ≤ n ∧ t = .int .i64 k ∧ s = .slice a1 (placesTo zs z k).length c1 ∧ wr.ownsRow w.heap.size 3 1 (.slice a1 (placesTo zs z k).length c1) (placesTo zs z k).length (iv (placesTo zs z k)) ∧ Ext w wr) (fun _ _ _ t _ => n - (intOf t).toNat)
  case atStart => exact ⟨0, some ⟨w.heap.size, 0, none⟩, 0, Nat.zero_le _, rfl, rfl, World.ownsRow_lit w #[] 0 (Nat.le_refl _) (by unfold maxLen; omega) rfl, (by repeat (first | exact Ext.refl _ | assumption | apply Ext.alloc | apply Ext.drew | apply Ext.drewN | (refine Ext.trans ?_ (by assumption)) | (refine Ext.setCell ?_ (by simp; done) _) | (refine Ext.setCell ?_ (by simp; omega) _)))⟩
  case round =>
    obtain ⟨k, a1, c1, hk, rfl, rfl, hown, hE⟩ := hrel
    have hple := placesTo_le zs z k
    by_cases hlt : k < n
    · obtain ⟨b, off, rfl, hcell⟩ := (Reads.ext hE h).2 (by omega)
      have hck := hcell k _ (iv_at (by omega))
      have P1 := Lib.hid (placesTo_hit (zs := zs) (z := z) (k := k))
      have P2 := Lib.hid (placesTo_miss (zs := zs) (z := z) (k := k))
      generalize zs.getD k 0 = y at hck P1 P2
      generalize placesTo zs z k = ps at hown hple P1 P2
      clear hcell h hl
      go_wp2_with (at_builtin; refine wpList_app1 rfl _ _ rfl w w.heap.size _ _ _ ps (k : Int) rfl (hown.alloc _) wr.heap.size rfl (by simp) (by omega) (by have := hE.size; simp; omega) (hE.alloc _) (Nat.le_refl _) ?_)
      · intro a2 c2 w2 hown2 hE2
        have hyz : (y == z) = true := by first | assumption | (rw [beq_iff_eq]; assumption)
        have P := Lib.hid (P1.out hyz)
        clear P1 P2 hown hyz
        go_wp2
        go_roundw
        case rel => exact ⟨k + 1, a2, c2, by omega, by go_num, by rw [P.out]; simp, by rw [P.out]; simpa using hown2, hE2⟩
        case measure => simp [intOf]; omega
      · have hyz : (y == z) = false := by first | assumption | (rw [beq_eq_false_iff_ne]; assumption)
        have P := Lib.hid (P2.out hyz)
        go_roundw
        case rel => exact ⟨k + 1, a1, c1, by omega, by go_num, by rw [P.out], by rw [P.out]; exact hown, hE⟩
        case measure => simp [intOf]; omega
    · have hkn : Hid (k = n) := by show k = n; omega
      go_wp2
      go_ret
      refine ⟨a1, c1, ?_, ?_, hE⟩
      · rw [← hkn.out]; rfl
      · rw [← hkn.out]; exact hown

theorem nuSum_any (a : Option Addr) (n c : Nat) (zs : List Int) (hn : n ≤ 1073741824) (w : World) (h : Reads w a 1 n (iv zs)) :
    Calls Try.prog 104 #[.slice a n c] w fun r w' => r = .returned (.int .i64 (lowI zs n)) ∧ w = w' := by
  have hl : zs.length = n := by have := h.1; rw [iv_len] at this; omega
  go_enter Try.func104, Try.ntmps104
  go_wp2
  go_loop [3, 5, 8] (fun s _ t => ∃ k : Nat, k ≤ n ∧ t = .int .i64 k ∧ s = .int .i64 (lowI zs k)) (fun _ _ t => n - (intOf t).toNat)
  case atStart => exact ⟨0, Nat.zero_le _, rfl, by rw [lowI_zero]⟩
  case round =>
    obtain ⟨k, hk, rfl, rfl⟩ := hrel
    by_cases hlt : k < n
    · obtain ⟨b, off, rfl, hcell⟩ := h.2 (by omega)
      have hck := hcell k _ (iv_at (by omega))
      have P := Lib.hid (lowI_succ (zs := zs) (k := k) (by omega))
      generalize zs.getD k 0 = y at hck P
      clear hcell h hl
      go_wp2_with (go_at_call 116; refine (l1Least_any _ _ _).mono ?_; rintro e w' ⟨rfl, rfl⟩)
      go_round
      case rel => exact ⟨k + 1, by omega, by go_num, by rw [P.out]⟩
      case measure => simp [intOf]; omega
    · have hkn : Hid (k = n) := by show k = n; omega
      go_wp2
      go_ret
      exact ⟨ret_int (by rw [hkn.out]), rfl⟩

theorem min_any (a : Option Addr) (n c : Nat) (zs : List Int) (hn : n ≤ 1073741824) (h0 : 0 < n) (hz : zs.getD 0 0 ≤ 1000000000) (w : World) (h : Reads w a 1 n (iv zs)) :
    Calls Try.prog 108 #[.slice a n c] w fun r w' => r = .returned (.int .i64 (lowI zs n)) ∧ w = w' := by
  have hl : zs.length = n := by have := h.1; rw [iv_len] at this; omega
  have e1 := Lib.hid (lowI_one (zs := zs) (by omega) hz)
  obtain ⟨b, off, rfl, hcell⟩ := h.2 (by omega)
  have hc0 := hcell 0 _ (iv_at (by omega))
  simp only [Nat.add_zero] at hc0
  obtain ⟨y0, hy0⟩ : ∃ y, y = zs.getD 0 0 := ⟨_, rfl⟩
  rw [← hy0] at hc0 e1
  clear hy0 hz
  go_enter Try.func108, Try.ntmps108
  go_wp2
  go_loop [3, 4] (fun s t => ∃ k : Nat, 1 ≤ k ∧ k ≤ n ∧ t = .int .i64 k ∧ s = .int .i64 (lowI zs k)) (fun _ t => n - (intOf t).toNat)
  case atStart => exact ⟨1, Nat.le_refl _, h0, rfl, by rw [e1.out]⟩
  case round =>
    obtain ⟨k, hk1, hk, rfl, rfl⟩ := hrel
    by_cases hlt : k < n
    · have hck := hcell k _ (iv_at (by omega))
      have P := Lib.hid (lowI_succ (zs := zs) (k := k) (by omega))
      generalize zs.getD k 0 = y at hck P
      clear hcell h hl hc0
      go_wp2
      go_round
      case rel => exact ⟨k + 1, by omega, by omega, by go_num, by rw [P.out]⟩
      case measure => simp [intOf]; omega
    · have hkn : Hid (k = n) := by show k = n; omega
      go_wp2
      go_ret
      exact ⟨ret_int (by rw [hkn.out]), rfl⟩

end Go.Proofs.Ytlkhjedlokklaaa
