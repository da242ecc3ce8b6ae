/-
  MirrorPoly; how a slice of ints is cloned and turned round.
-/
import Derived.Test.YtaloegjcdllgoaaPoly
import Derived.Test.YtaloegjcdllgoaaPlaces
import Derived.Test.YtaloegjcdllgoaaTerms
import Derived.Test.YtaloegjcdllgoaaCornW
import Derived.Test.YtaloegjcdllgoaaRtLeast
import Derived.Test.YtaloegjcdllgoaaSameFn
import Derived.Test.YtaloegjcdllgoaaScale
import Derived.Lib.SliceRun
import Derived.BigRegion
namespace Go.Proofs.Ytaloegjcdllgoaa
open Go.RowKit

theorem grown_drew {w w' : World} {row : Option Nat} (h : w.grownBy w' row) : w.grownBy w'.drew row := ⟨h.os, h.tape, h.output, h.size, h.block⟩
/-- A row whose first k elements, and whose last k, are exchanged. -/
def revTo (xs : List Int) (k : Nat) : List Int := (List.range xs.length).map fun j => if j < k ∨ xs.length - k ≤ j then xs.getD (xs.length - 1 - j) 0 else xs.getD j 0
theorem revTo_len (xs : List Int) (k : Nat) : (revTo xs k).length = xs.length := by simp [revTo]
theorem revTo_at {xs : List Int} {k j : Nat} (h : j < xs.length) : (revTo xs k)[j]? = some (if j < k ∨ xs.length - k ≤ j then xs.getD (xs.length - 1 - j) 0 else xs.getD j 0) := by simp [revTo, h]
theorem revTo_getD {xs : List Int} {k j : Nat} (h : j < xs.length) : (revTo xs k).getD j 0 = if j < k ∨ xs.length - k ≤ j then xs.getD (xs.length - 1 - j) 0 else xs.getD j 0 := by
  rw [List.getD_eq_getElem?_getD, revTo_at h]; rfl
theorem revTo_zero (xs : List Int) : revTo xs 0 = xs := by
  refine List.ext_getElem? fun j => ?_
  by_cases h : j < xs.length
  · rw [revTo_at h, if_neg (by omega)]; simp [List.getD, h]
  · rw [List.getElem?_eq_none (by rw [revTo_len]; omega), List.getElem?_eq_none (by omega)]
theorem revTo_step {xs : List Int} {k : Nat} (h : k + k + 1 < xs.length) : ((revTo xs k).set k ((revTo xs k).getD (xs.length - 1 - k) 0)).set (xs.length - 1 - k) ((revTo xs k).getD k 0) = revTo xs (k + 1) := by
  rw [revTo_getD (by omega), revTo_getD (by omega), if_neg (by omega), if_neg (by omega)]
  refine List.ext_getElem? fun j => ?_
  by_cases hj : j < xs.length
  · rw [revTo_at hj, List.getElem?_set, List.getElem?_set]
    by_cases h1 : xs.length - 1 - k = j
    · rw [if_pos h1, if_pos (by rw [List.length_set, revTo_len]; omega), if_pos (by omega)]
      have : xs.length - 1 - j = k := by omega
      rw [this]
    · rw [if_neg h1]
      by_cases h2 : k = j
      · subst h2
        rw [if_pos rfl, if_pos (by rw [revTo_len]; omega), if_pos (by omega)]
      · rw [if_neg h2, revTo_at hj]
        by_cases h3 : j < k ∨ xs.length - k ≤ j
        · rw [if_pos h3, if_pos (by omega)]
        · rw [if_neg h3, if_neg (by omega)]
  · rw [List.getElem?_eq_none (by rw [List.length_set, List.length_set, revTo_len]; omega), List.getElem?_eq_none (by rw [revTo_len]; omega)]
theorem revTo_full {xs : List Int} {k : Nat} (h : xs.length ≤ k + k + 1) : revTo xs k = xs.reverse := by
  refine List.ext_getElem? fun j => ?_
  by_cases hj : j < xs.length
  · rw [revTo_at hj, List.getElem?_reverse hj]
    have hj2 : xs.length - 1 - j < xs.length := by omega
    by_cases h3 : j < k ∨ xs.length - k ≤ j
    · rw [if_pos h3]; simp [List.getD, hj2]
    · rw [if_neg h3]
      have : xs.length - 1 - j = j := by omega
      rw [this]; simp [List.getD, hj]
  · rw [List.getElem?_eq_none (by rw [revTo_len]; omega), List.getElem?_eq_none (by simp; omega)]

/-- 'append(out, zs...)', out nil or the call's own. -/
theorem wpList_appI {w : World} {ops : Array Oper} {rest : List Oper} {o : Oper} {a : Act} {Q : Exit → Act → World → Prop} (hgd : o.guard = none) (s x : Operand)
    (ho : o.op = .call { callee := .builtin .append, args := #[s, x], argTypes := #[22, 22] })
    (W : World) (base : Nat) (a0 : Option Addr) (n c : Nat) (xs : List Int) (hs : a.eval s = .slice a0 n c) (hown : w.ownsRow base 3 1 (.slice a0 n c) n (iv xs))
    (ad : Addr) (m c' : Nat) (zs : List Int) (hx : a.eval x = .slice (some ad) m c') (hl : zs.length = m) (hr : ∀ j u, (iv zs)[j]? = some u → w.cell? (ad.add j) = some u)
    (hn : n ≤ 1048576) (hm : m ≤ 1048576) (hb : base ≤ w.heap.size) (hE : Ext W w) (hW : W.heap.size ≤ base)
    (h : ∀ a1 c1 w', w'.ownsRow base 3 1 (.slice a1 (n + m) c1) (n + m) (iv (xs ++ zs)) → Ext W w' → wpList Try.prog ops Q rest (a.put o.dst (.slice a1 (n + m) c1)) w') :
    wpList Try.prog ops Q (o :: rest) a w := by
  obtain ⟨i0, hi, hz0, hz1, hz2⟩ := info_parts int_info
  refine wpList_append_own w hgd s x 22 ho base 3 i0 (.int .i64 0) 1 8 Try.underlying22 hi hz0 hz1 hz2 rfl (by decide) _ n (iv xs) hs hown ad m c' (iv zs) hx (by rw [iv_len, hl]; omega) hr (fun u hu => ?_) ?_ ?_ hb ?_
  · simp only [iv, List.mem_map] at hu
    obtain ⟨z, _, rfl⟩ := hu
    rfl
  · unfold maxLen; omega
  · omega
  · intro v' w' h1 h2 _
    obtain ⟨a1, c1, rfl⟩ := own_form h1
    refine h a1 c1 w' ?_ (hE.grown h2 fun k hk => Nat.le_trans hW (hown.lt k hk).1)
    rw [show iv (xs ++ zs) = iv xs ++ iv zs by simp [iv]]; exact h1

theorem cloneI_any (b off n c : Nat) (zs : List Int) (hn : n ≤ 1048576) (w : World) (h : Reads w (some ⟨b, off, none⟩) 1 n (iv zs)) :
    Calls Try.prog 24 #[.slice (some ⟨b, off, none⟩) n c] w fun r w' => ∃ a1 c1, r = .returned (.slice a1 n c1) ∧ w'.ownsRow w.heap.size 3 1 (.slice a1 n c1) n (iv zs) ∧ Ext w w' := by
  have hl : zs.length = n := by have := h.1; rw [iv_len] at this; omega
  have HC := Lib.hid h.cells
  have q : ∀ (w : World) (a : Option Addr) (n c n' c' : Nat), (binOp .eql 22 (.slice a n c) (.slice none n' c')).run Try.prog w = .ok (.bool a.isNone) w := fun w a n c n' c' => Lib.run_eql_slice_nil w _ _ a n c n' c' Try.underlying22
  clear h
  go_enter Try.func24, Try.ntmps24
  have H0 := Lib.hid (World.ownsRow_lit (base := w.heap.size) (e := 3) (size := 1) w #[] 0 (Nat.le_refl _) (by unfold maxLen; omega) rfl)
  go_wp2_with (at_builtin; refine wpList_appI rfl _ _ rfl w w.heap.size (some ⟨w.heap.size, 0, none⟩) 0 0 [] rfl H0.out ⟨b, off, none⟩ n c zs rfl hl ?_ (by omega) hn ?_ ?_ (Nat.le_refl _) ?_)
  · intro j u hj
    exact Ext.keep ((Ext.refl w).alloc (.cells #[] 3)) (HC.out j u hj)
  · exact (Ext.refl _).alloc _
  · intro a1 c1 w2 ho2 hE2
    go_wp2
    go_ret
    exact ⟨a1, c1, by simp, by simpa using ho2, hE2⟩

end Go.Proofs.Ytaloegjcdllgoaa
