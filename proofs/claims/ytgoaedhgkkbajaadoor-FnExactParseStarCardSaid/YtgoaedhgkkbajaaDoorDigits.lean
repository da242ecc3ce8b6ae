/-
  The digits of a number, on both sides.
-/
import Derived.Test.YtgoaedhgkkbajaaDoorLine
import Derived.Test.YtgoaedhgkkbajaaDoorShelf
import Derived.Laws.IdiomStrings
import Derived.Lib.ItoaNum
import Derived.Lib.ItoaLen
import Derived.Lib.AppendIntMem
import Derived.Lib.LaidTab
import Derived.Deep.RegionHeld3
import Derived.BigQuiet
namespace Go.Proofs.YtgoaedhgkkbajaaDoor
open Go.RowKit

/-- A text from its bytes. -/
def txt (l : List UInt8) : ByteArray := ⟨l.toArray⟩
@[go_sem] theorem txt_size (l : List UInt8) : (txt l).size = l.length := by simp [txt, ByteArray.size]
theorem txt_app (a b : List UInt8) : txt a ++ txt b = txt (a ++ b) := by
  apply ByteArray.ext
  simp [txt, ByteArray.data_append]
theorem digits_len {u : Nat} (h : u < 1000000000000000000) : (Lib.decDigits u).length ≤ 21 := by
  have := Lib.itoa_length_le (u : Int) (by omega) (by omega)
  unfold Lib.itoa at this
  rwa [if_neg (by omega), Int.toNat_natCast] at this
/-- A conversion at a step of a region that draws its order. -/
theorem step_conv {{P : Program}} (w : World) {{ops : Array Oper}} {{o : Oper}} {{a : Act}} {{K : Act → World → Prop}} {{Q : Exit → Act → World → Prop}} {{E : Prop}} (hgd : o.guard = none) (s : Operand) (t u : TypeId)
    (ho : o.op = .convert t u s) (v r : Value) (hs : a.eval s = v) (hr : (convert t u v).run P w = .ok r w) (h : K (a.put o.dst r) w) :
    if Region.wanted o (yielded ops a.tmps) = true then Oper.wp P o a w K Q else E := by
  have hw : Region.wanted o (yielded ops a.tmps) = true := by simp [Region.wanted, hgd]
  rw [if_pos hw]
  unfold Oper.wp execOp
  simp only [ho, Sem.run_bind, Sem.run_pure, Result.andThen_ok, hs, hr]
  exact h
theorem num_conv (g d cap : Nat) (w : World) (hd : d < 10) (h : w.cell? ⟨g, 0, none⟩ = some (.int .u8 (48 + (d : Int)))) :
    (convert 94 9 (.slice (some ⟨g, 0, none⟩) 1 cap)).run Tryd.prog w = .ok (.string ⟨#[UInt8.ofNat (48 + d)]⟩) w := by
  have := run_convert_bytes_back (P := Tryd.prog) w 94 9 5 ⟨g, 0, none⟩ cap [UInt8.ofNat (48 + d)] Tryd.underlying94 Tryd.underlying5 Tryd.underlying9 (fun j hj => by
    obtain rfl : j = 0 := by simp at hj; omega
    have e : ((UInt8.ofNat (48 + d)).toNat : Int) = 48 + (d : Int) := by
      rw [UInt8.toNat_ofNat', Nat.mod_eq_of_lt (by omega)]; omega
    show w.cell? ⟨g, 0, none⟩ = some (.int .u8 ((UInt8.ofNat (48 + d)).toNat : Int))
    rw [e]
    exact h)
  simpa using this
theorem wrap_digit {{d : Nat}} (h : d < 10) : IntKind.u8.wrap (48 + (d : Int)) = 48 + (d : Int) := by
  simp only [IntKind.wrap, IntKind.signed, IntKind.bits]
  first | omega | (simp; omega)
set_option maxRecDepth 100000 in
theorem l1Num_any : ∀ (u : Nat), u < 1000000000000000000 → ∀ (w : World),
    Calls Tryd.prog 45 #[.int .i64 (u : Int)] w fun r w' => r = .returned (.string (txt (Lib.decDigits u))) ∧ Ext w w' := by
  intro u
  induction u using Nat.strongRecOn with
  | ind u ih =>
    intro hu w
    by_cases h10 : u < 10
    · have hg : decide ((u : Int) < 10) = true := by simp; omega
      have hw1 : IntKind.i64.wrap (48 + (u : Int)) = 48 + (u : Int) := by rw [wrap_i64] <;> omega
      have hw2 := wrap_digit h10
      have hcv := num_conv w.heap.size u 1 (w.alloc (.cells #[.int .u8 (48 + (u : Int))] 5)) h10 (by simp)
      have HD := Lib.hid (show txt (Lib.decDigits u) = ⟨#[UInt8.ofNat (48 + u)]⟩ by rw [Lib.decDigits_one h10]; rfl)
      generalize UInt8.ofNat (48 + u) = cb at *
      clear ih
      go_enter Tryd.func45, Tryd.ntmps45
      go_wp2
      go_ret
      exact ⟨by rw [HD.out] <;> rfl, (by repeat (first | exact Ext.refl _ | assumption | apply Ext.alloc | apply Ext.drew | apply Ext.drewN | (refine Ext.trans ?_ (by assumption)) | (refine Ext.setCell ?_ (by (try simp) <;> omega) _)))⟩
    · obtain ⟨q, hq⟩ : ∃ q, q = u / 10 := ⟨_, rfl⟩
      obtain ⟨d, hd⟩ : ∃ d, d = u % 10 := ⟨_, rfl⟩
      have hd10 : d < 10 := by omega
      have hg : decide ((u : Int) < 10) = false := by simp; omega
      have IH := Lib.hid (ih q (by omega) (by omega))
      have HD := Lib.hid (show txt (Lib.decDigits u) = txt (Lib.decDigits q) ++ ⟨#[UInt8.ofNat (48 + d)]⟩ by rw [Lib.decDigits, dif_neg h10, ← hq, ← hd, ← txt_app]; rfl)
      have hlq := digits_len (show q < 1000000000000000000 by omega)
      have hm : Int.tmod (u : Int) 10 = (d : Int) := by rw [Int.tmod_eq_emod_of_nonneg (by omega)]; omega
      have hdv : Int.tdiv (u : Int) 10 = (q : Int) := by rw [Int.tdiv_eq_ediv_of_nonneg (by omega)]; omega
      have hw1 : IntKind.i64.wrap (48 + (d : Int)) = 48 + (d : Int) := by rw [wrap_i64] <;> omega
      have hwq : IntKind.i64.wrap (q : Int) = (q : Int) := by rw [wrap_i64] <;> omega
      have hwd : IntKind.i64.wrap (d : Int) = (d : Int) := by rw [wrap_i64] <;> omega
      have hw2 := wrap_digit hd10
      have HD10 := Lib.hid hd10
      have hcv : ∀ (v : World) (g : Nat), v.cell? ⟨g, 0, none⟩ = some (.int .u8 (48 + (d : Int))) → (convert 94 9 (.slice (some ⟨g, 0, none⟩) 1 1)).run Tryd.prog v = .ok (.string ⟨#[UInt8.ofNat (48 + d)]⟩) v := fun v g h => num_conv g d 1 v hd10 h
      generalize UInt8.ofNat (48 + d) = cb at *
      clear ih hq hd
      go_enter Tryd.func45, Tryd.ntmps45
      go_wp2
      go_region_with (first | (go_at_call 45; refine (IH.out _).mono ?_; rintro e wc ⟨rfl, hb⟩; (try (have hck := Ext.keep (b := w.heap.size) (o := 0) (v := .int .u8 (48 + (d : Int))) hb; simp at hck))))
      all_goals (
        go_wp2
        go_ret
        exact ⟨by rw [HD.out] <;> rfl, (by repeat (first | exact Ext.refl _ | assumption | apply Ext.alloc | apply Ext.drew | apply Ext.drewN | (refine Ext.trans ?_ (by assumption)) | (refine Ext.setCell ?_ (by (try simp) <;> omega) _)))⟩)
theorem itoa_neg {{n : Int}} (h : n < 0) : Lib.itoa n = 45 :: Lib.decDigits n.natAbs := if_pos h
theorem itoa_pos {{n : Int}} (h : ¬ n < 0) : Lib.itoa n = Lib.decDigits n.toNat := if_neg h
theorem l1Int_any (n : Int) (h0 : -1000000000000000 ≤ n) (h1 : n ≤ 1000000000000000) (w : World) :
    Calls Tryd.prog 64 #[.int .i64 n] w fun r w' => r = .returned (.string (txt (Lib.itoa n))) ∧ Ext w w' := by
  by_cases hn : n < 0
  · obtain ⟨u, hu⟩ : ∃ u : Nat, n = - (u : Int) := ⟨n.natAbs, by omega⟩
    have HI := Lib.hid (show txt (Lib.itoa n) = ⟨#[45]⟩ ++ txt (Lib.decDigits u) by rw [itoa_neg hn, show n.natAbs = u by omega]; exact (txt_app [45] _).symm)
    have HN := Lib.hid (l1Num_any u (by omega))
    have hl := digits_len (show u < 1000000000000000000 by omega)
    have hw : IntKind.i64.wrap (u : Int) = (u : Int) := by rw [wrap_i64] <;> omega
    subst hu
    go_enter Tryd.func64, Tryd.ntmps64
    go_wp2_with fail
    refine (HN.out _).mono ?_
    rintro e wc ⟨rfl, hb⟩
    go_wp2
    go_ret
    exact ⟨by rw [HI.out] <;> rfl, (by repeat (first | exact Ext.refl _ | assumption | apply Ext.alloc | apply Ext.drew | apply Ext.drewN | (refine Ext.trans ?_ (by assumption)) | (refine Ext.setCell ?_ (by (try simp) <;> omega) _)))⟩
  · obtain ⟨u, rfl⟩ : ∃ u : Nat, n = (u : Int) := ⟨n.toNat, by omega⟩
    have HI := Lib.hid (show txt (Lib.itoa (u : Int)) = txt (Lib.decDigits u) by rw [itoa_pos hn, Int.toNat_natCast])
    have HN := Lib.hid (l1Num_any u (by omega))
    go_enter Tryd.func64, Tryd.ntmps64
    go_wp2_with fail
    refine (HN.out _).mono ?_
    rintro e wc ⟨rfl, hb⟩
    go_wp2
    go_ret
    exact ⟨by rw [HI.out] <;> rfl, (by repeat (first | exact Ext.refl _ | assumption | apply Ext.alloc | apply Ext.drew | apply Ext.drewN | (refine Ext.trans ?_ (by assumption)) | (refine Ext.setCell ?_ (by (try simp) <;> omega) _)))⟩
/-- The table of the library's own, whatever is made behind. -/
def Tab (w : World) : Prop := ∀ w', Ext w w' → Lib.TabIs Tryd.prog w' "internal/strconv.uint64pow10" .u64 Lib.pow10Tab
theorem Tab.of {{w : World}} (h : Lib.TabIs Tryd.prog w "internal/strconv.uint64pow10" .u64 Lib.pow10Tab) : Tab w := Lib.tabBelow_of_tabIs h
theorem Tab.ext {{w w' : World}} (h : Tab w) (e : Ext w w') : Tab w' := fun v k => h v (e.trans k)
theorem itoa_len {{n : Int}} (h0 : -1000000000000000 ≤ n) (h1 : n ≤ 1000000000000000) : (Lib.itoa n).length ≤ 21 := Lib.itoa_length_le n (by omega) (by omega)
theorem itoa_any (n : Int) (h0 : -1000000000000000 ≤ n) (h1 : n ≤ 1000000000000000) (w : World) (ht : Tab w) :
    Calls Tryd.prog 48 #[.int .i64 n] w fun r w' => r = .returned (.string (txt (Lib.itoa n))) ∧ Ext w w' := by
  have := Any.strconv_Itoa layItoa n (by omega) (by omega) w (ht w (Ext.refl w))
  change Calls Tryd.prog 48 _ _ _ at this
  refine this.mono fun e w' ⟨he, k, os, hw⟩ => ⟨he, ?_⟩
  rw [hw]
  exact Lib.below_grow _ w (Nat.le_refl _) k os
end Go.Proofs.YtgoaedhgkkbajaaDoor
