/-
  A line's text, on both sides; the law's walk.
-/
import Derived.Test.YtgoaedhgkkbajaaDoorDigits
namespace Go.Proofs.YtgoaedhgkkbajaaDoor
open Go.RowKit

/-- A line's text. -/
def lineT (a b c : Int) : ByteArray := txt (Lib.itoa a) ++ ⟨#[32]⟩ ++ txt (Lib.itoa b) ++ ⟨#[32]⟩ ++ txt (Lib.itoa c)
theorem fin3_bd {{a b c : Int}} (h : fin3 a b c = true) : (-1000000 ≤ a ∧ a ≤ 1000000) ∧ (-1000000 ≤ b ∧ b ≤ 1000000) ∧ (-1000000 ≤ c ∧ c ≤ 1000000) := by
  simp [fin3, finB, inB] at h
  omega
/-- A text that is told only where it is valid. -/
def gS (t : Bool) (x : ByteArray) : ByteArray := if t then x else ⟨#[]⟩
set_option maxRecDepth 100000 in
theorem lnText_any (a b c : Int) (hf : fin3 a b c = true) (w : World) :
    Calls Tryd.prog 36 #[.agg #[.int .i64 a, .int .i64 b, .int .i64 c]] w fun r w' => r = .returned (.string (lineT a b c)) ∧ Ext w w' := by
  have hf3 := fin3_bd hf
  have la := itoa_len (n := a) (by omega) (by omega)
  have lb := itoa_len (n := b) (by omega) (by omega)
  have lc := itoa_len (n := c) (by omega) (by omega)
  obtain ⟨V, hV⟩ : ∃ V, V = w.alloc (.cells #[.int .i64 a, .int .i64 b, .int .i64 c] 26) := ⟨_, rfl⟩
  have HEV := Lib.hid (show Ext w V by rw [hV]; exact Ext.alloc (Ext.refl _) _)
  have Rc0 := Ext.keeps (w := V) (b := w.heap.size) (o := 0) (v := .int .i64 a) (by rw [hV]; simp)
  have Rc1 := Ext.keeps (w := V) (b := w.heap.size) (o := 1) (v := .int .i64 b) (by rw [hV]; simp)
  have Rc2 := Ext.keeps (w := V) (b := w.heap.size) (o := 2) (v := .int .i64 c) (by rw [hV]; simp)
  have Ha := Lib.hid (fun w' (e : Ext V w') => l1Int_any a (by omega) (by omega) w')
  have Hb := Lib.hid (fun w' (e : Ext V w') => l1Int_any b (by omega) (by omega) w')
  have Hc := Lib.hid (fun w' (e : Ext V w') => l1Int_any c (by omega) (by omega) w')
  clear hf hf3
  go_enter Tryd.func36, Tryd.ntmps36
  go_wp2
  rw [← hV]
  have HV := Lib.hid hV
  clear hV
  have qR0 := fun s : Past V => Rc0 s.w s.ext
  have qR1 := fun s : Past V => Rc1 s.w s.ext
  have qR2 := fun s : Past V => Rc2 s.w s.ext
  refine wp_region_past V (Ext.refl _) (by kernel_rfl) (by kernel_rfl) ?_
  repeat (go_big_quiet_step ((go_at_call 64; first | (with_reducible exact past_ext (Ha.out _ (Past.ext _))) | (with_reducible exact past_ext (Hb.out _ (Past.ext _))) | (with_reducible exact past_ext (Hc.out _ (Past.ext _))))))
  refine wpQuiet_nil ?_
  intro w1 hw'
  obtain ⟨⟨_, hE⟩, hw''⟩ := hw'
  subst hw''
  clear qR0 qR1 qR2
  go_wp2
  go_ret
  exact ⟨rfl, HEV.out.trans hE⟩
set_option maxRecDepth 100000 in
theorem lineText_any (a b c : Int) (hf : fin3 a b c = true) (w : World) (ht : Tab w) :
    Calls Tryd.prog 38 #[.agg #[.int .i64 a, .int .i64 b, .int .i64 c]] w fun r w' => r = .returned (.string (lineT a b c)) ∧ Ext w w' := by
  have hf3 := fin3_bd hf
  have la := itoa_len (n := a) (by omega) (by omega)
  have lb := itoa_len (n := b) (by omega) (by omega)
  have lc := itoa_len (n := c) (by omega) (by omega)
  obtain ⟨V, hV⟩ : ∃ V, V = w.alloc (.cells #[.int .i64 a, .int .i64 b, .int .i64 c] 26) := ⟨_, rfl⟩
  have HEV := Lib.hid (show Ext w V by rw [hV]; exact Ext.alloc (Ext.refl _) _)
  have Rc0 := Ext.keeps (w := V) (b := w.heap.size) (o := 0) (v := .int .i64 a) (by rw [hV]; simp)
  have Rc1 := Ext.keeps (w := V) (b := w.heap.size) (o := 1) (v := .int .i64 b) (by rw [hV]; simp)
  have Rc2 := Ext.keeps (w := V) (b := w.heap.size) (o := 2) (v := .int .i64 c) (by rw [hV]; simp)
  have Ha := Lib.hid (fun w' (e : Ext V w') => itoa_any a (by omega) (by omega) w' (ht.ext (HEV.out.trans e)))
  have Hb := Lib.hid (fun w' (e : Ext V w') => itoa_any b (by omega) (by omega) w' (ht.ext (HEV.out.trans e)))
  have Hc := Lib.hid (fun w' (e : Ext V w') => itoa_any c (by omega) (by omega) w' (ht.ext (HEV.out.trans e)))
  clear hf hf3 ht
  go_enter Tryd.func38, Tryd.ntmps38
  go_wp2
  rw [← hV]
  have HV := Lib.hid hV
  clear hV
  have qR0 := fun s : Past V => Rc0 s.w s.ext
  have qR1 := fun s : Past V => Rc1 s.w s.ext
  have qR2 := fun s : Past V => Rc2 s.w s.ext
  refine wp_region_past V (Ext.refl _) (by kernel_rfl) (by kernel_rfl) ?_
  repeat (go_big_quiet_step ((go_at_call 48; first | (with_reducible exact past_ext (Ha.out _ (Past.ext _))) | (with_reducible exact past_ext (Hb.out _ (Past.ext _))) | (with_reducible exact past_ext (Hc.out _ (Past.ext _))))))
  refine wpQuiet_nil ?_
  intro w1 hw'
  obtain ⟨⟨_, hE⟩, hw''⟩ := hw'
  subst hw''
  clear qR0 qR1 qR2
  go_wp2
  go_ret
  exact ⟨rfl, HEV.out.trans hE⟩
theorem spec_LineText_any (a b c : Int) (w : World) :
    Calls Tryd.prog 10 #[.agg #[.int .i64 a, .int .i64 b, .int .i64 c]] w fun r w' => r = .returned (.tuple #[.string (gS (fin3 a b c) (lineT a b c)), .bool (fin3 a b c)]) ∧ Ext w w' := by
  obtain ⟨V, hV⟩ : ∃ V, V = w.alloc (.cells #[.int .i64 a, .int .i64 b, .int .i64 c] 26) := ⟨_, rfl⟩
  have HEV := Lib.hid (show Ext w V by rw [hV]; exact Ext.alloc (Ext.refl _) _)
  have Rc0 := Ext.keeps (w := V) (b := w.heap.size) (o := 0) (v := .int .i64 a) (by rw [hV]; simp)
  have Rc1 := Ext.keeps (w := V) (b := w.heap.size) (o := 1) (v := .int .i64 b) (by rw [hV]; simp)
  have Rc2 := Ext.keeps (w := V) (b := w.heap.size) (o := 2) (v := .int .i64 c) (by rw [hV]; simp)
  have HG := Lib.hid (fun w => lnGood_any a b c w)
  cases hf : fin3 a b c
  · rw [hf] at HG
    go_enter Tryd.func10, Tryd.ntmps10
    go_wp2_with fail
    refine (HG.out _).mono ?_
    rintro e w1 ⟨rfl, hb1⟩
    rw [← hV] at hb1
    have h1 := HEV.out.trans hb1
    go_wp2
    go_ret2
    exact ⟨rfl, h1⟩
  · rw [hf] at HG
    have HT := Lib.hid (fun w' (e : Ext w w') => lnText_any a b c hf w')
    go_enter Tryd.func10, Tryd.ntmps10
    go_wp2_with fail
    refine (HG.out _).mono ?_
    rintro e w1 ⟨rfl, hb1⟩
    rw [← hV] at hb1
    have h1 := HEV.out.trans hb1
    have r0 := Rc0 _ hb1
    have r1 := Rc1 _ hb1
    have r2 := Rc2 _ hb1
    clear Rc0 Rc1 Rc2 hV
    go_wp2_with fail
    refine (HT.out _ h1).mono ?_
    rintro e w2 ⟨rfl, hb2⟩
    have h2 := h1.trans hb2
    go_wp2
    go_ret2
    exact ⟨rfl, h2⟩
theorem impl_LineText_any (a b c : Int) (w : World) (ht : Tab w) :
    Calls Tryd.prog 12 #[.agg #[.int .i64 a, .int .i64 b, .int .i64 c]] w fun r w' => r = .returned (.tuple #[.string (gS (fin3 a b c) (lineT a b c)), .bool (fin3 a b c)]) ∧ Ext w w' := by
  obtain ⟨V, hV⟩ : ∃ V, V = w.alloc (.cells #[.int .i64 a, .int .i64 b, .int .i64 c] 26) := ⟨_, rfl⟩
  have HEV := Lib.hid (show Ext w V by rw [hV]; exact Ext.alloc (Ext.refl _) _)
  have Rc0 := Ext.keeps (w := V) (b := w.heap.size) (o := 0) (v := .int .i64 a) (by rw [hV]; simp)
  have Rc1 := Ext.keeps (w := V) (b := w.heap.size) (o := 1) (v := .int .i64 b) (by rw [hV]; simp)
  have Rc2 := Ext.keeps (w := V) (b := w.heap.size) (o := 2) (v := .int .i64 c) (by rw [hV]; simp)
  have HG := Lib.hid (fun w => isLine_any a b c w)
  cases hf : fin3 a b c
  · rw [hf] at HG
    go_enter Tryd.func12, Tryd.ntmps12
    go_wp2_with fail
    refine (HG.out _).mono ?_
    rintro e w1 ⟨rfl, hb1⟩
    rw [← hV] at hb1
    have h1 := HEV.out.trans hb1
    go_wp2
    go_ret2
    exact ⟨rfl, h1⟩
  · rw [hf] at HG
    have HT := Lib.hid (fun w' (e : Ext w w') => lineText_any a b c hf w' (ht.ext e))
    go_enter Tryd.func12, Tryd.ntmps12
    go_wp2_with fail
    refine (HG.out _).mono ?_
    rintro e w1 ⟨rfl, hb1⟩
    rw [← hV] at hb1
    have h1 := HEV.out.trans hb1
    have r0 := Rc0 _ hb1
    have r1 := Rc1 _ hb1
    have r2 := Rc2 _ hb1
    clear Rc0 Rc1 Rc2 hV
    go_wp2_with fail
    refine (HT.out _ h1).mono ?_
    rintro e w2 ⟨rfl, hb2⟩
    have h2 := h1.trans hb2
    go_wp2
    go_ret2
    exact ⟨rfl, h2⟩
theorem law_LineText (a b c : Int) (w : World) (ht : Tab w) :
    Calls Tryd.prog 3 #[.agg #[.int .i64 a, .int .i64 b, .int .i64 c]] w fun r w' => r = .returned (.bool true) ∧ Ext w w' := by
  obtain ⟨T, hT⟩ : ∃ T, T = gS (fin3 a b c) (lineT a b c) := ⟨_, rfl⟩
  obtain ⟨K, hK⟩ : ∃ K, K = fin3 a b c := ⟨_, rfl⟩
  have HS := Lib.hid (fun w => spec_LineText_any a b c w)
  have HI := Lib.hid (fun w' (e : Ext w w') => impl_LineText_any a b c w' (ht.ext e))
  rw [← hT, ← hK] at HS HI
  clear hT hK ht
  obtain ⟨V, hV⟩ : ∃ V, V = w.alloc (.cells #[.int .i64 a, .int .i64 b, .int .i64 c] 23) := ⟨_, rfl⟩
  have HEV := Lib.hid (show Ext w V by rw [hV]; exact Ext.alloc (Ext.refl _) _)
  have Rc0 := Ext.keeps (w := V) (b := w.heap.size) (o := 0) (v := .int .i64 a) (by rw [hV]; simp)
  have Rc1 := Ext.keeps (w := V) (b := w.heap.size) (o := 1) (v := .int .i64 b) (by rw [hV]; simp)
  have Rc2 := Ext.keeps (w := V) (b := w.heap.size) (o := 2) (v := .int .i64 c) (by rw [hV]; simp)
  go_enter Tryd.func3, Tryd.ntmps3
  go_wp2_with fail
  refine (toLine_any a b c _).mono ?_
  rintro e w1 ⟨rfl, hb1⟩
  rw [← hV] at hb1
  go_wp2_with fail
  refine (HS.out _).mono ?_
  rintro e w2 ⟨rfl, hb2⟩
  have e2 := hb1.trans hb2
  have r0 := Rc0 _ e2
  have r1 := Rc1 _ e2
  have r2 := Rc2 _ e2
  clear Rc0 Rc1 Rc2 hb1 hb2 hV
  go_wp2_with fail
  refine (toLine_any a b c _).mono ?_
  rintro e w3 ⟨rfl, hb3⟩
  go_wp2_with fail
  refine (HI.out _ (HEV.out.trans (e2.trans hb3))).mono ?_
  rintro e w4 ⟨rfl, hb4⟩
  have e4 := HEV.out.trans ((e2.trans hb3).trans hb4)
  go_wp2
  go_ret
  exact ⟨rfl, e4⟩
end Go.Proofs.YtgoaedhgkkbajaaDoor
