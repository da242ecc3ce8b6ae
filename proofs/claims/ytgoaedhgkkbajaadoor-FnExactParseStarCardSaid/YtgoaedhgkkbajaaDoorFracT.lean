/-
  A fraction's text, on both sides; the law's walk.
-/
import Derived.Test.YtgoaedhgkkbajaaDoorLineT
import Derived.Test.YtgoaedhgkkbajaaDoorFrac
namespace Go.Proofs.YtgoaedhgkkbajaaDoor
open Go.RowKit

theorem l1Num_int (n : Int) (h0 : 0 ≤ n) (h1 : n ≤ 1000000000000000) (w : World) :
    Calls Tryd.prog 45 #[.int .i64 n] w fun r w' => r = .returned (.string (txt (Lib.itoa n))) ∧ Ext w w' := by
  obtain ⟨u, rfl⟩ : ∃ u : Nat, n = (u : Int) := ⟨n.toNat, by omega⟩
  rw [itoa_pos (by omega), Int.toNat_natCast]
  exact l1Num_any u (by omega) w
/-- A fraction's text. -/
def fracT (x y : Int) : ByteArray := if y = 1 then txt (Lib.itoa x) else txt (Lib.itoa x) ++ ⟨#[47]⟩ ++ txt (Lib.itoa y)
theorem fracT_one {{x y : Int}} (h : y = 1) : fracT x y = txt (Lib.itoa x) := if_pos h
theorem fracT_two {{x y : Int}} (h : ¬ y = 1) : fracT x y = txt (Lib.itoa x) ++ ⟨#[47]⟩ ++ txt (Lib.itoa y) := if_neg h
set_option maxRecDepth 100000 in
theorem frText_any (x y : Int) (hx : -1000000000 ≤ x ∧ x ≤ 1000000000) (hy : 1 ≤ y ∧ y ≤ 1000000000) (w : World) :
    Calls Tryd.prog 40 #[.agg #[.int .i64 x, .int .i64 y]] w fun r w' => r = .returned (.string (fracT x y)) ∧ Ext w w' := by
  have la := itoa_len (n := x) (by omega) (by omega)
  have lb := itoa_len (n := y) (by omega) (by omega)
  obtain ⟨V, hV⟩ : ∃ V, V = w.alloc (.cells #[.int .i64 x, .int .i64 y] 32) := ⟨_, rfl⟩
  have HEV := Lib.hid (show Ext w V by rw [hV]; exact Ext.alloc (Ext.refl _) _)
  have Rc0 := Ext.keeps (w := V) (b := w.heap.size) (o := 0) (v := .int .i64 x) (by rw [hV]; simp)
  have Rc1 := Ext.keeps (w := V) (b := w.heap.size) (o := 1) (v := .int .i64 y) (by rw [hV]; simp)
  have Hx := Lib.hid (fun w' (e : Ext V w') => l1Int_any x (by omega) (by omega) w')
  have Hy := Lib.hid (fun w' (e : Ext V w') => l1Num_int y (by omega) (by omega) w')
  clear hx hy
  by_cases h1 : y = 1
  · have HT := Lib.hid (fracT_one (x := x) h1)
    have hy1 : decide (y = 1) = true := decide_eq_true h1
    have hy2 : (y == 1) = true := by simpa using h1
    clear h1
    go_enter Tryd.func40, Tryd.ntmps40
    go_wp2_with fail
    rw [← hV]
    refine (Hx.out _ (Ext.refl _)).mono ?_
    rintro e w1 ⟨rfl, hb1⟩
    have h1 := HEV.out.trans hb1
    go_wp2
    go_ret
    exact ⟨by rw [HT.out] <;> rfl, h1⟩
  · have HT := Lib.hid (fracT_two (x := x) h1)
    have hy1 : decide (y = 1) = false := decide_eq_false h1
    have hy2 : (y == 1) = false := by simpa using h1
    clear h1
    go_enter Tryd.func40, Tryd.ntmps40
    go_wp2
    rw [← hV]
    have HV := Lib.hid hV
    clear hV
    have qR0 := fun s : Past V => Rc0 s.w s.ext
    have qR1 := fun s : Past V => Rc1 s.w s.ext
    refine wp_region_past V (Ext.refl _) (by kernel_rfl) (by kernel_rfl) ?_
    repeat (go_big_quiet_step ((first | (go_at_call 64; (with_reducible exact past_ext (Hx.out _ (Past.ext _)))) | (go_at_call 45; (with_reducible exact past_ext (Hy.out _ (Past.ext _)))))))
    refine wpQuiet_nil ?_
    intro w1 hw'
    obtain ⟨⟨_, hE⟩, hw''⟩ := hw'
    subst hw''
    clear qR0 qR1
    go_wp2
    go_ret
    exact ⟨by rw [HT.out] <;> rfl, HEV.out.trans hE⟩
set_option maxRecDepth 100000 in
theorem fracText_any (x y : Int) (hx : -1000000000 ≤ x ∧ x ≤ 1000000000) (hy : 1 ≤ y ∧ y ≤ 1000000000) (w : World) (ht : Tab w) :
    Calls Tryd.prog 42 #[.agg #[.int .i64 x, .int .i64 y]] w fun r w' => r = .returned (.string (fracT x y)) ∧ Ext w w' := by
  have la := itoa_len (n := x) (by omega) (by omega)
  have lb := itoa_len (n := y) (by omega) (by omega)
  obtain ⟨V, hV⟩ : ∃ V, V = w.alloc (.cells #[.int .i64 x, .int .i64 y] 32) := ⟨_, rfl⟩
  have HEV := Lib.hid (show Ext w V by rw [hV]; exact Ext.alloc (Ext.refl _) _)
  have Rc0 := Ext.keeps (w := V) (b := w.heap.size) (o := 0) (v := .int .i64 x) (by rw [hV]; simp)
  have Rc1 := Ext.keeps (w := V) (b := w.heap.size) (o := 1) (v := .int .i64 y) (by rw [hV]; simp)
  have Hx := Lib.hid (fun w' (e : Ext V w') => itoa_any x (by omega) (by omega) w' (ht.ext (HEV.out.trans e)))
  have Hy := Lib.hid (fun w' (e : Ext V w') => itoa_any y (by omega) (by omega) w' (ht.ext (HEV.out.trans e)))
  clear ht hx hy
  by_cases h1 : y = 1
  · have HT := Lib.hid (fracT_one (x := x) h1)
    have hy1 : decide (y = 1) = true := decide_eq_true h1
    have hy2 : (y == 1) = true := by simpa using h1
    clear h1
    go_enter Tryd.func42, Tryd.ntmps42
    go_wp2_with fail
    rw [← hV]
    refine (Hx.out _ (Ext.refl _)).mono ?_
    rintro e w1 ⟨rfl, hb1⟩
    have h1 := HEV.out.trans hb1
    go_wp2
    go_ret
    exact ⟨by rw [HT.out] <;> rfl, h1⟩
  · have HT := Lib.hid (fracT_two (x := x) h1)
    have hy1 : decide (y = 1) = false := decide_eq_false h1
    have hy2 : (y == 1) = false := by simpa using h1
    clear h1
    go_enter Tryd.func42, Tryd.ntmps42
    go_wp2
    rw [← hV]
    have HV := Lib.hid hV
    clear hV
    have qR0 := fun s : Past V => Rc0 s.w s.ext
    have qR1 := fun s : Past V => Rc1 s.w s.ext
    refine wp_region_past V (Ext.refl _) (by kernel_rfl) (by kernel_rfl) ?_
    repeat (go_big_quiet_step ((first | (go_at_call 48; (with_reducible exact past_ext (Hx.out _ (Past.ext _)))) | (go_at_call 48; (with_reducible exact past_ext (Hy.out _ (Past.ext _)))))))
    refine wpQuiet_nil ?_
    intro w1 hw'
    obtain ⟨⟨_, hE⟩, hw''⟩ := hw'
    subst hw''
    clear qR0 qR1
    go_wp2
    go_ret
    exact ⟨by rw [HT.out] <;> rfl, HEV.out.trans hE⟩
theorem spec_FracText_any (x y : Int) (w : World) :
    Calls Tryd.prog 13 #[.agg #[.int .i64 x, .int .i64 y]] w fun r w' => r = .returned (.tuple #[.string (gS (fracB x y) (fracT x y)), .bool (fracB x y)]) ∧ Ext w w' := by
  obtain ⟨V, hV⟩ : ∃ V, V = w.alloc (.cells #[.int .i64 x, .int .i64 y] 32) := ⟨_, rfl⟩
  have HEV := Lib.hid (show Ext w V by rw [hV]; exact Ext.alloc (Ext.refl _) _)
  have Rc0 := Ext.keeps (w := V) (b := w.heap.size) (o := 0) (v := .int .i64 x) (by rw [hV]; simp)
  have Rc1 := Ext.keeps (w := V) (b := w.heap.size) (o := 1) (v := .int .i64 y) (by rw [hV]; simp)
  have HG := Lib.hid (fun w => frGood_any x y w)
  cases hf : fracB x y
  · rw [hf] at HG
    go_enter Tryd.func13, Tryd.ntmps13
    go_wp2_with fail
    refine (HG.out _).mono ?_
    rintro e w1 ⟨rfl, hb1⟩
    rw [← hV] at hb1
    have h1 := HEV.out.trans hb1
    go_wp2
    go_ret2
    exact ⟨rfl, h1⟩
  · rw [hf] at HG
    obtain ⟨fx, fy, _⟩ := fracB_true.1 hf
    have HT := Lib.hid (fun w' (e : Ext w w') => frText_any x y fx fy w')
    clear fx fy
    go_enter Tryd.func13, Tryd.ntmps13
    go_wp2_with fail
    refine (HG.out _).mono ?_
    rintro e w1 ⟨rfl, hb1⟩
    rw [← hV] at hb1
    have h1 := HEV.out.trans hb1
    have r0 := Rc0 _ hb1
    have r1 := Rc1 _ hb1
    clear Rc0 Rc1 hV
    go_wp2_with fail
    refine (HT.out _ h1).mono ?_
    rintro e w2 ⟨rfl, hb2⟩
    have h2 := h1.trans hb2
    go_wp2
    go_ret2
    exact ⟨rfl, h2⟩
theorem impl_FracText_any (x y : Int) (w : World) (ht : Tab w) :
    Calls Tryd.prog 15 #[.agg #[.int .i64 x, .int .i64 y]] w fun r w' => r = .returned (.tuple #[.string (gS (fracB x y) (fracT x y)), .bool (fracB x y)]) ∧ Ext w w' := by
  obtain ⟨V, hV⟩ : ∃ V, V = w.alloc (.cells #[.int .i64 x, .int .i64 y] 32) := ⟨_, rfl⟩
  have HEV := Lib.hid (show Ext w V by rw [hV]; exact Ext.alloc (Ext.refl _) _)
  have Rc0 := Ext.keeps (w := V) (b := w.heap.size) (o := 0) (v := .int .i64 x) (by rw [hV]; simp)
  have Rc1 := Ext.keeps (w := V) (b := w.heap.size) (o := 1) (v := .int .i64 y) (by rw [hV]; simp)
  have HG := Lib.hid (fun w => isFrac_any x y w)
  cases hf : fracB x y
  · rw [hf] at HG
    go_enter Tryd.func15, Tryd.ntmps15
    go_wp2_with fail
    refine (HG.out _).mono ?_
    rintro e w1 ⟨rfl, hb1⟩
    rw [← hV] at hb1
    have h1 := HEV.out.trans hb1
    go_wp2
    go_ret2
    exact ⟨rfl, h1⟩
  · rw [hf] at HG
    obtain ⟨fx, fy, _⟩ := fracB_true.1 hf
    have HT := Lib.hid (fun w' (e : Ext w w') => fracText_any x y fx fy w' (ht.ext e))
    clear fx fy
    go_enter Tryd.func15, Tryd.ntmps15
    go_wp2_with fail
    refine (HG.out _).mono ?_
    rintro e w1 ⟨rfl, hb1⟩
    rw [← hV] at hb1
    have h1 := HEV.out.trans hb1
    have r0 := Rc0 _ hb1
    have r1 := Rc1 _ hb1
    clear Rc0 Rc1 hV
    go_wp2_with fail
    refine (HT.out _ h1).mono ?_
    rintro e w2 ⟨rfl, hb2⟩
    have h2 := h1.trans hb2
    go_wp2
    go_ret2
    exact ⟨rfl, h2⟩
theorem law_FracText (x y : Int) (w : World) (ht : Tab w) :
    Calls Tryd.prog 4 #[.agg #[.int .i64 x, .int .i64 y]] w fun r w' => r = .returned (.bool true) ∧ Ext w w' := by
  obtain ⟨T, hT⟩ : ∃ T, T = gS (fracB x y) (fracT x y) := ⟨_, rfl⟩
  obtain ⟨K, hK⟩ : ∃ K, K = fracB x y := ⟨_, rfl⟩
  have HS := Lib.hid (fun w => spec_FracText_any x y w)
  have HI := Lib.hid (fun w' (e : Ext w w') => impl_FracText_any x y w' (ht.ext e))
  rw [← hT, ← hK] at HS HI
  clear hT hK ht
  obtain ⟨V, hV⟩ : ∃ V, V = w.alloc (.cells #[.int .i64 x, .int .i64 y] 30) := ⟨_, rfl⟩
  have HEV := Lib.hid (show Ext w V by rw [hV]; exact Ext.alloc (Ext.refl _) _)
  have Rc0 := Ext.keeps (w := V) (b := w.heap.size) (o := 0) (v := .int .i64 x) (by rw [hV]; simp)
  have Rc1 := Ext.keeps (w := V) (b := w.heap.size) (o := 1) (v := .int .i64 y) (by rw [hV]; simp)
  go_enter Tryd.func4, Tryd.ntmps4
  go_wp2_with fail
  refine (toFrac_any x y _).mono ?_
  rintro e w1 ⟨rfl, hb1⟩
  rw [← hV] at hb1
  go_wp2_with fail
  refine (HS.out _).mono ?_
  rintro e w2 ⟨rfl, hb2⟩
  have e2 := hb1.trans hb2
  have r0 := Rc0 _ e2
  have r1 := Rc1 _ e2
  clear Rc0 Rc1 hb1 hb2 hV
  go_wp2_with fail
  refine (toFrac_any x y _).mono ?_
  rintro e w3 ⟨rfl, hb3⟩
  go_wp2_with fail
  refine (HI.out _ (HEV.out.trans (e2.trans hb3))).mono ?_
  rintro e w4 ⟨rfl, hb4⟩
  have e4 := HEV.out.trans ((e2.trans hb3).trans hb4)
  go_wp2
  go_ret
  exact ⟨rfl, e4⟩
end Go.Proofs.YtgoaedhgkkbajaaDoor
