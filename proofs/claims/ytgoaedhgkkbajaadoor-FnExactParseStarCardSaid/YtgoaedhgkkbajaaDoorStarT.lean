/-
  A star's text, on both sides; the law's walk.
-/
import Derived.Test.YtgoaedhgkkbajaaDoorLineT
import Derived.Test.YtgoaedhgkkbajaaDoorStar
import Derived.Test.YtgoaedhgkkbajaaDoorShelfJ
namespace Go.Proofs.YtgoaedhgkkbajaaDoor
open Go.RowKit

/-- A ray's text; a star's text. -/
def rayT (r : Int × Int × Int) : ByteArray := txt (Lib.itoa r.2.2) ++ ⟨#[42]⟩ ++ txt (Lib.itoa r.1) ++ ⟨#[44]⟩ ++ txt (Lib.itoa r.2.1) ++ ⟨#[59]⟩
def starT (l : List (Int × Int × Int)) : ByteArray := l.foldl (fun s r => s ++ rayT r) ⟨#[]⟩
theorem starT_succ {l : List (Int × Int × Int)} {k : Nat} (h : k < l.length) : starT (l.take (k + 1)) = starT (l.take k) ++ rayT (tat l k) := by
  unfold starT
  rw [List.take_succ_eq_append_getElem h, List.foldl_append, show tat l k = l[k] by simp [tat, List.getD, h]]
  rfl
/-- What is known of a ray of a star. -/
def RayB (r : Int × Int × Int) : Prop := (-20 ≤ r.1 ∧ r.1 ≤ 20) ∧ (-20 ≤ r.2.1 ∧ r.2.1 ≤ 20) ∧ (1 ≤ r.2.2 ∧ r.2.2 ≤ 20)
theorem rayT_size {r : Int × Int × Int} (h : RayB r) : (rayT r).size ≤ 70 := by
  obtain ⟨h1, h2, h3⟩ := h
  have la := itoa_len (n := r.2.2) (by omega) (by omega)
  have lb := itoa_len (n := r.1) (by omega) (by omega)
  have lc := itoa_len (n := r.2.1) (by omega) (by omega)
  unfold rayT
  rw [ByteArray.size_append, ByteArray.size_append, ByteArray.size_append, ByteArray.size_append, ByteArray.size_append, txt_size, txt_size, txt_size]
  show (Lib.itoa r.2.2).length + 1 + (Lib.itoa r.1).length + 1 + (Lib.itoa r.2.1).length + 1 ≤ 70
  omega
theorem starT_size {l : List (Int × Int × Int)} (h : ∀ k, k < l.length → RayB (tat l k)) : ∀ k, k ≤ l.length → (starT (l.take k)).size ≤ 70 * k
  | 0, _ => by simp [starT, ByteArray.size]
  | k + 1, hk => by
    have ih := starT_size h k (by omega)
    have := rayT_size (h k hk)
    rw [starT_succ hk, ByteArray.size_append]
    omega
theorem join_flat : ∀ xs : List (List UInt8), Lib.join xs [] = xs.flatten
  | [] => rfl
  | [x] => by simp [Lib.join, List.intercalate]
  | x :: y :: r => by
    have ih := join_flat (y :: r)
    unfold Lib.join List.intercalate at *
    rw [List.intersperse, List.flatten_cons, List.flatten_cons, ih]
    · rfl
    · intro e; cases e
theorem join_six (A D E : ByteArray) : (⟨(Lib.join (([A, ⟨#[42]⟩, D, ⟨#[44]⟩, E, ⟨#[59]⟩] : List ByteArray).map (·.data.toList)) (⟨#[]⟩ : ByteArray).data.toList).toArray⟩ : ByteArray) = A ++ ⟨#[42]⟩ ++ D ++ ⟨#[44]⟩ ++ E ++ ⟨#[59]⟩ := by
  show (⟨(Lib.join [A.data.toList, [42], D.data.toList, [44], E.data.toList, [59]] []).toArray⟩ : ByteArray) = _
  rw [join_flat]
  apply ByteArray.ext
  simp [ByteArray.data_append]
theorem join_six_len (A D E : ByteArray) : (Lib.join (([A, ⟨#[42]⟩, D, ⟨#[44]⟩, E, ⟨#[59]⟩] : List ByteArray).map (·.data.toList)) (⟨#[]⟩ : ByteArray).data.toList).length = A.size + D.size + E.size + 3 := by
  show (Lib.join [A.data.toList, [42], D.data.toList, [44], E.data.toList, [59]] []).length = _
  rw [join_flat]
  simp only [List.flatten_cons, List.flatten_nil, List.length_append, List.length_cons, List.length_nil, Array.length_toList]
  have e1 : A.size = A.data.size := rfl
  have e2 : D.size = D.data.size := rfl
  have e3 : E.size = E.data.size := rfl
  omega
theorem join_any (A D E : ByteArray) (hA : A.size ≤ 30) (hD : D.size ≤ 30) (hE : E.size ≤ 30) (w : World) (g : Nat) (hg : g < w.heap.size) (h0 : w.cell? ⟨g, 0, none⟩ = some (.string A)) (h1 : w.cell? ⟨g, 1, none⟩ = some (.string ⟨#[42]⟩)) (h2 : w.cell? ⟨g, 2, none⟩ = some (.string D))
    (h3 : w.cell? ⟨g, 3, none⟩ = some (.string ⟨#[44]⟩)) (h4 : w.cell? ⟨g, 4, none⟩ = some (.string E)) (h5 : w.cell? ⟨g, 5, none⟩ = some (.string ⟨#[59]⟩)) :
    Calls Tryd.prog 81 #[.slice (some ⟨g, 0, none⟩) 6 6, .string ⟨#[]⟩] w fun r w' => r = .returned (.string (A ++ ⟨#[42]⟩ ++ D ++ ⟨#[44]⟩ ++ E ++ ⟨#[59]⟩)) ∧ Ext w w' := by
  have := Any.strings_Join layJoin joinExtra g 0 6 [A, ⟨#[42]⟩, D, ⟨#[44]⟩, E, ⟨#[59]⟩] ⟨#[]⟩ w (fun j x hj => by
    rw [Nat.zero_add]
    match j, hj with
    | 0, hj => simp at hj; subst hj; exact h0
    | 1, hj => simp at hj; subst hj; exact h1
    | 2, hj => simp at hj; subst hj; exact h2
    | 3, hj => simp at hj; subst hj; exact h3
    | 4, hj => simp at hj; subst hj; exact h4
    | 5, hj => simp at hj; subst hj; exact h5) hg (by simp) (by simp) (by rw [join_six_len]; omega)
  rw [join_six] at this
  exact this
theorem l1Num_int2 (n : Int) (h0 : 0 ≤ n) (h1 : n ≤ 1000000000000000) (w : World) :
    Calls Tryd.prog 45 #[.int .i64 n] w fun r w' => r = .returned (.string (txt (Lib.itoa n))) ∧ Ext w w' := by
  obtain ⟨u, rfl⟩ : ∃ u : Nat, n = (u : Int) := ⟨n.toNat, by omega⟩
  rw [itoa_pos (by omega), Int.toNat_natCast]
  exact l1Num_any u (by omega) w
set_option maxHeartbeats 2000000 in
set_option maxRecDepth 100000 in
theorem stText_any (a : Option Addr) (n c : Nat) (L : List (Int × Int × Int)) (hn : n ≤ 10) (hb : ∀ k, k < L.length → RayB (tat L k)) (w : World) (h : Reads w a 3 n (tv L)) :
    Calls Tryd.prog 50 #[.slice a n c] w fun r w' => r = .returned (.string (starT L)) ∧ Ext w w' := by
  have hl : L.length = n := by have := h.1; rw [tv_len] at this; omega
  subst hl
  have HIR := Lib.hid hb
  have HSZ := Lib.hid (starT_size hb)
  have HT := Lib.hid (fun w' (e : Ext w w') => e)
  have HRD := Lib.hid h
  clear hb h
  go_enter Tryd.func50, Tryd.ntmps50
  go_wp2
  go_loopw [3, 8] (fun s t wr => ∃ k : Nat, k ≤ L.length ∧ t = .int .i64 k ∧ s = .string (starT (L.take k)) ∧ Ext w wr) (fun _ t _ => L.length - (intOf t).toNat)
  case atStart => exact ⟨0, Nat.zero_le _, rfl, rfl, Ext.refl _⟩
  case round =>
    obtain ⟨k, hk, rfl, rfl, hE⟩ := hrel
    by_cases hlt : k < L.length
    · obtain ⟨b, off, rfl, hp0, hp1, hp2⟩ := (Reads.ext hE HRD.out).tri hlt
      have HS := Lib.hid (starT_succ hlt)
      have hsz := HSZ.out k hk
      have hr := HIR.out k hlt
      generalize tat L k = r at *
      obtain ⟨u, v, x⟩ := r
      have hrs := rayT_size hr
      obtain ⟨b1, b2, b3⟩ := hr
      simp only at b1 b2 b3 hp0 hp1 hp2
      have lu := itoa_len (n := u) (by omega) (by omega)
      have lv := itoa_len (n := v) (by omega) (by omega)
      have lx := itoa_len (n := x) (by omega) (by omega)
      generalize starT (L.take k) = S at *
      have HEr := Lib.hid hE
      clear hE
      go_wp2
      obtain ⟨V, hV0⟩ : ∃ V, V = wr.alloc (.cells #[.int .i64 u, .int .i64 v, .int .i64 x] 70) := ⟨_, rfl⟩
      have HEV := Lib.hid (show Ext w V by rw [hV0]; exact Ext.alloc HEr.out _)
      have Rc0 := Ext.keeps (w := V) (b := wr.heap.size) (o := 0) (v := .int .i64 u) (by rw [hV0]; simp)
      have Rc1 := Ext.keeps (w := V) (b := wr.heap.size) (o := 1) (v := .int .i64 v) (by rw [hV0]; simp)
      have Rc2 := Ext.keeps (w := V) (b := wr.heap.size) (o := 2) (v := .int .i64 x) (by rw [hV0]; simp)
      have Hu := Lib.hid (fun w' (e : Ext V w') => l1Int_any u (by omega) (by omega) w')
      have Hv := Lib.hid (fun w' (e : Ext V w') => l1Int_any v (by omega) (by omega) w')
      have Hx := Lib.hid (fun w' (e : Ext V w') => l1Num_int2 x (by omega) (by omega) w')
      rw [← hV0]
      clear hV0 hp0 hp1 hp2 b1 b2 b3
      have qR0 := fun s : Past V => Rc0 s.w s.ext
      have qR1 := fun s : Past V => Rc1 s.w s.ext
      have qR2 := fun s : Past V => Rc2 s.w s.ext
      refine wp_region_past V (Ext.refl _) (by kernel_rfl) (by kernel_rfl) ?_
      repeat (go_big_quiet_step ((first | (go_at_call 64; first | (with_reducible exact past_ext (Hu.out _ (Past.ext _))) | (with_reducible exact past_ext (Hv.out _ (Past.ext _)))) | (go_at_call 45; (with_reducible exact past_ext (Hx.out _ (Past.ext _)))))))
      refine wpQuiet_nil ?_
      intro w5 hw'
      obtain ⟨⟨_, hE⟩, hw''⟩ := hw'
      subst hw''
      clear qR0 qR1 qR2
      go_wp2
      go_roundw
      case rel => exact ⟨k + 1, by omega, by go_num, by rw [HS.out]; rfl, HEV.out.trans hE⟩
      case measure => simp [intOf]; omega
    · obtain rfl : k = L.length := by omega
      rw [List.take_length]
      go_wp2
      go_ret
      exact ⟨rfl, hE⟩
set_option maxHeartbeats 2000000 in
set_option maxRecDepth 100000 in
theorem starText_any (a : Option Addr) (n c : Nat) (L : List (Int × Int × Int)) (hn : n ≤ 10) (hb : ∀ k, k < L.length → RayB (tat L k)) (w : World) (h : Reads w a 3 n (tv L)) (ht : Tab w) :
    Calls Tryd.prog 53 #[.slice a n c] w fun r w' => r = .returned (.string (starT L)) ∧ Ext w w' := by
  have hl : L.length = n := by have := h.1; rw [tv_len] at this; omega
  subst hl
  have HIR := Lib.hid hb
  have HSZ := Lib.hid (starT_size hb)
  have HT := Lib.hid (fun w' (e : Ext w w') => ht.ext e)
  have HRD := Lib.hid h
  clear hb h ht
  go_enter Tryd.func53, Tryd.ntmps53
  go_wp2
  go_loopw [3, 8] (fun s t wr => ∃ k : Nat, k ≤ L.length ∧ t = .int .i64 k ∧ s = .string (starT (L.take k)) ∧ Ext w wr) (fun _ t _ => L.length - (intOf t).toNat)
  case atStart => exact ⟨0, Nat.zero_le _, rfl, rfl, Ext.refl _⟩
  case round =>
    obtain ⟨k, hk, rfl, rfl, hE⟩ := hrel
    by_cases hlt : k < L.length
    · obtain ⟨b, off, rfl, hp0, hp1, hp2⟩ := (Reads.ext hE HRD.out).tri hlt
      have HS := Lib.hid (starT_succ hlt)
      have hsz := HSZ.out k hk
      have hr := HIR.out k hlt
      generalize tat L k = r at *
      obtain ⟨u, v, x⟩ := r
      have hrs := rayT_size hr
      obtain ⟨b1, b2, b3⟩ := hr
      simp only at b1 b2 b3 hp0 hp1 hp2
      have lu := itoa_len (n := u) (by omega) (by omega)
      have lv := itoa_len (n := v) (by omega) (by omega)
      have lx := itoa_len (n := x) (by omega) (by omega)
      have su : (txt (Lib.itoa u)).size ≤ 30 := by rw [txt_size]; omega
      have sv : (txt (Lib.itoa v)).size ≤ 30 := by rw [txt_size]; omega
      have sx : (txt (Lib.itoa x)).size ≤ 30 := by rw [txt_size]; omega
      obtain ⟨R, hR⟩ : ∃ R, R = rayT (u, v, x) := ⟨_, rfl⟩
      have HJ := Lib.hid (fun (w : World) (g : Nat) hg h0 h1 h2 h3 h4 h5 => show Calls Tryd.prog 81 #[.slice (some ⟨g, 0, none⟩) 6 6, .string ⟨#[]⟩] w fun r w' => r = .returned (.string R) ∧ Ext w w' by rw [hR]; exact join_any _ _ _ sx su sv w g hg h0 h1 h2 h3 h4 h5)
      rw [← hR] at hrs HS
      clear hR
      generalize starT (L.take k) = S at *
      have hno : ¬ (9223372036854775807 < S.size + R.size) := by omega
      have HEr := Lib.hid hE
      clear hE
      go_wp2
      obtain ⟨V, hV0⟩ : ∃ V, V = wr.alloc (.cells #[.int .i64 u, .int .i64 v, .int .i64 x] 70) := ⟨_, rfl⟩
      have HEV := Lib.hid (show Ext w V by rw [hV0]; exact Ext.alloc HEr.out _)
      have Rc0 := Ext.keeps (w := V) (b := wr.heap.size) (o := 0) (v := .int .i64 u) (by rw [hV0]; simp)
      have Rc1 := Ext.keeps (w := V) (b := wr.heap.size) (o := 1) (v := .int .i64 v) (by rw [hV0]; simp)
      have Rc2 := Ext.keeps (w := V) (b := wr.heap.size) (o := 2) (v := .int .i64 x) (by rw [hV0]; simp)
      have Hu := Lib.hid (fun w' (e : Ext V w') => itoa_any u (by omega) (by omega) w' (HT.out _ (HEV.out.trans e)))
      have Hv := Lib.hid (fun w' (e : Ext V w') => itoa_any v (by omega) (by omega) w' (HT.out _ (HEV.out.trans e)))
      have Hx := Lib.hid (fun w' (e : Ext V w') => itoa_any x (by omega) (by omega) w' (HT.out _ (HEV.out.trans e)))
      rw [← hV0]
      clear hV0 hp0 hp1 hp2 b1 b2 b3
      go_region_held3 (fun w' => Ext V w') ((repeat (first | exact Ext.refl _ | assumption | apply Ext.alloc | apply Ext.drew | apply Ext.drewN | (refine Ext.trans ?_ (by assumption)) | (refine Ext.setCell ?_ (by (try simp) <;> omega) _)))) (first | (go_at_call 48; first | (with_reducible refine (Hu.out _ (by repeat (first | exact Ext.refl _ | assumption | apply Ext.alloc | apply Ext.drew | apply Ext.drewN | (refine Ext.trans ?_ (by assumption)) | (refine Ext.setCell ?_ (by (try simp) <;> omega) _)))).mono ?_; rintro e wu ⟨rfl, hbu⟩) | (with_reducible refine (Hv.out _ (by repeat (first | exact Ext.refl _ | assumption | apply Ext.alloc | apply Ext.drew | apply Ext.drewN | (refine Ext.trans ?_ (by assumption)) | (refine Ext.setCell ?_ (by (try simp) <;> omega) _)))).mono ?_; rintro e wv ⟨rfl, hbv⟩) | (with_reducible refine (Hx.out _ (by repeat (first | exact Ext.refl _ | assumption | apply Ext.alloc | apply Ext.drew | apply Ext.drewN | (refine Ext.trans ?_ (by assumption)) | (refine Ext.setCell ?_ (by (try simp) <;> omega) _)))).mono ?_; rintro e wx ⟨rfl, hbx⟩)) | (go_at_call 81; refine (HJ.out _ _ (by simp) (by simp) (by simp) (by simp) (by simp) (by simp) (by simp)).mono ?_; rintro e wj ⟨rfl, hbj⟩))
      all_goals (
        go_wp2
        go_roundw
        case rel => exact ⟨k + 1, by omega, by go_num, by rw [HS.out] <;> rfl, HEV.out.trans (by repeat (first | exact Ext.refl _ | assumption | apply Ext.alloc | apply Ext.drew | apply Ext.drewN | (refine Ext.trans ?_ (by assumption)) | (refine Ext.setCell ?_ (by (try simp) <;> omega) _)))⟩
        case measure => simp [intOf]; omega)
    · obtain rfl : k = L.length := by omega
      rw [List.take_length]
      go_wp2
      go_ret
      exact ⟨rfl, hE⟩
theorem spec_StarText_any (a : Option Addr) (n c : Nat) (zs : List (Int × Int × Int)) (hn : n ≤ 1048576) (w : World) (h : Reads w a 3 n (tv zs)) :
    Calls Tryd.prog 21 #[.slice a n c] w fun r w' => r = .returned (.tuple #[.string (gS (starB zs) (starT zs)), .bool (starB zs)]) ∧ Ext w w' := by
  have hl : zs.length = n := by have := h.1; rw [tv_len] at this; omega
  subst hl
  rcases starB_cases zs with hz | ⟨hz, h1, h2⟩
  · go_enter Tryd.func21, Tryd.ntmps21
    go_wp2_with fail
    refine (stGood_any _ _ _ zs (by omega) _ h).mono ?_
    rw [hz]
    rintro e w1 ⟨rfl, hb1⟩
    go_wp2
    go_ret2
    rw [hz]
    exact ⟨rfl, hb1⟩
  · have HB := Lib.hid h2
    clear h2
    go_enter Tryd.func21, Tryd.ntmps21
    go_wp2_with fail
    refine (stGood_any _ _ _ zs (by omega) _ h).mono ?_
    rw [hz]
    rintro e w1 ⟨rfl, hb1⟩
    go_wp2_with fail
    refine (stText_any _ _ _ zs (by omega) (fun k hk => HB.out k hk) _ (h.ext hb1)).mono ?_
    rintro e w2 ⟨rfl, hb2⟩
    have h2 := hb1.trans hb2
    go_wp2
    go_ret2
    rw [hz]
    exact ⟨rfl, h2⟩
theorem impl_StarText_any (a : Option Addr) (n c : Nat) (zs : List (Int × Int × Int)) (hn : n ≤ 1048576) (w : World) (h : Reads w a 3 n (tv zs)) (ht : Tab w) :
    Calls Tryd.prog 23 #[.slice a n c] w fun r w' => r = .returned (.tuple #[.string (gS (starB zs) (starT zs)), .bool (starB zs)]) ∧ Ext w w' := by
  have hl : zs.length = n := by have := h.1; rw [tv_len] at this; omega
  subst hl
  rcases starB_cases zs with hz | ⟨hz, h1, h2⟩
  · go_enter Tryd.func23, Tryd.ntmps23
    go_wp2_with fail
    refine (isStar_any _ _ _ zs (by omega) _ h).mono ?_
    rw [hz]
    rintro e w1 ⟨rfl, hb1⟩
    go_wp2
    go_ret2
    rw [hz]
    exact ⟨rfl, hb1⟩
  · have HB := Lib.hid h2
    clear h2
    go_enter Tryd.func23, Tryd.ntmps23
    go_wp2_with fail
    refine (isStar_any _ _ _ zs (by omega) _ h).mono ?_
    rw [hz]
    rintro e w1 ⟨rfl, hb1⟩
    go_wp2_with fail
    refine (starText_any _ _ _ zs (by omega) (fun k hk => HB.out k hk) _ (h.ext hb1) (ht.ext hb1)).mono ?_
    rintro e w2 ⟨rfl, hb2⟩
    have h2 := hb1.trans hb2
    go_wp2
    go_ret2
    rw [hz]
    exact ⟨rfl, h2⟩
end Go.Proofs.YtgoaedhgkkbajaaDoor
