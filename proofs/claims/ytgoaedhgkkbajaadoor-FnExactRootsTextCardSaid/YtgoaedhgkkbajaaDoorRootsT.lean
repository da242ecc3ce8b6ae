/-
  The text of the roots, on both sides; the law's walk.
-/
import Derived.Test.YtgoaedhgkkbajaaDoorFracT
import Derived.Test.YtgoaedhgkkbajaaDoorVal
namespace Go.Proofs.YtgoaedhgkkbajaaDoor
open Go.RowKit

/-- A root's text; all roots' text. -/
def rootT (r : Int × Int × Int) : ByteArray := fracT r.1 r.2.1 ++ ⟨#[42]⟩ ++ txt (Lib.itoa r.2.2) ++ ⟨#[59]⟩
def rootsT (l : List (Int × Int × Int)) : ByteArray := l.foldl (fun s r => s ++ rootT r) ⟨#[]⟩
theorem rootsT_succ {l : List (Int × Int × Int)} {k : Nat} (h : k < l.length) : rootsT (l.take (k + 1)) = rootsT (l.take k) ++ rootT (tat l k) := by
  unfold rootsT
  rw [List.take_succ_eq_append_getElem h, List.foldl_append, show tat l k = l[k] by simp [tat, List.getD, h]]
  rfl
theorem fracT_size {x y : Int} (hx : -1000000000 ≤ x ∧ x ≤ 1000000000) (hy : 1 ≤ y ∧ y ≤ 1000000000) : (fracT x y).size ≤ 43 := by
  have la := itoa_len (n := x) (by omega) (by omega)
  have lb := itoa_len (n := y) (by omega) (by omega)
  unfold fracT
  split
  · rw [txt_size]; omega
  · rw [ByteArray.size_append, ByteArray.size_append, txt_size, txt_size]
    show (Lib.itoa x).length + 1 + (Lib.itoa y).length ≤ 43
    omega
theorem rootT_size {r : Int × Int × Int} (h : IsRt r) : (rootT r).size ≤ 70 := by
  have h1 := fracT_size (x := r.1) (y := r.2.1) (by have := h.num; omega) (by have := h.den; omega)
  have lb := itoa_len (n := r.2.2) (by have := h.times; omega) (by have := h.times; omega)
  unfold rootT
  rw [ByteArray.size_append, ByteArray.size_append, ByteArray.size_append, txt_size]
  show (fracT r.1 r.2.1).size + 1 + (Lib.itoa r.2.2).length + 1 ≤ 70
  omega
theorem rootsT_size {l : List (Int × Int × Int)} (h : ∀ k, k < l.length → IsRt (tat l k)) : ∀ k, k ≤ l.length → (rootsT (l.take k)).size ≤ 70 * k
  | 0, _ => by simp [rootsT, ByteArray.size]
  | k + 1, hk => by
    have ih := rootsT_size h k (by omega)
    have := rootT_size (h k hk)
    rw [rootsT_succ hk, ByteArray.size_append]
    omega
set_option maxHeartbeats 2000000 in
set_option maxRecDepth 100000 in
theorem spec_RootsText_any (a : Option Addr) (n c : Nat) (zs : List Int) (hn : n ≤ 1073741824) (w : World) (h : Reads w a 1 n (iv zs)) :
    Calls Tryd.prog 16 #[.slice a n c] w fun r w' => r = .returned (.tuple #[.string (gS (polyB zs) (rootsT (rts zs))), .bool (polyB zs)]) ∧ Ext w w' := by
  have hl : zs.length = n := by have := h.1; rw [iv_len] at this; omega
  cases hz : polyB zs
  · go_enter Tryd.func16, Tryd.ntmps16
    go_wp2_with fail
    refine (poGood_any _ _ _ zs hn _ h).mono ?_
    rw [hz]
    rintro e _ ⟨rfl, rfl⟩
    go_wp2
    go_ret2
    exact ⟨rfl, Ext.refl _⟩
  · have pz := polyB_pol hz
    have hrl := rts_len zs
    have HIR := Lib.hid (fun k (hk : k < (rts zs).length) => rt_isRt pz.1 (by omega) hk)
    have HSZ := Lib.hid (rootsT_size HIR.out)
    have HT := Lib.hid (fun w' (e : Ext w w') => e)
    have hr13 : (rts zs).length ≤ 13 := by omega
    obtain ⟨L, hL⟩ : ∃ L, L = rts zs := ⟨_, rfl⟩
    go_enter Tryd.func16, Tryd.ntmps16
    go_wp2_with fail
    refine (poGood_any _ _ _ zs hn _ h).mono ?_
    rw [hz]
    rintro e _ ⟨rfl, rfl⟩
    go_wp2_with fail
    refine (rtRoots_any _ _ _ zs (by omega) pz.1 _ h).mono ?_
    rintro e w2 ⟨ra, rc, rfl, hr, hb2⟩
    rw [← hL] at hr HIR HSZ hr13 ⊢
    have HL := Lib.hid hL
    have HRD := Lib.hid (own_reads hr)
    clear hL hr h hl pz hrl
    have HB2 := Lib.hid hb2
    clear hb2
    go_wp2
    go_loopw [4, 13] (fun s t wr => ∃ k : Nat, k ≤ L.length ∧ t = .int .i64 k ∧ s = .string (rootsT (L.take k)) ∧ Ext w2 wr) (fun _ t _ => L.length - (intOf t).toNat)
    case atStart => exact ⟨0, Nat.zero_le _, rfl, rfl, Ext.refl _⟩
    case round =>
      obtain ⟨k, hk, rfl, rfl, hE⟩ := hrel
      by_cases hlt : k < L.length
      · obtain ⟨b, off, rfl, hp0, hp1, hp2⟩ := (Reads.ext hE HRD.out).tri hlt
        have HS := Lib.hid (rootsT_succ hlt)
        have hsz := HSZ.out k hk
        have hr := HIR.out k hlt
        generalize tat L k = r at *
        obtain ⟨x, y, v⟩ := r
        have b1 := hr.num
        have b2 := hr.den
        have b3 := hr.times
        simp only at b1 b2 b3 hp0 hp1 hp2
        have hfs := fracT_size (x := x) (y := y) (by omega) (by omega)
        have hvl := itoa_len (n := v) (by omega) (by omega)
        generalize rootsT (L.take k) = S at *
        have HEr := Lib.hid hE
        clear hr hE
        go_wp2
        obtain ⟨V, hV0⟩ : ∃ V, V = wr.alloc (.cells #[.int .i64 x, .int .i64 y, .int .i64 v] 65) := ⟨_, rfl⟩
        have HEV := Lib.hid (show Ext w2 V by rw [hV0]; exact Ext.alloc HEr.out _)
        have Rc0 := Ext.keeps (w := V) (b := wr.heap.size) (o := 0) (v := .int .i64 x) (by rw [hV0]; simp)
        have Rc1 := Ext.keeps (w := V) (b := wr.heap.size) (o := 1) (v := .int .i64 y) (by rw [hV0]; simp)
        have Rc2 := Ext.keeps (w := V) (b := wr.heap.size) (o := 2) (v := .int .i64 v) (by rw [hV0]; simp)
        have HF := Lib.hid (fun w' (e : Ext V w') => frText_any x y (by omega) (by omega) w')
        have HN := Lib.hid (fun w' (e : Ext V w') => l1Num_int v (by omega) (by omega) w')
        rw [← hV0]
        clear hV0 hp0 hp1 hp2 b1 b2 b3
        have qR0 := fun s : Past V => Rc0 s.w s.ext
        have qR1 := fun s : Past V => Rc1 s.w s.ext
        have qR2 := fun s : Past V => Rc2 s.w s.ext
        refine wp_region_past V (Ext.refl _) (by kernel_rfl) (by kernel_rfl) ?_
        repeat (go_big_quiet_step ((first | (go_at_call 40; (with_reducible exact past_ext (HF.out _ (Past.ext _)))) | (go_at_call 45; (with_reducible exact past_ext (HN.out _ (Past.ext _)))))))
        refine wpQuiet_nil ?_
        intro w5 hw'
        obtain ⟨⟨_, hE⟩, hw''⟩ := hw'
        subst hw''
        clear qR0 qR1 qR2
        go_wp2
        go_roundw
        case rel => exact ⟨k + 1, by omega, by go_num, by rw [HS.out]; rfl, HEV.out.trans hE⟩
        case measure => simp [intOf]; omega
      · obtain rfl : k = L.length := by omega
        rw [List.take_length]
        go_wp2
        go_ret2
        rw [← HL.out]
        exact ⟨rfl, HB2.out.trans hE⟩
set_option maxHeartbeats 2000000 in
set_option maxRecDepth 100000 in
theorem impl_RootsText_any (a : Option Addr) (n c : Nat) (zs : List Int) (hn : n ≤ 1073741824) (w : World) (h : Reads w a 1 n (iv zs)) (ht : Tab w) :
    Calls Tryd.prog 18 #[.slice a n c] w fun r w' => r = .returned (.tuple #[.string (gS (polyB zs) (rootsT (rts zs))), .bool (polyB zs)]) ∧ Ext w w' := by
  have hl : zs.length = n := by have := h.1; rw [iv_len] at this; omega
  cases hz : polyB zs
  · go_enter Tryd.func18, Tryd.ntmps18
    go_wp2_with fail
    refine (isPoly_any _ _ _ zs hn _ h).mono ?_
    rw [hz]
    rintro e _ ⟨rfl, rfl⟩
    go_wp2
    go_ret2
    exact ⟨rfl, Ext.refl _⟩
  · have pz := polyB_pol hz
    have hrl := rts_len zs
    have HIR := Lib.hid (fun k (hk : k < (rts zs).length) => rt_isRt pz.1 (by omega) hk)
    have HSZ := Lib.hid (rootsT_size HIR.out)
    have HT := Lib.hid (fun w' (e : Ext w w') => ht.ext e)
    have hr13 : (rts zs).length ≤ 13 := by omega
    obtain ⟨L, hL⟩ : ∃ L, L = rts zs := ⟨_, rfl⟩
    go_enter Tryd.func18, Tryd.ntmps18
    go_wp2_with fail
    refine (isPoly_any _ _ _ zs hn _ h).mono ?_
    rw [hz]
    rintro e _ ⟨rfl, rfl⟩
    go_wp2_with fail
    refine (roots_any _ _ _ zs (by omega) pz.1 _ h).mono ?_
    rintro e w2 ⟨ra, rc, rfl, hr, hb2⟩
    rw [← hL] at hr HIR HSZ hr13 ⊢
    have HL := Lib.hid hL
    have HRD := Lib.hid (own_reads hr)
    clear hL hr h hl pz hrl ht
    have HB2 := Lib.hid hb2
    clear hb2
    go_wp2
    go_loopw [4, 13] (fun s t wr => ∃ k : Nat, k ≤ L.length ∧ t = .int .i64 k ∧ s = .string (rootsT (L.take k)) ∧ Ext w2 wr) (fun _ t _ => L.length - (intOf t).toNat)
    case atStart => exact ⟨0, Nat.zero_le _, rfl, rfl, Ext.refl _⟩
    case round =>
      obtain ⟨k, hk, rfl, rfl, hE⟩ := hrel
      by_cases hlt : k < L.length
      · obtain ⟨b, off, rfl, hp0, hp1, hp2⟩ := (Reads.ext hE HRD.out).tri hlt
        have HS := Lib.hid (rootsT_succ hlt)
        have hsz := HSZ.out k hk
        have hr := HIR.out k hlt
        generalize tat L k = r at *
        obtain ⟨x, y, v⟩ := r
        have b1 := hr.num
        have b2 := hr.den
        have b3 := hr.times
        simp only at b1 b2 b3 hp0 hp1 hp2
        have hfs := fracT_size (x := x) (y := y) (by omega) (by omega)
        have hvl := itoa_len (n := v) (by omega) (by omega)
        generalize rootsT (L.take k) = S at *
        have HEr := Lib.hid hE
        clear hr hE
        go_wp2
        obtain ⟨V, hV0⟩ : ∃ V, V = wr.alloc (.cells #[.int .i64 x, .int .i64 y, .int .i64 v] 65) := ⟨_, rfl⟩
        have HEV := Lib.hid (show Ext w2 V by rw [hV0]; exact Ext.alloc HEr.out _)
        have Rc0 := Ext.keeps (w := V) (b := wr.heap.size) (o := 0) (v := .int .i64 x) (by rw [hV0]; simp)
        have Rc1 := Ext.keeps (w := V) (b := wr.heap.size) (o := 1) (v := .int .i64 y) (by rw [hV0]; simp)
        have Rc2 := Ext.keeps (w := V) (b := wr.heap.size) (o := 2) (v := .int .i64 v) (by rw [hV0]; simp)
        have HF := Lib.hid (fun w' (e : Ext V w') => fracText_any x y (by omega) (by omega) w' (HT.out _ (HB2.out.trans (HEV.out.trans e))))
        have HN := Lib.hid (fun w' (e : Ext V w') => itoa_any v (by omega) (by omega) w' (HT.out _ (HB2.out.trans (HEV.out.trans e))))
        rw [← hV0]
        clear hV0 hp0 hp1 hp2 b1 b2 b3
        have qR0 := fun s : Past V => Rc0 s.w s.ext
        have qR1 := fun s : Past V => Rc1 s.w s.ext
        have qR2 := fun s : Past V => Rc2 s.w s.ext
        refine wp_region_past V (Ext.refl _) (by kernel_rfl) (by kernel_rfl) ?_
        repeat (go_big_quiet_step ((first | (go_at_call 42; (with_reducible exact past_ext (HF.out _ (Past.ext _)))) | (go_at_call 48; (with_reducible exact past_ext (HN.out _ (Past.ext _)))))))
        refine wpQuiet_nil ?_
        intro w5 hw'
        obtain ⟨⟨_, hE⟩, hw''⟩ := hw'
        subst hw''
        clear qR0 qR1 qR2
        go_wp2
        go_roundw
        case rel => exact ⟨k + 1, by omega, by go_num, by rw [HS.out]; rfl, HEV.out.trans hE⟩
        case measure => simp [intOf]; omega
      · obtain rfl : k = L.length := by omega
        rw [List.take_length]
        go_wp2
        go_ret2
        rw [← HL.out]
        exact ⟨rfl, HB2.out.trans hE⟩
end Go.Proofs.YtgoaedhgkkbajaaDoor
