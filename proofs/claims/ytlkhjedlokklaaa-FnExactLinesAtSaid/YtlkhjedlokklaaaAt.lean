/-
  LinesAt: the lines of a row that run through a point.
-/
import Derived.Test.YtlkhjedlokklaaaTerms
import Derived.Test.YtlkhjedlokklaaaScale
namespace Go.Proofs.Ytlkhjedlokklaaa
open Go.RowKit

/-- The places of the lines, among the first k, that run through (x, y). -/
def atL (zs : List (Int × Int × Int)) (x y : Int) : Nat → List Int
  | 0 => []
  | k + 1 => if onL (tat zs k).1 (tat zs k).2.1 (tat zs k).2.2 x y then atL zs x y k ++ [(k : Int)] else atL zs x y k
def finTo (zs : List (Int × Int × Int)) : Nat → Bool
  | 0 => true
  | k + 1 => finTo zs k && fin3 (tat zs k).1 (tat zs k).2.1 (tat zs k).2.2
theorem finTo_bad {zs : List (Int × Int × Int)} {k : Nat} (h : fin3 (tat zs k).1 (tat zs k).2.1 (tat zs k).2.2 = false) : ∀ n, k < n → finTo zs n = false
  | 0, hn => by omega
  | n + 1, hn => by
    rcases Nat.lt_or_ge k n with hlt | hge
    · simp [finTo, finTo_bad h n hlt]
    · obtain rfl : k = n := by omega
      simp [finTo, h]
theorem atL_le (zs : List (Int × Int × Int)) (x y : Int) : ∀ k, (atL zs x y k).length ≤ k
  | 0 => Nat.le_refl _
  | k + 1 => by
    have := atL_le zs x y k
    unfold atL
    split <;> simp <;> omega
def atB (zs : List (Int × Int × Int)) (x y : Int) : Bool := decide (zs.length ≤ 12) && finB x && finB y && finTo zs zs.length

theorem own_noneI (w : World) (B : Nat) : w.ownsRow B 3 1 (.slice none 0 0) 0 (iv []) := ⟨rfl, .inl ⟨rfl, rfl⟩⟩

set_option maxHeartbeats 2000000 in
theorem spec_LinesAt_any (a : Option Addr) (n c : Nat) (zs : List (Int × Int × Int)) (x y : Int) (hn : n ≤ 1073741824) (w : World) (h : Reads w a 3 n (tv zs)) :
    Calls Try.prog 48 #[.slice a n c, .int .i64 x, .int .i64 y] w (OwnsIntsB w.heap.size (gL (atB zs x y) (atL zs x y zs.length)) (atB zs x y) w) := by
  have hl : zs.length = n := by have := h.1; rw [tv_len] at this; omega
  obtain ⟨ok, hok⟩ : ∃ ok, ok = atB zs x y := ⟨_, rfl⟩
  rw [← hok]
  by_cases h12 : n ≤ 12
  rotate_left
  · have hof : ok = false := by rw [hok]; simp [atB, hl, h12]
    clear hok
    subst hof
    go_enter Try.func48, Try.ntmps48
    go_wp2
    go_ret2
    exact ⟨none, 0, rfl, own_noneI _ _, Ext.refl _⟩
  · cases hx : (finB x && finB y)
    · have hof : ok = false := by rw [hok]; simp [atB]; intro _ e1 e2; simp [e1, e2] at hx
      clear hok
      subst hof
      rcases finB_cases x with h1 | ⟨h1, _⟩
      · go_enter Try.func48, Try.ntmps48
        go_wp2_with ((go_at_call 88; refine (poFinite_any _ _).mono ?_; rintro e _ ⟨rfl, rfl⟩))
        go_ret2
        exact ⟨none, 0, rfl, own_noneI _ _, Ext.refl _⟩
      · have h2 : finB y = false := by simpa [h1] using hx
        go_enter Try.func48, Try.ntmps48
        go_wp2_with ((go_at_call 88; refine (poFinite_any _ _).mono ?_; rintro e _ ⟨rfl, rfl⟩))
        go_ret2
        exact ⟨none, 0, rfl, own_noneI _ _, Ext.refl _⟩
    · have hxy : finB x = true ∧ finB y = true := by simpa using hx
      have HK := Lib.hid (show ok = finTo zs n by rw [hok]; simp [atB, hl, h12, hxy.1, hxy.2])
      clear hok
      obtain ⟨h1, h2⟩ := hxy
      have k1 := finB_true.1 h1
      have k2 := finB_true.1 h2
      go_enter Try.func48, Try.ntmps48
      go_wp2_with ((go_at_call 88; refine (poFinite_any _ _).mono ?_; rintro e _ ⟨rfl, rfl⟩))
      go_loopw [8, 26] (fun s t wr => ∃ (k : Nat) (a1 : Option Addr) (c1 : Nat), k ≤ n ∧ t = .int .i64 k ∧ finTo zs k = true ∧ s = .slice a1 (atL zs x y k).length c1 ∧ wr.ownsRow w.heap.size 3 1 (.slice a1 (atL zs x y k).length c1) (atL zs x y k).length (iv (atL zs x y k)) ∧ Ext w wr) (fun _ t _ => n - (intOf t).toNat)
      case atStart => exact ⟨0, none, 0, Nat.zero_le _, rfl, rfl, rfl, own_noneI _ _, Ext.refl _⟩
      case round =>
        obtain ⟨k, a1, c1, hk, rfl, hfin, rfl, hown, hE⟩ := hrel
        have hple := atL_le zs x y k
        by_cases hlt : k < n
        · obtain ⟨b, off, rfl, hp0, hp1, hp2⟩ := (Reads.ext hE h).tri hlt
          have HN := Lib.hid (fun e : fin3 (tat zs k).1 (tat zs k).2.1 (tat zs k).2.2 = false => show ok = false by rw [HK.out]; exact finTo_bad e n hlt)
          have HY := Lib.hid (fun e : fin3 (tat zs k).1 (tat zs k).2.1 (tat zs k).2.2 = true => show finTo zs (k + 1) = true by simp only [finTo]; rw [hfin, e]; rfl)
          have P1 := Lib.hid (fun e : onL (tat zs k).1 (tat zs k).2.1 (tat zs k).2.2 x y = true => show atL zs x y (k + 1) = atL zs x y k ++ [(k : Int)] by simp [atL, e])
          have P2 := Lib.hid (fun e : onL (tat zs k).1 (tat zs k).2.1 (tat zs k).2.2 x y = false => show atL zs x y (k + 1) = atL zs x y k by simp [atL, e])
          generalize (tat zs k).1 = u at *
          generalize (tat zs k).2.1 = v at *
          generalize (tat zs k).2.2 = q at *
          have HW := Lib.hid (show Ext w wr from hE)
          have hsz := hE.size
          clear h hl hfin hE HK
          have hE : Ext wr wr := Ext.refl _
          have hT : Ext wr (wr.alloc (.cells #[.int .i64 u, .int .i64 v, .int .i64 q] 55)) := Ext.alloc hE _
          have HR := Has.new wr #[.int .i64 u, .int .i64 v, .int .i64 q] 55
          have Rc0 := Ext.keeps (HR 0 _ rfl)
          have Rc1 := Ext.keeps (HR 1 _ rfl)
          have Rc2 := Ext.keeps (HR 2 _ rfl)
          clear HR
          replace hE : Ext (wr.alloc (.cells #[.int .i64 u, .int .i64 v, .int .i64 q] 55)) (wr.alloc (.cells #[.int .i64 u, .int .i64 v, .int .i64 q] 55)) := Ext.refl _
          generalize atL zs x y k = ps at hown hple P1 P2
          rcases fin3_cases u v q with hf | ⟨hf, f1, f2, f3⟩
          · go_wp2_with fail
            refine (lnGood_any _ _ _ _).mono ?_
            rw [hf]
            rintro e w2 ⟨rfl, hb⟩
            replace hE := Ext.trans hE hb
            have hof := HN.out hf
            clear HN HY P1 P2
            subst hof
            go_wp2
            go_ret2
            exact ⟨none, 0, rfl, own_noneI _ _, HW.out.trans ((Ext.alloc (Ext.refl wr) _).trans hE)⟩
          · go_wp2_with fail
            refine (lnGood_any _ _ _ _).mono ?_
            rw [hf]
            rintro e w2 ⟨rfl, hb⟩
            replace hE := Ext.trans hE hb
            go_wp2_with fail
            refine (lnTerms_any _ _ _ _ _ (by omega) (by omega) (by omega) (by omega) (by omega) (by omega) (by omega) (by omega) _).mono ?_
            rintro e w3 ⟨ta, tc, rfl, _, hb⟩
            replace hE := Ext.trans hE hb
            have hF := HY.out hf
            have hW3 : Ext wr w3 := (Ext.alloc (Ext.refl wr) _).trans hE
            have HWE := Lib.hid (HW.out.trans hW3)
            have hown3 := own_ext hW3 hown
            have hs3 := HWE.out.size
            cases hon : onL u v q x y
            · have HP := Lib.hid (P2.out hon)
              have hlen : ¬ 1 < (lineT u v q x y).length := by have e := hon; simp [onL] at e; omega
              generalize (lineT u v q x y).length = m at *
              clear P1 P2 HN HY hown
              go_wp2
              go_roundw
              case rel => exact ⟨k + 1, a1, c1, by omega, by go_num, hF, by rw [HP.out], by rw [HP.out]; exact hown3, HWE.out⟩
              case measure => simp [intOf]; omega
            · have HP := Lib.hid (P1.out hon)
              have hlen : 1 < (lineT u v q x y).length := by have e := hon; simp [onL] at e; omega
              generalize (lineT u v q x y).length = m at *
              clear P1 P2 HN HY hown
              go_wp2_with (at_builtin; refine wpList_app1 rfl _ _ rfl w w.heap.size _ _ _ ps (k : Int) rfl (own_ext ((Ext.refl w3).alloc _) hown3) w3.heap.size rfl (by simp) (by omega) (by simp; omega) (HWE.out.alloc _) (Nat.le_refl _) ?_)
              intro a2 c2 w4 hown4 hE4
              go_wp2
              go_roundw
              case rel => exact ⟨k + 1, a2, c2, by omega, by go_num, hF, by rw [HP.out]; simp, by rw [HP.out]; simpa using hown4, hE4⟩
              case measure => simp [intOf]; omega
        · have hkn : Hid (k = n) := by show k = n; omega
          have HL := Lib.hid (show ok = true by rw [HK.out, ← hkn.out]; exact hfin)
          have HZ := Lib.hid (show atL zs x y zs.length = atL zs x y k by rw [hl, hkn.out])
          clear HK
          go_wp2
          go_ret2
          refine ⟨a1, c1, ?_, ?_, hE⟩
          · rw [HL.out, HZ.out]; rfl
          · rw [HL.out, HZ.out]; exact hown

set_option maxHeartbeats 2000000 in
theorem impl_LinesAt_any (a : Option Addr) (n c : Nat) (zs : List (Int × Int × Int)) (x y : Int) (hn : n ≤ 1073741824) (w : World) (h : Reads w a 3 n (tv zs)) :
    Calls Try.prog 50 #[.slice a n c, .int .i64 x, .int .i64 y] w (OwnsIntsB w.heap.size (gL (atB zs x y) (atL zs x y zs.length)) (atB zs x y) w) := by
  have hl : zs.length = n := by have := h.1; rw [tv_len] at this; omega
  obtain ⟨ok, hok⟩ : ∃ ok, ok = atB zs x y := ⟨_, rfl⟩
  rw [← hok]
  by_cases h12 : n ≤ 12
  rotate_left
  · have hof : ok = false := by rw [hok]; simp [atB, hl, h12]
    clear hok
    subst hof
    go_enter Try.func50, Try.ntmps50
    go_wp2
    go_ret2
    exact ⟨none, 0, rfl, own_noneI _ _, Ext.refl _⟩
  · cases hx : (finB x && finB y)
    · have hof : ok = false := by rw [hok]; simp [atB]; intro _ e1 e2; simp [e1, e2] at hx
      clear hok
      subst hof
      go_enter Try.func50, Try.ntmps50
      go_wp2_with fail
      refine (areFinite_any _ _ _ _ [x, y] rfl (by simp) _ ?_).mono ?_
      · intro i hi
        match i, hi with
        | 0, _ => simp
        | 1, _ => simp
      rw [show [x, y].all finB = false by simpa using hx]
      rintro e _ ⟨rfl, rfl⟩
      go_wp2
      go_ret2
      exact ⟨none, 0, rfl, own_noneI _ _, (by repeat (first | exact Ext.refl _ | assumption | apply Ext.alloc | apply Ext.drew | apply Ext.drewN | (refine Ext.trans ?_ (by assumption)) | (refine Ext.setCell ?_ (by simp; done) _) | (refine Ext.setCell ?_ (by simp; omega) _)))⟩
    · have hxy : finB x = true ∧ finB y = true := by simpa using hx
      have HK := Lib.hid (show ok = finTo zs n by rw [hok]; simp [atB, hl, h12, hxy.1, hxy.2])
      clear hok
      go_enter Try.func50, Try.ntmps50
      go_wp2_with fail
      refine (areFinite_any _ _ _ _ [x, y] rfl (by simp) _ ?_).mono ?_
      · intro i hi
        match i, hi with
        | 0, _ => simp
        | 1, _ => simp
      rw [show [x, y].all finB = true by simpa using hx]
      rintro e _ ⟨rfl, rfl⟩
      go_wp2
      go_loopw [8, 26] (fun s t wr => ∃ (k : Nat) (a1 : Option Addr) (c1 : Nat), k ≤ n ∧ t = .int .i64 k ∧ finTo zs k = true ∧ s = .slice a1 (atL zs x y k).length c1 ∧ wr.ownsRow w.heap.size 3 1 (.slice a1 (atL zs x y k).length c1) (atL zs x y k).length (iv (atL zs x y k)) ∧ Ext w wr) (fun _ t _ => n - (intOf t).toNat)
      case atStart => exact ⟨0, some ⟨w.heap.size + 1, 0, none⟩, 0, Nat.zero_le _, rfl, rfl, rfl, (by have e := World.ownsRow_lit (base := w.heap.size) (e := 3) (size := 1) (w.alloc (.cells #[.int .i64 x, .int .i64 y] 3)) #[] 0 (by simp) (by unfold maxLen; omega) rfl; rw [World.size_alloc] at e; exact e), (by repeat (first | exact Ext.refl _ | assumption | apply Ext.alloc | apply Ext.drew | apply Ext.drewN | (refine Ext.trans ?_ (by assumption)) | (refine Ext.setCell ?_ (by simp; done) _) | (refine Ext.setCell ?_ (by simp; omega) _)))⟩
      case round =>
        obtain ⟨k, a1, c1, hk, rfl, hfin, rfl, hown, hE⟩ := hrel
        have hple := atL_le zs x y k
        by_cases hlt : k < n
        · obtain ⟨b, off, rfl, hp0, hp1, hp2⟩ := (Reads.ext hE h).tri hlt
          have HN := Lib.hid (fun e : fin3 (tat zs k).1 (tat zs k).2.1 (tat zs k).2.2 = false => show ok = false by rw [HK.out]; exact finTo_bad e n hlt)
          have HY := Lib.hid (fun e : fin3 (tat zs k).1 (tat zs k).2.1 (tat zs k).2.2 = true => show finTo zs (k + 1) = true by simp only [finTo]; rw [hfin, e]; rfl)
          have P1 := Lib.hid (fun e : onL (tat zs k).1 (tat zs k).2.1 (tat zs k).2.2 x y = true => show atL zs x y (k + 1) = atL zs x y k ++ [(k : Int)] by simp [atL, e])
          have P2 := Lib.hid (fun e : onL (tat zs k).1 (tat zs k).2.1 (tat zs k).2.2 x y = false => show atL zs x y (k + 1) = atL zs x y k by simp [atL, e])
          generalize (tat zs k).1 = u at *
          generalize (tat zs k).2.1 = v at *
          generalize (tat zs k).2.2 = q at *
          have HW := Lib.hid (show Ext w wr from hE)
          have hsz := hE.size
          clear h hl hfin hE HK
          have hE : Ext wr wr := Ext.refl _
          have hT : Ext wr (wr.alloc (.cells #[.int .i64 u, .int .i64 v, .int .i64 q] 55)) := Ext.alloc hE _
          have HR := Has.new wr #[.int .i64 u, .int .i64 v, .int .i64 q] 55
          have Rc0 := Ext.keeps (HR 0 _ rfl)
          have Rc1 := Ext.keeps (HR 1 _ rfl)
          have Rc2 := Ext.keeps (HR 2 _ rfl)
          clear HR
          replace hE : Ext (wr.alloc (.cells #[.int .i64 u, .int .i64 v, .int .i64 q] 55)) (wr.alloc (.cells #[.int .i64 u, .int .i64 v, .int .i64 q] 55)) := Ext.refl _
          generalize atL zs x y k = ps at hown hple P1 P2
          rcases fin3_cases u v q with hf | ⟨hf, f1, f2, f3⟩
          · go_wp2_with fail
            refine (impl_IsOnLine_any _ _ _ _ _ _).mono ?_
            rw [hf, hxy.1, hxy.2]
            rintro e w2 ⟨rfl, hb⟩
            replace hE := Ext.trans hE hb
            have hof := HN.out hf
            clear HN HY P1 P2
            subst hof
            go_wp2
            go_ret2
            exact ⟨none, 0, rfl, own_noneI _ _, HW.out.trans ((Ext.alloc (Ext.refl wr) _).trans hE)⟩
          · have hF := HY.out hf
            cases hon : onL u v q x y
            · have HP := Lib.hid (P2.out hon)
              go_wp2_with fail
              refine (impl_IsOnLine_any _ _ _ _ _ _).mono ?_
              rw [hf, hxy.1, hxy.2, hon]
              rintro e w3 ⟨rfl, hb⟩
              replace hE := Ext.trans hE hb
              have hW3 : Ext wr w3 := (Ext.alloc (Ext.refl wr) _).trans hE
              have HWE := Lib.hid (HW.out.trans hW3)
              have hown3 := own_ext hW3 hown
              clear P1 P2 HN HY hown
              go_wp2
              go_roundw
              case rel => exact ⟨k + 1, a1, c1, by omega, by go_num, hF, by rw [HP.out], by rw [HP.out]; exact hown3, HWE.out⟩
              case measure => simp [intOf]; omega
            · have HP := Lib.hid (P1.out hon)
              go_wp2_with fail
              refine (impl_IsOnLine_any _ _ _ _ _ _).mono ?_
              rw [hf, hxy.1, hxy.2, hon]
              rintro e w3 ⟨rfl, hb⟩
              replace hE := Ext.trans hE hb
              have hW3 : Ext wr w3 := (Ext.alloc (Ext.refl wr) _).trans hE
              have HWE := Lib.hid (HW.out.trans hW3)
              have hown3 := own_ext hW3 hown
              have hs3 := HWE.out.size
              clear P1 P2 HN HY hown
              go_wp2_with (at_builtin; refine wpList_app1 rfl _ _ rfl w w.heap.size _ _ _ ps (k : Int) rfl (own_ext ((Ext.refl w3).alloc _) hown3) w3.heap.size rfl (by simp) (by omega) (by simp; omega) (HWE.out.alloc _) (Nat.le_refl _) ?_)
              intro a2 c2 w4 hown4 hE4
              go_wp2
              go_roundw
              case rel => exact ⟨k + 1, a2, c2, by omega, by go_num, hF, by rw [HP.out]; simp, by rw [HP.out]; simpa using hown4, hE4⟩
              case measure => simp [intOf]; omega
        · have hkn : Hid (k = n) := by show k = n; omega
          have HL := Lib.hid (show ok = true by rw [HK.out, ← hkn.out]; exact hfin)
          have HZ := Lib.hid (show atL zs x y zs.length = atL zs x y k by rw [hl, hkn.out])
          clear HK
          go_wp2
          go_ret2
          refine ⟨a1, c1, ?_, ?_, hE⟩
          · rw [HL.out, HZ.out]; rfl
          · rw [HL.out, HZ.out]; exact hown

set_option maxHeartbeats 2000000 in
theorem law_LinesAt (a : Option Addr) (n c : Nat) (zs : List (Int × Int × Int)) (x y : Int) (w : World) (hr : IsTri w a n c zs) :
    Calls Try.prog 14 #[.slice a n c, .int .i64 x, .int .i64 y] w fun r w' => r = .returned (.bool true) ∧ Ext w w' := by
  have h := hr.1
  have hc1 := hr.2.1
  have hc2 := hr.2.2.1
  unfold maxLen at hc2
  clear hr
  by_cases hn : n ≤ 1048576
  rotate_left
  · go_enter Try.func14, Try.ntmps14
    go_wp2_with fail
    refine (szLineS_no _ _ _ _ (by omega) (by omega) (by omega) (by omega) _).mono ?_
    rintro e _ ⟨rfl, rfl⟩
    go_wp2
    go_ret
    exact ⟨rfl, Ext.refl _⟩
  · have hl : zs.length = n := by have := h.1; rw [tv_len] at this; omega
    obtain ⟨L, hL⟩ : ∃ L, L = gL (atB zs x y) (atL zs x y zs.length) := ⟨_, rfl⟩
    obtain ⟨ok, hok⟩ : ∃ ok, ok = atB zs x y := ⟨_, rfl⟩
    have hlen : L.length ≤ 1048576 := by rw [hL]; exact gL_le (Nat.le_trans (atL_le _ _ _ _) (by omega))
    have HS := Lib.hid (show ∀ (b : Nat) w, Reads w (some ⟨b, 0, none⟩) 3 n (tv zs) → Calls Try.prog 48 #[.slice (some ⟨b, 0, none⟩) n n, .int .i64 x, .int .i64 y] w (OwnsIntsB w.heap.size L ok w) by rw [hL, hok]; intro b w h; exact spec_LinesAt_any _ _ _ zs x y (by omega) _ h)
    have HI := Lib.hid (show ∀ (b : Nat) w, Reads w (some ⟨b, 0, none⟩) 3 n (tv zs) → Calls Try.prog 50 #[.slice (some ⟨b, 0, none⟩) n n, .int .i64 x, .int .i64 y] w (OwnsIntsB w.heap.size L ok w) by rw [hL, hok]; intro b w h; exact impl_LinesAt_any _ _ _ zs x y (by omega) _ h)
    clear hL hok
    go_enter Try.func14, Try.ntmps14
    go_wp2_with fail
    refine (szLineS_yes _ _ _ _ (by omega) (by omega) _).mono ?_
    rintro e _ ⟨rfl, rfl⟩
    go_wp2_with fail
    refine (toLineS_any _ _ _ zs hn _ h).mono ?_
    rintro e w1 ⟨g1, rfl, ho1, hE⟩
    go_wp2_with fail
    refine (HS.out _ _ (own_reads ho1)).mono ?_
    rintro e w2 ⟨sa, sc, rfl, hs, hb⟩
    replace hE := Ext.trans hE hb
    have hs0 := hs
    have hz2 := hE.size
    go_wp2_with fail
    refine (toLineS_any _ _ _ zs hn _ (h.ext hE)).mono ?_
    rintro e w3 ⟨g2, rfl, ho2, hb⟩
    replace hE := Ext.trans hE hb
    replace hs := own_ext hb hs
    have hz3 := hb.size
    have ho20 := ho2
    go_wp2_with fail
    refine (HI.out _ _ (own_reads ho2)).mono ?_
    rintro e w4 ⟨ga, gc, rfl, hg, hb⟩
    have hg0 := hg
    replace hE := Ext.trans hE hb
    replace hs := own_ext hb hs
    replace ho2 := own_ext hb ho2
    go_wp2_with fail
    refine (eqIntS_same _ _ _ _ _ L (by omega) _ (own_reads hg) (own_reads hs)).mono ?_
    rintro e w5 ⟨rfl, hb⟩
    replace hE := Ext.trans hE hb
    replace hs := own_ext hb hs
    replace ho2 := own_ext hb ho2
    replace hg := own_ext hb hg
    go_wp2_with fail
    refine (toLineS_any _ _ _ zs hn _ (h.ext hE)).mono ?_
    rintro e w6 ⟨g3, rfl, ho3, hb⟩
    replace hE := Ext.trans hE hb
    replace hs := own_ext hb hs
    replace ho2 := own_ext hb ho2
    replace hg := own_ext hb hg
    go_wp2_with fail
    refine (eqLineS_same _ _ _ _ _ zs (by omega) _ (own_reads ho2) (own_reads ho3)).mono ?_
    rintro e w7 ⟨rfl, hb⟩
    replace hE := Ext.trans hE hb
    replace hs := own_ext hb hs
    replace ho2 := own_ext hb ho2
    replace hg := own_ext hb hg
    go_wp2_with fail
    refine (markLineS_any _ _ _ _ zs _ (by omega) (by omega) (by omega) _ ho2).mono ?_
    rintro e w8 ⟨rfl, hm, hgr⟩
    replace hE := Ext.grown hE hgr (fun k hk => Nat.le_trans hz2 (ho20.lt k hk).1)
    replace hs := own_apart hs hgr (fun q hq e => absurd (hs0.lt q hq).2 (Nat.not_lt_of_le (ho20.lt q e).1))
    replace hg := own_apart hg hgr (fun q hq e => absurd (ho20.lt q e).2 (Nat.not_lt_of_le (hg0.lt q hq).1))
    clear hm hgr ho2
    go_wp2_with fail
    refine (eqIntS_same _ _ _ _ _ L (by omega) _ (own_reads hg) (own_reads hs)).mono ?_
    rintro e w9 ⟨rfl, hb⟩
    replace hE := Ext.trans hE hb
    replace hs := own_ext hb hs
    replace hg := own_ext hb hg
    go_wp2_with fail
    refine (markIntS_any _ _ _ _ L _ (by omega) (by omega) (by omega) _ hg).mono ?_
    rintro e w10 ⟨rfl, hm, hgr⟩
    replace hE := Ext.grown hE hgr (fun k hk => Nat.le_trans hz2 (Nat.le_trans hz3 (hg0.lt k hk).1))
    replace hs := own_apart hs hgr (fun q hq e => absurd (Nat.lt_of_lt_of_le (hs0.lt q hq).2 hz3) (Nat.not_lt_of_le (hg0.lt q e).1))
    clear hgr hg
    go_wp2_with fail
    refine (heldIntS_any _ _ _ _ (by omega) (by omega) (by omega) _ (own_reads hm)).mono ?_
    rintro e _ ⟨rfl, rfl⟩
    go_wp2_with fail
    refine (toLineS_any _ _ _ zs hn _ (h.ext hE)).mono ?_
    rintro e w11 ⟨g4, rfl, ho4, hb⟩
    replace hE := Ext.trans hE hb
    replace hs := own_ext hb hs
    replace hm := own_ext hb hm
    go_wp2_with fail
    refine (HI.out _ _ (own_reads ho4)).mono ?_
    rintro e w12 ⟨ha, hc, rfl, hh, hb⟩
    replace hE := Ext.trans hE hb
    replace hs := own_ext hb hs
    replace hm := own_ext hb hm
    go_wp2_with fail
    refine (eqIntS_same _ _ _ _ _ L (by omega) _ (own_reads hh) (own_reads hs)).mono ?_
    rintro e w13 ⟨rfl, hb⟩
    replace hE := Ext.trans hE hb
    replace hm := own_ext hb hm
    go_wp2_with fail
    refine (heldIntS_any _ _ _ _ (by omega) (by omega) (by omega) _ (own_reads hm)).mono ?_
    rintro e _ ⟨rfl, rfl⟩
    go_wp2
    go_ret
    exact ⟨rfl, hE⟩

end Go.Proofs.Ytlkhjedlokklaaa
