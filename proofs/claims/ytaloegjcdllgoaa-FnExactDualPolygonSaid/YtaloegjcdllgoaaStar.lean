/-
  The contracts of the functions on stars: validity, sums.
-/
import Derived.Test.YtaloegjcdllgoaaRay
import Derived.Test.YtaloegjcdllgoaaTri
namespace Go.Proofs.Ytaloegjcdllgoaa
open Go.RowKit

/-- Whether steps come before others. -/
def befB (x y u v : Int) : Bool := decide (x < u) || (decide (x = u) && decide (y < v))
/-- The order of two points, as a number. -/
def cmpI (x y u v : Int) : Int := if x = u then y - v else x - u
theorem cmpI_nonneg (x y u v : Int) : decide (0 ≤ cmpI x y u v) = !befB x y u v := by
  unfold cmpI befB
  split
  · rename_i h; subst h; rw [Bool.eq_iff_iff]; simp
  · rename_i h; rw [Bool.eq_iff_iff]; simp [h]
/-- What is asked of the ray at a place. -/
def okAt (zs : List (Int × Int × Int)) (k : Nat) : Bool := rayB (tat zs k).1 (tat zs k).2.1 (tat zs k).2.2 && (k == 0 || befB (tat zs (k - 1)).1 (tat zs (k - 1)).2.1 (tat zs k).1 (tat zs k).2.1)
def okTo (zs : List (Int × Int × Int)) : Nat → Bool
  | 0 => true
  | k + 1 => okTo zs k && okAt zs k
theorem okTo_bad {zs : List (Int × Int × Int)} {k : Nat} (h : okAt zs k = false) : ∀ n, k < n → okTo zs n = false
  | 0, hn => by omega
  | n + 1, hn => by
    rcases Nat.lt_or_ge k n with hlt | hge
    · simp [okTo, okTo_bad h n hlt]
    · have e : k = n := by omega
      subst e
      simp [okTo, h]
theorem okTo_at {zs : List (Int × Int × Int)} {k : Nat} : ∀ n, okTo zs n = true → k < n → okAt zs k = true
  | 0, _, hn => by omega
  | n + 1, h, hn => by
    simp only [okTo, Bool.and_eq_true] at h
    rcases Nat.lt_or_ge k n with hlt | hge
    · exact okTo_at n h.1 hlt
    · have e : k = n := by omega
      rw [e]; exact h.2
/-- A star. -/
def starB (zs : List (Int × Int × Int)) : Bool := okTo zs zs.length && decide ((zs.length : Int) ≤ 10)
theorem starB_cases (zs : List (Int × Int × Int)) : starB zs = false ∨ (starB zs = true ∧ zs.length ≤ 10 ∧ ∀ k, k < zs.length → (-20 ≤ (tat zs k).1 ∧ (tat zs k).1 ≤ 20) ∧ (-20 ≤ (tat zs k).2.1 ∧ (tat zs k).2.1 ≤ 20) ∧ (1 ≤ (tat zs k).2.2 ∧ (tat zs k).2.2 ≤ 20)) := by
  cases h : starB zs
  · exact .inl rfl
  · simp only [starB, Bool.and_eq_true, decide_eq_true_eq] at h
    refine .inr ⟨rfl, by omega, fun k hk => ?_⟩
    have h1 := okTo_at _ h.1 hk
    simp only [okAt, Bool.and_eq_true] at h1
    have h2 := rayB_true.1 h1.1
    exact ⟨h2.1, h2.2.1, h2.2.2.2⟩

theorem stBefore_any (a b n c d m : Int) (w : World) :
    Calls Try.prog 54 #[.agg #[.int .i64 a, .int .i64 b, .int .i64 n], .agg #[.int .i64 c, .int .i64 d, .int .i64 m]] w fun r w' => r = .returned (.bool (befB a b c d)) ∧ Ext w w' := by
  go_enter Try.func54, Try.ntmps54
  go_wp2
  all_goals (
    go_ret
    exact ⟨ret_bool (by unfold befB; rw [Bool.eq_iff_iff]; simp; omega), (by repeat (first | exact Ext.refl _ | assumption | apply Ext.alloc | apply Ext.drew | apply Ext.drewN | (refine Ext.trans ?_ (by assumption)) | (refine Ext.setCell ?_ (by (try simp) <;> omega) _)))⟩)

theorem comparePoints_any (a b c d : Int) (a1 : -1000000000 ≤ a) (a2 : a ≤ 1000000000) (b1 : -1000000000 ≤ b) (b2 : b ≤ 1000000000) (c1 : -1000000000 ≤ c) (c2 : c ≤ 1000000000) (d1 : -1000000000 ≤ d) (d2 : d ≤ 1000000000) (w : World) :
    Calls Try.prog 39 #[.agg #[.int .i64 a, .int .i64 b], .agg #[.int .i64 c, .int .i64 d]] w fun r w' => r = .returned (.int .i64 (cmpI a b c d)) ∧ Ext w w' := by
  by_cases hac : a = c
  · subst hac
    go_enter Try.func39, Try.ntmps39
    go_wp2
    go_ret
    exact ⟨ret_int (by simp [cmpI]), (by repeat (first | exact Ext.refl _ | assumption | apply Ext.alloc | apply Ext.drew | apply Ext.drewN | (refine Ext.trans ?_ (by assumption)) | (refine Ext.setCell ?_ (by (try simp) <;> omega) _)))⟩
  · go_enter Try.func39, Try.ntmps39
    go_wp2
    go_ret
    exact ⟨ret_int (by simp [cmpI, hac]), (by repeat (first | exact Ext.refl _ | assumption | apply Ext.alloc | apply Ext.drew | apply Ext.drewN | (refine Ext.trans ?_ (by assumption)) | (refine Ext.setCell ?_ (by (try simp) <;> omega) _)))⟩

theorem compareRays_any (a b n c d m : Int) (a1 : -1000000000 ≤ a) (a2 : a ≤ 1000000000) (b1 : -1000000000 ≤ b) (b2 : b ≤ 1000000000) (c1 : -1000000000 ≤ c) (c2 : c ≤ 1000000000) (d1 : -1000000000 ≤ d) (d2 : d ≤ 1000000000) (w : World) :
    Calls Try.prog 72 #[.agg #[.int .i64 a, .int .i64 b, .int .i64 n], .agg #[.int .i64 c, .int .i64 d, .int .i64 m]] w fun r w' => r = .returned (.int .i64 (cmpI a b c d)) ∧ Ext w w' := by
  have HA := (Has.alloc (Has.new w #[.int .i64 a, .int .i64 b, .int .i64 n] 52) (.cells #[.int .i64 c, .int .i64 d, .int .i64 m] 52))
  have Ac0 := Ext.keeps (HA 0 _ rfl)
  have Ac1 := Ext.keeps (HA 1 _ rfl)
  have Ac2 := Ext.keeps (HA 2 _ rfl)
  clear HA
  have HB := (Has.new2 w (.cells #[.int .i64 a, .int .i64 b, .int .i64 n] 52) #[.int .i64 c, .int .i64 d, .int .i64 m] 52)
  have Bc0 := Ext.keeps (HB 0 _ rfl)
  have Bc1 := Ext.keeps (HB 1 _ rfl)
  have Bc2 := Ext.keeps (HB 2 _ rfl)
  clear HB
  have hE : Ext ((w.alloc (.cells #[.int .i64 a, .int .i64 b, .int .i64 n] 52)).alloc (.cells #[.int .i64 c, .int .i64 d, .int .i64 m] 52)) ((w.alloc (.cells #[.int .i64 a, .int .i64 b, .int .i64 n] 52)).alloc (.cells #[.int .i64 c, .int .i64 d, .int .i64 m] 52)) := Ext.refl _
  go_enter Try.func72, Try.ntmps72
  go_wp2
  have qA0 := fun s : Past ((w.alloc (.cells #[.int .i64 a, .int .i64 b, .int .i64 n] 52)).alloc (.cells #[.int .i64 c, .int .i64 d, .int .i64 m] 52)) => Ac0 s.w s.ext
  have qA1 := fun s : Past ((w.alloc (.cells #[.int .i64 a, .int .i64 b, .int .i64 n] 52)).alloc (.cells #[.int .i64 c, .int .i64 d, .int .i64 m] 52)) => Ac1 s.w s.ext
  have qA2 := fun s : Past ((w.alloc (.cells #[.int .i64 a, .int .i64 b, .int .i64 n] 52)).alloc (.cells #[.int .i64 c, .int .i64 d, .int .i64 m] 52)) => Ac2 s.w s.ext
  have qB0 := fun s : Past ((w.alloc (.cells #[.int .i64 a, .int .i64 b, .int .i64 n] 52)).alloc (.cells #[.int .i64 c, .int .i64 d, .int .i64 m] 52)) => Bc0 s.w s.ext
  have qB1 := fun s : Past ((w.alloc (.cells #[.int .i64 a, .int .i64 b, .int .i64 n] 52)).alloc (.cells #[.int .i64 c, .int .i64 d, .int .i64 m] 52)) => Bc1 s.w s.ext
  have qB2 := fun s : Past ((w.alloc (.cells #[.int .i64 a, .int .i64 b, .int .i64 n] 52)).alloc (.cells #[.int .i64 c, .int .i64 d, .int .i64 m] 52)) => Bc2 s.w s.ext
  refine wp_region_past ((w.alloc (.cells #[.int .i64 a, .int .i64 b, .int .i64 n] 52)).alloc (.cells #[.int .i64 c, .int .i64 d, .int .i64 m] 52)) (by first | exact hE | exact Ext.alloc hE _ | exact Ext.drew hE | exact Ext.drewN hE _) (by kernel_rfl) (by kernel_rfl) ?_
  repeat (go_big_quiet_step ((first | (go_at_call 88; exact past_ext (steps_any _ _ _ _)) | (go_at_call 39; exact past_ext (comparePoints_any _ _ _ _ (by omega) (by omega) (by omega) (by omega) (by omega) (by omega) (by omega) (by omega) _)))))
  refine wpQuiet_nil ?_
  intro _ hw'
  obtain ⟨⟨w1, hE⟩, hw''⟩ := hw'
  subst hw''
  clear qA0 qA1 qA2 qB0 qB1 qB2
  go_wp2
  go_ret
  exact ⟨rfl, (by repeat (first | exact Ext.refl _ | assumption | apply Ext.alloc | apply Ext.drew | apply Ext.drewN | (refine Ext.trans ?_ (by assumption)) | (refine Ext.setCell ?_ (by (try simp) <;> omega) _)))⟩

set_option maxHeartbeats 2000000 in
theorem isStar_any (a : Option Addr) (n c : Nat) (zs : List (Int × Int × Int)) (hn : n ≤ 1073741824) (w : World) (h : Reads w a 3 n (tv zs)) :
    Calls Try.prog 58 #[.slice a n c] w fun r w' => r = .returned (.bool (starB zs)) ∧ Ext w w' := by
  have hl : zs.length = n := by have := h.1; rw [tv_len] at this; omega
  have HS := Lib.hid (show starB zs = (okTo zs n && decide ((n : Int) ≤ 10)) by unfold starB; rw [hl])
  by_cases h10 : (n : Int) ≤ 10
  rotate_left
  · go_enter Try.func58, Try.ntmps58
    go_wp2
    go_ret
    exact ⟨ret_bool (by rw [HS.out]; simp [h10]), (by repeat (first | exact Ext.refl _ | assumption | apply Ext.alloc | apply Ext.drew | apply Ext.drewN | (refine Ext.trans ?_ (by assumption)) | (refine Ext.setCell ?_ (by (try simp) <;> omega) _)))⟩
  go_enter Try.func58, Try.ntmps58
  go_wp2
  go_loopw [10] (fun t wr => ∃ k : Nat, k ≤ n ∧ t = .int .i64 k ∧ okTo zs k = true ∧ Ext w wr) (fun t _ => n - (intOf t).toNat)
  case atStart => exact ⟨0, Nat.zero_le _, rfl, rfl, Ext.refl _⟩
  case round =>
    obtain ⟨k, hk, rfl, hok, hbr⟩ := hrel
    by_cases hlt : k < n
    · obtain ⟨b, off, rfl, hp0, hp1, hp2⟩ := (Reads.ext hbr h).tri hlt
      have HA := Lib.hid (show okAt zs k = (rayB (tat zs k).1 (tat zs k).2.1 (tat zs k).2.2 && (k == 0 || befB (tat zs (k - 1)).1 (tat zs (k - 1)).2.1 (tat zs k).1 (tat zs k).2.1)) from rfl)
      have HN := Lib.hid (fun he : okAt zs k = false => show starB zs = false by rw [HS.out, okTo_bad he n hlt]; rfl)
      have HY := Lib.hid (fun he : okAt zs k = true => show okTo zs (k + 1) = true by simp only [okTo]; rw [hok, he]; rfl)
      rcases Nat.eq_zero_or_pos k with hk0 | hkp
      · subst hk0
        simp only [Nat.zero_mul, Nat.add_zero] at hp0 hp1 hp2
        generalize (tat zs 0).1 = x at *
        generalize (tat zs 0).2.1 = y at *
        generalize (tat zs 0).2.2 = z at *
        clear h hl hok
        have hE : Ext wr wr := Ext.refl _
        have hT : Ext wr (wr.alloc (.cells #[.int .i64 x, .int .i64 y, .int .i64 z] 52)) := Ext.alloc hE _
        have HR := Has.new wr #[.int .i64 x, .int .i64 y, .int .i64 z] 52
        have Rc0 := Ext.keeps (HR 0 _ rfl)
        have Rc1 := Ext.keeps (HR 1 _ rfl)
        have Rc2 := Ext.keeps (HR 2 _ rfl)
        clear HR
        replace hE : Ext (wr.alloc (.cells #[.int .i64 x, .int .i64 y, .int .i64 z] 52)) (wr.alloc (.cells #[.int .i64 x, .int .i64 y, .int .i64 z] 52)) := Ext.refl _
        cases hr : rayB x y z
        · go_wp2
          have qR0 := fun s : Past (wr.alloc (.cells #[.int .i64 x, .int .i64 y, .int .i64 z] 52)) => Rc0 s.w s.ext
          have qR1 := fun s : Past (wr.alloc (.cells #[.int .i64 x, .int .i64 y, .int .i64 z] 52)) => Rc1 s.w s.ext
          have qR2 := fun s : Past (wr.alloc (.cells #[.int .i64 x, .int .i64 y, .int .i64 z] 52)) => Rc2 s.w s.ext
          refine wp_region_past (wr.alloc (.cells #[.int .i64 x, .int .i64 y, .int .i64 z] 52)) (by first | exact hE | exact Ext.alloc hE _ | exact Ext.drew hE | exact Ext.drewN hE _) (by kernel_rfl) (by kernel_rfl) ?_
          repeat (go_big_quiet_step ((first | (go_at_call 71; exact past_ext (isRay_any _ _ _ _)) | (go_at_call 72; exact past_ext (compareRays_any _ _ _ _ _ _ (by omega) (by omega) (by omega) (by omega) (by omega) (by omega) (by omega) (by omega) _)))))
          refine wpQuiet_nil ?_
          intro _ hw'
          obtain ⟨⟨w1, hE⟩, hw''⟩ := hw'
          subst hw''
          clear qR0 qR1 qR2
          go_wp2
          go_ret
          exact ⟨ret_bool (HN.out (by rw [HA.out, hr]; rfl)).symm, hbr.trans (by repeat (first | exact Ext.refl _ | assumption | apply Ext.alloc | apply Ext.drew | apply Ext.drewN | (refine Ext.trans ?_ (by assumption)) | (refine Ext.setCell ?_ (by (try simp) <;> omega) _)))⟩
        · go_wp2
          have qR0 := fun s : Past (wr.alloc (.cells #[.int .i64 x, .int .i64 y, .int .i64 z] 52)) => Rc0 s.w s.ext
          have qR1 := fun s : Past (wr.alloc (.cells #[.int .i64 x, .int .i64 y, .int .i64 z] 52)) => Rc1 s.w s.ext
          have qR2 := fun s : Past (wr.alloc (.cells #[.int .i64 x, .int .i64 y, .int .i64 z] 52)) => Rc2 s.w s.ext
          refine wp_region_past (wr.alloc (.cells #[.int .i64 x, .int .i64 y, .int .i64 z] 52)) (by first | exact hE | exact Ext.alloc hE _ | exact Ext.drew hE | exact Ext.drewN hE _) (by kernel_rfl) (by kernel_rfl) ?_
          repeat (go_big_quiet_step ((first | (go_at_call 71; exact past_ext (isRay_any _ _ _ _)) | (go_at_call 72; exact past_ext (compareRays_any _ _ _ _ _ _ (by omega) (by omega) (by omega) (by omega) (by omega) (by omega) (by omega) (by omega) _)))))
          refine wpQuiet_nil ?_
          intro _ hw'
          obtain ⟨⟨w1, hE⟩, hw''⟩ := hw'
          subst hw''
          clear qR0 qR1 qR2
          go_wp2
          go_roundw
          case rel => exact ⟨1, by omega, by go_num, HY.out (by rw [HA.out, hr]; rfl), hbr.trans (by repeat (first | exact Ext.refl _ | assumption | apply Ext.alloc | apply Ext.drew | apply Ext.drewN | (refine Ext.trans ?_ (by assumption)) | (refine Ext.setCell ?_ (by (try simp) <;> omega) _)))⟩
          case measure => simp [intOf]; omega
      · obtain ⟨b', off', hb', hq0, hq1, hq2⟩ := (Reads.ext hbr h).tri (k := k - 1) (by omega)
        simp only [Option.some.injEq, Addr.mk.injEq, and_true] at hb'
        obtain ⟨rfl, rfl⟩ := hb'
        have hprev := okTo_at (k := k - 1) _ hok (by omega)
        simp only [okAt, Bool.and_eq_true] at hprev
        have hpb := rayB_true.1 hprev.1
        have u1 := hpb.1
        have v1 := hpb.2.1
        clear hprev hpb
        have hd : decide ((0 : Int) < (k : Int)) = true := by simp; omega
        have hk0 : (k == 0) = false := by simp; omega
        have HK0 := Lib.hid hk0
        clear hk0
        generalize (tat zs k).1 = x at *
        generalize (tat zs k).2.1 = y at *
        generalize (tat zs k).2.2 = z at *
        generalize (tat zs (k - 1)).1 = u at *
        generalize (tat zs (k - 1)).2.1 = v at *
        generalize (tat zs (k - 1)).2.2 = q at *
        clear h hl hok
        have Pc0 := Ext.keeps hq0
        have Pc1 := Ext.keeps hq1
        have Pc2 := Ext.keeps hq2
        have hE : Ext wr wr := Ext.refl _
        have hT : Ext wr (wr.alloc (.cells #[.int .i64 x, .int .i64 y, .int .i64 z] 52)) := Ext.alloc hE _
        replace Pc0 := Ext.rebase hT Pc0
        replace Pc1 := Ext.rebase hT Pc1
        replace Pc2 := Ext.rebase hT Pc2
        have HR := Has.new wr #[.int .i64 x, .int .i64 y, .int .i64 z] 52
        have Rc0 := Ext.keeps (HR 0 _ rfl)
        have Rc1 := Ext.keeps (HR 1 _ rfl)
        have Rc2 := Ext.keeps (HR 2 _ rfl)
        clear HR
        replace hE : Ext (wr.alloc (.cells #[.int .i64 x, .int .i64 y, .int .i64 z] 52)) (wr.alloc (.cells #[.int .i64 x, .int .i64 y, .int .i64 z] 52)) := Ext.refl _
        rcases rayB_cases x y z with hr | ⟨hr, x1, y1, _⟩
        · go_wp2
          have qP0 := fun s : Past (wr.alloc (.cells #[.int .i64 x, .int .i64 y, .int .i64 z] 52)) => Pc0 s.w s.ext
          have qP1 := fun s : Past (wr.alloc (.cells #[.int .i64 x, .int .i64 y, .int .i64 z] 52)) => Pc1 s.w s.ext
          have qP2 := fun s : Past (wr.alloc (.cells #[.int .i64 x, .int .i64 y, .int .i64 z] 52)) => Pc2 s.w s.ext
          have qR0 := fun s : Past (wr.alloc (.cells #[.int .i64 x, .int .i64 y, .int .i64 z] 52)) => Rc0 s.w s.ext
          have qR1 := fun s : Past (wr.alloc (.cells #[.int .i64 x, .int .i64 y, .int .i64 z] 52)) => Rc1 s.w s.ext
          have qR2 := fun s : Past (wr.alloc (.cells #[.int .i64 x, .int .i64 y, .int .i64 z] 52)) => Rc2 s.w s.ext
          refine wp_region_past (wr.alloc (.cells #[.int .i64 x, .int .i64 y, .int .i64 z] 52)) (by first | exact hE | exact Ext.alloc hE _ | exact Ext.drew hE | exact Ext.drewN hE _) (by kernel_rfl) (by kernel_rfl) ?_
          repeat (go_big_quiet_step ((first | (go_at_call 71; exact past_ext (isRay_any _ _ _ _)) | (go_at_call 72; exact past_ext (compareRays_any _ _ _ _ _ _ (by omega) (by omega) (by omega) (by omega) (by omega) (by omega) (by omega) (by omega) _)))))
          refine wpQuiet_nil ?_
          intro _ hw'
          obtain ⟨⟨w1, hE⟩, hw''⟩ := hw'
          subst hw''
          clear qP0 qP1 qP2 qR0 qR1 qR2
          go_wp2
          go_ret
          exact ⟨ret_bool (HN.out (by rw [HA.out, hr]; rfl)).symm, hbr.trans (by repeat (first | exact Ext.refl _ | assumption | apply Ext.alloc | apply Ext.drew | apply Ext.drewN | (refine Ext.trans ?_ (by assumption)) | (refine Ext.setCell ?_ (by (try simp) <;> omega) _)))⟩
        · cases hB : befB u v x y
          · have hcm := cmpI_nonneg u v x y; rw [hB] at hcm
            have HB := Lib.hid hB
            clear hB
            go_wp2
            have qP0 := fun s : Past (wr.alloc (.cells #[.int .i64 x, .int .i64 y, .int .i64 z] 52)) => Pc0 s.w s.ext
            have qP1 := fun s : Past (wr.alloc (.cells #[.int .i64 x, .int .i64 y, .int .i64 z] 52)) => Pc1 s.w s.ext
            have qP2 := fun s : Past (wr.alloc (.cells #[.int .i64 x, .int .i64 y, .int .i64 z] 52)) => Pc2 s.w s.ext
            have qR0 := fun s : Past (wr.alloc (.cells #[.int .i64 x, .int .i64 y, .int .i64 z] 52)) => Rc0 s.w s.ext
            have qR1 := fun s : Past (wr.alloc (.cells #[.int .i64 x, .int .i64 y, .int .i64 z] 52)) => Rc1 s.w s.ext
            have qR2 := fun s : Past (wr.alloc (.cells #[.int .i64 x, .int .i64 y, .int .i64 z] 52)) => Rc2 s.w s.ext
            refine wp_region_past (wr.alloc (.cells #[.int .i64 x, .int .i64 y, .int .i64 z] 52)) (by first | exact hE | exact Ext.alloc hE _ | exact Ext.drew hE | exact Ext.drewN hE _) (by kernel_rfl) (by kernel_rfl) ?_
            repeat (go_big_quiet_step ((first | (go_at_call 71; exact past_ext (isRay_any _ _ _ _)) | (go_at_call 72; exact past_ext (compareRays_any _ _ _ _ _ _ (by omega) (by omega) (by omega) (by omega) (by omega) (by omega) (by omega) (by omega) _)))))
            refine wpQuiet_nil ?_
            intro _ hw'
            obtain ⟨⟨w1, hE⟩, hw''⟩ := hw'
            subst hw''
            clear qP0 qP1 qP2 qR0 qR1 qR2
            go_wp2
            go_ret
            exact ⟨ret_bool (HN.out (by rw [HA.out, hr, HK0.out, HB.out]; rfl)).symm, hbr.trans (by repeat (first | exact Ext.refl _ | assumption | apply Ext.alloc | apply Ext.drew | apply Ext.drewN | (refine Ext.trans ?_ (by assumption)) | (refine Ext.setCell ?_ (by (try simp) <;> omega) _)))⟩
          · have hcm := cmpI_nonneg u v x y; rw [hB] at hcm
            have HB := Lib.hid hB
            clear hB
            go_wp2
            have qP0 := fun s : Past (wr.alloc (.cells #[.int .i64 x, .int .i64 y, .int .i64 z] 52)) => Pc0 s.w s.ext
            have qP1 := fun s : Past (wr.alloc (.cells #[.int .i64 x, .int .i64 y, .int .i64 z] 52)) => Pc1 s.w s.ext
            have qP2 := fun s : Past (wr.alloc (.cells #[.int .i64 x, .int .i64 y, .int .i64 z] 52)) => Pc2 s.w s.ext
            have qR0 := fun s : Past (wr.alloc (.cells #[.int .i64 x, .int .i64 y, .int .i64 z] 52)) => Rc0 s.w s.ext
            have qR1 := fun s : Past (wr.alloc (.cells #[.int .i64 x, .int .i64 y, .int .i64 z] 52)) => Rc1 s.w s.ext
            have qR2 := fun s : Past (wr.alloc (.cells #[.int .i64 x, .int .i64 y, .int .i64 z] 52)) => Rc2 s.w s.ext
            refine wp_region_past (wr.alloc (.cells #[.int .i64 x, .int .i64 y, .int .i64 z] 52)) (by first | exact hE | exact Ext.alloc hE _ | exact Ext.drew hE | exact Ext.drewN hE _) (by kernel_rfl) (by kernel_rfl) ?_
            repeat (go_big_quiet_step ((first | (go_at_call 71; exact past_ext (isRay_any _ _ _ _)) | (go_at_call 72; exact past_ext (compareRays_any _ _ _ _ _ _ (by omega) (by omega) (by omega) (by omega) (by omega) (by omega) (by omega) (by omega) _)))))
            refine wpQuiet_nil ?_
            intro _ hw'
            obtain ⟨⟨w1, hE⟩, hw''⟩ := hw'
            subst hw''
            clear qP0 qP1 qP2 qR0 qR1 qR2
            go_wp2
            go_roundw
            case rel => exact ⟨k + 1, by omega, by go_num, HY.out (by rw [HA.out, hr, HK0.out, HB.out]; rfl), hbr.trans (by repeat (first | exact Ext.refl _ | assumption | apply Ext.alloc | apply Ext.drew | apply Ext.drewN | (refine Ext.trans ?_ (by assumption)) | (refine Ext.setCell ?_ (by (try simp) <;> omega) _)))⟩
            case measure => simp [intOf]; omega
    · have hkn : Hid (okTo zs n = true) := by show okTo zs n = true; rw [show n = k by omega]; exact hok
      clear hok
      go_wp2
      go_ret
      exact ⟨ret_bool (by rw [HS.out, hkn.out]; simp [h10]), hbr⟩

set_option maxHeartbeats 2000000 in
theorem stGood_any (a : Option Addr) (n c : Nat) (zs : List (Int × Int × Int)) (hn : n ≤ 1073741824) (w : World) (h : Reads w a 3 n (tv zs)) :
    Calls Try.prog 26 #[.slice a n c] w fun r w' => r = .returned (.bool (starB zs)) ∧ Ext w w' := by
  have hl : zs.length = n := by have := h.1; rw [tv_len] at this; omega
  have HS := Lib.hid (show starB zs = (okTo zs n && decide ((n : Int) ≤ 10)) by unfold starB; rw [hl])
  go_enter Try.func26, Try.ntmps26
  go_wp2
  go_loopw [7] (fun t wr => ∃ k : Nat, k ≤ n ∧ t = .int .i64 k ∧ okTo zs k = true ∧ Ext w wr) (fun t _ => n - (intOf t).toNat)
  case atStart => exact ⟨0, Nat.zero_le _, rfl, rfl, Ext.refl _⟩
  case round =>
    obtain ⟨k, hk, rfl, hok, hbr⟩ := hrel
    by_cases hlt : k < n
    · obtain ⟨b, off, rfl, hp0, hp1, hp2⟩ := (Reads.ext hbr h).tri hlt
      have HA := Lib.hid (show okAt zs k = (rayB (tat zs k).1 (tat zs k).2.1 (tat zs k).2.2 && (k == 0 || befB (tat zs (k - 1)).1 (tat zs (k - 1)).2.1 (tat zs k).1 (tat zs k).2.1)) from rfl)
      have HN := Lib.hid (fun he : okAt zs k = false => show starB zs = false by rw [HS.out, okTo_bad he n hlt]; rfl)
      have HY := Lib.hid (fun he : okAt zs k = true => show okTo zs (k + 1) = true by simp only [okTo]; rw [hok, he]; rfl)
      rcases Nat.eq_zero_or_pos k with hk0 | hkp
      · subst hk0
        simp only [Nat.zero_mul, Nat.add_zero] at hp0 hp1 hp2
        generalize (tat zs 0).1 = x at *
        generalize (tat zs 0).2.1 = y at *
        generalize (tat zs 0).2.2 = z at *
        clear h hl hok
        have hE : Ext wr wr := Ext.refl _
        have hT : Ext wr (wr.alloc (.cells #[.int .i64 x, .int .i64 y, .int .i64 z] 52)) := Ext.alloc hE _
        have HR := Has.new wr #[.int .i64 x, .int .i64 y, .int .i64 z] 52
        have Rc0 := Ext.keeps (HR 0 _ rfl)
        have Rc1 := Ext.keeps (HR 1 _ rfl)
        have Rc2 := Ext.keeps (HR 2 _ rfl)
        clear HR
        replace hE : Ext (wr.alloc (.cells #[.int .i64 x, .int .i64 y, .int .i64 z] 52)) (wr.alloc (.cells #[.int .i64 x, .int .i64 y, .int .i64 z] 52)) := Ext.refl _
        cases hr : rayB x y z
        · go_wp2
          have qR0 := fun s : Past (wr.alloc (.cells #[.int .i64 x, .int .i64 y, .int .i64 z] 52)) => Rc0 s.w s.ext
          have qR1 := fun s : Past (wr.alloc (.cells #[.int .i64 x, .int .i64 y, .int .i64 z] 52)) => Rc1 s.w s.ext
          have qR2 := fun s : Past (wr.alloc (.cells #[.int .i64 x, .int .i64 y, .int .i64 z] 52)) => Rc2 s.w s.ext
          refine wp_region_past (wr.alloc (.cells #[.int .i64 x, .int .i64 y, .int .i64 z] 52)) (by first | exact hE | exact Ext.alloc hE _ | exact Ext.drew hE | exact Ext.drewN hE _) (by kernel_rfl) (by kernel_rfl) ?_
          repeat (go_big_quiet_step ((first | (go_at_call 53; exact past_ext (stRay_any _ _ _ _)) | (go_at_call 54; exact past_ext (stBefore_any _ _ _ _ _ _ _)))))
          refine wpQuiet_nil ?_
          intro _ hw'
          obtain ⟨⟨w1, hE⟩, hw''⟩ := hw'
          subst hw''
          clear qR0 qR1 qR2
          go_wp2
          go_ret
          exact ⟨ret_bool (HN.out (by rw [HA.out, hr]; rfl)).symm, hbr.trans (by repeat (first | exact Ext.refl _ | assumption | apply Ext.alloc | apply Ext.drew | apply Ext.drewN | (refine Ext.trans ?_ (by assumption)) | (refine Ext.setCell ?_ (by (try simp) <;> omega) _)))⟩
        · go_wp2
          have qR0 := fun s : Past (wr.alloc (.cells #[.int .i64 x, .int .i64 y, .int .i64 z] 52)) => Rc0 s.w s.ext
          have qR1 := fun s : Past (wr.alloc (.cells #[.int .i64 x, .int .i64 y, .int .i64 z] 52)) => Rc1 s.w s.ext
          have qR2 := fun s : Past (wr.alloc (.cells #[.int .i64 x, .int .i64 y, .int .i64 z] 52)) => Rc2 s.w s.ext
          refine wp_region_past (wr.alloc (.cells #[.int .i64 x, .int .i64 y, .int .i64 z] 52)) (by first | exact hE | exact Ext.alloc hE _ | exact Ext.drew hE | exact Ext.drewN hE _) (by kernel_rfl) (by kernel_rfl) ?_
          repeat (go_big_quiet_step ((first | (go_at_call 53; exact past_ext (stRay_any _ _ _ _)) | (go_at_call 54; exact past_ext (stBefore_any _ _ _ _ _ _ _)))))
          refine wpQuiet_nil ?_
          intro _ hw'
          obtain ⟨⟨w1, hE⟩, hw''⟩ := hw'
          subst hw''
          clear qR0 qR1 qR2
          go_wp2
          go_roundw
          case rel => exact ⟨1, by omega, by go_num, HY.out (by rw [HA.out, hr]; rfl), hbr.trans (by repeat (first | exact Ext.refl _ | assumption | apply Ext.alloc | apply Ext.drew | apply Ext.drewN | (refine Ext.trans ?_ (by assumption)) | (refine Ext.setCell ?_ (by (try simp) <;> omega) _)))⟩
          case measure => simp [intOf]; omega
      · obtain ⟨b', off', hb', hq0, hq1, hq2⟩ := (Reads.ext hbr h).tri (k := k - 1) (by omega)
        simp only [Option.some.injEq, Addr.mk.injEq, and_true] at hb'
        obtain ⟨rfl, rfl⟩ := hb'
        have hprev := okTo_at (k := k - 1) _ hok (by omega)
        simp only [okAt, Bool.and_eq_true] at hprev
        have hpb := rayB_true.1 hprev.1
        have u1 := hpb.1
        have v1 := hpb.2.1
        clear hprev hpb
        have hd : decide ((0 : Int) < (k : Int)) = true := by simp; omega
        have hk0 : (k == 0) = false := by simp; omega
        have HK0 := Lib.hid hk0
        clear hk0
        generalize (tat zs k).1 = x at *
        generalize (tat zs k).2.1 = y at *
        generalize (tat zs k).2.2 = z at *
        generalize (tat zs (k - 1)).1 = u at *
        generalize (tat zs (k - 1)).2.1 = v at *
        generalize (tat zs (k - 1)).2.2 = q at *
        clear h hl hok
        have Pc0 := Ext.keeps hq0
        have Pc1 := Ext.keeps hq1
        have Pc2 := Ext.keeps hq2
        have hE : Ext wr wr := Ext.refl _
        have hT : Ext wr (wr.alloc (.cells #[.int .i64 x, .int .i64 y, .int .i64 z] 52)) := Ext.alloc hE _
        replace Pc0 := Ext.rebase hT Pc0
        replace Pc1 := Ext.rebase hT Pc1
        replace Pc2 := Ext.rebase hT Pc2
        have HR := Has.new wr #[.int .i64 x, .int .i64 y, .int .i64 z] 52
        have Rc0 := Ext.keeps (HR 0 _ rfl)
        have Rc1 := Ext.keeps (HR 1 _ rfl)
        have Rc2 := Ext.keeps (HR 2 _ rfl)
        clear HR
        replace hE : Ext (wr.alloc (.cells #[.int .i64 x, .int .i64 y, .int .i64 z] 52)) (wr.alloc (.cells #[.int .i64 x, .int .i64 y, .int .i64 z] 52)) := Ext.refl _
        rcases rayB_cases x y z with hr | ⟨hr, x1, y1, _⟩
        · go_wp2
          have qP0 := fun s : Past (wr.alloc (.cells #[.int .i64 x, .int .i64 y, .int .i64 z] 52)) => Pc0 s.w s.ext
          have qP1 := fun s : Past (wr.alloc (.cells #[.int .i64 x, .int .i64 y, .int .i64 z] 52)) => Pc1 s.w s.ext
          have qP2 := fun s : Past (wr.alloc (.cells #[.int .i64 x, .int .i64 y, .int .i64 z] 52)) => Pc2 s.w s.ext
          have qR0 := fun s : Past (wr.alloc (.cells #[.int .i64 x, .int .i64 y, .int .i64 z] 52)) => Rc0 s.w s.ext
          have qR1 := fun s : Past (wr.alloc (.cells #[.int .i64 x, .int .i64 y, .int .i64 z] 52)) => Rc1 s.w s.ext
          have qR2 := fun s : Past (wr.alloc (.cells #[.int .i64 x, .int .i64 y, .int .i64 z] 52)) => Rc2 s.w s.ext
          refine wp_region_past (wr.alloc (.cells #[.int .i64 x, .int .i64 y, .int .i64 z] 52)) (by first | exact hE | exact Ext.alloc hE _ | exact Ext.drew hE | exact Ext.drewN hE _) (by kernel_rfl) (by kernel_rfl) ?_
          repeat (go_big_quiet_step ((first | (go_at_call 53; exact past_ext (stRay_any _ _ _ _)) | (go_at_call 54; exact past_ext (stBefore_any _ _ _ _ _ _ _)))))
          refine wpQuiet_nil ?_
          intro _ hw'
          obtain ⟨⟨w1, hE⟩, hw''⟩ := hw'
          subst hw''
          clear qP0 qP1 qP2 qR0 qR1 qR2
          go_wp2
          go_ret
          exact ⟨ret_bool (HN.out (by rw [HA.out, hr]; rfl)).symm, hbr.trans (by repeat (first | exact Ext.refl _ | assumption | apply Ext.alloc | apply Ext.drew | apply Ext.drewN | (refine Ext.trans ?_ (by assumption)) | (refine Ext.setCell ?_ (by (try simp) <;> omega) _)))⟩
        · cases hB : befB u v x y
          · have hcm := hB
            have HB := Lib.hid hB
            clear hB
            go_wp2
            have qP0 := fun s : Past (wr.alloc (.cells #[.int .i64 x, .int .i64 y, .int .i64 z] 52)) => Pc0 s.w s.ext
            have qP1 := fun s : Past (wr.alloc (.cells #[.int .i64 x, .int .i64 y, .int .i64 z] 52)) => Pc1 s.w s.ext
            have qP2 := fun s : Past (wr.alloc (.cells #[.int .i64 x, .int .i64 y, .int .i64 z] 52)) => Pc2 s.w s.ext
            have qR0 := fun s : Past (wr.alloc (.cells #[.int .i64 x, .int .i64 y, .int .i64 z] 52)) => Rc0 s.w s.ext
            have qR1 := fun s : Past (wr.alloc (.cells #[.int .i64 x, .int .i64 y, .int .i64 z] 52)) => Rc1 s.w s.ext
            have qR2 := fun s : Past (wr.alloc (.cells #[.int .i64 x, .int .i64 y, .int .i64 z] 52)) => Rc2 s.w s.ext
            refine wp_region_past (wr.alloc (.cells #[.int .i64 x, .int .i64 y, .int .i64 z] 52)) (by first | exact hE | exact Ext.alloc hE _ | exact Ext.drew hE | exact Ext.drewN hE _) (by kernel_rfl) (by kernel_rfl) ?_
            repeat (go_big_quiet_step ((first | (go_at_call 53; exact past_ext (stRay_any _ _ _ _)) | (go_at_call 54; exact past_ext (stBefore_any _ _ _ _ _ _ _)))))
            refine wpQuiet_nil ?_
            intro _ hw'
            obtain ⟨⟨w1, hE⟩, hw''⟩ := hw'
            subst hw''
            clear qP0 qP1 qP2 qR0 qR1 qR2
            go_wp2
            go_ret
            exact ⟨ret_bool (HN.out (by rw [HA.out, hr, HK0.out, HB.out]; rfl)).symm, hbr.trans (by repeat (first | exact Ext.refl _ | assumption | apply Ext.alloc | apply Ext.drew | apply Ext.drewN | (refine Ext.trans ?_ (by assumption)) | (refine Ext.setCell ?_ (by (try simp) <;> omega) _)))⟩
          · have hcm := hB
            have HB := Lib.hid hB
            clear hB
            go_wp2
            have qP0 := fun s : Past (wr.alloc (.cells #[.int .i64 x, .int .i64 y, .int .i64 z] 52)) => Pc0 s.w s.ext
            have qP1 := fun s : Past (wr.alloc (.cells #[.int .i64 x, .int .i64 y, .int .i64 z] 52)) => Pc1 s.w s.ext
            have qP2 := fun s : Past (wr.alloc (.cells #[.int .i64 x, .int .i64 y, .int .i64 z] 52)) => Pc2 s.w s.ext
            have qR0 := fun s : Past (wr.alloc (.cells #[.int .i64 x, .int .i64 y, .int .i64 z] 52)) => Rc0 s.w s.ext
            have qR1 := fun s : Past (wr.alloc (.cells #[.int .i64 x, .int .i64 y, .int .i64 z] 52)) => Rc1 s.w s.ext
            have qR2 := fun s : Past (wr.alloc (.cells #[.int .i64 x, .int .i64 y, .int .i64 z] 52)) => Rc2 s.w s.ext
            refine wp_region_past (wr.alloc (.cells #[.int .i64 x, .int .i64 y, .int .i64 z] 52)) (by first | exact hE | exact Ext.alloc hE _ | exact Ext.drew hE | exact Ext.drewN hE _) (by kernel_rfl) (by kernel_rfl) ?_
            repeat (go_big_quiet_step ((first | (go_at_call 53; exact past_ext (stRay_any _ _ _ _)) | (go_at_call 54; exact past_ext (stBefore_any _ _ _ _ _ _ _)))))
            refine wpQuiet_nil ?_
            intro _ hw'
            obtain ⟨⟨w1, hE⟩, hw''⟩ := hw'
            subst hw''
            clear qP0 qP1 qP2 qR0 qR1 qR2
            go_wp2
            go_roundw
            case rel => exact ⟨k + 1, by omega, by go_num, HY.out (by rw [HA.out, hr, HK0.out, HB.out]; rfl), hbr.trans (by repeat (first | exact Ext.refl _ | assumption | apply Ext.alloc | apply Ext.drew | apply Ext.drewN | (refine Ext.trans ?_ (by assumption)) | (refine Ext.setCell ?_ (by (try simp) <;> omega) _)))⟩
            case measure => simp [intOf]; omega
    · have hkn : Hid (okTo zs n = true) := by show okTo zs n = true; rw [show n = k by omega]; exact hok
      clear hok
      go_wp2
      go_ret
      exact ⟨ret_bool (by rw [HS.out, hkn.out]; simp), hbr⟩

end Go.Proofs.Ytaloegjcdllgoaa
