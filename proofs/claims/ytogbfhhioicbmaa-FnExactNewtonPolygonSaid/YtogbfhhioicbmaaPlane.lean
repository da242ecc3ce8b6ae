/-
  What a plane polynomial is: both sides' walks.
-/
import Derived.Test.YtogbfhhioicbmaaTri
import Derived.Test.YtogbfhhioicbmaaTerms
import Derived.Test.YtogbfhhioicbmaaStar
import Derived.Test.YtogbfhhioicbmaaPoly
namespace Go.Proofs.Ytogbfhhioicbmaa
open Go.RowKit

/-- A valid term; the order of two terms; a plane polynomial. -/
def termB (i j c : Int) : Bool := inB i 0 6 && inB j 0 (6 - i) && finB c
def tbefB (i j x y : Int) : Bool := decide (i < x) || (decide (i = x) && decide (j < y))
def tstepB (zs : List (Int × Int × Int)) (k : Nat) : Bool := termB (tat zs k).1 (tat zs k).2.1 (tat zs k).2.2 && (k == 0 || tbefB (tat zs (k - 1)).1 (tat zs (k - 1)).2.1 (tat zs k).1 (tat zs k).2.1)
def plTo (zs : List (Int × Int × Int)) : Nat → Bool
  | 0 => true
  | k + 1 => plTo zs k && tstepB zs k
def planeB (zs : List (Int × Int × Int)) : Bool := inB (zs.length : Int) 1 12 && plTo zs zs.length
theorem plTo_mono {zs : List (Int × Int × Int)} : ∀ {m k : Nat}, k ≤ m → plTo zs m = true → plTo zs k = true
  | 0, k, h, _ => by obtain rfl : k = 0 := by omega
                     rfl
  | m + 1, k, h, hm => by
    rcases Nat.lt_or_ge m k with h1 | h1
    · obtain rfl : k = m + 1 := by omega
      exact hm
    · simp only [plTo, Bool.and_eq_true] at hm
      exact plTo_mono h1 hm.1
theorem plTo_bad {zs : List (Int × Int × Int)} {k n : Nat} (hk : k < n) (h : tstepB zs k = false) : plTo zs n = false := by
  cases hp : plTo zs n
  · rfl
  · have := plTo_mono (k := k + 1) (by omega) hp
    simp [plTo, h] at this
theorem termB_true {i j c : Int} : termB i j c = true ↔ (0 ≤ i ∧ i ≤ 6) ∧ (0 ≤ j ∧ j ≤ 6 - i) ∧ finB c = true := by simp [termB, inB_true, and_assoc]
theorem plane_step {zs : List (Int × Int × Int)} (h : planeB zs = true) : 1 ≤ zs.length ∧ zs.length ≤ 12 ∧ ∀ k, k < zs.length → tstepB zs k = true := by
  simp only [planeB, Bool.and_eq_true, inB_true] at h
  refine ⟨by omega, by omega, fun k hk => ?_⟩
  have := plTo_mono (k := k + 1) (by omega) h.2
  simp only [plTo, Bool.and_eq_true] at this
  exact this.2
theorem plane_term {zs : List (Int × Int × Int)} (h : planeB zs = true) {k : Nat} (hk : k < zs.length) : termB (tat zs k).1 (tat zs k).2.1 (tat zs k).2.2 = true := by
  have := (plane_step h).2.2 k hk
  simp only [tstepB, Bool.and_eq_true] at this
  exact this.1

theorem plTerm_any (i j c : Int) (w : World) :
    Calls Try.prog 96 #[.agg #[.int .i64 i, .int .i64 j, .int .i64 c]] w fun r w' => r = .returned (.bool (termB i j c)) ∧ Ext w w' := by
  have HA := (Has.new w #[.int .i64 i, .int .i64 j, .int .i64 c] 71)
  have Ac0 := Ext.keeps (HA 0 _ rfl)
  have Ac1 := Ext.keeps (HA 1 _ rfl)
  have Ac2 := Ext.keeps (HA 2 _ rfl)
  clear HA
  have hE : Ext (w.alloc (.cells #[.int .i64 i, .int .i64 j, .int .i64 c] 71)) (w.alloc (.cells #[.int .i64 i, .int .i64 j, .int .i64 c] 71)) := Ext.refl _
  have HF := Lib.hid (show termB i j c = (inB i 0 6 && inB j 0 (6 - i) && finB c) from rfl)
  cases h1 : inB i 0 6
  · go_enter Try.func96, Try.ntmps96
    go_wp2_with ((go_at_call 88; refine (l1In_any _ _ _ _).mono ?_; rintro e _ ⟨rfl, rfl⟩))
    go_ret
    exact ⟨ret_bool (by rw [HF.out, h1]; simp), (by repeat (first | exact Ext.refl _ | assumption | apply Ext.alloc | apply Ext.drew | apply Ext.drewN | (refine Ext.trans ?_ (by assumption)) | (refine Ext.setCell ?_ (by (try simp) <;> omega) _)))⟩
  · have b1 := inB_true.1 h1
    have e1 : IntKind.i64.wrap (6 - i) = 6 - i := wrap_i64 (by omega) (by omega)
    cases h2 : inB j 0 (6 - i)
    · go_enter Try.func96, Try.ntmps96
      go_wp2_with ((go_at_call 88; refine (l1In_any _ _ _ _).mono ?_; rintro e _ ⟨rfl, rfl⟩))
      go_ret
      exact ⟨ret_bool (by rw [HF.out, h1, h2]; simp), (by repeat (first | exact Ext.refl _ | assumption | apply Ext.alloc | apply Ext.drew | apply Ext.drewN | (refine Ext.trans ?_ (by assumption)) | (refine Ext.setCell ?_ (by (try simp) <;> omega) _)))⟩
    · go_enter Try.func96, Try.ntmps96
      go_wp2_with (first | (go_at_call 88; refine (l1In_any _ _ _ _).mono ?_; rintro e _ ⟨rfl, rfl⟩) | (go_at_call 133; refine (poFinite_any _ _).mono ?_; rintro e _ ⟨rfl, rfl⟩))
      go_ret
      exact ⟨ret_bool (by rw [HF.out, h1, h2]; simp), (by repeat (first | exact Ext.refl _ | assumption | apply Ext.alloc | apply Ext.drew | apply Ext.drewN | (refine Ext.trans ?_ (by assumption)) | (refine Ext.setCell ?_ (by (try simp) <;> omega) _)))⟩

theorem plBefore_any (i j c x y z : Int) (w : World) :
    Calls Try.prog 97 #[.agg #[.int .i64 i, .int .i64 j, .int .i64 c], .agg #[.int .i64 x, .int .i64 y, .int .i64 z]] w fun r w' => r = .returned (.bool (tbefB i j x y)) ∧ Ext w w' := by
  have HA := (Has.alloc (Has.new w #[.int .i64 i, .int .i64 j, .int .i64 c] 71) (.cells #[.int .i64 x, .int .i64 y, .int .i64 z] 71))
  have Ac0 := Ext.keeps (HA 0 _ rfl)
  have Ac1 := Ext.keeps (HA 1 _ rfl)
  have Ac2 := Ext.keeps (HA 2 _ rfl)
  clear HA
  have HB := (Has.new2 w (.cells #[.int .i64 i, .int .i64 j, .int .i64 c] 71) #[.int .i64 x, .int .i64 y, .int .i64 z] 71)
  have Bc0 := Ext.keeps (HB 0 _ rfl)
  have Bc1 := Ext.keeps (HB 1 _ rfl)
  have Bc2 := Ext.keeps (HB 2 _ rfl)
  clear HB
  have hE : Ext ((w.alloc (.cells #[.int .i64 i, .int .i64 j, .int .i64 c] 71)).alloc (.cells #[.int .i64 x, .int .i64 y, .int .i64 z] 71)) ((w.alloc (.cells #[.int .i64 i, .int .i64 j, .int .i64 c] 71)).alloc (.cells #[.int .i64 x, .int .i64 y, .int .i64 z] 71)) := Ext.refl _
  have HF := Lib.hid (show tbefB i j x y = (decide (i < x) || (decide (i = x) && decide (j < y))) from rfl)
  by_cases h1 : i < x
  · go_enter Try.func97, Try.ntmps97
    go_wp2
    go_ret
    exact ⟨ret_bool (by rw [HF.out]; simp [h1]), (by repeat (first | exact Ext.refl _ | assumption | apply Ext.alloc | apply Ext.drew | apply Ext.drewN | (refine Ext.trans ?_ (by assumption)) | (refine Ext.setCell ?_ (by (try simp) <;> omega) _)))⟩
  · by_cases h2 : i = x
    · subst h2
      go_enter Try.func97, Try.ntmps97
      go_wp2
      go_ret
      exact ⟨ret_bool (by rw [HF.out]; simp), (by repeat (first | exact Ext.refl _ | assumption | apply Ext.alloc | apply Ext.drew | apply Ext.drewN | (refine Ext.trans ?_ (by assumption)) | (refine Ext.setCell ?_ (by (try simp) <;> omega) _)))⟩
    · go_enter Try.func97, Try.ntmps97
      go_wp2
      go_ret
      exact ⟨ret_bool (by rw [HF.out]; simp [h1, h2]), (by repeat (first | exact Ext.refl _ | assumption | apply Ext.alloc | apply Ext.drew | apply Ext.drewN | (refine Ext.trans ?_ (by assumption)) | (refine Ext.setCell ?_ (by (try simp) <;> omega) _)))⟩

theorem compareTerms_any (i j c x y z : Int) (hi : 0 ≤ i ∧ i ≤ 6) (hj : 0 ≤ j ∧ j ≤ 6) (hx : 0 ≤ x ∧ x ≤ 6) (hy : 0 ≤ y ∧ y ≤ 6) (w : World) :
    Calls Try.prog 104 #[.agg #[.int .i64 i, .int .i64 j, .int .i64 c], .agg #[.int .i64 x, .int .i64 y, .int .i64 z]] w fun r w' => r = .returned (.int .i64 (if i = x then j - y else i - x)) ∧ Ext w w' := by
  have HA := (Has.alloc (Has.new w #[.int .i64 i, .int .i64 j, .int .i64 c] 71) (.cells #[.int .i64 x, .int .i64 y, .int .i64 z] 71))
  have Ac0 := Ext.keeps (HA 0 _ rfl)
  have Ac1 := Ext.keeps (HA 1 _ rfl)
  have Ac2 := Ext.keeps (HA 2 _ rfl)
  clear HA
  have HB := (Has.new2 w (.cells #[.int .i64 i, .int .i64 j, .int .i64 c] 71) #[.int .i64 x, .int .i64 y, .int .i64 z] 71)
  have Bc0 := Ext.keeps (HB 0 _ rfl)
  have Bc1 := Ext.keeps (HB 1 _ rfl)
  have Bc2 := Ext.keeps (HB 2 _ rfl)
  clear HB
  have hE : Ext ((w.alloc (.cells #[.int .i64 i, .int .i64 j, .int .i64 c] 71)).alloc (.cells #[.int .i64 x, .int .i64 y, .int .i64 z] 71)) ((w.alloc (.cells #[.int .i64 i, .int .i64 j, .int .i64 c] 71)).alloc (.cells #[.int .i64 x, .int .i64 y, .int .i64 z] 71)) := Ext.refl _
  have e1 : IntKind.i64.wrap (i - x) = i - x := wrap_i64 (by omega) (by omega)
  have e2 : IntKind.i64.wrap (j - y) = j - y := wrap_i64 (by omega) (by omega)
  by_cases h : i = x
  · rw [if_pos h]
    subst h
    go_enter Try.func104, Try.ntmps104
    go_wp2
    go_ret
    exact ⟨ret_int rfl, (by repeat (first | exact Ext.refl _ | assumption | apply Ext.alloc | apply Ext.drew | apply Ext.drewN | (refine Ext.trans ?_ (by assumption)) | (refine Ext.setCell ?_ (by (try simp) <;> omega) _)))⟩
  · rw [if_neg h]
    go_enter Try.func104, Try.ntmps104
    go_wp2
    go_ret
    exact ⟨ret_int rfl, (by repeat (first | exact Ext.refl _ | assumption | apply Ext.alloc | apply Ext.drew | apply Ext.drewN | (refine Ext.trans ?_ (by assumption)) | (refine Ext.setCell ?_ (by (try simp) <;> omega) _)))⟩

theorem termB_no {i j c : Int} (h : termB i j c = false) : i < 0 ∨ (0 ≤ i ∧ j < 0) ∨ (0 ≤ i ∧ 0 ≤ j ∧ 6 < i) ∨ (0 ≤ i ∧ i ≤ 6 ∧ 0 ≤ j ∧ 6 < j) ∨ (0 ≤ i ∧ i ≤ 6 ∧ 0 ≤ j ∧ j ≤ 6 ∧ 6 < i + j) ∨ (0 ≤ i ∧ i ≤ 6 ∧ 0 ≤ j ∧ j ≤ 6 ∧ i + j ≤ 6 ∧ finB c = false) := by
  have h6 : i < 0 ∨ (0 ≤ i ∧ j < 0) ∨ (0 ≤ i ∧ 0 ≤ j ∧ 6 < i) ∨ (0 ≤ i ∧ i ≤ 6 ∧ 0 ≤ j ∧ 6 < j) ∨ (0 ≤ i ∧ i ≤ 6 ∧ 0 ≤ j ∧ j ≤ 6 ∧ 6 < i + j) ∨ (0 ≤ i ∧ i ≤ 6 ∧ 0 ≤ j ∧ j ≤ 6 ∧ i + j ≤ 6) := by omega
  rcases h6 with h1 | h1 | h1 | h1 | h1 | h1
  · exact .inl h1
  · exact .inr (.inl h1)
  · exact .inr (.inr (.inl h1))
  · exact .inr (.inr (.inr (.inl h1)))
  · exact .inr (.inr (.inr (.inr (.inl h1))))
  · refine .inr (.inr (.inr (.inr (.inr ⟨h1.1, h1.2.1, h1.2.2.1, h1.2.2.2.1, h1.2.2.2.2, ?_⟩))))
    cases hf : finB c
    · rfl
    · have := termB_true.2 ⟨⟨h1.1, h1.2.1⟩, ⟨h1.2.2.1, by omega⟩, hf⟩
      rw [h] at this
      cases this
def cmpT (i j x y : Int) : Int := if i = x then j - y else i - x
theorem cmpT_bef {i j x y : Int} (h : tbefB i j x y = true) : cmpT i j x y < 0 := by
  simp only [tbefB, Bool.or_eq_true, Bool.and_eq_true, decide_eq_true_eq] at h
  unfold cmpT
  split <;> omega
theorem cmpT_not {i j x y : Int} (h : tbefB i j x y = false) : 0 ≤ cmpT i j x y := by
  have hn : ¬ (i < x ∨ (i = x ∧ j < y)) := fun hh => by
    have : tbefB i j x y = true := by simp only [tbefB, Bool.or_eq_true, Bool.and_eq_true, decide_eq_true_eq]; exact hh
    rw [h] at this
    cases this
  unfold cmpT
  split <;> omega
theorem plTo_at {zs : List (Int × Int × Int)} {k n : Nat} (h : plTo zs n = true) (hk : k < n) : tstepB zs k = true := by
  have := plTo_mono (k := k + 1) (by omega) h
  simp only [plTo, Bool.and_eq_true] at this
  exact this.2

set_option maxHeartbeats 2000000 in
theorem plGood_any (a : Option Addr) (n c : Nat) (zs : List (Int × Int × Int)) (hn : n ≤ 1073741824) (w : World) (h : Reads w a 3 n (tv zs)) :
    Calls Try.prog 44 #[.slice a n c] w fun r w' => r = .returned (.bool (planeB zs)) ∧ Ext w w' := by
  have hl : zs.length = n := by have := h.1; rw [tv_len] at this; omega
  have HS := Lib.hid (show planeB zs = (inB (n : Int) 1 12 && plTo zs n) by unfold planeB; rw [hl])
  go_enter Try.func44, Try.ntmps44
  go_wp2
  go_loopw [7] (fun t wr => ∃ k : Nat, k ≤ n ∧ t = .int .i64 k ∧ plTo zs k = true ∧ Ext w wr) (fun t _ => n - (intOf t).toNat)
  case atStart => exact ⟨0, Nat.zero_le _, rfl, rfl, Ext.refl _⟩
  case round =>
    obtain ⟨k, hk, rfl, hok, hbr⟩ := hrel
    by_cases hlt : k < n
    · obtain ⟨b, off, rfl, hp0, hp1, hp2⟩ := (Reads.ext hbr h).tri hlt
      have HA := Lib.hid (show tstepB zs k = (termB (tat zs k).1 (tat zs k).2.1 (tat zs k).2.2 && (k == 0 || tbefB (tat zs (k - 1)).1 (tat zs (k - 1)).2.1 (tat zs k).1 (tat zs k).2.1)) from rfl)
      have HN := Lib.hid (fun he : tstepB zs k = false => show planeB zs = false by rw [HS.out, plTo_bad hlt he]; simp)
      have HY := Lib.hid (fun he : tstepB zs k = true => show plTo zs (k + 1) = true by simp only [plTo]; rw [hok, he]; rfl)
      rcases Nat.eq_zero_or_pos k with hk0 | hkp
      · subst hk0
        simp only [Nat.zero_mul, Nat.add_zero] at hp0 hp1 hp2
        generalize (tat zs 0).1 = x at *
        generalize (tat zs 0).2.1 = y at *
        generalize (tat zs 0).2.2 = z at *
        clear h hl hok
        have hE : Ext wr wr := Ext.refl _
        have hT : Ext wr (wr.alloc (.cells #[.int .i64 x, .int .i64 y, .int .i64 z] 71)) := Ext.alloc hE _
        have HR := Has.new wr #[.int .i64 x, .int .i64 y, .int .i64 z] 71
        have Rc0 := Ext.keeps (HR 0 _ rfl)
        have Rc1 := Ext.keeps (HR 1 _ rfl)
        have Rc2 := Ext.keeps (HR 2 _ rfl)
        clear HR
        replace hE : Ext (wr.alloc (.cells #[.int .i64 x, .int .i64 y, .int .i64 z] 71)) (wr.alloc (.cells #[.int .i64 x, .int .i64 y, .int .i64 z] 71)) := Ext.refl _
        cases hr : termB x y z
        · go_wp2
          have qR0 := fun s : Past (wr.alloc (.cells #[.int .i64 x, .int .i64 y, .int .i64 z] 71)) => Rc0 s.w s.ext
          have qR1 := fun s : Past (wr.alloc (.cells #[.int .i64 x, .int .i64 y, .int .i64 z] 71)) => Rc1 s.w s.ext
          have qR2 := fun s : Past (wr.alloc (.cells #[.int .i64 x, .int .i64 y, .int .i64 z] 71)) => Rc2 s.w s.ext
          refine wp_region_past (wr.alloc (.cells #[.int .i64 x, .int .i64 y, .int .i64 z] 71)) (by first | exact hE | exact Ext.alloc hE _ | exact Ext.drew hE | exact Ext.drewN hE _) (by kernel_rfl) (by kernel_rfl) ?_
          repeat (go_big_quiet_step ((first | (go_at_call 96; exact past_ext (plTerm_any _ _ _ _)) | (go_at_call 97; exact past_ext (plBefore_any _ _ _ _ _ _ _)))))
          refine wpQuiet_nil ?_
          intro _ hw'
          obtain ⟨⟨w1, hE⟩, hw''⟩ := hw'
          subst hw''
          clear qR0 qR1 qR2
          go_wp2
          go_ret
          exact ⟨ret_bool (HN.out (by rw [HA.out, hr]; rfl)).symm, hbr.trans (by repeat (first | exact Ext.refl _ | assumption | apply Ext.alloc | apply Ext.drew | apply Ext.drewN | (refine Ext.trans ?_ (by assumption)) | (refine Ext.setCell ?_ (by (try simp) <;> omega) _)))⟩
        · go_wp2
          have qR0 := fun s : Past (wr.alloc (.cells #[.int .i64 x, .int .i64 y, .int .i64 z] 71)) => Rc0 s.w s.ext
          have qR1 := fun s : Past (wr.alloc (.cells #[.int .i64 x, .int .i64 y, .int .i64 z] 71)) => Rc1 s.w s.ext
          have qR2 := fun s : Past (wr.alloc (.cells #[.int .i64 x, .int .i64 y, .int .i64 z] 71)) => Rc2 s.w s.ext
          refine wp_region_past (wr.alloc (.cells #[.int .i64 x, .int .i64 y, .int .i64 z] 71)) (by first | exact hE | exact Ext.alloc hE _ | exact Ext.drew hE | exact Ext.drewN hE _) (by kernel_rfl) (by kernel_rfl) ?_
          repeat (go_big_quiet_step ((first | (go_at_call 96; exact past_ext (plTerm_any _ _ _ _)) | (go_at_call 97; exact past_ext (plBefore_any _ _ _ _ _ _ _)))))
          refine wpQuiet_nil ?_
          intro _ hw'
          obtain ⟨⟨w1, hE⟩, hw''⟩ := hw'
          subst hw''
          clear qR0 qR1 qR2
          go_wp2
          go_roundw
          case rel => exact ⟨1, by omega, by go_num, HY.out (by rw [HA.out, hr]; rfl), hbr.trans (by repeat (first | exact Ext.refl _ | assumption | apply Ext.alloc | apply Ext.drew | apply Ext.drewN | (refine Ext.trans ?_ (by assumption)) | (refine Ext.setCell ?_ (by (try simp) <;> omega) _)))⟩
          case measure => simp [intOf]; omega
      · have hkp2 := hkp
        obtain ⟨b', off', hb', hq0, hq1, hq2⟩ := (Reads.ext hbr h).tri (k := k - 1) (by omega)
        simp only [Option.some.injEq, Addr.mk.injEq, and_true] at hb'
        obtain ⟨rfl, rfl⟩ := hb'
        have hprev := plTo_at (k := k - 1) hok (by omega)
        simp only [tstepB, Bool.and_eq_true] at hprev
        have hpb := termB_true.1 hprev.1
        have u1 := hpb.1
        have v1 := hpb.2.1
        clear hprev hpb
        have hd : decide ((0 : Int) < (k : Int)) = true := by simp; omega
        have hd2 : (0 : Int) < (k : Int) := by omega
        have hk0 : (k == 0) = false := by simp; omega
        have HK0 := Lib.hid hk0
        clear hk0
        generalize (tat zs k).1 = x at *
        generalize (tat zs k).2.1 = y at *
        generalize (tat zs k).2.2 = z at *
        generalize (tat zs (k - 1)).1 = u at *
        generalize (tat zs (k - 1)).2.1 = v at *
        generalize (tat zs (k - 1)).2.2 = q at *
        clear h hl hok
        have Pc0 := Ext.keeps hq0
        have Pc1 := Ext.keeps hq1
        have Pc2 := Ext.keeps hq2
        have hE : Ext wr wr := Ext.refl _
        have hT : Ext wr (wr.alloc (.cells #[.int .i64 x, .int .i64 y, .int .i64 z] 71)) := Ext.alloc hE _
        replace Pc0 := Ext.rebase hT Pc0
        replace Pc1 := Ext.rebase hT Pc1
        replace Pc2 := Ext.rebase hT Pc2
        have HR := Has.new wr #[.int .i64 x, .int .i64 y, .int .i64 z] 71
        have Rc0 := Ext.keeps (HR 0 _ rfl)
        have Rc1 := Ext.keeps (HR 1 _ rfl)
        have Rc2 := Ext.keeps (HR 2 _ rfl)
        clear HR
        replace hE : Ext (wr.alloc (.cells #[.int .i64 x, .int .i64 y, .int .i64 z] 71)) (wr.alloc (.cells #[.int .i64 x, .int .i64 y, .int .i64 z] 71)) := Ext.refl _
        cases hr : termB x y z
        · go_wp2
          have qP0 := fun s : Past (wr.alloc (.cells #[.int .i64 x, .int .i64 y, .int .i64 z] 71)) => Pc0 s.w s.ext
          have qP1 := fun s : Past (wr.alloc (.cells #[.int .i64 x, .int .i64 y, .int .i64 z] 71)) => Pc1 s.w s.ext
          have qP2 := fun s : Past (wr.alloc (.cells #[.int .i64 x, .int .i64 y, .int .i64 z] 71)) => Pc2 s.w s.ext
          have qR0 := fun s : Past (wr.alloc (.cells #[.int .i64 x, .int .i64 y, .int .i64 z] 71)) => Rc0 s.w s.ext
          have qR1 := fun s : Past (wr.alloc (.cells #[.int .i64 x, .int .i64 y, .int .i64 z] 71)) => Rc1 s.w s.ext
          have qR2 := fun s : Past (wr.alloc (.cells #[.int .i64 x, .int .i64 y, .int .i64 z] 71)) => Rc2 s.w s.ext
          refine wp_region_past (wr.alloc (.cells #[.int .i64 x, .int .i64 y, .int .i64 z] 71)) (by first | exact hE | exact Ext.alloc hE _ | exact Ext.drew hE | exact Ext.drewN hE _) (by kernel_rfl) (by kernel_rfl) ?_
          repeat (go_big_quiet_step ((first | (go_at_call 96; exact past_ext (plTerm_any _ _ _ _)) | (go_at_call 97; exact past_ext (plBefore_any _ _ _ _ _ _ _)))))
          refine wpQuiet_nil ?_
          intro _ hw'
          obtain ⟨⟨w1, hE⟩, hw''⟩ := hw'
          subst hw''
          clear qP0 qP1 qP2 qR0 qR1 qR2
          go_wp2
          go_ret
          exact ⟨ret_bool (HN.out (by rw [HA.out, hr]; rfl)).symm, hbr.trans (by repeat (first | exact Ext.refl _ | assumption | apply Ext.alloc | apply Ext.drew | apply Ext.drewN | (refine Ext.trans ?_ (by assumption)) | (refine Ext.setCell ?_ (by (try simp) <;> omega) _)))⟩
        · cases hB : tbefB u v x y
          · have HB := Lib.hid hB
            go_wp2
            have qP0 := fun s : Past (wr.alloc (.cells #[.int .i64 x, .int .i64 y, .int .i64 z] 71)) => Pc0 s.w s.ext
            have qP1 := fun s : Past (wr.alloc (.cells #[.int .i64 x, .int .i64 y, .int .i64 z] 71)) => Pc1 s.w s.ext
            have qP2 := fun s : Past (wr.alloc (.cells #[.int .i64 x, .int .i64 y, .int .i64 z] 71)) => Pc2 s.w s.ext
            have qR0 := fun s : Past (wr.alloc (.cells #[.int .i64 x, .int .i64 y, .int .i64 z] 71)) => Rc0 s.w s.ext
            have qR1 := fun s : Past (wr.alloc (.cells #[.int .i64 x, .int .i64 y, .int .i64 z] 71)) => Rc1 s.w s.ext
            have qR2 := fun s : Past (wr.alloc (.cells #[.int .i64 x, .int .i64 y, .int .i64 z] 71)) => Rc2 s.w s.ext
            refine wp_region_past (wr.alloc (.cells #[.int .i64 x, .int .i64 y, .int .i64 z] 71)) (by first | exact hE | exact Ext.alloc hE _ | exact Ext.drew hE | exact Ext.drewN hE _) (by kernel_rfl) (by kernel_rfl) ?_
            repeat (go_big_quiet_step ((first | (go_at_call 96; exact past_ext (plTerm_any _ _ _ _)) | (go_at_call 97; exact past_ext (plBefore_any _ _ _ _ _ _ _)))))
            refine wpQuiet_nil ?_
            intro _ hw'
            obtain ⟨⟨w1, hE⟩, hw''⟩ := hw'
            subst hw''
            clear qP0 qP1 qP2 qR0 qR1 qR2
            go_wp2
            go_ret
            exact ⟨ret_bool (HN.out (by rw [HA.out, hr, HK0.out, HB.out]; rfl)).symm, hbr.trans (by repeat (first | exact Ext.refl _ | assumption | apply Ext.alloc | apply Ext.drew | apply Ext.drewN | (refine Ext.trans ?_ (by assumption)) | (refine Ext.setCell ?_ (by (try simp) <;> omega) _)))⟩
          · have HB := Lib.hid hB
            go_wp2
            have qP0 := fun s : Past (wr.alloc (.cells #[.int .i64 x, .int .i64 y, .int .i64 z] 71)) => Pc0 s.w s.ext
            have qP1 := fun s : Past (wr.alloc (.cells #[.int .i64 x, .int .i64 y, .int .i64 z] 71)) => Pc1 s.w s.ext
            have qP2 := fun s : Past (wr.alloc (.cells #[.int .i64 x, .int .i64 y, .int .i64 z] 71)) => Pc2 s.w s.ext
            have qR0 := fun s : Past (wr.alloc (.cells #[.int .i64 x, .int .i64 y, .int .i64 z] 71)) => Rc0 s.w s.ext
            have qR1 := fun s : Past (wr.alloc (.cells #[.int .i64 x, .int .i64 y, .int .i64 z] 71)) => Rc1 s.w s.ext
            have qR2 := fun s : Past (wr.alloc (.cells #[.int .i64 x, .int .i64 y, .int .i64 z] 71)) => Rc2 s.w s.ext
            refine wp_region_past (wr.alloc (.cells #[.int .i64 x, .int .i64 y, .int .i64 z] 71)) (by first | exact hE | exact Ext.alloc hE _ | exact Ext.drew hE | exact Ext.drewN hE _) (by kernel_rfl) (by kernel_rfl) ?_
            repeat (go_big_quiet_step ((first | (go_at_call 96; exact past_ext (plTerm_any _ _ _ _)) | (go_at_call 97; exact past_ext (plBefore_any _ _ _ _ _ _ _)))))
            refine wpQuiet_nil ?_
            intro _ hw'
            obtain ⟨⟨w1, hE⟩, hw''⟩ := hw'
            subst hw''
            clear qP0 qP1 qP2 qR0 qR1 qR2
            go_wp2
            go_roundw
            case rel => exact ⟨k + 1, by omega, by go_num, HY.out (by rw [HA.out, hr, HK0.out, HB.out]; rfl), hbr.trans (by repeat (first | exact Ext.refl _ | assumption | apply Ext.alloc | apply Ext.drew | apply Ext.drewN | (refine Ext.trans ?_ (by assumption)) | (refine Ext.setCell ?_ (by (try simp) <;> omega) _)))⟩
            case measure => simp [intOf]; omega
    · have hkn : Hid (plTo zs n = true) := by show plTo zs n = true; rw [show n = k by omega]; exact hok
      clear hok
      go_wp2_with ((go_at_call 88; refine (l1In_any _ _ _ _).mono ?_; rintro e _ ⟨rfl, rfl⟩))
      go_ret
      exact ⟨ret_bool (by rw [HS.out, hkn.out]; simp), hbr⟩

set_option maxHeartbeats 4000000 in
theorem isPlane_any (a : Option Addr) (n c : Nat) (zs : List (Int × Int × Int)) (hn : n ≤ 1073741824) (w : World) (h : Reads w a 3 n (tv zs)) :
    Calls Try.prog 50 #[.slice a n c] w fun r w' => r = .returned (.bool (planeB zs)) ∧ Ext w w' := by
  have hl : zs.length = n := by have := h.1; rw [tv_len] at this; omega
  have HS := Lib.hid (show planeB zs = (inB (n : Int) 1 12 && plTo zs n) by unfold planeB; rw [hl])
  cases hL : inB (n : Int) 1 12
  · go_enter Try.func50, Try.ntmps50
    go_wp2_with ((go_at_call 62; refine (within_any _ _ _ _).mono ?_; rintro e _ ⟨rfl, rfl⟩))
    go_ret
    exact ⟨ret_bool (by rw [HS.out, hL]; rfl), (by repeat (first | exact Ext.refl _ | assumption | apply Ext.alloc | apply Ext.drew | apply Ext.drewN | (refine Ext.trans ?_ (by assumption)) | (refine Ext.setCell ?_ (by (try simp) <;> omega) _)))⟩
  have HL := Lib.hid hL
  go_enter Try.func50, Try.ntmps50
  go_wp2_with ((go_at_call 62; refine (within_any _ _ _ _).mono ?_; rintro e _ ⟨rfl, rfl⟩))
  go_loopw [11] (fun t wr => ∃ k : Nat, k ≤ n ∧ t = .int .i64 k ∧ plTo zs k = true ∧ Ext w wr) (fun t _ => n - (intOf t).toNat)
  case atStart => exact ⟨0, Nat.zero_le _, rfl, rfl, Ext.refl _⟩
  case round =>
    obtain ⟨k, hk, rfl, hok, hbr⟩ := hrel
    by_cases hlt : k < n
    · obtain ⟨b, off, rfl, hp0, hp1, hp2⟩ := (Reads.ext hbr h).tri hlt
      have HA := Lib.hid (show tstepB zs k = (termB (tat zs k).1 (tat zs k).2.1 (tat zs k).2.2 && (k == 0 || tbefB (tat zs (k - 1)).1 (tat zs (k - 1)).2.1 (tat zs k).1 (tat zs k).2.1)) from rfl)
      have HN := Lib.hid (fun he : tstepB zs k = false => show planeB zs = false by rw [HS.out, plTo_bad hlt he]; simp)
      have HY := Lib.hid (fun he : tstepB zs k = true => show plTo zs (k + 1) = true by simp only [plTo]; rw [hok, he]; rfl)
      cases hr : termB (tat zs k).1 (tat zs k).2.1 (tat zs k).2.2
      · have HR := Lib.hid hr
        rcases termB_no hr with h1 | h1 | h1 | h1 | h1 | h1
        · clear hr
          generalize (tat zs k).1 = x at *
          generalize (tat zs k).2.1 = y at *
          generalize (tat zs k).2.2 = z at *
          generalize tat zs (k - 1) = pr at *
          clear h hl hok hL
          skip
          have hE : Ext wr wr := Ext.refl _
          have hT : Ext wr (wr.alloc (.cells #[.int .i64 x, .int .i64 y, .int .i64 z] 71)) := Ext.alloc hE _
          have HR := Has.new wr #[.int .i64 x, .int .i64 y, .int .i64 z] 71
          have Rc0 := Ext.keeps (HR 0 _ rfl)
          have Rc1 := Ext.keeps (HR 1 _ rfl)
          have Rc2 := Ext.keeps (HR 2 _ rfl)
          clear HR
          replace hE : Ext (wr.alloc (.cells #[.int .i64 x, .int .i64 y, .int .i64 z] 71)) (wr.alloc (.cells #[.int .i64 x, .int .i64 y, .int .i64 z] 71)) := Ext.refl _
          go_wp2_with ((go_at_call 103; refine (isFinite_any _ _).mono ?_; rintro e _ ⟨rfl, rfl⟩))
          go_ret
          exact ⟨ret_bool (HN.out (by rw [HA.out, HR.out]; rfl)).symm, hbr.trans (by repeat (first | exact Ext.refl _ | assumption | apply Ext.alloc | apply Ext.drew | apply Ext.drewN | (refine Ext.trans ?_ (by assumption)) | (refine Ext.setCell ?_ (by (try simp) <;> omega) _)))⟩
        · clear hr
          generalize (tat zs k).1 = x at *
          generalize (tat zs k).2.1 = y at *
          generalize (tat zs k).2.2 = z at *
          generalize tat zs (k - 1) = pr at *
          clear h hl hok hL
          skip
          have hE : Ext wr wr := Ext.refl _
          have hT : Ext wr (wr.alloc (.cells #[.int .i64 x, .int .i64 y, .int .i64 z] 71)) := Ext.alloc hE _
          have HR := Has.new wr #[.int .i64 x, .int .i64 y, .int .i64 z] 71
          have Rc0 := Ext.keeps (HR 0 _ rfl)
          have Rc1 := Ext.keeps (HR 1 _ rfl)
          have Rc2 := Ext.keeps (HR 2 _ rfl)
          clear HR
          replace hE : Ext (wr.alloc (.cells #[.int .i64 x, .int .i64 y, .int .i64 z] 71)) (wr.alloc (.cells #[.int .i64 x, .int .i64 y, .int .i64 z] 71)) := Ext.refl _
          go_wp2_with ((go_at_call 103; refine (isFinite_any _ _).mono ?_; rintro e _ ⟨rfl, rfl⟩))
          go_ret
          exact ⟨ret_bool (HN.out (by rw [HA.out, HR.out]; rfl)).symm, hbr.trans (by repeat (first | exact Ext.refl _ | assumption | apply Ext.alloc | apply Ext.drew | apply Ext.drewN | (refine Ext.trans ?_ (by assumption)) | (refine Ext.setCell ?_ (by (try simp) <;> omega) _)))⟩
        · clear hr
          generalize (tat zs k).1 = x at *
          generalize (tat zs k).2.1 = y at *
          generalize (tat zs k).2.2 = z at *
          generalize tat zs (k - 1) = pr at *
          clear h hl hok hL
          skip
          have hE : Ext wr wr := Ext.refl _
          have hT : Ext wr (wr.alloc (.cells #[.int .i64 x, .int .i64 y, .int .i64 z] 71)) := Ext.alloc hE _
          have HR := Has.new wr #[.int .i64 x, .int .i64 y, .int .i64 z] 71
          have Rc0 := Ext.keeps (HR 0 _ rfl)
          have Rc1 := Ext.keeps (HR 1 _ rfl)
          have Rc2 := Ext.keeps (HR 2 _ rfl)
          clear HR
          replace hE : Ext (wr.alloc (.cells #[.int .i64 x, .int .i64 y, .int .i64 z] 71)) (wr.alloc (.cells #[.int .i64 x, .int .i64 y, .int .i64 z] 71)) := Ext.refl _
          go_wp2_with ((go_at_call 103; refine (isFinite_any _ _).mono ?_; rintro e _ ⟨rfl, rfl⟩))
          go_ret
          exact ⟨ret_bool (HN.out (by rw [HA.out, HR.out]; rfl)).symm, hbr.trans (by repeat (first | exact Ext.refl _ | assumption | apply Ext.alloc | apply Ext.drew | apply Ext.drewN | (refine Ext.trans ?_ (by assumption)) | (refine Ext.setCell ?_ (by (try simp) <;> omega) _)))⟩
        · clear hr
          generalize (tat zs k).1 = x at *
          generalize (tat zs k).2.1 = y at *
          generalize (tat zs k).2.2 = z at *
          generalize tat zs (k - 1) = pr at *
          clear h hl hok hL
          skip
          have hE : Ext wr wr := Ext.refl _
          have hT : Ext wr (wr.alloc (.cells #[.int .i64 x, .int .i64 y, .int .i64 z] 71)) := Ext.alloc hE _
          have HR := Has.new wr #[.int .i64 x, .int .i64 y, .int .i64 z] 71
          have Rc0 := Ext.keeps (HR 0 _ rfl)
          have Rc1 := Ext.keeps (HR 1 _ rfl)
          have Rc2 := Ext.keeps (HR 2 _ rfl)
          clear HR
          replace hE : Ext (wr.alloc (.cells #[.int .i64 x, .int .i64 y, .int .i64 z] 71)) (wr.alloc (.cells #[.int .i64 x, .int .i64 y, .int .i64 z] 71)) := Ext.refl _
          go_wp2_with ((go_at_call 103; refine (isFinite_any _ _).mono ?_; rintro e _ ⟨rfl, rfl⟩))
          go_ret
          exact ⟨ret_bool (HN.out (by rw [HA.out, HR.out]; rfl)).symm, hbr.trans (by repeat (first | exact Ext.refl _ | assumption | apply Ext.alloc | apply Ext.drew | apply Ext.drewN | (refine Ext.trans ?_ (by assumption)) | (refine Ext.setCell ?_ (by (try simp) <;> omega) _)))⟩
        · clear hr
          generalize (tat zs k).1 = x at *
          generalize (tat zs k).2.1 = y at *
          generalize (tat zs k).2.2 = z at *
          generalize tat zs (k - 1) = pr at *
          clear h hl hok hL
          have e1 : IntKind.i64.wrap (x + y) = x + y := wrap_i64 (by omega) (by omega)
          have hE : Ext wr wr := Ext.refl _
          have hT : Ext wr (wr.alloc (.cells #[.int .i64 x, .int .i64 y, .int .i64 z] 71)) := Ext.alloc hE _
          have HR := Has.new wr #[.int .i64 x, .int .i64 y, .int .i64 z] 71
          have Rc0 := Ext.keeps (HR 0 _ rfl)
          have Rc1 := Ext.keeps (HR 1 _ rfl)
          have Rc2 := Ext.keeps (HR 2 _ rfl)
          clear HR
          replace hE : Ext (wr.alloc (.cells #[.int .i64 x, .int .i64 y, .int .i64 z] 71)) (wr.alloc (.cells #[.int .i64 x, .int .i64 y, .int .i64 z] 71)) := Ext.refl _
          go_wp2_with ((go_at_call 103; refine (isFinite_any _ _).mono ?_; rintro e _ ⟨rfl, rfl⟩))
          go_ret
          exact ⟨ret_bool (HN.out (by rw [HA.out, HR.out]; rfl)).symm, hbr.trans (by repeat (first | exact Ext.refl _ | assumption | apply Ext.alloc | apply Ext.drew | apply Ext.drewN | (refine Ext.trans ?_ (by assumption)) | (refine Ext.setCell ?_ (by (try simp) <;> omega) _)))⟩
        · clear hr
          generalize (tat zs k).1 = x at *
          generalize (tat zs k).2.1 = y at *
          generalize (tat zs k).2.2 = z at *
          generalize tat zs (k - 1) = pr at *
          clear h hl hok hL
          have e1 : IntKind.i64.wrap (x + y) = x + y := wrap_i64 (by omega) (by omega)
          have hE : Ext wr wr := Ext.refl _
          have hT : Ext wr (wr.alloc (.cells #[.int .i64 x, .int .i64 y, .int .i64 z] 71)) := Ext.alloc hE _
          have HR := Has.new wr #[.int .i64 x, .int .i64 y, .int .i64 z] 71
          have Rc0 := Ext.keeps (HR 0 _ rfl)
          have Rc1 := Ext.keeps (HR 1 _ rfl)
          have Rc2 := Ext.keeps (HR 2 _ rfl)
          clear HR
          replace hE : Ext (wr.alloc (.cells #[.int .i64 x, .int .i64 y, .int .i64 z] 71)) (wr.alloc (.cells #[.int .i64 x, .int .i64 y, .int .i64 z] 71)) := Ext.refl _
          go_wp2_with ((go_at_call 103; refine (isFinite_any _ _).mono ?_; rintro e _ ⟨rfl, rfl⟩))
          go_ret
          exact ⟨ret_bool (HN.out (by rw [HA.out, HR.out]; rfl)).symm, hbr.trans (by repeat (first | exact Ext.refl _ | assumption | apply Ext.alloc | apply Ext.drew | apply Ext.drewN | (refine Ext.trans ?_ (by assumption)) | (refine Ext.setCell ?_ (by (try simp) <;> omega) _)))⟩
      · have hb := termB_true.1 hr
        have HR := Lib.hid hr
        have x1 := hb.1
        have y1 := hb.2.1
        have z1 := hb.2.2
        have xa := x1.1
        have xb := x1.2
        have ya := y1.1
        have yb : (tat zs k).2.1 ≤ 6 := by omega
        have yc : (tat zs k).1 + (tat zs k).2.1 ≤ 6 := by omega
        clear hb hr
        rcases Nat.eq_zero_or_pos k with hk0 | hkp
        · subst hk0
          simp only [Nat.zero_mul, Nat.add_zero] at hp0 hp1 hp2
          generalize (tat zs 0).1 = x at *
          generalize (tat zs 0).2.1 = y at *
          generalize (tat zs 0).2.2 = z at *
          clear h hl hok hL
          have e1 : IntKind.i64.wrap (x + y) = x + y := wrap_i64 (by omega) (by omega)
          have d0 : decide (x < 0) = false := by simp; omega
          have d1 : decide (y < 0) = false := by simp; omega
          have d2 : decide (6 < x) = false := by simp; omega
          have d3 : decide (6 < y) = false := by simp; omega
          have d4 : decide (6 < x + y) = false := by simp; omega
          have hE : Ext wr wr := Ext.refl _
          have hT : Ext wr (wr.alloc (.cells #[.int .i64 x, .int .i64 y, .int .i64 z] 71)) := Ext.alloc hE _
          have HR := Has.new wr #[.int .i64 x, .int .i64 y, .int .i64 z] 71
          have Rc0 := Ext.keeps (HR 0 _ rfl)
          have Rc1 := Ext.keeps (HR 1 _ rfl)
          have Rc2 := Ext.keeps (HR 2 _ rfl)
          clear HR
          replace hE : Ext (wr.alloc (.cells #[.int .i64 x, .int .i64 y, .int .i64 z] 71)) (wr.alloc (.cells #[.int .i64 x, .int .i64 y, .int .i64 z] 71)) := Ext.refl _
          go_wp2_with ((go_at_call 103; refine (isFinite_any _ _).mono ?_; rintro e _ ⟨rfl, rfl⟩))
          have qR0 := fun s : Past (wr.alloc (.cells #[.int .i64 x, .int .i64 y, .int .i64 z] 71)) => Rc0 s.w s.ext
          have qR1 := fun s : Past (wr.alloc (.cells #[.int .i64 x, .int .i64 y, .int .i64 z] 71)) => Rc1 s.w s.ext
          have qR2 := fun s : Past (wr.alloc (.cells #[.int .i64 x, .int .i64 y, .int .i64 z] 71)) => Rc2 s.w s.ext
          refine wp_region_past (wr.alloc (.cells #[.int .i64 x, .int .i64 y, .int .i64 z] 71)) (by first | exact hE | exact Ext.alloc hE _ | exact Ext.drew hE | exact Ext.drewN hE _) (by kernel_rfl) (by kernel_rfl) ?_
          repeat (go_big_quiet_step (((go_at_call 104; exact past_ext (compareTerms_any _ _ _ _ _ _ (by omega) (by omega) (by omega) (by omega) _)))))
          refine wpQuiet_nil ?_
          intro _ hw'
          obtain ⟨⟨w1, hE⟩, hw''⟩ := hw'
          subst hw''
          clear qR0 qR1 qR2
          go_wp2
          go_roundw
          case rel => exact ⟨1, by omega, by go_num, HY.out (by rw [HA.out, HR.out]; rfl), hbr.trans (by repeat (first | exact Ext.refl _ | assumption | apply Ext.alloc | apply Ext.drew | apply Ext.drewN | (refine Ext.trans ?_ (by assumption)) | (refine Ext.setCell ?_ (by (try simp) <;> omega) _)))⟩
          case measure => simp [intOf]; omega
        · have hkp2 := hkp
          obtain ⟨b', off', hb', hq0, hq1, hq2⟩ := (Reads.ext hbr h).tri (k := k - 1) (by omega)
          simp only [Option.some.injEq, Addr.mk.injEq, and_true] at hb'
          obtain ⟨rfl, rfl⟩ := hb'
          have hprev := plTo_at (k := k - 1) hok (by omega)
          simp only [tstepB, Bool.and_eq_true] at hprev
          have hpb := termB_true.1 hprev.1
          have u1 := hpb.1
          have v1 := hpb.2.1
          clear hprev hpb
          have hd : decide ((0 : Int) < (k : Int)) = true := by simp; omega
          have hd2 : (0 : Int) < (k : Int) := by omega
          have hk0 : (k == 0) = false := by simp; omega
          have HK0 := Lib.hid hk0
          clear hk0
          have u3 := (plTo_at (k := k - 1) hok (by omega))
          clear u3
          generalize (tat zs k).1 = x at *
          generalize (tat zs k).2.1 = y at *
          generalize (tat zs k).2.2 = z at *
          generalize (tat zs (k - 1)).1 = u at *
          generalize (tat zs (k - 1)).2.1 = v at *
          generalize (tat zs (k - 1)).2.2 = q at *
          clear h hl hok hL
          have Pc0 := Ext.keeps hq0
          have Pc1 := Ext.keeps hq1
          have Pc2 := Ext.keeps hq2
          have e1 : IntKind.i64.wrap (x + y) = x + y := wrap_i64 (by omega) (by omega)
          have d0 : decide (x < 0) = false := by simp; omega
          have d1 : decide (y < 0) = false := by simp; omega
          have d2 : decide (6 < x) = false := by simp; omega
          have d3 : decide (6 < y) = false := by simp; omega
          have d4 : decide (6 < x + y) = false := by simp; omega
          have HC := Lib.hid (fun w => compareTerms_any u v q x y z u1 (by omega) x1 (by omega) w)
          obtain ⟨s0, hs0⟩ : ∃ s0, s0 = cmpT u v x y := ⟨_, rfl⟩
          have hs1 : (if u = x then v - y else u - x) = s0 := hs0.symm
          rw [hs1] at HC
          have HS0 := Lib.hid hs0
          clear hs0 hs1
          have hE : Ext wr wr := Ext.refl _
          have hT : Ext wr (wr.alloc (.cells #[.int .i64 x, .int .i64 y, .int .i64 z] 71)) := Ext.alloc hE _
          replace Pc0 := Ext.rebase hT Pc0
          replace Pc1 := Ext.rebase hT Pc1
          replace Pc2 := Ext.rebase hT Pc2
          have HR := Has.new wr #[.int .i64 x, .int .i64 y, .int .i64 z] 71
          have Rc0 := Ext.keeps (HR 0 _ rfl)
          have Rc1 := Ext.keeps (HR 1 _ rfl)
          have Rc2 := Ext.keeps (HR 2 _ rfl)
          clear HR
          replace hE : Ext (wr.alloc (.cells #[.int .i64 x, .int .i64 y, .int .i64 z] 71)) (wr.alloc (.cells #[.int .i64 x, .int .i64 y, .int .i64 z] 71)) := Ext.refl _
          cases hB : tbefB u v x y
          · have HB := Lib.hid hB
            have hc0 : 0 ≤ s0 := by rw [HS0.out]; exact cmpT_not hB
            clear hB
            go_wp2_with ((go_at_call 103; refine (isFinite_any _ _).mono ?_; rintro e _ ⟨rfl, rfl⟩))
            have qP0 := fun s : Past (wr.alloc (.cells #[.int .i64 x, .int .i64 y, .int .i64 z] 71)) => Pc0 s.w s.ext
            have qP1 := fun s : Past (wr.alloc (.cells #[.int .i64 x, .int .i64 y, .int .i64 z] 71)) => Pc1 s.w s.ext
            have qP2 := fun s : Past (wr.alloc (.cells #[.int .i64 x, .int .i64 y, .int .i64 z] 71)) => Pc2 s.w s.ext
            have qR0 := fun s : Past (wr.alloc (.cells #[.int .i64 x, .int .i64 y, .int .i64 z] 71)) => Rc0 s.w s.ext
            have qR1 := fun s : Past (wr.alloc (.cells #[.int .i64 x, .int .i64 y, .int .i64 z] 71)) => Rc1 s.w s.ext
            have qR2 := fun s : Past (wr.alloc (.cells #[.int .i64 x, .int .i64 y, .int .i64 z] 71)) => Rc2 s.w s.ext
            refine wp_region_past (wr.alloc (.cells #[.int .i64 x, .int .i64 y, .int .i64 z] 71)) (by first | exact hE | exact Ext.alloc hE _ | exact Ext.drew hE | exact Ext.drewN hE _) (by kernel_rfl) (by kernel_rfl) ?_
            repeat (go_big_quiet_step (((go_at_call 104; exact past_ext (HC.out _)))))
            refine wpQuiet_nil ?_
            intro _ hw'
            obtain ⟨⟨w1, hE⟩, hw''⟩ := hw'
            subst hw''
            clear qP0 qP1 qP2 qR0 qR1 qR2
            go_wp2
            go_ret
            exact ⟨ret_bool (HN.out (by rw [HA.out, HR.out, HK0.out, HB.out]; rfl)).symm, hbr.trans (by repeat (first | exact Ext.refl _ | assumption | apply Ext.alloc | apply Ext.drew | apply Ext.drewN | (refine Ext.trans ?_ (by assumption)) | (refine Ext.setCell ?_ (by (try simp) <;> omega) _)))⟩
          · have HB := Lib.hid hB
            have hc0 : s0 < 0 := by rw [HS0.out]; exact cmpT_bef hB
            have hc1 : decide (0 ≤ s0) = false := by simp; omega
            clear hB
            go_wp2_with ((go_at_call 103; refine (isFinite_any _ _).mono ?_; rintro e _ ⟨rfl, rfl⟩))
            have qP0 := fun s : Past (wr.alloc (.cells #[.int .i64 x, .int .i64 y, .int .i64 z] 71)) => Pc0 s.w s.ext
            have qP1 := fun s : Past (wr.alloc (.cells #[.int .i64 x, .int .i64 y, .int .i64 z] 71)) => Pc1 s.w s.ext
            have qP2 := fun s : Past (wr.alloc (.cells #[.int .i64 x, .int .i64 y, .int .i64 z] 71)) => Pc2 s.w s.ext
            have qR0 := fun s : Past (wr.alloc (.cells #[.int .i64 x, .int .i64 y, .int .i64 z] 71)) => Rc0 s.w s.ext
            have qR1 := fun s : Past (wr.alloc (.cells #[.int .i64 x, .int .i64 y, .int .i64 z] 71)) => Rc1 s.w s.ext
            have qR2 := fun s : Past (wr.alloc (.cells #[.int .i64 x, .int .i64 y, .int .i64 z] 71)) => Rc2 s.w s.ext
            refine wp_region_past (wr.alloc (.cells #[.int .i64 x, .int .i64 y, .int .i64 z] 71)) (by first | exact hE | exact Ext.alloc hE _ | exact Ext.drew hE | exact Ext.drewN hE _) (by kernel_rfl) (by kernel_rfl) ?_
            repeat (go_big_quiet_step (((go_at_call 104; exact past_ext (HC.out _)))))
            refine wpQuiet_nil ?_
            intro _ hw'
            obtain ⟨⟨w1, hE⟩, hw''⟩ := hw'
            subst hw''
            clear qP0 qP1 qP2 qR0 qR1 qR2
            go_wp2
            go_roundw
            case rel => exact ⟨k + 1, by omega, by go_num, HY.out (by rw [HA.out, HR.out, HK0.out, HB.out]; rfl), hbr.trans (by repeat (first | exact Ext.refl _ | assumption | apply Ext.alloc | apply Ext.drew | apply Ext.drewN | (refine Ext.trans ?_ (by assumption)) | (refine Ext.setCell ?_ (by (try simp) <;> omega) _)))⟩
            case measure => simp [intOf]; omega
    · have hkn : Hid (plTo zs n = true) := by show plTo zs n = true; rw [show n = k by omega]; exact hok
      clear hok
      go_wp2
      go_ret
      exact ⟨ret_bool (by rw [HS.out, hkn.out, HL.out]; rfl), hbr⟩

end Go.Proofs.Ytogbfhhioicbmaa
