/-
  SupportOf: the support of a star in a direction.
-/
import Derived.Test.YtlkhjedlokklaaaBal
namespace Go.Proofs.Ytlkhjedlokklaaa
open Go.RowKit

/-- The support of the first k rays. -/
def supI (zs : List (Int × Int × Int)) (u v : Int) : Nat → Int
  | 0 => 0
  | k + 1 => supI zs u v k + (tat zs k).2.2 * maxI 0 ((tat zs k).1 * u + (tat zs k).2.1 * v)
theorem step_bd {a b : Int} (ha : -20 ≤ a ∧ a ≤ 20) (hb : -20 ≤ b ∧ b ≤ 20) : -400 ≤ a * b ∧ a * b ≤ 400 := by
  have := mul_bd ha.1 ha.2 hb.1 hb.2
  omega
theorem maxI0_bd {m : Int} (h : -800 ≤ m ∧ m ≤ 800) : 0 ≤ maxI 0 m ∧ maxI 0 m ≤ 800 := by unfold maxI; split <;> omega
theorem sup_pr {z m : Int} (hz : 1 ≤ z ∧ z ≤ 20) (hm : -800 ≤ m ∧ m ≤ 800) : 0 ≤ z * maxI 0 m ∧ z * maxI 0 m ≤ 16000 := by
  obtain ⟨h1, h2⟩ := maxI0_bd hm
  generalize maxI 0 m = q at *
  constructor
  · exact Int.mul_nonneg (by omega) h1
  · have := Int.mul_le_mul hz.2 h2 h1 (by omega)
    omega
theorem max_out {z m : Int} (hz : 1 ≤ z ∧ z ≤ 20) : maxI 0 (z * m) = z * maxI 0 m := by
  unfold maxI
  rcases Int.lt_or_le m 0 with h | h
  · have : z * m < 0 := Int.mul_neg_of_pos_of_neg (by omega) h
    split <;> split <;> first | omega | simp
  · have : 0 ≤ z * m := Int.mul_nonneg (by omega) h
    split <;> split <;> first | rfl | omega | (have hm0 : m = 0 := by omega
                                               subst hm0; simp) | (have e : z * m = 0 := by omega
                                                                   simp [e]; omega)
theorem mul_bd2 {z m : Int} (hz : 1 ≤ z ∧ z ≤ 20) (hm : -800 ≤ m ∧ m ≤ 800) : -16000 ≤ z * m ∧ z * m ≤ 16000 := by
  have := mul_bd (A := 20) (D := 800) (by omega : -20 ≤ z) hz.2 hm.1 hm.2
  omega
theorem supI_bd {zs : List (Int × Int × Int)} {u v : Int} (h : Small zs) (hu : -20 ≤ u ∧ u ≤ 20) (hv : -20 ≤ v ∧ v ≤ 20) : ∀ k : Nat, k ≤ zs.length → 0 ≤ supI zs u v k ∧ supI zs u v k ≤ 16000 * (k : Int)
  | 0, _ => by simp [supI]
  | k + 1, hk => by
    have ih := supI_bd h hu hv k (by omega)
    have hp := h.2 k (by omega)
    have p1 := step_bd hp.1 hu
    have p2 := step_bd hp.2.1 hv
    have hq := sup_pr (m := (tat zs k).1 * u + (tat zs k).2.1 * v) hp.2.2 (by omega)
    simp only [supI]
    omega

set_option maxHeartbeats 1000000 in
theorem spec_SupportOf_any (a : Option Addr) (n c : Nat) (zs : List (Int × Int × Int)) (u v : Int) (hn : n ≤ 1073741824) (w : World) (h : Reads w a 3 n (tv zs)) :
    Calls Try.prog 27 #[.slice a n c, .int .i64 u, .int .i64 v] w fun r w' => r = .returned (.tuple #[.int .i64 (gI (starB zs && stepB 20 u v) (supI zs u v zs.length)), .bool (starB zs && stepB 20 u v)]) ∧ Ext w w' := by
  have hl : zs.length = n := by have := h.1; rw [tv_len] at this; omega
  rcases small_of (zs := zs) with hb | ⟨hb, hs⟩
  · go_enter Try.func27, Try.ntmps27
    go_wp2_with fail
    refine (stGood_any _ _ _ zs hn _ h).mono ?_
    rw [hb]
    rintro e w1 ⟨rfl, hb1⟩
    go_wp2
    go_ret2
    exact ⟨by simp [gI, hb], hb1⟩
  · rcases stepB_cases 20 u v with hst | ⟨hst, hu, hv, _⟩
    · go_enter Try.func27, Try.ntmps27
      go_wp2_with fail
      refine (stGood_any _ _ _ zs hn _ h).mono ?_
      rw [hb]
      rintro e w1 ⟨rfl, hb1⟩
      go_wp2_with fail
      refine (stSteps_any _ _ _).mono ?_
      rw [hst]
      rintro e _ ⟨rfl, rfl⟩
      go_wp2
      go_ret2
      exact ⟨by simp [gI, hst], hb1⟩
    · have HV := Lib.hid (show gI (starB zs && stepB 20 u v) (supI zs u v zs.length) = supI zs u v n ∧ (starB zs && stepB 20 u v) = true by simp [gI, hst, hb, hl])
      go_enter Try.func27, Try.ntmps27
      go_wp2_with fail
      refine (stGood_any _ _ _ zs hn _ h).mono ?_
      rw [hb]
      rintro e w1 ⟨rfl, hb1⟩
      go_wp2_with fail
      refine (stSteps_any _ _ _).mono ?_
      rw [hst]
      rintro e _ ⟨rfl, rfl⟩
      have hn10 := hs.1
      go_wp2
      go_loopw [8, 22] (fun x t wr => ∃ k : Nat, k ≤ n ∧ t = .int .i64 k ∧ x = .int .i64 (supI zs u v k) ∧ Ext w wr) (fun _ t _ => n - (intOf t).toNat)
      case atStart => exact ⟨0, Nat.zero_le _, rfl, rfl, hb1⟩
      case round =>
        obtain ⟨k, hk, rfl, rfl, hbr⟩ := hrel
        by_cases hlt : k < n
        · obtain ⟨b, off, rfl, hp0, hp1, hp2⟩ := (Reads.ext hbr h).tri hlt
          have B1 := supI_bd hs hu hv k (by omega)
          have HX := Lib.hid (show supI zs u v (k + 1) = supI zs u v k + (tat zs k).2.2 * maxI 0 ((tat zs k).1 * u + (tat zs k).2.1 * v) from rfl)
          have hbk := hs.2 k (by omega)
          have p1 := step_bd hbk.1 hu
          have p2 := step_bd hbk.2.1 hv
          have P1 := sup_pr (m := (tat zs k).1 * u + (tat zs k).2.1 * v) hbk.2.2 (by omega)
          generalize (tat zs k).1 = x at *
          generalize (tat zs k).2.1 = y at *
          generalize (tat zs k).2.2 = z at *
          generalize supI zs u v k = s at *
          clear h hs
          have hE : Ext wr wr := Ext.refl _
          have hT : Ext wr (wr.alloc (.cells #[.int .i64 x, .int .i64 y, .int .i64 z] 34)) := Ext.alloc hE _
          have HR := Has.new wr #[.int .i64 x, .int .i64 y, .int .i64 z] 34
          have Rc0 := Ext.keeps (HR 0 _ rfl)
          have Rc1 := Ext.keeps (HR 1 _ rfl)
          have Rc2 := Ext.keeps (HR 2 _ rfl)
          clear HR
          replace hE : Ext (wr.alloc (.cells #[.int .i64 x, .int .i64 y, .int .i64 z] 34)) (wr.alloc (.cells #[.int .i64 x, .int .i64 y, .int .i64 z] 34)) := Ext.refl _
          go_wp2
          have qR0 := fun s : Past (wr.alloc (.cells #[.int .i64 x, .int .i64 y, .int .i64 z] 34)) => Rc0 s.w s.ext
          have qR1 := fun s : Past (wr.alloc (.cells #[.int .i64 x, .int .i64 y, .int .i64 z] 34)) => Rc1 s.w s.ext
          have qR2 := fun s : Past (wr.alloc (.cells #[.int .i64 x, .int .i64 y, .int .i64 z] 34)) => Rc2 s.w s.ext
          refine wp_region_past (wr.alloc (.cells #[.int .i64 x, .int .i64 y, .int .i64 z] 34)) (by first | exact hE | exact Ext.alloc hE _ | exact Ext.drew hE | exact Ext.drewN hE _) (by kernel_rfl) (by kernel_rfl) ?_
          repeat (go_big_quiet_step (((go_at_call 67; exact past_same (l1Most_any _ _ _)))))
          refine wpQuiet_nil ?_
          intro _ hw'
          obtain ⟨⟨w3, hE⟩, hw''⟩ := hw'
          subst hw''
          clear qR0 qR1 qR2
          go_wp2
          go_roundw
          case rel => exact ⟨k + 1, by omega, by go_num, by rw [HX.out], hbr.trans (by repeat (first | exact Ext.refl _ | assumption | apply Ext.alloc | apply Ext.drew | apply Ext.drewN | (refine Ext.trans ?_ (by assumption)) | (refine Ext.setCell ?_ (by simp; done) _) | (refine Ext.setCell ?_ (by simp; omega) _)))⟩
          case measure => simp [intOf]; omega
        · obtain rfl : k = n := by omega
          go_wp2
          go_ret2
          exact ⟨by rw [HV.out.1, HV.out.2]; rfl, hbr⟩

set_option maxHeartbeats 1000000 in
theorem impl_SupportOf_any (a : Option Addr) (n c : Nat) (zs : List (Int × Int × Int)) (u v : Int) (hn : n ≤ 1073741824) (w : World) (h : Reads w a 3 n (tv zs)) :
    Calls Try.prog 28 #[.slice a n c, .int .i64 u, .int .i64 v] w fun r w' => r = .returned (.tuple #[.int .i64 (gI (starB zs && stepB 20 u v) (supI zs u v zs.length)), .bool (starB zs && stepB 20 u v)]) ∧ Ext w w' := by
  have hl : zs.length = n := by have := h.1; rw [tv_len] at this; omega
  rcases small_of (zs := zs) with hb | ⟨hb, hs⟩
  · go_enter Try.func28, Try.ntmps28
    go_wp2_with fail
    refine (isStar_any _ _ _ zs hn _ h).mono ?_
    rw [hb]
    rintro e w1 ⟨rfl, hb1⟩
    go_wp2
    go_ret2
    exact ⟨by simp [gI, hb], hb1⟩
  · rcases stepB_cases 20 u v with hst | ⟨hst, hu, hv, _⟩
    · go_enter Try.func28, Try.ntmps28
      go_wp2_with fail
      refine (isStar_any _ _ _ zs hn _ h).mono ?_
      rw [hb]
      rintro e w1 ⟨rfl, hb1⟩
      go_wp2_with fail
      refine (areSteps_any _ _ _).mono ?_
      rw [hst]
      rintro e _ ⟨rfl, rfl⟩
      go_wp2
      go_ret2
      exact ⟨by simp [gI, hst], hb1⟩
    · have HV := Lib.hid (show gI (starB zs && stepB 20 u v) (supI zs u v zs.length) = supI zs u v n ∧ (starB zs && stepB 20 u v) = true by simp [gI, hst, hb, hl])
      go_enter Try.func28, Try.ntmps28
      go_wp2_with fail
      refine (isStar_any _ _ _ zs hn _ h).mono ?_
      rw [hb]
      rintro e w1 ⟨rfl, hb1⟩
      go_wp2_with fail
      refine (areSteps_any _ _ _).mono ?_
      rw [hst]
      rintro e _ ⟨rfl, rfl⟩
      have hn10 := hs.1
      go_wp2
      go_loopw [8, 22] (fun x t wr => ∃ k : Nat, k ≤ n ∧ t = .int .i64 k ∧ x = .int .i64 (supI zs u v k) ∧ Ext w wr) (fun _ t _ => n - (intOf t).toNat)
      case atStart => exact ⟨0, Nat.zero_le _, rfl, rfl, hb1⟩
      case round =>
        obtain ⟨k, hk, rfl, rfl, hbr⟩ := hrel
        by_cases hlt : k < n
        · obtain ⟨b, off, rfl, hp0, hp1, hp2⟩ := (Reads.ext hbr h).tri hlt
          have B1 := supI_bd hs hu hv k (by omega)
          have HX := Lib.hid (show supI zs u v (k + 1) = supI zs u v k + (tat zs k).2.2 * maxI 0 ((tat zs k).1 * u + (tat zs k).2.1 * v) from rfl)
          have hbk := hs.2 k (by omega)
          have p1 := step_bd hbk.1 hu
          have p2 := step_bd hbk.2.1 hv
          have P1 := sup_pr (m := (tat zs k).1 * u + (tat zs k).2.1 * v) hbk.2.2 (by omega)
          have HM := Lib.hid (max_out (m := (tat zs k).1 * u + (tat zs k).2.1 * v) hbk.2.2)
          have PM : -16000 ≤ (tat zs k).2.2 * ((tat zs k).1 * u + (tat zs k).2.1 * v) ∧ (tat zs k).2.2 * ((tat zs k).1 * u + (tat zs k).2.1 * v) ≤ 16000 := mul_bd2 hbk.2.2 (by omega)
          have PN := P1
          rw [← HM.out] at PN
          generalize (tat zs k).1 = x at *
          generalize (tat zs k).2.1 = y at *
          generalize (tat zs k).2.2 = z at *
          generalize supI zs u v k = s at *
          clear h hs
          have hE : Ext wr wr := Ext.refl _
          have hT : Ext wr (wr.alloc (.cells #[.int .i64 x, .int .i64 y, .int .i64 z] 34)) := Ext.alloc hE _
          have HR := Has.new wr #[.int .i64 x, .int .i64 y, .int .i64 z] 34
          have Rc0 := Ext.keeps (HR 0 _ rfl)
          have Rc1 := Ext.keeps (HR 1 _ rfl)
          have Rc2 := Ext.keeps (HR 2 _ rfl)
          clear HR
          replace hE : Ext (wr.alloc (.cells #[.int .i64 x, .int .i64 y, .int .i64 z] 34)) (wr.alloc (.cells #[.int .i64 x, .int .i64 y, .int .i64 z] 34)) := Ext.refl _
          go_wp2
          go_roundw
          case rel => exact ⟨k + 1, by omega, by go_num, by rw [HX.out]; rw [← HM.out], hbr.trans (by repeat (first | exact Ext.refl _ | assumption | apply Ext.alloc | apply Ext.drew | apply Ext.drewN | (refine Ext.trans ?_ (by assumption)) | (refine Ext.setCell ?_ (by simp; done) _) | (refine Ext.setCell ?_ (by simp; omega) _)))⟩
          case measure => simp [intOf]; omega
        · obtain rfl : k = n := by omega
          go_wp2
          go_ret2
          exact ⟨by rw [HV.out.1, HV.out.2]; rfl, hbr⟩

theorem law_SupportOf (a : Option Addr) (n c : Nat) (zs : List (Int × Int × Int)) (u v : Int) (w : World) (hr : IsTri w a n c zs) :
    Calls Try.prog 7 #[.slice a n c, .int .i64 u, .int .i64 v] w fun r w' => r = .returned (.bool true) ∧ Ext w w' := by
  have h := hr.1
  have hc1 := hr.2.1
  have hc2 := hr.2.2.1
  unfold maxLen at hc2
  clear hr
  by_cases hn : n ≤ 1048576
  · go_enter Try.func7, Try.ntmps7
    go_wp2_with fail
    refine (szRayS_yes _ _ _ _ (by omega) (by omega) _).mono ?_
    rintro e _ ⟨rfl, rfl⟩
    go_wp2_with fail
    refine (toRayS_any _ _ _ zs hn _ h).mono ?_
    rintro e w1 ⟨g1, rfl, ho1, hb1⟩
    go_wp2_with fail
    refine (spec_SupportOf_any _ _ _ zs _ _ (by omega) _ (own_reads ho1)).mono ?_
    rintro e w2 ⟨rfl, hb2⟩
    have h2 := Reads.ext hb2 (Reads.ext hb1 h)
    go_wp2_with fail
    refine (toRayS_any _ _ _ zs hn _ h2).mono ?_
    rintro e w3 ⟨g2, rfl, ho2, hb3⟩
    go_wp2_with fail
    refine (impl_SupportOf_any _ _ _ zs _ _ (by omega) _ (own_reads ho2)).mono ?_
    rintro e w4 ⟨rfl, hb4⟩
    have h4 := Reads.ext hb4 (Reads.ext hb3 h2)
    go_wp2_with fail
    refine (toRayS_any _ _ _ zs hn _ h4).mono ?_
    rintro e w5 ⟨g3, rfl, ho3, hb5⟩
    go_wp2_with fail
    refine (eqRayS_same _ _ _ _ _ zs (by omega) _ (Reads.ext hb5 (Reads.ext hb4 (own_reads ho2))) (own_reads ho3)).mono ?_
    rintro e w6 ⟨rfl, hb6⟩
    go_wp2
    go_ret
    exact ⟨rfl, ((((hb1.trans hb2).trans hb3).trans hb4).trans hb5).trans hb6⟩
  · go_enter Try.func7, Try.ntmps7
    go_wp2_with fail
    refine (szRayS_no _ _ _ _ (by omega) (by omega) (by omega) (by omega) _).mono ?_
    rintro e _ ⟨rfl, rfl⟩
    go_wp2
    go_ret
    exact ⟨rfl, Ext.refl _⟩

end Go.Proofs.Ytlkhjedlokklaaa
