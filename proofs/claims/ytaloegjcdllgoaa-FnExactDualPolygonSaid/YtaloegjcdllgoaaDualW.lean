/-
  The sides of the dual polygon by their angles: the reference's walk.
-/
import Derived.Test.YtaloegjcdllgoaaDualA
import Derived.Test.YtaloegjcdllgoaaStPut
import Derived.Deep.RegionHeld3
import Derived.BigRegion
import Derived.BigQuiet
namespace Go.Proofs.Ytaloegjcdllgoaa
open Go.RowKit

set_option maxHeartbeats 8000000 in
theorem stSides_any (a : Option Addr) (n c : Nat) (zs : List (Int × Int × Int)) (hb : starB zs = true) (w : World) (h : Reads w a 3 n (tv zs)) :
    Calls Try.prog 56 #[.slice a n c] w (OwnsPts w.heap.size (sidesD zs) w) := by
  have hl : zs.length = n := by have := h.1; rw [tv_len] at this; omega
  subst hl
  have hn := (star_rows hb).1
  have HSD := Lib.hid (fun k (hk : k < zs.length) => putsK_succ hk)
  have HLN := Lib.hid (fun k (hk : k ≤ zs.length) => putsK_len hb hk)
  have HQL := Lib.hid (fun k => putsK_qa hb k)
  have HQS := Lib.hid (fun k (hk : k < zs.length) => star_side hb hk)
  have HBB := Lib.hid (fun k (hk : k < zs.length) => star_tat hb hk)
  have HAL := Lib.hid (putsK_all zs)
  have HSL := Lib.hid (sidesD_len hb)
  have HR := Lib.hid (fun w' (e : Ext w w') => h.ext e)
  clear h hb
  obtain ⟨i0, hz1, hz2, hz3, hz4⟩ := info_parts point_info
  have HZI := Lib.hid (And.intro hz1 (And.intro hz2 (And.intro hz3 hz4)))
  clear hz1 hz2 hz3 hz4
  go_enter Try.func56, Try.ntmps56
  go_wp2
  go_loopw [3, 11] (fun s t wr => ∃ (k : Nat) (a1 : Option Addr) (c1 : Nat), k ≤ zs.length ∧ t = .int .i64 k ∧ s = .slice a1 k c1 ∧ wr.ownsRow w.heap.size 49 2 (.slice a1 k c1) k (pv (putsK zs k)) ∧ Ext w wr) (fun _ t _ => zs.length - (intOf t).toNat)
  case atStart => exact ⟨0, none, 0, Nat.zero_le _, rfl, rfl, own_nonePt _ _, Ext.refl _⟩
  case round =>
    obtain ⟨k, a1, c1, hk, rfl, rfl, hown, hE⟩ := hrel
    by_cases hlt : k < zs.length
    · obtain ⟨b, off, rfl, hp0, hp1, hp2⟩ := (HR.out _ hE).tri hlt
      have HL := Lib.hid (HLN.out k hk)
      have HQ := Lib.hid (HQL.out k)
      have HS := Lib.hid (HSD.out k hlt)
      have hqs := HQS.out k hlt
      have hbb := HBB.out k hlt
      have HK := Lib.hid hlt
      generalize tat zs k = r at *
      obtain ⟨r1, r2, r3⟩ := r
      generalize putsK zs k = L at *
      simp only at hbb hp0 hp1 hp2
      have b1 := mul_bd (a := r3) (d := r2) (A := 20) (D := 20) (by omega) (by omega) (by omega) (by omega)
      have b2 := mul_bd (a := -r3) (d := r1) (A := 20) (D := 20) (by omega) (by omega) (by omega) (by omega)
      have HXY := Lib.hid (show sideD (r1, r2, r3) = (r3 * r2, -r3 * r1) from rfl)
      obtain ⟨wo, hwo⟩ : ∃ wo, wo = wr := ⟨_, rfl⟩
      subst hwo
      go_wp2
      go_quiet (fail)
      go_wp2
      rw [HXY.out] at hqs
      have HS := Lib.hid (show putsK zs (k + 1) = putA L (r3 * r2, -r3 * r1) by rw [HS.out, HXY.out])
      clear HXY b1 b2 hp0 hp1 hp2 hbb
      generalize r3 * r2 = x at *
      generalize -r3 * r1 = y at *
      have HO := Lib.hid hown
      have HE0 := Lib.hid hE
      have HQX := Lib.hid hqs
      clear hown hE hqs
      go_loopw [8] (fun s wr => ∃ (i : Nat), i ≤ k ∧ s = .int .i64 i ∧ Hid (∀ q, q < i → angI (L.getD q (0, 0)) (x, y) < 0) ∧ Ext wo wr) (fun s _ => k - (intOf s).toNat)
      case atStart => exact ⟨0, Nat.zero_le _, rfl, Lib.hid (fun q hq => by omega), (by repeat (first | exact Ext.refl _ | assumption | apply Ext.alloc | apply Ext.drew | apply Ext.drewN | (refine Ext.trans ?_ (by assumption)) | (refine Ext.setCell ?_ (by (try simp) <;> omega) _)))⟩
      case round =>
        obtain ⟨i, hi, rfl, HA, hE⟩ := hrel
        have HO := Lib.hid (own_ext hE HO.out)
        have hEw0 := Lib.hid (HE0.out.trans hE)
        have HE1 := Lib.hid hE
        clear HE0 hE
        have hlk := HK.out
        by_cases hin : i < k
        · obtain ⟨m, rfl⟩ : ∃ m, k = i + 1 + m := ⟨k - i - 1, by omega⟩
          have hgt : decide ((i : Int) < (i : Int) + 1 + (m : Int)) = true := decide_eq_true (by omega)
          obtain ⟨g, rfl, hg1, hg2⟩ := own_head HO.out (by omega)
          have hcap := (own_capQ HO.out).1
          obtain ⟨_, _, e1, z0, z1⟩ := (own_reads HO.out).pair hin
          simp only [Option.some.injEq, Addr.mk.injEq, and_true] at e1
          obtain ⟨rfl, rfl⟩ := e1
          have hqz := HQ.out (L.getD i (0, 0)) (by have := HL.out; rw [show L.getD i (0, 0) = L[i]'(by omega) by simp [List.getD, show i < L.length by omega]]; exact List.getElem_mem _)
          have HP := Lib.hid (putA_at (r := (x, y)) (l := L) i (by have := HL.out; omega) HA.out)
          have HA1 := Lib.hid (fun (e : angI (L.getD i (0, 0)) (x, y) < 0) q (hq : q < i + 1) => show angI (L.getD q (0, 0)) (x, y) < 0 by
            rcases (show q < i ∨ q = i by omega) with h | h
            · exact HA.out q h
            · subst h; exact e)
          have ez : pat L i = L.getD i (0, 0) := rfl
          rw [ez] at z0 z1
          generalize L.getD i (0, 0) = z at *
          obtain ⟨zx, zy⟩ := z
          simp only [Nat.zero_add] at z0 z1
          have HC := Lib.hid (fun w => stAngle_any zx zy x y hqz HQX.out w)
          clear ez hqz HA
          have Zc0 := Ext.keeps z0
          have Zc1 := Ext.keeps z1
          clear z0 z1
          have e1 : i + 1 + m - i = m + 1 := by omega
          have e2 : ((i + 1 + m - i : Nat) : Int) = (m : Int) + 1 := by omega
          by_cases hang : angI (zx, zy) (x, y) < 0
          · have hdc : decide (angI (zx, zy) (x, y) < 0) = true := decide_eq_true hang
            rw [hdc] at HC
            have HA2 := Lib.hid (HA1.out hang)
            clear HA1 HP hang hdc
            have hE : Ext wr wr := Ext.refl _
            go_wp2
            have qZ0 := fun s : Past wr => Zc0 s.w s.ext
            have qZ1 := fun s : Past wr => Zc1 s.w s.ext
            refine wp_region_past wr (by first | exact hE | exact Ext.alloc hE _ | exact Ext.drew hE | exact Ext.drewN hE _) (by kernel_rfl) (by kernel_rfl) ?_
            repeat (go_big_quiet_step (((go_at_call 70; exact past_ext (HC.out _)))))
            refine wpQuiet_nil ?_
            intro w1 hw'
            obtain ⟨⟨_, hE⟩, hw''⟩ := hw'
            subst hw''
            clear qZ0 qZ1
            go_wp2
            go_roundw
            case rel => exact ⟨i + 1, by omega, by go_num, HA2, HE1.out.trans hE⟩
            case measure => simp [intOf]; omega
          · have hdc : decide (angI (zx, zy) (x, y) < 0) = false := decide_eq_false hang
            rw [hdc] at HC
            have HP2 := Lib.hid (show putA L (x, y) = L.take i ++ ([(x, y)] ++ L.drop i) from HP.out (fun _ => hang))
            have HTV := Lib.hid (show pv (putA L (x, y)) = pv (L.take i) ++ [.int .i64 x, .int .i64 y] ++ pv (L.drop i) by rw [HP2.out, pv_append, pv_append, List.append_assoc]; rfl)
            clear HA1 HP HP2 hang hdc
            have hE : Ext wr wr := Ext.refl _
            go_wp2
            have qZ0 := fun s : Past wr => Zc0 s.w s.ext
            have qZ1 := fun s : Past wr => Zc1 s.w s.ext
            refine wp_region_past wr (by first | exact hE | exact Ext.alloc hE _ | exact Ext.drew hE | exact Ext.drewN hE _) (by kernel_rfl) (by kernel_rfl) ?_
            repeat (go_big_quiet_step (((go_at_call 70; exact past_ext (HC.out _)))))
            refine wpQuiet_nil ?_
            intro w1 hw'
            obtain ⟨⟨_, hE⟩, hw''⟩ := hw'
            subst hw''
            clear qZ0 qZ1
            have HO3 := Lib.hid (own_ext hE HO.out)
            have hEw := Lib.hid (hEw0.out.trans hE)
            clear hE HO hEw0 HE1 Zc0 Zc1 HC
            obtain ⟨wr, hwr⟩ : ∃ wr, wr = w1 := ⟨_, rfl⟩
            subst hwr
            have HRA := Lib.hid (fun w' (e : Ext wr w') => show Reads w' (some ⟨g, 0, none⟩) 2 i (pv (L.take i)) by
              have := (own_reads (own_ext e HO3.out)).take (k := i) (by omega)
              rwa [pv_take] at this)
            have HRC := Lib.hid (fun w' (e : Ext wr w') => show Reads w' (some ⟨g, i * 2, none⟩) 2 (m + 1) (pv (L.drop i)) by
              have := (own_reads (own_ext e HO3.out)).drop (k := i) (by omega)
              rw [pv_drop, Nat.zero_add] at this
              rwa [show i + 1 + m - i = m + 1 by omega] at this)
            have hic : ¬ c1 = i := by omega
            have hic2 : i ≤ c1 := by omega
            have hJ1 : (i : Int) ≤ (i : Int) + 1 + (m : Int) := by omega
            have hJ2 : (0 : Int) ≤ (i : Int) := by omega
            have hJ3 : ¬ ((i : Int) + 1 + (m : Int) < (i : Int)) := by omega
            go_wp2
            go_region_held3 (fun w' => Ext wr w') (first | exact HE4.out | exact HE3.out | exact Ext.alloc HE2.out _ | exact HE2.out | (repeat (first | exact Ext.refl _ | assumption | apply Ext.alloc | apply Ext.drew | apply Ext.drewN | (refine Ext.trans ?_ (by assumption)) | (refine Ext.setCell ?_ (by (try simp) <;> omega) _)))) (first | (have t3 := H3; clear t3; refine step_app_N _ (by rfl) _ _ 31 (by rfl) wr.heap.size 49 i0 _ 2 16 Try.underlying31 HZI.out.1 HZI.out.2.1 HZI.out.2.2.1 HZI.out.2.2.2 rfl (by omega) (i + 1 + (m + 1)) (.slice _ _ _) _ _ (by rfl) H3.out _ _ _ (pv (L.drop i)) (by rfl) (HRC.out _ HE3.out) (pv_one _) (by omega) (by unfold maxLen; omega) (by omega) (Ext.size HE3.out) ?_; intro a4 c4 w4 hown4 hg4; have H4 := Lib.hid hown4; have HE4 := Lib.hid (Ext.grown (a := wr) HE3.out hg4 (fun k hk => (H3.out.lt k hk).1)); clear hown4 hg4) | (have t2 := H2; clear t2; refine step_app_N _ (by rfl) _ _ 31 (by rfl) wr.heap.size 49 i0 _ 2 16 Try.underlying31 HZI.out.1 HZI.out.2.1 HZI.out.2.2.1 HZI.out.2.2.2 rfl (by omega) (i + 1) (.slice _ _ _) _ _ (by rfl) (by first | (with_reducible exact H2.out) | exact own_ext (Ext.alloc (Ext.refl _) _) H2.out) _ 1 _ [.int .i64 x, .int .i64 y] (by rfl) (ones_reads2 (by first | (with_reducible assumption) | (simp; done)) (by first | (with_reducible assumption) | (simp; done))) (by simp [Value.oneCell']) (by omega) (by unfold maxLen; omega) (by omega) (Ext.size (w := wr) (by first | (with_reducible exact HE2.out) | exact Ext.alloc HE2.out _)) ?_; intro a3 c3 w3 hown3 hg3; have H3 := Lib.hid hown3; have HE3 := Lib.hid (Ext.grown (a := wr) (by first | (with_reducible exact HE2.out) | exact Ext.alloc HE2.out _) hg3 (fun k hk => (H2.out.lt k hk).1)); clear hown3 hg3) | (refine step_app_N _ (by rfl) _ _ 31 (by rfl) wr.heap.size 49 i0 _ 2 16 Try.underlying31 HZI.out.1 HZI.out.2.1 HZI.out.2.2.1 HZI.out.2.2.2 rfl (by omega) (i) (.slice (some ⟨_, 0, none⟩) 0 0) 0 [] (by rfl) (by first | exact own_emptyH wr rfl rfl rfl (Nat.le_refl _) | exact own_emptyH (wr.alloc (.cells #[.int .i64 x, .int .i64 y] 49)) rfl rfl (by simp) (by simp) | exact own_ext (show Ext (wr.alloc (.cells #[] 49)) _ from (by repeat (first | exact Ext.refl _ | assumption | apply Ext.alloc | apply Ext.drew | apply Ext.drewN | (refine Ext.trans ?_ (by assumption)) | (refine Ext.setCell ?_ (by (try simp) <;> omega) _)))) (own_emptyH wr rfl rfl rfl (Nat.le_refl _))) _ i _ (pv (L.take i)) (by rfl) (HRA.out _ (by repeat (first | exact Ext.refl _ | assumption | apply Ext.alloc | apply Ext.drew | apply Ext.drewN | (refine Ext.trans ?_ (by assumption)) | (refine Ext.setCell ?_ (by (try simp) <;> omega) _)))) (pv_one _) (by omega) (by unfold maxLen; omega) (by omega) (Ext.size (w := wr) (by repeat (first | exact Ext.refl _ | assumption | apply Ext.alloc | apply Ext.drew | apply Ext.drewN | (refine Ext.trans ?_ (by assumption)) | (refine Ext.setCell ?_ (by (try simp) <;> omega) _)))) ?_; intro a2 c2 w2 hown2 hg2; simp only [List.nil_append] at hown2; have H2 := Lib.hid hown2; have HE2 := Lib.hid (Ext.grown (a := wr) (by repeat (first | exact Ext.refl _ | assumption | apply Ext.alloc | apply Ext.drew | apply Ext.drewN | (refine Ext.trans ?_ (by assumption)) | (refine Ext.setCell ?_ (by (try simp) <;> omega) _))) hg2 (fun k hk => by simp [Value.ownBlock] at hk; omega)); (try (have j0_0 := grown_keep (b := wr.heap.size) (o := 0) (v := .int .i64 x) hg2; simp [Value.ownBlock] at j0_0)); (try (have j0_1 := grown_keep (b := wr.heap.size) (o := 1) (v := .int .i64 y) hg2; simp [Value.ownBlock] at j0_1)); (try (have j1_0 := grown_keep (b := wr.heap.size + 1) (o := 0) (v := .int .i64 x) hg2; simp [Value.ownBlock] at j1_0)); (try (have j1_1 := grown_keep (b := wr.heap.size + 1) (o := 1) (v := .int .i64 y) hg2; simp [Value.ownBlock] at j1_1)); clear hown2 hg2))
            all_goals (
              go_wp2
              go_roundw
              case rel => exact ⟨i + 1 + m + 1, a4, c4, by have := HK.out; omega, by go_num, by rfl, by rw [HS.out, HTV.out]; exact own_mono (Ext.size hEw.out) H4.out, hEw.out.trans HE4.out⟩
              case measure => simp [intOf]; have := HK.out; omega)

        · obtain rfl : i = k := by omega
          have HP2 := Lib.hid (show putA L (x, y) = L.take i ++ [(x, y)] by
            have := HL.out
            rw [putA_at (r := (x, y)) (l := L) i (by omega) HA.out (fun h => by omega), List.drop_of_length_le (by omega)])
          have HTV := Lib.hid (show pv (putA L (x, y)) = pv (L.take i) ++ [.int .i64 x, .int .i64 y] ++ [] by rw [HP2.out, pv_append]; simp [pv])
          clear HP2 HA
          have hg1 : decide ((i : Int) < (i : Int)) = false := by simp
          have hE : Ext wr wr := Ext.refl _
          go_wp2
          refine wp_region_past wr (by first | exact hE | exact Ext.alloc hE _ | exact Ext.drew hE | exact Ext.drewN hE _) (by kernel_rfl) (by kernel_rfl) ?_
          repeat (go_big_quiet_step ((fail)))
          refine wpQuiet_nil ?_
          intro w1 hw'
          obtain ⟨⟨_, hE⟩, hw''⟩ := hw'
          subst hw''
          have HO3 := Lib.hid (own_ext hE HO.out)
          have hEw := Lib.hid (hEw0.out.trans hE)
          clear hE HO hEw0 HE1
          obtain ⟨wr, hwr⟩ : ∃ wr, wr = w1 := ⟨_, rfl⟩
          subst hwr
          have hcap := (own_capQ HO3.out).1
          rcases own_two HO3.out with ⟨rfl, rfl, rfl⟩ | ⟨g, rfl⟩
          · skip
            go_wp2
            go_region_held3 (fun w' => Ext wr w') (first | exact HE4.out | exact HE3.out | exact Ext.alloc HE2.out _ | exact HE2.out | (repeat (first | exact Ext.refl _ | assumption | apply Ext.alloc | apply Ext.drew | apply Ext.drewN | (refine Ext.trans ?_ (by assumption)) | (refine Ext.setCell ?_ (by (try simp) <;> omega) _)))) (first | (have t3 := H3; clear t3; refine step_app_N _ (by rfl) _ _ 31 (by rfl) wr.heap.size 49 i0 _ 2 16 Try.underlying31 HZI.out.1 HZI.out.2.1 HZI.out.2.2.1 HZI.out.2.2.2 rfl (by omega) (1) (.slice _ _ _) _ _ (by rfl) H3.out _ _ _ ([]) (by rfl) (Reads.zero) (by simp) (by omega) (by unfold maxLen; omega) (by omega) (Ext.size HE3.out) ?_; intro a4 c4 w4 hown4 hg4; have H4 := Lib.hid hown4; have HE4 := Lib.hid (Ext.grown (a := wr) HE3.out hg4 (fun k hk => (H3.out.lt k hk).1)); clear hown4 hg4) | (have t2 := H2; clear t2; refine step_app_N _ (by rfl) _ _ 31 (by rfl) wr.heap.size 49 i0 _ 2 16 Try.underlying31 HZI.out.1 HZI.out.2.1 HZI.out.2.2.1 HZI.out.2.2.2 rfl (by omega) (1) (.slice _ _ _) _ _ (by rfl) (by first | (with_reducible exact H2.out) | exact own_ext (Ext.alloc (Ext.refl _) _) H2.out) _ 1 _ [.int .i64 x, .int .i64 y] (by rfl) (ones_reads2 (by first | (with_reducible assumption) | (simp; done)) (by first | (with_reducible assumption) | (simp; done))) (by simp [Value.oneCell']) (by omega) (by unfold maxLen; omega) (by omega) (Ext.size (w := wr) (by first | (with_reducible exact HE2.out) | exact Ext.alloc HE2.out _)) ?_; intro a3 c3 w3 hown3 hg3; have H3 := Lib.hid hown3; have HE3 := Lib.hid (Ext.grown (a := wr) (by first | (with_reducible exact HE2.out) | exact Ext.alloc HE2.out _) hg3 (fun k hk => (H2.out.lt k hk).1)); clear hown3 hg3) | (refine step_app_N _ (by rfl) _ _ 31 (by rfl) wr.heap.size 49 i0 _ 2 16 Try.underlying31 HZI.out.1 HZI.out.2.1 HZI.out.2.2.1 HZI.out.2.2.2 rfl (by omega) (0) (.slice (some ⟨_, 0, none⟩) 0 0) 0 [] (by rfl) (by first | exact own_emptyH wr rfl rfl rfl (Nat.le_refl _) | exact own_emptyH (wr.alloc (.cells #[.int .i64 x, .int .i64 y] 49)) rfl rfl (by simp) (by simp) | exact own_ext (show Ext (wr.alloc (.cells #[] 49)) _ from (by repeat (first | exact Ext.refl _ | assumption | apply Ext.alloc | apply Ext.drew | apply Ext.drewN | (refine Ext.trans ?_ (by assumption)) | (refine Ext.setCell ?_ (by (try simp) <;> omega) _)))) (own_emptyH wr rfl rfl rfl (Nat.le_refl _))) _ 0 _ (pv (L.take 0)) (by rfl) (Reads.zero) (pv_one _) (by omega) (by unfold maxLen; omega) (by omega) (Ext.size (w := wr) (by repeat (first | exact Ext.refl _ | assumption | apply Ext.alloc | apply Ext.drew | apply Ext.drewN | (refine Ext.trans ?_ (by assumption)) | (refine Ext.setCell ?_ (by (try simp) <;> omega) _)))) ?_; intro a2 c2 w2 hown2 hg2; simp only [List.nil_append] at hown2; have H2 := Lib.hid hown2; have HE2 := Lib.hid (Ext.grown (a := wr) (by repeat (first | exact Ext.refl _ | assumption | apply Ext.alloc | apply Ext.drew | apply Ext.drewN | (refine Ext.trans ?_ (by assumption)) | (refine Ext.setCell ?_ (by (try simp) <;> omega) _))) hg2 (fun k hk => by simp [Value.ownBlock] at hk; omega)); (try (have j0_0 := grown_keep (b := wr.heap.size) (o := 0) (v := .int .i64 x) hg2; simp [Value.ownBlock] at j0_0)); (try (have j0_1 := grown_keep (b := wr.heap.size) (o := 1) (v := .int .i64 y) hg2; simp [Value.ownBlock] at j0_1)); (try (have j1_0 := grown_keep (b := wr.heap.size + 1) (o := 0) (v := .int .i64 x) hg2; simp [Value.ownBlock] at j1_0)); (try (have j1_1 := grown_keep (b := wr.heap.size + 1) (o := 1) (v := .int .i64 y) hg2; simp [Value.ownBlock] at j1_1)); clear hown2 hg2))
            all_goals (
              go_wp2
              go_roundw
              case rel => exact ⟨0 + 1, a4, c4, by have := HK.out; omega, by go_num, by rfl, by rw [HS.out, HTV.out]; exact own_mono (Ext.size hEw.out) H4.out, hEw.out.trans HE4.out⟩
              case measure => simp [intOf]; have := HK.out; omega)

          · have HRA := Lib.hid (fun w' (e : Ext wr w') => show Reads w' (some ⟨g, 0, none⟩) 2 i (pv (L.take i)) by
              have := (own_reads (own_ext e HO3.out)).take (k := i) (by omega)
              rwa [pv_take] at this)
            by_cases hcc : c1 = i
            · subst hcc
              go_wp2
              go_region_held3 (fun w' => Ext wr w') (first | exact HE4.out | exact HE3.out | exact Ext.alloc HE2.out _ | exact HE2.out | (repeat (first | exact Ext.refl _ | assumption | apply Ext.alloc | apply Ext.drew | apply Ext.drewN | (refine Ext.trans ?_ (by assumption)) | (refine Ext.setCell ?_ (by (try simp) <;> omega) _)))) (first | (have t3 := H3; clear t3; refine step_app_N _ (by rfl) _ _ 31 (by rfl) wr.heap.size 49 i0 _ 2 16 Try.underlying31 HZI.out.1 HZI.out.2.1 HZI.out.2.2.1 HZI.out.2.2.2 rfl (by omega) (c1 + 1) (.slice _ _ _) _ _ (by rfl) H3.out _ _ _ ([]) (by rfl) (Reads.zero) (by simp) (by omega) (by unfold maxLen; omega) (by omega) (Ext.size HE3.out) ?_; intro a4 c4 w4 hown4 hg4; have H4 := Lib.hid hown4; have HE4 := Lib.hid (Ext.grown (a := wr) HE3.out hg4 (fun k hk => (H3.out.lt k hk).1)); clear hown4 hg4) | (have t2 := H2; clear t2; refine step_app_N _ (by rfl) _ _ 31 (by rfl) wr.heap.size 49 i0 _ 2 16 Try.underlying31 HZI.out.1 HZI.out.2.1 HZI.out.2.2.1 HZI.out.2.2.2 rfl (by omega) (c1 + 1) (.slice _ _ _) _ _ (by rfl) (by first | (with_reducible exact H2.out) | exact own_ext (Ext.alloc (Ext.refl _) _) H2.out) _ 1 _ [.int .i64 x, .int .i64 y] (by rfl) (ones_reads2 (by first | (with_reducible assumption) | (simp; done)) (by first | (with_reducible assumption) | (simp; done))) (by simp [Value.oneCell']) (by omega) (by unfold maxLen; omega) (by omega) (Ext.size (w := wr) (by first | (with_reducible exact HE2.out) | exact Ext.alloc HE2.out _)) ?_; intro a3 c3 w3 hown3 hg3; have H3 := Lib.hid hown3; have HE3 := Lib.hid (Ext.grown (a := wr) (by first | (with_reducible exact HE2.out) | exact Ext.alloc HE2.out _) hg3 (fun k hk => (H2.out.lt k hk).1)); clear hown3 hg3) | (refine step_app_N _ (by rfl) _ _ 31 (by rfl) wr.heap.size 49 i0 _ 2 16 Try.underlying31 HZI.out.1 HZI.out.2.1 HZI.out.2.2.1 HZI.out.2.2.2 rfl (by omega) (c1) (.slice (some ⟨_, 0, none⟩) 0 0) 0 [] (by rfl) (by first | exact own_emptyH wr rfl rfl rfl (Nat.le_refl _) | exact own_emptyH (wr.alloc (.cells #[.int .i64 x, .int .i64 y] 49)) rfl rfl (by simp) (by simp) | exact own_ext (show Ext (wr.alloc (.cells #[] 49)) _ from (by repeat (first | exact Ext.refl _ | assumption | apply Ext.alloc | apply Ext.drew | apply Ext.drewN | (refine Ext.trans ?_ (by assumption)) | (refine Ext.setCell ?_ (by (try simp) <;> omega) _)))) (own_emptyH wr rfl rfl rfl (Nat.le_refl _))) _ c1 _ (pv (L.take c1)) (by rfl) (HRA.out _ (by repeat (first | exact Ext.refl _ | assumption | apply Ext.alloc | apply Ext.drew | apply Ext.drewN | (refine Ext.trans ?_ (by assumption)) | (refine Ext.setCell ?_ (by (try simp) <;> omega) _)))) (pv_one _) (by omega) (by unfold maxLen; omega) (by omega) (Ext.size (w := wr) (by repeat (first | exact Ext.refl _ | assumption | apply Ext.alloc | apply Ext.drew | apply Ext.drewN | (refine Ext.trans ?_ (by assumption)) | (refine Ext.setCell ?_ (by (try simp) <;> omega) _)))) ?_; intro a2 c2 w2 hown2 hg2; simp only [List.nil_append] at hown2; have H2 := Lib.hid hown2; have HE2 := Lib.hid (Ext.grown (a := wr) (by repeat (first | exact Ext.refl _ | assumption | apply Ext.alloc | apply Ext.drew | apply Ext.drewN | (refine Ext.trans ?_ (by assumption)) | (refine Ext.setCell ?_ (by (try simp) <;> omega) _))) hg2 (fun k hk => by simp [Value.ownBlock] at hk; omega)); (try (have j0_0 := grown_keep (b := wr.heap.size) (o := 0) (v := .int .i64 x) hg2; simp [Value.ownBlock] at j0_0)); (try (have j0_1 := grown_keep (b := wr.heap.size) (o := 1) (v := .int .i64 y) hg2; simp [Value.ownBlock] at j0_1)); (try (have j1_0 := grown_keep (b := wr.heap.size + 1) (o := 0) (v := .int .i64 x) hg2; simp [Value.ownBlock] at j1_0)); (try (have j1_1 := grown_keep (b := wr.heap.size + 1) (o := 1) (v := .int .i64 y) hg2; simp [Value.ownBlock] at j1_1)); clear hown2 hg2))
              all_goals (
                go_wp2
                go_roundw
                case rel => exact ⟨c1 + 1, a4, c4, by have := HK.out; omega, by go_num, by rfl, by rw [HS.out, HTV.out]; exact own_mono (Ext.size hEw.out) H4.out, hEw.out.trans HE4.out⟩
                case measure => simp [intOf]; have := HK.out; omega)

            · have hic : i < c1 := by omega
              go_wp2
              go_region_held3 (fun w' => Ext wr w') (first | exact HE4.out | exact HE3.out | exact Ext.alloc HE2.out _ | exact HE2.out | (repeat (first | exact Ext.refl _ | assumption | apply Ext.alloc | apply Ext.drew | apply Ext.drewN | (refine Ext.trans ?_ (by assumption)) | (refine Ext.setCell ?_ (by (try simp) <;> omega) _)))) (first | (have t3 := H3; clear t3; refine step_app_N _ (by rfl) _ _ 31 (by rfl) wr.heap.size 49 i0 _ 2 16 Try.underlying31 HZI.out.1 HZI.out.2.1 HZI.out.2.2.1 HZI.out.2.2.2 rfl (by omega) (i + 1) (.slice _ _ _) _ _ (by rfl) H3.out _ _ _ ([]) (by rfl) (Reads.zero) (by simp) (by omega) (by unfold maxLen; omega) (by omega) (Ext.size HE3.out) ?_; intro a4 c4 w4 hown4 hg4; have H4 := Lib.hid hown4; have HE4 := Lib.hid (Ext.grown (a := wr) HE3.out hg4 (fun k hk => (H3.out.lt k hk).1)); clear hown4 hg4) | (have t2 := H2; clear t2; refine step_app_N _ (by rfl) _ _ 31 (by rfl) wr.heap.size 49 i0 _ 2 16 Try.underlying31 HZI.out.1 HZI.out.2.1 HZI.out.2.2.1 HZI.out.2.2.2 rfl (by omega) (i + 1) (.slice _ _ _) _ _ (by rfl) (by first | (with_reducible exact H2.out) | exact own_ext (Ext.alloc (Ext.refl _) _) H2.out) _ 1 _ [.int .i64 x, .int .i64 y] (by rfl) (ones_reads2 (by first | (with_reducible assumption) | (simp; done)) (by first | (with_reducible assumption) | (simp; done))) (by simp [Value.oneCell']) (by omega) (by unfold maxLen; omega) (by omega) (Ext.size (w := wr) (by first | (with_reducible exact HE2.out) | exact Ext.alloc HE2.out _)) ?_; intro a3 c3 w3 hown3 hg3; have H3 := Lib.hid hown3; have HE3 := Lib.hid (Ext.grown (a := wr) (by first | (with_reducible exact HE2.out) | exact Ext.alloc HE2.out _) hg3 (fun k hk => (H2.out.lt k hk).1)); clear hown3 hg3) | (refine step_app_N _ (by rfl) _ _ 31 (by rfl) wr.heap.size 49 i0 _ 2 16 Try.underlying31 HZI.out.1 HZI.out.2.1 HZI.out.2.2.1 HZI.out.2.2.2 rfl (by omega) (i) (.slice (some ⟨_, 0, none⟩) 0 0) 0 [] (by rfl) (by first | exact own_emptyH wr rfl rfl rfl (Nat.le_refl _) | exact own_emptyH (wr.alloc (.cells #[.int .i64 x, .int .i64 y] 49)) rfl rfl (by simp) (by simp) | exact own_ext (show Ext (wr.alloc (.cells #[] 49)) _ from (by repeat (first | exact Ext.refl _ | assumption | apply Ext.alloc | apply Ext.drew | apply Ext.drewN | (refine Ext.trans ?_ (by assumption)) | (refine Ext.setCell ?_ (by (try simp) <;> omega) _)))) (own_emptyH wr rfl rfl rfl (Nat.le_refl _))) _ i _ (pv (L.take i)) (by rfl) (HRA.out _ (by repeat (first | exact Ext.refl _ | assumption | apply Ext.alloc | apply Ext.drew | apply Ext.drewN | (refine Ext.trans ?_ (by assumption)) | (refine Ext.setCell ?_ (by (try simp) <;> omega) _)))) (pv_one _) (by omega) (by unfold maxLen; omega) (by omega) (Ext.size (w := wr) (by repeat (first | exact Ext.refl _ | assumption | apply Ext.alloc | apply Ext.drew | apply Ext.drewN | (refine Ext.trans ?_ (by assumption)) | (refine Ext.setCell ?_ (by (try simp) <;> omega) _)))) ?_; intro a2 c2 w2 hown2 hg2; simp only [List.nil_append] at hown2; have H2 := Lib.hid hown2; have HE2 := Lib.hid (Ext.grown (a := wr) (by repeat (first | exact Ext.refl _ | assumption | apply Ext.alloc | apply Ext.drew | apply Ext.drewN | (refine Ext.trans ?_ (by assumption)) | (refine Ext.setCell ?_ (by (try simp) <;> omega) _))) hg2 (fun k hk => by simp [Value.ownBlock] at hk; omega)); (try (have j0_0 := grown_keep (b := wr.heap.size) (o := 0) (v := .int .i64 x) hg2; simp [Value.ownBlock] at j0_0)); (try (have j0_1 := grown_keep (b := wr.heap.size) (o := 1) (v := .int .i64 y) hg2; simp [Value.ownBlock] at j0_1)); (try (have j1_0 := grown_keep (b := wr.heap.size + 1) (o := 0) (v := .int .i64 x) hg2; simp [Value.ownBlock] at j1_0)); (try (have j1_1 := grown_keep (b := wr.heap.size + 1) (o := 1) (v := .int .i64 y) hg2; simp [Value.ownBlock] at j1_1)); clear hown2 hg2))
              all_goals (
                go_wp2
                go_roundw
                case rel => exact ⟨i + 1, a4, c4, by have := HK.out; omega, by go_num, by rfl, by rw [HS.out, HTV.out]; exact own_mono (Ext.size hEw.out) H4.out, hEw.out.trans HE4.out⟩
                case measure => simp [intOf]; have := HK.out; omega)

    · obtain rfl : k = zs.length := by omega
      rw [HAL.out] at hown
      go_wp2
      go_ret
      exact ⟨a1, c1, by rw [HSL.out] <;> rfl, by rw [HSL.out]; exact hown, hE⟩
end Go.Proofs.Ytaloegjcdllgoaa
