/-
  IsTriangulated, LoopsOf: both sides.
-/
import Derived.Test.YtehcjlbkfgfmjaaBa4
import Derived.BigQuiet
import Derived.Deep.RegionHeld3
namespace Go.Proofs.Ytehcjlbkfgfmjaa
open Go.RowKit

/-- Each cell has just three terms. -/
def triL (zs : List (Int × Int × Int)) : Bool := (cellsL zs).all fun x => decide (x.length = 3)
theorem triL_bad {zs : List (Int × Int × Int)} {k : Nat} (h : k < (cellsL zs).length) (hb : ((cellsL zs).getD k []).length ≠ 3) : triL zs = false := by
  unfold triL
  rw [List.all_eq_false]
  exact ⟨(cellsL zs)[k], List.getElem_mem _, by simpa [List.getD, h] using hb⟩
theorem triL_good {zs : List (Int × Int × Int)} (h : ∀ k, k < (cellsL zs).length → ((cellsL zs).getD k []).length = 3) : triL zs = true := by
  unfold triL
  rw [List.all_eq_true]
  intro x hx
  obtain ⟨k, hk, rfl⟩ := List.getElem_of_mem hx
  simpa [List.getD, hk] using h k hk
def loopsI (zs : List (Int × Int × Int)) : Int := if (cellsL zs).length = 0 then 0 else ((twiceL zs).length : Int) - ((cellsL zs).length : Int) + 1
theorem twiceL_len {zs : List (Int × Int × Int)} (hZ : PZ zs) : (twiceL zs).length ≤ 48000 := by
  rw [twice_filter hZ.2.2]
  exact Nat.le_trans (List.length_filter_le _ _) (onceL_len hZ)
theorem tri1_any (a : Option Addr) (n c : Nat) (w : World) :
    Calls Try.prog 45 #[.slice a n c] w fun r w' => r = .returned (.bool (decide (n ≠ 3))) ∧ w = w' := by
  go_enter Try.func45, Try.ntmps45
  go_wp2
  go_ret
  refine ⟨ret_bool ?_, rfl⟩
  by_cases h : n = 3
  · simp [h]
  · simp [h]; omega
theorem idxTri_any (B : Nat) (s : Value) (ps : List (Value × List Int)) (zs : List (Int × Int × Int)) (hZ : PZ zs) (hps : ps.map (·.2) = cellsL zs) (w : World) (h : OwnL w B s ps) :
    Calls Try.prog 74 #[s, .func (.func 45) #[] #[]] w fun r w' => ∃ k : Int, r = .returned (.int .i64 k) ∧ decide (0 ≤ k) = !triL zs ∧ -1 ≤ k ∧ k ≤ 2000 ∧ w = w' := by
  obtain ⟨a, c, rfl⟩ := h.form
  have HPS := Lib.hid hps
  have hcl : ps.length ≤ 2000 := by rw [← List.length_map (f := (·.2)), hps]; exact cells_most hZ
  have HV := Lib.hid (by have := h.va; rw [hps] at this; exact this)
  have HO := Lib.hid h
  clear h hps hZ
  go_enter Try.func74, Try.ntmps74
  go_wp2
  go_loopw [8] (fun t wr => ∃ k : Nat, k ≤ ps.length ∧ t = .int .i64 k ∧ Hid (∀ q, q < k → ((cellsL zs).getD q []).length = 3) ∧ w = wr) (fun t _ => ps.length - (intOf t).toNat)
  case atStart => exact ⟨0, Nat.zero_le _, rfl, Lib.hid (fun q hq => absurd hq (by omega)), rfl⟩
  case round =>
    obtain ⟨k, hk, rfl, hT, rfl⟩ := hrel
    by_cases hlk : k < ps.length
    · have hko : k < (cellsL zs).length := by rw [← HPS.out, List.length_map]; exact hlk
      obtain ⟨ak, ck, hvk, _⟩ := HV.out.at k hko
      obtain ⟨g, rfl, _, hg2⟩ := own_head HO.out.1 (by omega)
      have hck := (HO.out.1.cellAt k (by omega)).trans hvk
      have hkn : (k : Int) < (ps.length : Int) := by omega
      have HB := Lib.hid (fun e => triL_bad hko e)
      clear hvk hko
      have HST := Lib.hid (fun (e : ((cellsL zs).getD k []).length = 3) q (hq : q < k + 1) => show ((cellsL zs).getD q []).length = 3 by
        rcases Nat.lt_or_ge q k with h1 | h1
        · exact hT.out q h1
        · obtain rfl : q = k := by omega
          exact e)
      generalize ((cellsL zs).getD k []).length = m at *
      by_cases hm : m = 3
      · have hT2 := Lib.hid (HST.out hm)
        have hd : decide (m ≠ 3) = false := by simp [hm]
        have HC := Lib.hid (tri1_any ak m ck w)
        rw [hd] at HC
        clear HST hm HB hd
        go_wp2_with fail
        refine HC.out.mono ?_
        rintro e _ ⟨rfl, rfl⟩
        go_wp2
        go_roundw
        case rel => exact ⟨k + 1, by omega, by go_num, hT2, trivial⟩
        case measure => simp [intOf]; omega
      · have HF := Lib.hid (HB.out hm)
        have hd : decide (m ≠ 3) = true := by simp [hm]
        have HC := Lib.hid (tri1_any ak m ck w)
        rw [hd] at HC
        clear HST hm HB hd
        go_wp2_with fail
        refine HC.out.mono ?_
        rintro e _ ⟨rfl, rfl⟩
        go_wp2
        go_ret
        exact ⟨(k : Int), rfl, by rw [HF.out]; simp, by omega, by omega, rfl⟩
    · obtain rfl : k = ps.length := by omega
      have HT := Lib.hid (show triL zs = true from triL_good (fun q hq => hT.out q (by rw [← HPS.out, List.length_map] at hq; exact hq)))
      go_wp2
      go_ret
      exact ⟨-1, rfl, by rw [HT.out]; decide, by omega, by omega, rfl⟩
theorem conTri_any (B : Nat) (s : Value) (ps : List (Value × List Int)) (zs : List (Int × Int × Int)) (hZ : PZ zs) (hps : ps.map (·.2) = cellsL zs) (w : World) (h : OwnL w B s ps) :
    Calls Try.prog 44 #[s, .func (.func 45) #[] #[]] w fun r w' => r = .returned (.bool (!triL zs)) ∧ w = w' := by
  go_enter Try.func44, Try.ntmps44
  go_wp2_with fail
  refine (idxTri_any B s ps zs hZ hps w h).mono ?_
  rintro e _ ⟨k, rfl, hk, _, _, rfl⟩
  have HK := Lib.hid hk
  clear hk
  go_wp2
  go_ret
  refine ⟨ret_bool ?_, rfl⟩
  have := HK.out
  simpa using this
theorem impl_IsTriangulated_any (a : Option Addr) (n c : Nat) (zs : List (Int × Int × Int)) (hn : n ≤ 1048576) (w : World) (h : Reads w a 3 n (tv zs)) :
    Calls Try.prog 14 #[.slice a n c] w fun r w' => r = .returned (.tuple #[.bool (planeB zs && triL zs), .bool (planeB zs)]) ∧ Ext w w' := by
  cases hp : planeB zs
  · go_enter Try.func14, Try.ntmps14
    go_wp2_with fail
    refine (subdivided_no _ _ _ zs hn hp _ h).mono ?_
    rintro e w1 ⟨rfl, hb1⟩
    go_wp2
    go_ret2
    exact ⟨rfl, hb1⟩
  · have HZ := Lib.hid (pz_of hp)
    go_enter Try.func14, Try.ntmps14
    go_wp2_with fail
    refine (subdivided_yes _ _ _ zs hn hp _ h).mono ?_
    rintro e w1 ⟨g, rfl, hs, hb1⟩
    obtain ⟨pa, pc, s, e, b, m, B1, ps, qs, h1, h2, h3, h4, h5, h6, h7, h8, h9⟩ := hs
    have hc2 := h1.c2
    have hgl := h1.lt
    have HO := Lib.hid h5
    have HP := Lib.hid h6
    have HE := Lib.hid hb1
    clear h1 h2 h3 h4 h5 h6 h7 h8 h9 hb1 h
    go_wp2_with fail
    refine (conTri_any _ s ps zs HZ.out HP.out w1 HO.out).mono ?_
    rintro e _ ⟨rfl, rfl⟩
    obtain ⟨T, hT⟩ : ∃ T, T = triL zs := ⟨_, rfl⟩
    rw [← hT]
    have HT := Lib.hid hT
    clear hT
    go_wp2
    go_ret2
    exact ⟨by rw [← HT.out]; simp, HE.out⟩
theorem spec_IsTriangulated_any (a : Option Addr) (n c : Nat) (zs : List (Int × Int × Int)) (hn : n ≤ 1048576) (w : World) (h : Reads w a 3 n (tv zs)) :
    Calls Try.prog 12 #[.slice a n c] w fun r w' => r = .returned (.tuple #[.bool (planeB zs && triL zs), .bool (planeB zs)]) ∧ Ext w w' := by
  have hl : zs.length = n := by have := h.1; rw [tv_len] at this; omega
  cases hp : planeB zs
  · go_enter Try.func12, Try.ntmps12
    go_wp2_with fail
    refine (plGood_any _ _ _ zs (by omega) _ h).mono ?_
    rw [hp]
    rintro e w1 ⟨rfl, hb1⟩
    go_wp2
    go_ret2
    exact ⟨rfl, hb1⟩
  · have HZ := Lib.hid (pz_of hp)
    have hn12 : n ≤ 12 := by rw [← hl]; exact HZ.out.1
    have HB := Lib.hid (fun m (hm : m < n) => HZ.out.2.1 m (by rw [hl]; exact hm))
    go_enter Try.func12, Try.ntmps12
    go_wp2_with fail
    refine (plGood_any _ _ _ zs (by omega) _ h).mono ?_
    rw [hp]
    rintro e w1 ⟨rfl, hb1⟩
    go_wp2_with fail
    refine (ceOf_any _ _ _ zs hn12 HB.out w1 (h.ext hb1)).mono ?_
    rintro e w2 ⟨a2, c2, vs, rfl, ho2, hv2, hE2⟩
    have HO := Lib.hid ho2
    have HV := Lib.hid hv2
    have HE := Lib.hid (hb1.trans hE2)
    have hcl := cells_most HZ.out
    clear ho2 hv2 hE2 hb1 h
    obtain ⟨N, hN⟩ : ∃ N, N = (cellsL zs).length := ⟨_, rfl⟩
    rw [← hN] at hcl ⊢
    have HN := Lib.hid hN
    clear hN
    go_wp2
    go_loopw [12] (fun t wr => ∃ k : Nat, k ≤ N ∧ t = .int .i64 k ∧ Hid (∀ q, q < k → ((cellsL zs).getD q []).length = 3) ∧ w2 = wr) (fun t _ => N - (intOf t).toNat)
    case atStart => exact ⟨0, Nat.zero_le _, rfl, Lib.hid (fun q hq => absurd hq (by omega)), rfl⟩
    case round =>
      obtain ⟨k, hk, rfl, hT, rfl⟩ := hrel
      by_cases hlk : k < N
      · have hko : k < (cellsL zs).length := by rw [← HN.out]; exact hlk
        obtain ⟨ak, ck, hvk, _⟩ := HV.out.at k hko
        have ho := HO.out
        rw [← HN.out] at ho
        obtain ⟨g, rfl, _, hg2⟩ := own_head ho (by omega)
        have hck := (ho.cellAt k (by omega)).trans hvk
        have hkn : (k : Int) < (N : Int) := by omega
        have HB2 := Lib.hid (fun e => triL_bad hko e)
        clear hvk hko ho
        have HST := Lib.hid (fun (e : ((cellsL zs).getD k []).length = 3) q (hq : q < k + 1) => show ((cellsL zs).getD q []).length = 3 by
          rcases Nat.lt_or_ge q k with h1 | h1
          · exact hT.out q h1
          · obtain rfl : q = k := by omega
            exact e)
        generalize ((cellsL zs).getD k []).length = m at *
        by_cases hm : m = 3
        · have hT2 := Lib.hid (HST.out hm)
          have hm2 : (m : Int) = 3 := by omega
          clear HST hm HB2
          go_wp2
          go_roundw
          case rel => exact ⟨k + 1, by omega, by go_num, hT2, trivial⟩
          case measure => simp [intOf]; omega
        · have HF := Lib.hid (HB2.out hm)
          have hm2 : ((m : Int) == 3) = false := by simp; omega
          clear HST hm HB2
          go_wp2
          go_ret2
          exact ⟨by rw [HF.out] <;> rfl, HE.out⟩
      · obtain rfl : k = N := by omega
        have HT := Lib.hid (show triL zs = true from triL_good (fun q hq => hT.out q (by rw [← HN.out] at hq; exact hq)))
        go_wp2
        go_ret2
        exact ⟨by rw [HT.out] <;> rfl, HE.out⟩
end Go.Proofs.Ytehcjlbkfgfmjaa
