/-
  HaveSameCells: both sides and the law's walk.
-/
import Derived.Test.YtehcjlbkfgfmjaaSubW
import Derived.BigQuiet
import Derived.Deep.RegionHeld3
namespace Go.Proofs.Ytehcjlbkfgfmjaa
open Go.RowKit

theorem takeQ {zs ys : List (Int × Int)} {k : Nat} (hz : k < zs.length) (hy : k < ys.length) (h : zs.take k = ys.take k) (e : pat zs k = pat ys k) : zs.take (k + 1) = ys.take (k + 1) := by
  rw [List.take_succ_eq_append_getElem hz, List.take_succ_eq_append_getElem hy, h]
  rw [pat_eq hz, pat_eq hy] at e
  rw [e]
theorem ne_atQ {zs ys : List (Int × Int)} {k : Nat} (e : pat zs k ≠ pat ys k) : zs ≠ ys := by rintro rfl; exact e rfl
theorem takeR {zs ys : List (List Int)} {k : Nat} (hz : k < zs.length) (hy : k < ys.length) (h : zs.take k = ys.take k) (e : zs.getD k [] = ys.getD k []) : zs.take (k + 1) = ys.take (k + 1) := by
  rw [List.take_succ_eq_append_getElem hz, List.take_succ_eq_append_getElem hy, h]
  simp [List.getD, hz, hy] at e
  rw [e]
theorem ne_atR {zs ys : List (List Int)} {k : Nat} (e : zs.getD k [] ≠ ys.getD k []) : zs ≠ ys := by rintro rfl; exact e rfl
theorem cells_row {zs : List (Int × Int × Int)} (hZ : PZ zs) (k : Nat) : ((cellsL zs).getD k []).length ≤ 12 := by
  rcases Nat.lt_or_ge k (cellsL zs).length with h | h
  · exact cells_rows hZ _ (by rw [show (cellsL zs).getD k [] = (cellsL zs)[k] by simp [List.getD, h]]; exact List.getElem_mem _)
  · simp [List.getD, h]
/-- The same points and the same cells. -/
def sameC (zs ys : List (Int × Int × Int)) : Bool := decide (ptsL zs = ptsL ys) && decide (cellsL zs = cellsL ys)
set_option maxHeartbeats 1000000 in
theorem slicesEqualPt_any (a a' : Option Addr) (n n' c c' : Nat) (zs ys : List (Int × Int)) (hn : n ≤ 1048576) (hn' : n' ≤ 1048576) (w : World) (h : Reads w a 2 n (pv zs)) (h' : Reads w a' 2 n' (pv ys)) :
    Calls Try.prog 50 #[.slice a n c, .slice a' n' c'] w fun r w' => r = .returned (.bool (decide (zs = ys))) ∧ Ext w w' := by
  have hl : zs.length = n := by have := h.1; rw [pv_len] at this; omega
  have hl' : ys.length = n' := by have := h'.1; rw [pv_len] at this; omega
  by_cases hll : n = n'
  rotate_left
  · have hd : decide (zs = ys) = false := decide_eq_false (fun e => hll (by rw [← hl, ← hl', e]))
    have hne : ((n : Int) != (n' : Int)) = true := by simp; omega
    have hne2 : ((n : Int) == (n' : Int)) = false := by simp; omega
    rw [hd]
    have HL := Lib.hid hll
    clear hll hd hl hl'
    go_enter Try.func50, Try.ntmps50
    go_wp2
    go_ret
    exact ⟨rfl, Ext.refl _⟩
  · subst hll
    obtain ⟨d, hd⟩ : ∃ d, d = decide (zs = ys) := ⟨_, rfl⟩
    rw [← hd]
    have HD := Lib.hid hd
    have HL := Lib.hid hl
    have HL2 := Lib.hid hl'
    clear hd hl hl'
    go_enter Try.func50, Try.ntmps50
    go_wp2
    go_loopw [13] (fun t wr => ∃ k : Nat, k ≤ n ∧ t = .int .i64 k ∧ Hid (zs.take k = ys.take k) ∧ Ext w wr) (fun t _ => n - (intOf t).toNat)
    case atStart => exact ⟨0, Nat.zero_le _, rfl, Lib.hid (by simp), Ext.refl _⟩
    case round =>
      obtain ⟨k, hk, rfl, hT, hE⟩ := hrel
      by_cases hlt : k < n
      · have hlz : k < zs.length := by rw [HL.out]; exact hlt
        have hly : k < ys.length := by rw [HL2.out]; exact hlt
        obtain ⟨b, off, rfl, x0, x1⟩ := (Reads.ext hE h).pair hlt
        obtain ⟨b', off', rfl, y0, y1⟩ := (Reads.ext hE h').pair hlt
        have HS := Lib.hid (fun e => takeQ hlz hly hT.out e)
        have HN := Lib.hid (fun e => (decide_eq_false (ne_atQ (zs := zs) (ys := ys) (k := k) e)))
        have hkn : (k : Int) < (n : Int) := by omega
        clear hlz hly h h'
        generalize pat zs k = p at *
        generalize pat ys k = q at *
        obtain ⟨p1, p2⟩ := p
        obtain ⟨q1, q2⟩ := q
        simp only at x0 x1 y0 y1
        by_cases hxy : p1 = q1
        · by_cases hyy : p2 = q2
          · subst hxy
            subst hyy
            have HS2 := Lib.hid (HS.out rfl)
            clear HS HN
            go_wp2
            go_quiet (fail)
            go_wp2
            go_roundw
            case rel => exact ⟨k + 1, by omega, by go_num, HS2, hE.drewN _⟩
            case measure => simp [intOf]; omega
          · have HF := Lib.hid (HD.out.trans (HN.out (by simpa using fun _ => hyy)))
            have hy1 : (p2 == q2) = false := by simpa using hyy
            have hy2 : decide (p2 = q2) = false := by simpa using hyy
            subst hxy
            clear HS HN
            go_wp2
            go_quiet (fail)
            go_wp2
            go_ret
            exact ⟨ret_bool HF.out.symm, hE.drewN _⟩
        · have HF := Lib.hid (HD.out.trans (HN.out (by simpa using fun e => absurd e hxy)))
          have hy1 : (p1 == q1) = false := by simpa using hxy
          have hy2 : decide (p1 = q1) = false := by simpa using hxy
          clear HS HN
          go_wp2
          go_quiet (fail)
          go_wp2
          go_ret
          exact ⟨ret_bool HF.out.symm, hE.drewN _⟩
      · have HT : Hid (d = true) := by
          show d = true
          rw [HD.out]
          refine decide_eq_true ?_
          have h1 := hT.out
          have h2 := HL.out
          have h3 := HL2.out
          rwa [List.take_of_length_le (by omega), List.take_of_length_le (by omega)] at h1
        go_wp2
        go_ret
        exact ⟨ret_bool HT.out.symm, hE⟩
set_option maxHeartbeats 1000000 in
theorem pySame_any (a a' : Option Addr) (n n' c c' : Nat) (zs ys : List (Int × Int)) (hn : n ≤ 1048576) (hn' : n' ≤ 1048576) (w : World) (h : Reads w a 2 n (pv zs)) (h' : Reads w a' 2 n' (pv ys)) :
    Calls Try.prog 47 #[.slice a n c, .slice a' n' c'] w fun r w' => r = .returned (.bool (decide (zs = ys))) ∧ Ext w w' := by
  have hl : zs.length = n := by have := h.1; rw [pv_len] at this; omega
  have hl' : ys.length = n' := by have := h'.1; rw [pv_len] at this; omega
  by_cases hll : n = n'
  rotate_left
  · have hd : decide (zs = ys) = false := decide_eq_false (fun e => hll (by rw [← hl, ← hl', e]))
    have hne : ((n : Int) != (n' : Int)) = true := by simp; omega
    have hne2 : ((n : Int) == (n' : Int)) = false := by simp; omega
    rw [hd]
    have HL := Lib.hid hll
    clear hll hd hl hl'
    go_enter Try.func47, Try.ntmps47
    go_wp2
    go_ret
    exact ⟨rfl, Ext.refl _⟩
  · subst hll
    obtain ⟨d, hd⟩ : ∃ d, d = decide (zs = ys) := ⟨_, rfl⟩
    rw [← hd]
    have HD := Lib.hid hd
    have HL := Lib.hid hl
    have HL2 := Lib.hid hl'
    clear hd hl hl'
    go_enter Try.func47, Try.ntmps47
    go_wp2
    go_loopw [13] (fun t wr => ∃ k : Nat, k ≤ n ∧ t = .int .i64 k ∧ Hid (zs.take k = ys.take k) ∧ Ext w wr) (fun t _ => n - (intOf t).toNat)
    case atStart => exact ⟨0, Nat.zero_le _, rfl, Lib.hid (by simp), Ext.refl _⟩
    case round =>
      obtain ⟨k, hk, rfl, hT, hE⟩ := hrel
      by_cases hlt : k < n
      · have hlz : k < zs.length := by rw [HL.out]; exact hlt
        have hly : k < ys.length := by rw [HL2.out]; exact hlt
        obtain ⟨b, off, rfl, x0, x1⟩ := (Reads.ext hE h).pair hlt
        obtain ⟨b', off', rfl, y0, y1⟩ := (Reads.ext hE h').pair hlt
        have HS := Lib.hid (fun e => takeQ hlz hly hT.out e)
        have HN := Lib.hid (fun e => (decide_eq_false (ne_atQ (zs := zs) (ys := ys) (k := k) e)))
        have hkn : (k : Int) < (n : Int) := by omega
        clear hlz hly h h'
        generalize pat zs k = p at *
        generalize pat ys k = q at *
        obtain ⟨p1, p2⟩ := p
        obtain ⟨q1, q2⟩ := q
        simp only at x0 x1 y0 y1
        by_cases hxy : p1 = q1
        · by_cases hyy : p2 = q2
          · subst hxy
            subst hyy
            have HS2 := Lib.hid (HS.out rfl)
            clear HS HN
            go_wp2
            go_quiet (fail)
            go_wp2
            go_roundw
            case rel => exact ⟨k + 1, by omega, by go_num, HS2, hE.drewN _⟩
            case measure => simp [intOf]; omega
          · have HF := Lib.hid (HD.out.trans (HN.out (by simpa using fun _ => hyy)))
            have hy1 : (p2 == q2) = false := by simpa using hyy
            have hy2 : decide (p2 = q2) = false := by simpa using hyy
            subst hxy
            clear HS HN
            go_wp2
            go_quiet (fail)
            go_wp2
            go_ret
            exact ⟨ret_bool HF.out.symm, hE.drewN _⟩
        · have HF := Lib.hid (HD.out.trans (HN.out (by simpa using fun e => absurd e hxy)))
          have hy1 : (p1 == q1) = false := by simpa using hxy
          have hy2 : decide (p1 = q1) = false := by simpa using hxy
          clear HS HN
          go_wp2
          go_quiet (fail)
          go_wp2
          go_ret
          exact ⟨ret_bool HF.out.symm, hE.drewN _⟩
      · have HT : Hid (d = true) := by
          show d = true
          rw [HD.out]
          refine decide_eq_true ?_
          have h1 := hT.out
          have h2 := HL.out
          have h3 := HL2.out
          rwa [List.take_of_length_le (by omega), List.take_of_length_le (by omega)] at h1
        go_wp2
        go_ret
        exact ⟨ret_bool HT.out.symm, hE⟩
set_option maxHeartbeats 1000000 in
theorem eqFunc_any (s s' : Value) (xs ys : List (List Int)) (hx : xs.length ≤ 2000) (hy : ys.length ≤ 2000) (hb : ∀ k, (xs.getD k []).length ≤ 12) (hb' : ∀ k, (ys.getD k []).length ≤ 12) (w : World) (h : RdL w s xs) (h' : RdL w s' ys) :
    Calls Try.prog 51 #[s, s', .func (.func 52) #[] #[]] w fun r w' => r = .returned (.bool (decide (xs = ys))) ∧ Ext w w' := by
  have HX := Lib.hid h
  have HY := Lib.hid h'
  obtain ⟨a, c, vs, rfl, _, _⟩ := h
  obtain ⟨a', c', vs', rfl, _, _⟩ := h'
  have HB := Lib.hid hb
  have HB2 := Lib.hid hb'
  obtain ⟨m, hm⟩ : ∃ m, xs.length = m := ⟨_, rfl⟩
  obtain ⟨m', hm'⟩ : ∃ m', ys.length = m' := ⟨_, rfl⟩
  rw [hm] at hx
  rw [hm'] at hy
  clear hb hb'
  by_cases hll : m = m'
  rotate_left
  · have hd : decide (xs = ys) = false := decide_eq_false (fun e => hll (by rw [← hm, ← hm', e]))
    have hne : ((m : Int) != (m' : Int)) = true := by simp; omega
    have hne2 : ((m : Int) == (m' : Int)) = false := by simp; omega
    rw [hd, hm, hm']
    clear hll hd hm hm' HX HY
    go_enter Try.func51, Try.ntmps51
    go_wp2
    go_ret
    exact ⟨rfl, Ext.refl _⟩
  · subst hll
    obtain ⟨d, hd⟩ : ∃ d, d = decide (xs = ys) := ⟨_, rfl⟩
    rw [← hd, hm, hm']
    rw [hm] at HX
    rw [hm'] at HY
    have HD := Lib.hid hd
    have HL := Lib.hid hm
    have HL2 := Lib.hid hm'
    clear hd hm hm'
    go_enter Try.func51, Try.ntmps51
    go_wp2
    go_loopw [17] (fun t wr => ∃ k : Nat, k ≤ m ∧ t = .int .i64 k ∧ Hid (xs.take k = ys.take k) ∧ Ext w wr) (fun t _ => m - (intOf t).toNat)
    case atStart => exact ⟨0, Nat.zero_le _, rfl, Lib.hid (by simp), Ext.refl _⟩
    case round =>
      obtain ⟨k, hk, rfl, hT, hE⟩ := hrel
      by_cases hlt : k < m
      · have hlz : k < xs.length := by rw [HL.out]; exact hlt
        have hly : k < ys.length := by rw [HL2.out]; exact hlt
        obtain ⟨b, off, c1, ak, ck, e1, hc1, hr1⟩ := (HX.out.ext hE).at hlz
        obtain ⟨b', off', c1', ak', ck', e1', hc1', hr1'⟩ := (HY.out.ext hE).at hly
        simp only [Value.slice.injEq] at e1 e1'
        obtain ⟨rfl, -, rfl⟩ := e1
        obtain ⟨rfl, -, rfl⟩ := e1'
        have hb1 := HB.out k
        have hb2 := HB2.out k
        have HS := Lib.hid (fun e => takeR hlz hly hT.out e)
        have HN := Lib.hid (fun e => (decide_eq_false (ne_atR (zs := xs) (ys := ys) (k := k) e)))
        have hkm : (k : Int) < (m : Int) := by omega
        have HR1 := Lib.hid hr1
        have HR2 := Lib.hid hr1'
        clear hlz hly hr1 hr1'
        generalize xs.getD k [] = x at *
        generalize ys.getD k [] = y at *
        have HC := Lib.hid (slicesEqual_any ak ak' x.length y.length ck ck' x y (by omega) (by omega) wr HR1.out HR2.out)
        by_cases hxy : x = y
        · have HS2 := Lib.hid (HS.out hxy)
          have hd : decide (x = y) = true := decide_eq_true hxy
          rw [hd] at HC
          clear HS HN hd hxy
          go_wp2_with fail
          refine HC.out.mono ?_
          rintro e w2 ⟨rfl, hE2⟩
          have HE2 := Lib.hid (hE.trans hE2)
          clear hE2 HC
          go_wp2
          go_roundw
          case rel => exact ⟨k + 1, by omega, by go_num, HS2, HE2.out⟩
          case measure => simp [intOf]; omega
        · have HF := Lib.hid (HD.out.trans (HN.out hxy))
          have hd : decide (x = y) = false := decide_eq_false hxy
          rw [hd] at HC
          clear HS HN hd hxy
          go_wp2_with fail
          refine HC.out.mono ?_
          rintro e w2 ⟨rfl, hE2⟩
          have HE2 := Lib.hid (hE.trans hE2)
          clear hE2 HC
          go_wp2
          go_ret
          exact ⟨ret_bool HF.out.symm, HE2.out⟩
      · have HT : Hid (d = true) := by
          show d = true
          rw [HD.out]
          refine decide_eq_true ?_
          have h1 := hT.out
          have h2 := HL.out
          have h3 := HL2.out
          rwa [List.take_of_length_le (by omega), List.take_of_length_le (by omega)] at h1
        go_wp2
        go_ret
        exact ⟨ret_bool HT.out.symm, hE⟩
theorem subdivided_weak (a : Option Addr) (n c : Nat) (zs : List (Int × Int × Int)) (hn : n ≤ 1048576) (w : World) (h : Reads w a 3 n (tv zs)) :
    Calls Try.prog 43 #[.slice a n c] w fun r w' => ∃ v, r = .returned (.tuple #[v, .bool (planeB zs)]) ∧ Ext w w' := by
  cases hp : planeB zs
  · refine (subdivided_no a n c zs hn hp w h).mono ?_
    rintro e w1 ⟨rfl, hb⟩
    exact ⟨_, rfl, hb⟩
  · refine (subdivided_yes a n c zs hn hp w h).mono ?_
    rintro e w1 ⟨g, rfl, _, hb⟩
    exact ⟨_, rfl, hb⟩
set_option maxHeartbeats 2000000 in
theorem impl_HaveSameCells_any (a a' : Option Addr) (n n' c c' : Nat) (zs ys : List (Int × Int × Int)) (hn : n ≤ 1048576) (hn' : n' ≤ 1048576) (w : World) (h : Reads w a 3 n (tv zs)) (h' : Reads w a' 3 n' (tv ys)) :
    Calls Try.prog 17 #[.slice a n c, .slice a' n' c'] w fun r w' => r = .returned (.tuple #[.bool (planeB zs && planeB ys && sameC zs ys), .bool (planeB zs && planeB ys)]) ∧ Ext w w' := by
  cases hp : planeB zs <;> cases hq : planeB ys
  · go_enter Try.func17, Try.ntmps17
    go_wp2_with fail
    refine (subdivided_weak _ _ _ zs hn _ h).mono ?_
    rw [hp]
    rintro e w1 ⟨v1, rfl, hb1⟩
    go_wp2_with fail
    refine (subdivided_weak _ _ _ ys hn' _ (h'.ext hb1)).mono ?_
    rw [hq]
    rintro e w2 ⟨v2, rfl, hb2⟩
    have hb := hb1.trans hb2
    go_wp2
    go_ret2
    exact ⟨rfl, hb⟩
  · go_enter Try.func17, Try.ntmps17
    go_wp2_with fail
    refine (subdivided_weak _ _ _ zs hn _ h).mono ?_
    rw [hp]
    rintro e w1 ⟨v1, rfl, hb1⟩
    go_wp2_with fail
    refine (subdivided_weak _ _ _ ys hn' _ (h'.ext hb1)).mono ?_
    rw [hq]
    rintro e w2 ⟨v2, rfl, hb2⟩
    have hb := hb1.trans hb2
    go_wp2
    go_ret2
    exact ⟨rfl, hb⟩
  · go_enter Try.func17, Try.ntmps17
    go_wp2_with fail
    refine (subdivided_weak _ _ _ zs hn _ h).mono ?_
    rw [hp]
    rintro e w1 ⟨v1, rfl, hb1⟩
    go_wp2_with fail
    refine (subdivided_weak _ _ _ ys hn' _ (h'.ext hb1)).mono ?_
    rw [hq]
    rintro e w2 ⟨v2, rfl, hb2⟩
    have hb := hb1.trans hb2
    go_wp2
    go_ret2
    exact ⟨rfl, hb⟩
  · have HZ := Lib.hid (pz_of hp)
    have HY := Lib.hid (pz_of hq)
    go_enter Try.func17, Try.ntmps17
    go_wp2_with fail
    refine (subdivided_yes _ _ _ zs hn hp _ h).mono ?_
    rintro e w1 ⟨g, rfl, hs, hb1⟩
    go_wp2_with fail
    refine (subdivided_yes _ _ _ ys hn' hq _ (h'.ext hb1)).mono ?_
    rintro e w2 ⟨g', rfl, hs', hb2⟩
    have hs2 := hs.ext hb2
    obtain ⟨pa, pc, s, e, b, m, B1, ps, qs, h1, h2, h3, h4, h5, h6, h7, h8, h9⟩ := hs2
    obtain ⟨pa', pc', s', e', b', m', B1', ps', qs', k1, k2, k3, k4, k5, k6, k7, k8, k9⟩ := hs'
    have q1 := h1.c1
    have q2 := k1.c1
    have q3 := h1.c2
    have q4 := k1.c2
    have hgl := h1.lt
    have hgl' := k1.lt
    have HE := Lib.hid (hb1.trans hb2)
    have rd1 := h5.rd
    have rd2 := k5.rd
    rw [h6] at rd1
    rw [k6] at rd2
    have HP := Lib.hid (fun w' (e : Ext w2 w') => slicesEqualPt_any pa pa' n n' pc pc' (ptsL zs) (ptsL ys) hn hn' w' (Reads.ext e h4) (Reads.ext e k4))
    have HF := Lib.hid (fun w' (e : Ext w2 w') => eqFunc_any s s' (cellsL zs) (cellsL ys) (cells_most HZ.out) (cells_most HY.out) (cells_row HZ.out) (cells_row HY.out) w' (rd1.ext e) (rd2.ext e))
    have HV := Lib.hid (show (true && true && sameC zs ys) = (decide (ptsL zs = ptsL ys) && decide (cellsL zs = cellsL ys)) by rw [Bool.and_self, Bool.true_and]; rfl)
    obtain ⟨sa, sc, rfl⟩ := h5.form
    obtain ⟨sa', sc', rfl⟩ := k5.form
    clear h1 h2 h3 h4 h5 h6 h7 h8 h9 k1 k2 k3 k4 k5 k6 k7 k8 k9 hb1 hb2 rd1 rd2 hs h h'
    generalize decide (ptsL zs = ptsL ys) = d1 at *
    generalize decide (cellsL zs = cellsL ys) = d2 at *
    cases d1
    · have HP2 := Lib.hid (fun s : Past w2 => HP.out s.w s.ext)
      have hE : Ext w2 w2 := Ext.refl _
      have Sc0 := Ext.keeps q1
      have Sc1 := Ext.keeps q2
      have Sc2 := Ext.keeps q3
      have Sc3 := Ext.keeps q4
      clear q1 q2 q3 q4 HF
      go_wp2
      have qS0 := fun s : Past w2 => Sc0 s.w s.ext
      have qS1 := fun s : Past w2 => Sc1 s.w s.ext
      have qS2 := fun s : Past w2 => Sc2 s.w s.ext
      have qS3 := fun s : Past w2 => Sc3 s.w s.ext
      refine wp_region_past w2 (by first | exact hE | exact Ext.alloc hE _ | exact Ext.drew hE | exact Ext.drewN hE _) (by kernel_rfl) (by kernel_rfl) ?_
      repeat (go_big_quiet_step (((go_at_call 50; with_reducible exact past_ext (HP2.out _)))))
      refine wpQuiet_nil ?_
      intro w3 hw'
      obtain ⟨⟨_, hE⟩, hw''⟩ := hw'
      subst hw''
      clear qS0 qS1 qS2 qS3
      have hE3 := HE.out.trans hE
      go_wp2
      go_ret2
      exact ⟨by rw [HV.out] <;> rfl, hE3⟩
    · have HP2 := Lib.hid (fun s : Past w2 => HP.out s.w s.ext)
      have HF2 := Lib.hid (fun s : Past w2 => HF.out s.w s.ext)
      have hE : Ext w2 w2 := Ext.refl _
      have Sc0 := Ext.keeps q1
      have Sc1 := Ext.keeps q2
      have Sc2 := Ext.keeps q3
      have Sc3 := Ext.keeps q4
      clear q1 q2 q3 q4
      go_wp2
      have qS0 := fun s : Past w2 => Sc0 s.w s.ext
      have qS1 := fun s : Past w2 => Sc1 s.w s.ext
      have qS2 := fun s : Past w2 => Sc2 s.w s.ext
      have qS3 := fun s : Past w2 => Sc3 s.w s.ext
      refine wp_region_past w2 (by first | exact hE | exact Ext.alloc hE _ | exact Ext.drew hE | exact Ext.drewN hE _) (by kernel_rfl) (by kernel_rfl) ?_
      repeat (go_big_quiet_step ((first | (go_at_call 50; with_reducible exact past_ext (HP2.out _)) | (go_at_call 51; with_reducible exact past_ext (HF2.out _)))))
      refine wpQuiet_nil ?_
      intro w3 hw'
      obtain ⟨⟨_, hE⟩, hw''⟩ := hw'
      subst hw''
      clear qS0 qS1 qS2 qS3
      have hE3 := HE.out.trans hE
      go_wp2
      go_ret2
      exact ⟨by rw [HV.out] <;> rfl, hE3⟩
set_option maxHeartbeats 2000000 in
theorem spec_HaveSameCells_any (a a' : Option Addr) (n n' c c' : Nat) (zs ys0 : List (Int × Int × Int)) (hn : n ≤ 1048576) (hn' : n' ≤ 1048576) (w : World) (h : Reads w a 3 n (tv zs)) (h' : Reads w a' 3 n' (tv ys0)) :
    Calls Try.prog 16 #[.slice a n c, .slice a' n' c'] w fun r w' => r = .returned (.tuple #[.bool (planeB zs && planeB ys0 && sameC zs ys0), .bool (planeB zs && planeB ys0)]) ∧ Ext w w' := by
  have hl : zs.length = n := by have := h.1; rw [tv_len] at this; omega
  have hl' : ys0.length = n' := by have := h'.1; rw [tv_len] at this; omega
  cases hp : planeB zs
  · go_enter Try.func16, Try.ntmps16
    go_wp2_with fail
    refine (plGood_any _ _ _ zs (by omega) _ h).mono ?_
    rw [hp]
    rintro e w1 ⟨rfl, hb1⟩
    go_wp2
    go_ret2
    exact ⟨rfl, hb1⟩
  cases hq : planeB ys0
  · go_enter Try.func16, Try.ntmps16
    go_wp2_with fail
    refine (plGood_any _ _ _ zs (by omega) _ h).mono ?_
    rw [hp]
    rintro e w1 ⟨rfl, hb1⟩
    go_wp2_with fail
    refine (plGood_any _ _ _ ys0 (by omega) _ (h'.ext hb1)).mono ?_
    rw [hq]
    rintro e w2 ⟨rfl, hb2⟩
    have hb := hb1.trans hb2
    go_wp2
    go_ret2
    exact ⟨rfl, hb⟩
  · have HZ := Lib.hid (pz_of hp)
    have HY0 := Lib.hid (pz_of hq)
    have hn12 : n ≤ 12 := by rw [← hl]; exact HZ.out.1
    have hn12' : n' ≤ 12 := by rw [← hl']; exact HY0.out.1
    have HG := Lib.hid (fun m (hm : m < n) => HZ.out.2.1 m (by rw [hl]; exact hm))
    have HG2 := Lib.hid (fun m (hm : m < n') => HY0.out.2.1 m (by rw [hl']; exact hm))
    have HPL := Lib.hid (show (ptsL zs).length = n by rw [ptsL_len]; exact hl)
    have HPL2 := Lib.hid (show (ptsL ys0).length = n' by rw [ptsL_len]; exact hl')
    have HV0 := Lib.hid (show (true && true && sameC zs ys0) = (decide (ptsL zs = ptsL ys0) && decide (cellsL zs = cellsL ys0)) by rw [Bool.and_self, Bool.true_and]; rfl)
    go_enter Try.func16, Try.ntmps16
    go_wp2_with fail
    refine (plGood_any _ _ _ zs (by omega) _ h).mono ?_
    rw [hp]
    rintro e w1 ⟨rfl, hb1⟩
    go_wp2_with fail
    refine (plGood_any _ _ _ ys0 (by omega) _ (h'.ext hb1)).mono ?_
    rw [hq]
    rintro e w2 ⟨rfl, hb2⟩
    have HE2 := Lib.hid (hb1.trans hb2)
    have HH := Lib.hid h
    have HH2 := Lib.hid h'
    clear hb1 hb2 h h' hl hl'
    go_wp2_with fail
    refine (ceOf_any _ _ _ zs hn12 HG.out w2 (Reads.ext HE2.out HH.out)).mono ?_
    rintro e w3 ⟨a3, c3, vs3, rfl, ho3, hv3, hE3⟩
    have HE3 := Lib.hid (HE2.out.trans hE3)
    have HX0 := Lib.hid (RdL.of ho3 hv3)
    clear ho3 hv3 hE3
    go_wp2_with fail
    refine (ceOf_any _ _ _ ys0 hn12' HG2.out w3 (Reads.ext HE3.out HH2.out)).mono ?_
    rintro e w4 ⟨a4, c4, vs4, rfl, ho4, hv4, hE4⟩
    have HE4 := Lib.hid (HE3.out.trans hE4)
    have HX4 := Lib.hid (HX0.out.ext hE4)
    have HY4 := Lib.hid (RdL.of ho4 hv4)
    clear ho4 hv4 hE4 HX0
    go_wp2_with fail
    refine (plPoints_any _ _ _ zs (by omega) w4 (Reads.ext HE4.out HH.out)).mono ?_
    rintro e w5 ⟨a5, c5, rfl, ho5, hE5⟩
    have HE5 := Lib.hid (HE4.out.trans hE5)
    have HX5 := Lib.hid (HX4.out.ext hE5)
    have HY5 := Lib.hid (HY4.out.ext hE5)
    have HP5 := Lib.hid (own_reads ho5)
    clear ho5 hE5 HX4 HY4
    go_wp2_with fail
    refine (plPoints_any _ _ _ ys0 (by omega) w5 (Reads.ext HE5.out HH2.out)).mono ?_
    rintro e w6 ⟨a6, c6, rfl, ho6, hE6⟩
    have HE6 := Lib.hid (HE5.out.trans hE6)
    have HX6 := Lib.hid (HX5.out.ext hE6)
    have HY6 := Lib.hid (HY5.out.ext hE6)
    have HP6 := Lib.hid (Reads.ext hE6 HP5.out)
    have HQ6 := Lib.hid (own_reads ho6)
    clear ho6 hE6 HX5 HY5 HP5
    go_wp2_with fail
    refine (pySame_any a5 a6 _ _ c5 c6 (ptsL zs) (ptsL ys0) (by rw [HPL.out]; omega) (by rw [HPL2.out]; omega) w6 HP6.out HQ6.out).mono ?_
    rintro e w7 ⟨rfl, hE7⟩
    have HE7 := Lib.hid (HE6.out.trans hE7)
    have HX := Lib.hid (HX6.out.ext hE7)
    have HY := Lib.hid (HY6.out.ext hE7)
    have hx2 := cells_most HZ.out
    have hy2 := cells_most HY0.out
    have HB := Lib.hid (cells_row HZ.out)
    have HB2 := Lib.hid (cells_row HY0.out)
    clear hE7 HX6 HY6 HP6 HQ6
    generalize decide (ptsL zs = ptsL ys0) = d1 at *
    generalize cellsL zs = xs at *
    generalize cellsL ys0 = ys at *
    cases d1
    · go_wp2
      go_ret2
      exact ⟨by rw [HV0.out] <;> rfl, HE7.out⟩
    · obtain ⟨m, hm⟩ : ∃ m, xs.length = m := ⟨_, rfl⟩
      obtain ⟨m', hm'⟩ : ∃ m', ys.length = m' := ⟨_, rfl⟩
      rw [hm] at HX hx2
      rw [hm'] at HY hy2
      by_cases hll : m = m'
      rotate_left
      · have HD := Lib.hid (show decide (xs = ys) = false from decide_eq_false (fun e => hll (by rw [← hm, ← hm', e])))
        have hne : ((m : Int) != (m' : Int)) = true := by simp; omega
        have hne2 : ((m : Int) == (m' : Int)) = false := by simp; omega
        rw [hm, hm']
        clear hll hm hm' HX HY
        go_wp2
        go_ret2
        exact ⟨by rw [HV0.out, HD.out] <;> rfl, HE7.out⟩
      · subst hll
        obtain ⟨d, hd⟩ : ∃ d, d = decide (xs = ys) := ⟨_, rfl⟩
        have HV := Lib.hid HV0.out
        rw [← hd] at HV
        rw [hm, hm']
        have HD := Lib.hid hd
        have HL := Lib.hid hm
        have HL2 := Lib.hid hm'
        clear hd hm hm' HV0
        go_wp2
        go_loopw [37] (fun t wr => ∃ k : Nat, k ≤ m ∧ t = .int .i64 k ∧ Hid (xs.take k = ys.take k) ∧ Ext w7 wr) (fun t _ => m - (intOf t).toNat)
        case atStart => exact ⟨0, Nat.zero_le _, rfl, Lib.hid (by simp), Ext.refl _⟩
        case round =>
          obtain ⟨k, hk, rfl, hT, hE⟩ := hrel
          by_cases hlt : k < m
          · have hlz : k < xs.length := by rw [HL.out]; exact hlt
            have hly : k < ys.length := by rw [HL2.out]; exact hlt
            obtain ⟨b, off, c1, ak, ck, e1, hc1, hr1⟩ := (HX.out.ext hE).at hlz
            obtain ⟨b', off', c1', ak', ck', e1', hc1', hr1'⟩ := (HY.out.ext hE).at hly
            simp only [Value.slice.injEq] at e1 e1'
            obtain ⟨rfl, -, rfl⟩ := e1
            obtain ⟨rfl, -, rfl⟩ := e1'
            have hb1 := HB.out k
            have hb2 := HB2.out k
            have HS := Lib.hid (fun e => takeR hlz hly hT.out e)
            have HN := Lib.hid (fun e => (decide_eq_false (ne_atR (zs := xs) (ys := ys) (k := k) e)))
            have hkm : (k : Int) < (m : Int) := by omega
            have HR1 := Lib.hid hr1
            have HR2 := Lib.hid hr1'
            clear hlz hly hr1 hr1'
            generalize xs.getD k [] = x at *
            generalize ys.getD k [] = y at *
            have HC := Lib.hid (l1Same_any ak ak' x.length y.length ck ck' x y (by omega) (by omega) wr HR1.out HR2.out)
            by_cases hxy : x = y
            · have HS2 := Lib.hid (HS.out hxy)
              have hd : decide (x = y) = true := decide_eq_true hxy
              rw [hd] at HC
              clear HS HN hd hxy
              go_wp2_with fail
              refine HC.out.mono ?_
              rintro e w2 ⟨rfl, hE2⟩
              have HE2 := Lib.hid (hE.trans hE2)
              clear hE2 HC
              go_wp2
              go_roundw
              case rel => exact ⟨k + 1, by omega, by go_num, HS2, HE2.out⟩
              case measure => simp [intOf]; omega
            · have HF := Lib.hid (HD.out.trans (HN.out hxy))
              have hd : decide (x = y) = false := decide_eq_false hxy
              rw [hd] at HC
              clear HS HN hd hxy
              go_wp2_with fail
              refine HC.out.mono ?_
              rintro e w2 ⟨rfl, hE2⟩
              have HE2 := Lib.hid (hE.trans hE2)
              clear hE2 HC
              go_wp2
              go_ret2
              exact ⟨by rw [HV.out, HF.out] <;> rfl, HE7.out.trans HE2.out⟩
          · have HT : Hid (d = true) := by
              show d = true
              rw [HD.out]
              refine decide_eq_true ?_
              have h1 := hT.out
              have h2 := HL.out
              have h3 := HL2.out
              rwa [List.take_of_length_le (by omega), List.take_of_length_le (by omega)] at h1
            go_wp2
            go_ret2
            exact ⟨by rw [HV.out, HT.out] <;> rfl, HE7.out.trans hE⟩
set_option maxHeartbeats 2000000 in
set_option maxRecDepth 100000 in
theorem law_HaveSameCells (a0 : Option Addr) (n0 c0 : Nat) (zs : List (Int × Int × Int)) (a1 : Option Addr) (n1 c1 : Nat) (ys : List (Int × Int × Int)) (w : World) (hr0 : IsTri w a0 n0 c0 zs) (hr1 : IsTri w a1 n1 c1 ys) :
    Calls Try.prog 4 #[.slice a0 n0 c0, .slice a1 n1 c1] w fun r w' => r = .returned (.bool true) ∧ Ext w w' := by
  have h0 : Reads w a0 3 n0 (tv zs) := hr0.1
  have hc01 := hr0.2.1
  have hc02 := hr0.2.2.1
  unfold maxLen at hc02
  clear hr0
  have hl0 : zs.length = n0 := by have := h0.1; rw [tv_len] at this; omega
  have h1 : Reads w a1 3 n1 (tv ys) := hr1.1
  have hc11 := hr1.2.1
  have hc12 := hr1.2.2.1
  unfold maxLen at hc12
  clear hr1
  have hl1 : ys.length = n1 := by have := h1.1; rw [tv_len] at this; omega
  by_cases hg0 : n0 ≤ 1048576
  rotate_left
  · go_enter Try.func4, Try.ntmps4
    go_wp2_with fail
    refine (szTermS_no _ _ _ _ (by omega) (by omega) (by omega) (by omega) _).mono ?_
    rintro e _ ⟨rfl, rfl⟩
    go_wp2
    go_ret
    exact ⟨rfl, (by repeat (first | exact Ext.refl _ | assumption | apply Ext.alloc | apply Ext.drew | apply Ext.drewN | (refine Ext.trans ?_ (by assumption)) | (refine Ext.setCell ?_ (by (try simp) <;> omega) _)))⟩
  by_cases hg1 : n1 + n0 ≤ 1048576
  rotate_left
  · go_enter Try.func4, Try.ntmps4
    go_wp2_with fail
    refine (szTermS_yes _ _ _ _ (by omega) (by omega) _).mono ?_
    rintro e _ ⟨rfl, rfl⟩
    go_wp2_with fail
    refine (szTermS_no _ _ _ _ (by omega) (by omega) (by omega) (by omega) _).mono ?_
    rintro e _ ⟨rfl, rfl⟩
    go_wp2
    go_ret
    exact ⟨rfl, (by repeat (first | exact Ext.refl _ | assumption | apply Ext.alloc | apply Ext.drew | apply Ext.drewN | (refine Ext.trans ?_ (by assumption)) | (refine Ext.setCell ?_ (by (try simp) <;> omega) _)))⟩
  have hm0 : n0 ≤ 1048576 := by omega
  have hm1 : n1 ≤ 1048576 := by omega
  obtain ⟨V, eV⟩ : ∃ z0 : Bool, z0 = (planeB zs && planeB ys && sameC zs ys) := ⟨_, rfl⟩
  obtain ⟨K, eK⟩ : ∃ z0 : Bool, z0 = (planeB zs && planeB ys) := ⟨_, rfl⟩
  have HS := Lib.hid (show ∀ (b0 b1 : Nat) w,Reads w (some ⟨b0, 0, none⟩) 3 n0 (tv zs) → Reads w (some ⟨b1, 0, none⟩) 3 n1 (tv ys) → Calls Try.prog 16 #[.slice (some ⟨b0, 0, none⟩) n0 n0, .slice (some ⟨b1, 0, none⟩) n1 n1] w (fun r w' => r = .returned (.tuple #[.bool V, .bool K]) ∧ Ext w w') by rw [eV, eK]; intro b0 b1 w h0 h1; exact spec_HaveSameCells_any _ _ _ _ _ _ zs ys (by omega) (by omega) _ h0 h1)
  have HI := Lib.hid (show ∀ (b0 b1 : Nat) w,Reads w (some ⟨b0, 0, none⟩) 3 n0 (tv zs) → Reads w (some ⟨b1, 0, none⟩) 3 n1 (tv ys) → Calls Try.prog 17 #[.slice (some ⟨b0, 0, none⟩) n0 n0, .slice (some ⟨b1, 0, none⟩) n1 n1] w (fun r w' => r = .returned (.tuple #[.bool V, .bool K]) ∧ Ext w w') by rw [eV, eK]; intro b0 b1 w h0 h1; exact impl_HaveSameCells_any _ _ _ _ _ _ zs ys (by omega) (by omega) _ h0 h1)
  clear eV eK
  go_enter Try.func4, Try.ntmps4
  go_wp2_with fail
  refine (szTermS_yes _ _ _ _ (by omega) (by omega) _).mono ?_
  rintro e _ ⟨rfl, rfl⟩
  go_wp2_with fail
  refine (szTermS_yes _ _ _ _ (by omega) (by omega) _).mono ?_
  rintro e _ ⟨rfl, rfl⟩
  have hE : Ext w w := (by repeat (first | exact Ext.refl _ | assumption | apply Ext.alloc | apply Ext.drew | apply Ext.drewN | (refine Ext.trans ?_ (by assumption)) | (refine Ext.setCell ?_ (by (try simp) <;> omega) _)))
  go_wp2_with fail
  refine (toTermS_any _ _ _ zs hm0 _ (h0.ext hE)).mono ?_
  rintro e w1 ⟨gs0, rfl, xs0, hb⟩
  have hz1 := hb.size
  replace hE := Ext.trans hE hb
  clear hb
  have xs00 := xs0
  go_wp2_with fail
  refine (toTermS_any _ _ _ ys hm1 _ (h1.ext hE)).mono ?_
  rintro e w2 ⟨gs1, rfl, xs1, hb⟩
  have hz2 := hb.size
  replace hE := Ext.trans hE hb
  replace xs0 := own_ext hb xs0
  clear hb
  have xs10 := xs1
  go_wp2_with fail
  refine (HS.out _ _ _ (own_reads xs0) (own_reads xs1)).mono ?_
  rintro e w3 ⟨rfl, hb⟩
  have hz3 := hb.size
  replace hE := Ext.trans hE hb
  replace xs0 := own_ext hb xs0
  replace xs1 := own_ext hb xs1
  clear hb
  clear xs0
  clear xs1
  go_wp2_with fail
  refine (toTermS_any _ _ _ zs hm0 _ (h0.ext hE)).mono ?_
  rintro e w4 ⟨gp0, rfl, xp0, hb⟩
  have hz4 := hb.size
  replace hE := Ext.trans hE hb
  clear hb
  have xp00 := xp0
  go_wp2_with fail
  refine (toTermS_any _ _ _ ys hm1 _ (h1.ext hE)).mono ?_
  rintro e w5 ⟨gp1, rfl, xp1, hb⟩
  have hz5 := hb.size
  replace hE := Ext.trans hE hb
  replace xp0 := own_ext hb xp0
  clear hb
  have xp10 := xp1
  go_wp2_with fail
  refine (HI.out _ _ _ (own_reads xp0) (own_reads xp1)).mono ?_
  rintro e w6 ⟨rfl, hb⟩
  have hz6 := hb.size
  replace hE := Ext.trans hE hb
  replace xp0 := own_ext hb xp0
  replace xp1 := own_ext hb xp1
  clear hb
  go_wp2_with fail
  refine (toTermS_any _ _ _ zs hm0 _ (h0.ext hE)).mono ?_
  rintro e w7 ⟨gq0, rfl, xq0, hb⟩
  have hz7 := hb.size
  replace hE := Ext.trans hE hb
  replace xp0 := own_ext hb xp0
  replace xp1 := own_ext hb xp1
  clear hb
  have xq00 := xq0
  go_wp2_with fail
  refine (eqTermS_same _ _ _ _ _ zs (by omega) _ (own_reads xp0) (own_reads xq0)).mono ?_
  rintro e w8 ⟨rfl, hb⟩
  have hz8 := hb.size
  replace hE := Ext.trans hE hb
  replace xp0 := own_ext hb xp0
  replace xp1 := own_ext hb xp1
  replace xq0 := own_ext hb xq0
  clear hb
  clear xq0
  go_wp2_with fail
  refine (toTermS_any _ _ _ ys hm1 _ (h1.ext hE)).mono ?_
  rintro e w9 ⟨gq1, rfl, xq1, hb⟩
  have hz9 := hb.size
  replace hE := Ext.trans hE hb
  replace xp0 := own_ext hb xp0
  replace xp1 := own_ext hb xp1
  clear hb
  have xq10 := xq1
  go_wp2_with fail
  refine (eqTermS_same _ _ _ _ _ ys (by omega) _ (own_reads xp1) (own_reads xq1)).mono ?_
  rintro e w10 ⟨rfl, hb⟩
  have hz10 := hb.size
  replace hE := Ext.trans hE hb
  replace xp0 := own_ext hb xp0
  replace xp1 := own_ext hb xp1
  replace xq1 := own_ext hb xq1
  clear hb
  clear xq1
  go_wp2
  go_ret
  exact ⟨rfl, hE⟩

end Go.Proofs.Ytehcjlbkfgfmjaa
