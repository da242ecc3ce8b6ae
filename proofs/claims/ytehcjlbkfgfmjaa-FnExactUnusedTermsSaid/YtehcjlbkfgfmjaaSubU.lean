/-
  UnusedTerms: both sides and the law's walk.
-/
import Derived.Test.YtehcjlbkfgfmjaaSubW
import Derived.BigQuiet
import Derived.Laws.AppendOwn
import Derived.Lib.SliceRun
import Derived.Lib.AppendZeros
namespace Go.Proofs.Ytehcjlbkfgfmjaa
open Go.RowKit

theorem bool_info : (Try.prog.info? 4).map (fun i => (i.zero, i.size, i.bytes)) = some (some (.bool false), 1, 1) := by kernel_rfl
theorem iv_appU (a b : List Int) : iv (a ++ b) = iv a ++ iv b := by simp [iv]
theorem own_nilU (w : World) (B : Nat) : w.ownsRow B 3 1 (.slice none 0 0) 0 (iv []) := ⟨rfl, .inl ⟨rfl, rfl⟩⟩
/-- The numbers below k that are not in F. -/
def unuL (F : List Int) (k : Nat) : List Int := ((List.range k).filter fun m : Nat => !decide ((m : Int) ∈ F)).map fun m : Nat => (m : Int)
theorem unuL_succ (F : List Int) (k : Nat) : unuL F (k + 1) = if (k : Int) ∈ F then unuL F k else unuL F k ++ [(k : Int)] := by
  unfold unuL
  rw [List.range_succ, List.filter_append, List.map_append]
  by_cases h : (k : Int) ∈ F
  · simp [h]
  · simp [h]
theorem unuL_len (F : List Int) : ∀ k, (unuL F k).length ≤ k
  | 0 => by simp [unuL]
  | k + 1 => by
    have := unuL_len F k
    rw [unuL_succ]
    split <;> simp <;> omega
theorem fl_succ {xs : List (List Int)} {k : Nat} (hk : k < xs.length) : (xs.take (k + 1)).flatten = (xs.take k).flatten ++ xs.getD k [] := by
  rw [List.take_succ_eq_append_getElem hk, List.flatten_append]
  simp [List.getD, hk]
theorem fl_len {xs : List (List Int)} (hb : ∀ k, (xs.getD k []).length ≤ 12) : ∀ k, k ≤ xs.length → (xs.take k).flatten.length ≤ 12 * k
  | 0, _ => by simp
  | k + 1, h => by
    have h1 := fl_len hb k (by omega)
    have h2 := hb k
    rw [fl_succ (by omega), List.length_append]
    omega
theorem flat_mem {zs : List (Int × Int × Int)} {y : Int} (h : y ∈ (cellsL zs).flatten) : ∃ t : Nat, t < zs.length ∧ y = (t : Int) := by
  obtain ⟨x, hx, hy⟩ := List.mem_flatten.1 h
  obtain ⟨a, b, c, _, _, _, _, rfl⟩ := mem_cellsL.1 hx
  obtain ⟨t, h1, _, h2⟩ := mem_cellL.1 hy
  exact ⟨t, h1, h2⟩
theorem cells_rowU {zs : List (Int × Int × Int)} (hZ : PZ zs) (k : Nat) : ((cellsL zs).getD k []).length ≤ 12 := by
  rcases Nat.lt_or_ge k (cellsL zs).length with h | h
  · exact cells_rows hZ _ (by rw [show (cellsL zs).getD k [] = (cellsL zs)[k] by simp [List.getD, h]]; exact List.getElem_mem _)
  · simp [List.getD, h]
/-- The marks: which numbers below n are in F. -/
def bv (n : Nat) (F : List Int) : List Value := (List.range n).map fun m : Nat => Value.bool (decide ((m : Int) ∈ F))
theorem bv_at {n m : Nat} {F : List Int} (h : m < n) : (bv n F)[m]? = some (.bool (decide ((m : Int) ∈ F))) := by simp [bv, h]
theorem bv_set {n x : Nat} {F : List Int} : (bv n F).set x (.bool true) = bv n (F ++ [(x : Int)]) := by
  refine List.ext_getElem (by simp [bv]) fun m h1 h2 => ?_
  rw [List.getElem_set]
  by_cases e : x = m
  · subst e; simp [bv]
  · have e2 : ¬ ((m : Int) = (x : Int)) := by omega
    simp [bv, e, e2]
theorem bv_made (n : Nat) : (madeCells #[Value.bool false] n).toList = bv n [] := by
  refine List.ext_getElem (by simp [madeCells, bv]) fun m h1 h2 => ?_
  simp [madeCells, bv, Nat.mod_one]
theorem unu_len (zs : List (Int × Int × Int)) (h : zs.length ≤ 1048576) : (gL (planeB zs) (unuL (cellsL zs).flatten zs.length)).length ≤ 1048576 := gL_le (Nat.le_trans (unuL_len _ _) h)
theorem l1Has_any (a : Option Addr) (n c : Nat) (xs : List Int) (m : Int) (hn : n ≤ 1073741824) (w : World) (h : Reads w a 1 n (iv xs)) :
    Calls Try.prog 53 #[.slice a n c, .int .i64 m] w fun r w' => r = .returned (.bool (decide (m ∈ xs))) ∧ w = w' := by
  have hl : xs.length = n := by have := h.1; rw [iv_len] at this; omega
  have HL := Lib.hid hl
  clear hl
  go_enter Try.func53, Try.ntmps53
  go_wp2
  go_loopw [9] (fun t wr => ∃ k : Nat, k ≤ n ∧ t = .int .i64 k ∧ Hid (m ∉ xs.take k) ∧ w = wr) (fun t _ => n - (intOf t).toNat)
  case atStart => exact ⟨0, Nat.zero_le _, rfl, Lib.hid (by simp), rfl⟩
  case round =>
    obtain ⟨k, hk, rfl, hT, rfl⟩ := hrel
    by_cases hlt : k < n
    · have hlz : k < xs.length := by rw [HL.out]; exact hlt
      obtain ⟨b, off, rfl, hcell⟩ := h.2 (by omega)
      have hck := hcell k _ (iv_at hlz)
      have hkn : (k : Int) < (n : Int) := by omega
      have hgx : xs.getD k 0 = xs[k] := by simp [List.getD, hlz]
      have HM := Lib.hid (fun e : xs.getD k 0 = m => show decide (m ∈ xs) = true from decide_eq_true (by rw [← e, hgx]; exact List.getElem_mem _))
      have HS := Lib.hid (fun e : xs.getD k 0 ≠ m => show m ∉ xs.take (k + 1) by
        rw [List.take_succ_eq_append_getElem hlz, List.mem_append, ← hgx]
        rintro (h1 | h1)
        · exact hT.out h1
        · exact e (List.mem_singleton.1 h1).symm)
      clear hcell hlz hgx h
      generalize xs.getD k 0 = y at *
      by_cases hy : y = m
      · have HF := Lib.hid (HM.out hy)
        clear HS HM
        subst hy
        go_wp2
        go_ret
        exact ⟨ret_bool HF.out.symm, rfl⟩
      · have HS2 := Lib.hid (HS.out hy)
        have hy2 : (y == m) = false := by simpa using hy
        clear HS HM
        go_wp2
        go_roundw
        case rel => exact ⟨k + 1, by omega, by go_num, HS2, trivial⟩
        case measure => simp [intOf]; omega
    · have HF := Lib.hid (show decide (m ∈ xs) = false from decide_eq_false (by have := hT.out; rwa [List.take_of_length_le (by have := HL.out; omega)] at this))
      go_wp2
      go_ret
      exact ⟨ret_bool HF.out.symm, rfl⟩
theorem run_growInt (w : World) (ty : TypeId) (n : Nat) (h0 : 0 < n) (hn : n ≤ 1048576) : ∃ cap, n ≤ cap ∧ cap ≤ maxLen ∧ ∃ cur : Array Value, cur.size = cap * 1 ∧
    (Builtin.append_ #[38, 3] ty #[.slice none 0 0, .int .i64 (n : Int)]).run Try.prog w = .ok (.slice (some ⟨w.heap.size, 0, none⟩) n cap) (w.drew.alloc (.cells cur 3)) := by
  obtain ⟨i0, hi, hz, hs, hb⟩ := info_parts int_info
  have hzs : ((.int .i64 0) : Value).cells.size = i0.size := by rw [hs]; rfl
  have := Lib.run_append_nil_zeros (P := Try.prog) w 38 3 ty 3 i0 _ .i64 .i64 Try.underlying38 Try.underlying3 hi hz n h0 (by omega) (by omega) (by rw [hb]; omega)
  have hge := grownCap_ge w n 0 3
  refine ⟨_, hge, grownCap_le_maxLen w n 0 3 (by unfold maxLen; omega), _, ?_, this⟩
  rw [Array.size_append, size_zeroCells, size_zeroCells, hzs, hs, ← Nat.add_mul, Nat.add_sub_cancel' hge]
theorem growInt_any (n : Nat) (hn : n ≤ 1048576) (w : World) :
    Calls Try.prog 75 #[.slice none 0 0, .int .i64 (n : Int)] w fun r w' => ∃ a c, r = .returned (.slice a 0 c) ∧ w'.ownsRow w.heap.size 3 1 (.slice a 0 c) 0 [] ∧ Ext w w' := by
  rcases Nat.eq_zero_or_pos n with h0 | h0
  · subst h0
    go_enter Try.func75, Try.ntmps75
    go_wp2
    go_ret
    exact ⟨none, 0, rfl, World.ownsRow_nil _ _ _ _, (by repeat (first | exact Ext.refl _ | assumption | apply Ext.alloc | apply Ext.drew | apply Ext.drewN | (refine Ext.trans ?_ (by assumption)) | (refine Ext.setCell ?_ (by (try simp) <;> omega) _)))⟩
  · have HG := Lib.hid (fun ty => run_growInt w ty n h0 hn)
    have h1 : decide ((0 : Int) < (n : Int)) = true := by simp; omega
    have h2 : ¬ ((n : Int) < 0) := by omega
    go_enter Try.func75, Try.ntmps75
    obtain ⟨cap, hc1, hc2, cur, hcs, hrun⟩ := HG.out 38
    go_wp2_with (at_builtin; refine Lib.wpList_append_run _ rfl _ _ _ _ rfl _ _ rfl rfl _ _ hrun ?_)
    go_ret
    exact ⟨some ⟨w.heap.size, 0, none⟩, cap, rfl, World.ownsRow_made w.drew cur cap (Nat.le_refl _) hc2 hcs, Ext.alloc (Ext.drew (Ext.refl _)) _⟩
set_option maxHeartbeats 2000000 in
theorem concatInts_any (s : Value) (xs : List (List Int)) (hx : xs.length ≤ 2000) (hb : ∀ k, (xs.getD k []).length ≤ 12) (w : World) (h : RdL w s xs) :
    Calls Try.prog 54 #[s] w fun r w' => ∃ a1 c1, r = .returned (.slice a1 xs.flatten.length c1) ∧ w'.ownsRow w.heap.size 3 1 (.slice a1 xs.flatten.length c1) xs.flatten.length (iv xs.flatten) ∧ Ext w w' := by
  obtain ⟨i0, hz1, hz2, hz3, hz4⟩ := info_parts int_info
  have HZI := Lib.hid (And.intro hz1 (And.intro hz2 (And.intro hz3 hz4)))
  have HX := Lib.hid h
  obtain ⟨a, c, vs, rfl, _, _⟩ := h
  obtain ⟨m, hm⟩ : ∃ m, xs.length = m := ⟨_, rfl⟩
  have HB := Lib.hid hb
  have HF := Lib.hid (fun k (hk : k ≤ m) => fl_len hb k (by omega))
  have HT := Lib.hid (show (xs.take m).flatten = xs.flatten by rw [List.take_of_length_le (by omega)])
  have HFS := Lib.hid (fun k (hk : k < m) => fl_succ (xs := xs) (k := k) (by omega))
  have HA := Lib.hid (fun (w' : World) (e : Ext w w') k (hk : k < m) => (HX.out.ext e).at (k := k) (by omega))
  rw [hm] at hx HA ⊢
  clear hm hb HX hz1 hz2 hz3 hz4
  go_enter Try.func54, Try.ntmps54
  go_wp2
  go_loop [3, 11] (fun s t => ∃ (k q : Nat), k ≤ m ∧ t = .int .i64 (k : Int) ∧ s = .int .i64 (q : Int) ∧ Hid (q = (xs.take k).flatten.length)) (fun _ t => m - (intOf t).toNat)
  case atStart => exact ⟨0, 0, by omega, rfl, rfl, Lib.hid (by simp)⟩
  case round =>
    obtain ⟨k, q, hk, rfl, rfl, HM⟩ := hrel
    have hq := HF.out k hk
    rw [← HM.out] at hq
    by_cases h2 : k < m
    · obtain ⟨b, off, c1, ak, ck, e1, hc1, _⟩ := HA.out w (Ext.refl _) k h2
      simp only [Value.slice.injEq] at e1
      obtain ⟨rfl, -, rfl⟩ := e1
      have hr := HB.out k
      have HQ := Lib.hid (show q + (xs.getD k []).length = (xs.take (k + 1)).flatten.length by rw [HFS.out k h2, List.length_append, HM.out])
      have hkm : (k : Int) < (m : Int) := by omega
      clear HM
      generalize xs.getD k [] = x at *
      have hpos : ¬ ((q : Int) + (x.length : Int) < 0) := by omega
      go_wp2
      go_round
      case rel => exact ⟨k + 1, q + x.length, by omega, by go_num, by go_num, HQ⟩
      case measure => simp [intOf]; omega
    · obtain rfl : k = m := by omega
      clear HM
      go_wp2_with fail
      refine (growInt_any q (by omega) _).mono ?_
      rintro e w1 ⟨a1, c1, rfl, hown1, hE1⟩
      have HO1 := Lib.hid hown1
      clear hown1
      go_wp2
      go_loopw [6, 27] (fun s t wr => ∃ (j : Nat) (a2 : Option Addr) (c2 : Nat), j ≤ k ∧ t = .int .i64 (j : Int) ∧ s = .slice a2 (xs.take j).flatten.length c2 ∧ wr.ownsRow w.heap.size 3 1 (.slice a2 (xs.take j).flatten.length c2) (xs.take j).flatten.length (iv (xs.take j).flatten) ∧ Ext w wr) (fun _ t _ => k - (intOf t).toNat)
      case atStart => exact ⟨0, a1, c1, by omega, rfl, rfl, by simpa [iv] using HO1.out, hE1⟩
      case round =>
        clear HO1 hE1
        obtain ⟨j, a2, c2, hj, rfl, rfl, hown, hE⟩ := hrel
        by_cases h3 : j < k
        · obtain ⟨b, off, c1, ak, ck, e1, hc1, hR⟩ := HA.out wr hE j h3
          simp only [Value.slice.injEq] at e1
          obtain ⟨rfl, -, rfl⟩ := e1
          have hr := HB.out j
          have hF := HF.out j hj
          have HS := Lib.hid (HFS.out j h3)
          have hkm : (j : Int) < (k : Int) := by omega
          generalize xs.getD j [] = x at *
          generalize (xs.take j).flatten = Fj at *
          go_wp2_with (at_builtin; go_must (refine wpList_app_any _ rfl _ _ 38 rfl w.heap.size 3 i0 _ 1 8 Try.underlying38 HZI.out.1 HZI.out.2.1 HZI.out.2.2.1 HZI.out.2.2.2 rfl (by decide) _ Fj.length (iv Fj) rfl hown _ _ _ _ rfl hR (iv_one _) (by unfold maxLen; omega) (by omega) hE.size ?_))
          intro a4 c4 w4 hown4 hgr4 _
          have hE4 := Ext.grown hE hgr4 (fun k hk => (hown.lt k hk).1)
          go_wp2
          go_roundw
          case rel => exact ⟨j + 1, a4, c4, by omega, by go_num, by rw [HS.out, List.length_append], by rw [HS.out, List.length_append, iv_appU]; exact hown4, hE4⟩
          case measure => simp [intOf]; omega
        · obtain rfl : j = k := by omega
          rw [HT.out] at hown ⊢
          go_wp2
          go_ret
          exact ⟨a2, c2, rfl, hown, hE⟩
set_option maxHeartbeats 4000000 in
theorem impl_UnusedTerms_any (a : Option Addr) (n c : Nat) (zs : List (Int × Int × Int)) (hn : n ≤ 1048576) (w : World) (h : Reads w a 3 n (tv zs)) :
    Calls Try.prog 25 #[.slice a n c] w (OwnsIntsB w.heap.size (gL (planeB zs) (unuL (cellsL zs).flatten zs.length)) (planeB zs) w) := by
  cases hp : planeB zs
  · go_enter Try.func25, Try.ntmps25
    go_wp2_with fail
    refine (subdivided_no _ _ _ zs hn hp _ h).mono ?_
    rintro e w1 ⟨rfl, hb1⟩
    go_wp2
    go_ret2
    exact ⟨none, 0, rfl, own_nilU _ _, hb1⟩
  · have HZ := Lib.hid (pz_of hp)
    have hl : zs.length = n := by have := h.1; rw [tv_len] at this; omega
    have hn12 : n ≤ 12 := by rw [← hl]; exact HZ.out.1
    obtain ⟨i0, hi, hz0, hz1, hz2⟩ := info_parts bool_info
    obtain ⟨F, hF⟩ : ∃ F, F = (cellsL zs).flatten := ⟨_, rfl⟩
    have HFM := Lib.hid (fun y (hy : y ∈ F) => show ∃ t : Nat, t < n ∧ y = (t : Int) by rw [hF] at hy; rw [← hl]; exact flat_mem hy)
    have hM : F.length ≤ 24000 := by
      have h1 := fl_len (cells_rowU HZ.out) _ (Nat.le_refl _)
      rw [List.take_of_length_le (Nat.le_refl _), ← hF] at h1
      have := cells_most HZ.out
      omega
    rw [← hF, hl]
    have HF := Lib.hid hF
    clear hF hl
    go_enter Try.func25, Try.ntmps25
    go_wp2_with fail
    refine (subdivided_yes _ _ _ zs hn hp _ h).mono ?_
    rintro e w1 ⟨g, rfl, hs, hb1⟩
    obtain ⟨pa, pc, s, e, b, m, B1, ps, qs, h1, h2, h3, h4, h5, h6, h7, h8, h9⟩ := hs
    have hc2 := h1.c2
    have hgl := h1.lt
    have rd1 := h5.rd
    rw [h6] at rd1
    have HRD := Lib.hid rd1
    have HE := Lib.hid hb1
    have hsz1 := hb1.size
    clear h1 h2 h3 h4 h5 h6 h7 h8 h9 hb1 h rd1
    go_wp2_with (refine wpList_make_full _ rfl (.tmp 20) (.tmp 20) 73 rfl w.heap.size 4 i0 (.bool false) 1 Try.underlying73 hi hz0 hz1 .i64 .i64 _ _ n rfl rfl rfl rfl (by rw [hz2]; omega) (by unfold maxLen; omega) HE.out.size ?_)
    intro w2 hown2 hgr2
    replace hown2 : w2.ownsRow w.heap.size 4 1 (.slice (some ⟨w1.heap.size, 0, none⟩) n n) n (bv n []) := by rw [← bv_made n]; exact hown2
    have hE2 : Ext w1 w2 := Ext.grown (Ext.refl w1) hgr2 (fun k hk => by cases hk)
    have hc2b := hE2.keep hc2
    have hsz2 : w1.heap.size < w2.heap.size := (hown2.lt _ rfl).2
    have hgl2 : g < w2.heap.size := by omega
    have HO2 := Lib.hid hown2
    have HE2 := Lib.hid (HE.out.trans hE2)
    have HRD2 := Lib.hid (HRD.out.ext hE2)
    clear hc2 hown2 hgr2 hE2 HRD
    go_wp2_with fail
    refine (concatInts_any s (cellsL zs) (cells_most HZ.out) (cells_rowU HZ.out) w2 HRD2.out).mono ?_
    rintro e w3 ⟨a3, c3, rfl, ho3, hE3⟩
    rw [← HF.out] at ho3 ⊢
    have HO3 := Lib.hid ho3
    have HM3 := Lib.hid (own_ext hE3 HO2.out)
    have HE3 := Lib.hid (HE2.out.trans hE3)
    clear ho3 hE3 HO2 hc2b HRD2
    go_wp2
    go_loopw [28] (fun t wr => ∃ k : Nat, k ≤ F.length ∧ t = .int .i64 k ∧ wr.ownsRow w.heap.size 4 1 (.slice (some ⟨w1.heap.size, 0, none⟩) n n) n (bv n (F.take k)) ∧ wr.ownsRow w2.heap.size 3 1 (.slice a3 F.length c3) F.length (iv F) ∧ Ext w wr) (fun t _ => F.length - (intOf t).toNat)
    case atStart => exact ⟨0, Nat.zero_le _, rfl, HM3.out, HO3.out, HE3.out⟩
    case round =>
      clear HM3 HO3 HE3
      obtain ⟨k, hk, rfl, hm, ho, hE⟩ := hrel
      by_cases hlt : k < F.length
      · obtain ⟨cb, rfl, hcb, _⟩ := own_head ho (by omega)
        have hck := (ho.cellAt k (by omega)).trans (iv_at hlt)
        have hgx : F.getD k 0 = F[k] := by simp [List.getD, hlt]
        obtain ⟨x, hx, hxe⟩ := HFM.out _ (show F.getD k 0 ∈ F by rw [hgx]; exact List.getElem_mem _)
        have HTK := Lib.hid (show F.take (k + 1) = F.take k ++ [(x : Int)] by rw [List.take_succ_eq_append_getElem hlt, ← hgx, hxe])
        rw [hxe] at hck
        obtain ⟨old, hco⟩ : ∃ old, wr.cell? ⟨w1.heap.size, x, none⟩ = some old := ⟨_, (hm.cellAt x (by omega)).trans (bv_at hx)⟩
        have hfo := hm.frozenAt x
        have hst := hm.stored x (.bool true)
        rw [bv_set, ← HTK.out] at hst
        have HO := Lib.hid (own_apartQ ho hst.2 (fun q hq e => by simp [Value.ownBlock] at hq e; omega))
        have HS := Lib.hid hst.1
        have HE4 := Lib.hid (Ext.grown hE hst.2 (fun k hk => by cases hk; exact hsz1))
        have hkN : (k : Int) < (F.length : Int) := by omega
        have hxn : (x : Int) < (n : Int) := by omega
        clear hm ho hst hxe hgx hE HTK
        go_wp2
        go_roundw
        case rel => exact ⟨k + 1, by omega, by go_num, HS.out, HO.out, HE4.out⟩
        case measure => simp [intOf]; omega
      · obtain rfl : k = F.length := by omega
        rw [List.take_of_length_le (Nat.le_refl _)] at hm
        obtain ⟨w4, hw4⟩ : ∃ w4, w4 = wr := ⟨_, rfl⟩
        subst hw4
        have HM := Lib.hid hm
        have HE4 := Lib.hid hE
        clear ho hm hE
        go_wp2
        go_loopw [9, 39] (fun s t wr => ∃ (j : Nat) (a6 : Option Addr) (c6 : Nat), j ≤ n ∧ t = .int .i64 j ∧ s = .slice a6 (unuL F j).length c6 ∧ wr.ownsRow w4.heap.size 3 1 (.slice a6 (unuL F j).length c6) (unuL F j).length (iv (unuL F j)) ∧ Ext w4 wr) (fun _ t _ => n - (intOf t).toNat)
        case atStart => exact ⟨0, some ⟨w4.heap.size, 0, none⟩, 0, Nat.zero_le _, rfl, rfl, own_empty w4 _ _ 1 (Nat.le_refl _), Ext.alloc (Ext.refl _) _⟩
        case round =>
          obtain ⟨j, a6, c6, hj, rfl, rfl, hown, hE⟩ := hrel
          by_cases hlt2 : j < n
          · have hcell := ((own_ext hE HM.out).cellAt j (by omega)).trans (bv_at hlt2)
            have HS := Lib.hid (unuL_succ F j)
            have hul := unuL_len F j
            have hjn : (j : Int) < (n : Int) := by omega
            have hs4 := hE.size
            generalize unuL F j = us at *
            by_cases hin : (j : Int) ∈ F
            · have HS2 := Lib.hid (HS.out.trans (if_pos hin))
              rw [decide_eq_true hin] at hcell
              clear HS hin
              go_wp2
              go_roundw
              case rel => exact ⟨j + 1, a6, c6, by omega, by go_num, by rw [HS2.out], by rw [HS2.out]; exact hown, hE⟩
              case measure => simp [intOf]; omega
            · have HS2 := Lib.hid (HS.out.trans (if_neg hin))
              rw [decide_eq_false hin] at hcell
              clear HS hin
              go_wp2_with (at_builtin; refine wpList_app1 rfl _ _ rfl w4 w4.heap.size _ _ _ us (j : Int) rfl (own_ext ((Ext.refl wr).alloc _) hown) wr.heap.size rfl (by simp) (by omega) (by simp; omega) (hE.alloc _) (Nat.le_refl _) ?_)
              intro a8 c8 w8 hown8 hE8
              go_wp2
              go_roundw
              case rel => exact ⟨j + 1, a8, c8, by omega, by go_num, by rw [HS2.out]; simp, by rw [HS2.out]; simpa using hown8, hE8⟩
              case measure => simp [intOf]; omega
          · obtain rfl : j = n := by omega
            have HO := Lib.hid (own_mono HE4.out.size hown)
            have HE8 := Lib.hid (HE4.out.trans hE)
            clear hown hE
            go_wp2
            go_ret2
            exact ⟨a6, c6, rfl, HO.out, HE8.out⟩
set_option maxHeartbeats 4000000 in
theorem spec_UnusedTerms_any (a : Option Addr) (n c : Nat) (zs : List (Int × Int × Int)) (hn : n ≤ 1048576) (w : World) (h : Reads w a 3 n (tv zs)) :
    Calls Try.prog 24 #[.slice a n c] w (OwnsIntsB w.heap.size (gL (planeB zs) (unuL (cellsL zs).flatten zs.length)) (planeB zs) w) := by
  have hl : zs.length = n := by have := h.1; rw [tv_len] at this; omega
  cases hp : planeB zs
  · go_enter Try.func24, Try.ntmps24
    go_wp2_with fail
    refine (plGood_any _ _ _ zs (by omega) _ h).mono ?_
    rw [hp]
    rintro e w1 ⟨rfl, hb1⟩
    go_wp2
    go_ret2
    exact ⟨none, 0, rfl, own_nilU _ _, hb1⟩
  · have HZ := Lib.hid (pz_of hp)
    have hn12 : n ≤ 12 := by rw [← hl]; exact HZ.out.1
    have HB := Lib.hid (fun m (hm : m < n) => HZ.out.2.1 m (by rw [hl]; exact hm))
    rw [hl]
    go_enter Try.func24, Try.ntmps24
    go_wp2_with fail
    refine (plGood_any _ _ _ zs (by omega) _ h).mono ?_
    rw [hp]
    rintro e w1 ⟨rfl, hb1⟩
    go_wp2_with fail
    refine (ceOf_any _ _ _ zs hn12 HB.out w1 (h.ext hb1)).mono ?_
    rintro e w2 ⟨a2, c2, vs, rfl, ho2, hv2, hE2⟩
    have HX := Lib.hid (RdL.of ho2 hv2)
    have HE2 := Lib.hid (hb1.trans hE2)
    have hN := cells_most HZ.out
    have HR := Lib.hid (cells_rowU HZ.out)
    clear ho2 hv2 hE2 hb1 h hl
    generalize cellsL zs = xs at *
    obtain ⟨m, hm⟩ : ∃ m, xs.length = m := ⟨_, rfl⟩
    have HA := Lib.hid (fun (w' : World) (e : Ext w2 w') k (hk : k < m) => (HX.out.ext e).at (k := k) (by omega))
    have HFS := Lib.hid (fun k (hk : k < m) => fl_succ (xs := xs) (k := k) (by omega))
    have HT := Lib.hid (show (xs.take m).flatten = xs.flatten by rw [List.take_of_length_le (by omega)])
    rw [hm] at hN HA ⊢
    clear hm HX
    go_wp2
    go_loopw [4, 17] (fun s t wr => ∃ (j : Nat) (a6 : Option Addr) (c6 : Nat), j ≤ n ∧ t = .int .i64 j ∧ s = .slice a6 (unuL xs.flatten j).length c6 ∧ wr.ownsRow w2.heap.size 3 1 (.slice a6 (unuL xs.flatten j).length c6) (unuL xs.flatten j).length (iv (unuL xs.flatten j)) ∧ Ext w2 wr) (fun _ t _ => n - (intOf t).toNat)
    case atStart => exact ⟨0, none, 0, Nat.zero_le _, rfl, rfl, own_nilU _ _, Ext.refl _⟩
    case round =>
      obtain ⟨j, a6, c6, hj, rfl, rfl, hown, hE⟩ := hrel
      by_cases hlt : j < n
      · obtain ⟨w4, hw4⟩ : ∃ w4, w4 = wr := ⟨_, rfl⟩
        subst hw4
        have HO := Lib.hid hown
        have HS := Lib.hid (unuL_succ xs.flatten j)
        have hul := unuL_len xs.flatten j
        have hjn : (j : Int) < (n : Int) := by omega
        have HEa := Lib.hid hE
        clear hown hE
        go_wp2
        go_loopw [7, 22] (fun u t wr => ∃ k : Nat, k ≤ m ∧ t = .int .i64 k ∧ u = .bool (decide ((j : Int) ∈ (xs.take k).flatten)) ∧ w4 = wr) (fun _ t _ => m - (intOf t).toNat)
        case atStart => exact ⟨0, Nat.zero_le _, rfl, by simp, rfl⟩
        case round =>
          obtain ⟨k, hk, rfl, rfl, rfl⟩ := hrel
          by_cases hlk : k < m
          · obtain ⟨b, off, c1, ak, ck, e1, hc1, hR⟩ := HA.out w4 HEa.out k hlk
            simp only [Value.slice.injEq] at e1
            obtain ⟨rfl, -, rfl⟩ := e1
            have hr := HR.out k
            have hkm : (k : Int) < (m : Int) := by omega
            have HST := Lib.hid (show decide ((j : Int) ∈ (xs.take (k + 1)).flatten) = (decide ((j : Int) ∈ (xs.take k).flatten) || decide ((j : Int) ∈ xs.getD k [])) by rw [HFS.out k hlk]; simp [List.mem_append])
            have HRk := Lib.hid hR
            clear hR
            generalize xs.getD k [] = x at *
            obtain ⟨U, hU⟩ : ∃ U, U = decide ((j : Int) ∈ (xs.take k).flatten) := ⟨_, rfl⟩
            rw [← hU] at HST ⊢
            clear hU
            cases U
            · have HC := Lib.hid (l1Has_any ak x.length ck x (j : Int) (by omega) w4 HRk.out)
              obtain ⟨V, hV⟩ : ∃ V, V = decide ((j : Int) ∈ x) := ⟨_, rfl⟩
              rw [← hV] at HC HST
              clear hV
              go_wp2_with fail
              refine HC.out.mono ?_
              rintro e _ ⟨rfl, rfl⟩
              clear HC
              go_wp2
              go_roundw
              case rel => exact ⟨k + 1, by omega, by go_num, by rw [HST.out]; simp, trivial⟩
              case measure => simp [intOf]; omega
            · go_wp2
              go_roundw
              case rel => exact ⟨k + 1, by omega, by go_num, by rw [HST.out]; simp, trivial⟩
              case measure => simp [intOf]; omega
          · obtain rfl : k = m := by omega
            rw [HT.out]
            have hs4 := HEa.out.size
            generalize unuL xs.flatten j = us at *
            by_cases hin : (j : Int) ∈ xs.flatten
            · have HS2 := Lib.hid (HS.out.trans (if_pos hin))
              rw [decide_eq_true hin]
              clear HS hin
              go_wp2
              go_roundw
              case rel => exact ⟨j + 1, a6, c6, by omega, by go_num, by rw [HS2.out], by rw [HS2.out]; exact HO.out, HEa.out⟩
              case measure => simp [intOf]; omega
            · have HS2 := Lib.hid (HS.out.trans (if_neg hin))
              rw [decide_eq_false hin]
              clear HS hin
              go_wp2_with (at_builtin; refine wpList_app1 rfl _ _ rfl w2 w2.heap.size _ _ _ us (j : Int) rfl (own_ext ((Ext.refl w4).alloc _) HO.out) w4.heap.size rfl (by simp) (by omega) (by simp; omega) (HEa.out.alloc _) (Nat.le_refl _) ?_)
              intro a8 c8 w8 hown8 hE8
              go_wp2
              go_roundw
              case rel => exact ⟨j + 1, a8, c8, by omega, by go_num, by rw [HS2.out]; simp, by rw [HS2.out]; simpa using hown8, hE8⟩
              case measure => simp [intOf]; omega
      · obtain rfl : j = n := by omega
        have HO := Lib.hid (own_mono HE2.out.size hown)
        have HE8 := Lib.hid (HE2.out.trans hE)
        clear hown hE
        go_wp2
        go_ret2
        exact ⟨a6, c6, rfl, HO.out, HE8.out⟩
set_option maxHeartbeats 2000000 in
set_option maxRecDepth 100000 in
theorem law_UnusedTerms (a0 : Option Addr) (n0 c0 : Nat) (zs : List (Int × Int × Int)) (w : World) (hr0 : IsTri w a0 n0 c0 zs) :
    Calls Try.prog 6 #[.slice a0 n0 c0] w fun r w' => r = .returned (.bool true) ∧ Ext w w' := by
  have h0 : Reads w a0 3 n0 (tv zs) := hr0.1
  have hc01 := hr0.2.1
  have hc02 := hr0.2.2.1
  unfold maxLen at hc02
  clear hr0
  have hl0 : zs.length = n0 := by have := h0.1; rw [tv_len] at this; omega
  by_cases hg0 : n0 ≤ 1048576
  rotate_left
  · go_enter Try.func6, Try.ntmps6
    go_wp2_with fail
    refine (szTermS_no _ _ _ _ (by omega) (by omega) (by omega) (by omega) _).mono ?_
    rintro e _ ⟨rfl, rfl⟩
    go_wp2
    go_ret
    exact ⟨rfl, (by repeat (first | exact Ext.refl _ | assumption | apply Ext.alloc | apply Ext.drew | apply Ext.drewN | (refine Ext.trans ?_ (by assumption)) | (refine Ext.setCell ?_ (by (try simp) <;> omega) _)))⟩
  have hm0 : n0 ≤ 1048576 := by omega
  obtain ⟨L, eL⟩ : ∃ L : List Int, L = (gL (planeB zs) (unuL (cellsL zs).flatten zs.length)) := ⟨_, rfl⟩
  obtain ⟨ok, eok⟩ : ∃ ok : Bool, ok = (planeB zs) := ⟨_, rfl⟩
  have hlen : L.length ≤ 1048576 := by rw [eL]; exact unu_len zs (by omega)
  have HS := Lib.hid (show ∀ (b0 : Nat) w,Reads w (some ⟨b0, 0, none⟩) 3 n0 (tv zs) → Calls Try.prog 24 #[.slice (some ⟨b0, 0, none⟩) n0 n0] w (OwnsIntsB w.heap.size L ok w) by rw [eL, eok]; intro b0 w h0; exact spec_UnusedTerms_any _ _ _ zs (by omega) _ h0)
  have HI := Lib.hid (show ∀ (b0 : Nat) w,Reads w (some ⟨b0, 0, none⟩) 3 n0 (tv zs) → Calls Try.prog 25 #[.slice (some ⟨b0, 0, none⟩) n0 n0] w (OwnsIntsB w.heap.size L ok w) by rw [eL, eok]; intro b0 w h0; exact impl_UnusedTerms_any _ _ _ zs (by omega) _ h0)
  clear eL eok
  go_enter Try.func6, Try.ntmps6
  go_wp2_with fail
  refine (szTermS_yes _ _ _ _ (by omega) (by omega) _).mono ?_
  rintro e _ ⟨rfl, rfl⟩
  have hE : Ext w w := (by repeat (first | exact Ext.refl _ | assumption | apply Ext.alloc | apply Ext.drew | apply Ext.drewN | (refine Ext.trans ?_ (by assumption)) | (refine Ext.setCell ?_ (by (try simp) <;> omega) _)))
  go_wp2_with fail
  refine (toTermS_any _ _ _ zs hm0 _ (h0.ext hE)).mono ?_
  rintro e w1 ⟨gs0, rfl, xs0, hb⟩
  have hz1 := hb.size
  replace hE := Ext.trans hE hb
  clear hb
  have xs00 := xs0
  go_wp2_with fail
  refine (HS.out _ _ (own_reads xs0)).mono ?_
  rintro e w2 ⟨sa, sc, rfl, hs, hb⟩
  have hz2 := hb.size
  replace hE := Ext.trans hE hb
  replace xs0 := own_ext hb xs0
  clear hb
  have hs0 := hs
  clear xs0
  go_wp2_with fail
  refine (toTermS_any _ _ _ zs hm0 _ (h0.ext hE)).mono ?_
  rintro e w3 ⟨gp0, rfl, xp0, hb⟩
  have hz3 := hb.size
  replace hE := Ext.trans hE hb
  replace hs := own_ext hb hs
  clear hb
  have xp00 := xp0
  go_wp2_with fail
  refine (HI.out _ _ (own_reads xp0)).mono ?_
  rintro e w4 ⟨ga, gc, rfl, hg, hb⟩
  have hz4 := hb.size
  replace hE := Ext.trans hE hb
  replace hs := own_ext hb hs
  replace xp0 := own_ext hb xp0
  clear hb
  have hg0 := hg
  go_wp2_with fail
  refine (eqIntS_same _ _ _ _ _ L (by omega) _ (own_reads hg) (own_reads hs)).mono ?_
  rintro e w5 ⟨rfl, hb⟩
  have hz5 := hb.size
  replace hE := Ext.trans hE hb
  replace hs := own_ext hb hs
  replace xp0 := own_ext hb xp0
  replace hg := own_ext hb hg
  clear hb
  go_wp2_with fail
  refine (toTermS_any _ _ _ zs hm0 _ (h0.ext hE)).mono ?_
  rintro e w6 ⟨gq0, rfl, xq0, hb⟩
  have hz6 := hb.size
  replace hE := Ext.trans hE hb
  replace hs := own_ext hb hs
  replace xp0 := own_ext hb xp0
  replace hg := own_ext hb hg
  clear hb
  have xq00 := xq0
  go_wp2_with fail
  refine (eqTermS_same _ _ _ _ _ zs (by omega) _ (own_reads xp0) (own_reads xq0)).mono ?_
  rintro e w7 ⟨rfl, hb⟩
  have hz7 := hb.size
  replace hE := Ext.trans hE hb
  replace hs := own_ext hb hs
  replace xp0 := own_ext hb xp0
  replace hg := own_ext hb hg
  replace xq0 := own_ext hb xq0
  clear hb
  clear xq0
  go_wp2_with fail
  refine (markTermS_any _ _ _ _ zs _ (by omega) (by omega) (by omega) _ xp0).mono ?_
  rintro e w8 ⟨rfl, hm, hgr⟩
  have hz8 := hgr.size
  replace hE := Ext.grown hE hgr (fun k hk => by have := (xp00.lt k hk).1; omega)
  replace hs := own_apartQ hs hgr (fun q hq e => by have h1 := (hs0.lt q hq); have h2 := (xp00.lt q e); omega)
  replace hg := own_apartQ hg hgr (fun q hq e => by have h1 := (hg0.lt q hq); have h2 := (xp00.lt q e); omega)
  clear hm hgr
  clear xp0
  go_wp2_with fail
  refine (eqIntS_same _ _ _ _ _ L (by omega) _ (own_reads hg) (own_reads hs)).mono ?_
  rintro e w9 ⟨rfl, hb⟩
  have hz9 := hb.size
  replace hE := Ext.trans hE hb
  replace hs := own_ext hb hs
  replace hg := own_ext hb hg
  clear hb
  go_wp2_with fail
  refine (markIntS_any _ _ _ _ L _ (by omega) (by omega) (by omega) _ hg).mono ?_
  rintro e w10 ⟨rfl, hm, hgr⟩
  have hz10 := hgr.size
  replace hE := Ext.grown hE hgr (fun k hk => by have := (hg0.lt k hk).1; omega)
  replace hs := own_apartQ hs hgr (fun q hq e => by have h1 := (hs0.lt q hq); have h2 := (hg0.lt q e); omega)
  clear hgr hg
  go_wp2_with fail
  refine (heldIntS_any _ _ _ _ (by omega) (by omega) (by omega) _ (own_reads hm)).mono ?_
  rintro e _ ⟨rfl, rfl⟩
  go_wp2_with fail
  refine (toTermS_any _ _ _ zs hm0 _ (h0.ext hE)).mono ?_
  rintro e w11 ⟨gr0, rfl, xr0, hb⟩
  have hz11 := hb.size
  replace hE := Ext.trans hE hb
  replace hs := own_ext hb hs
  replace hm := own_ext hb hm
  clear hb
  have xr00 := xr0
  go_wp2_with fail
  refine (HI.out _ _ (own_reads xr0)).mono ?_
  rintro e w12 ⟨ha, hc, rfl, hh, hb⟩
  have hz12 := hb.size
  replace hE := Ext.trans hE hb
  replace hs := own_ext hb hs
  replace hm := own_ext hb hm
  replace xr0 := own_ext hb xr0
  clear hb
  clear xr0
  go_wp2_with fail
  refine (eqIntS_same _ _ _ _ _ L (by omega) _ (own_reads hh) (own_reads hs)).mono ?_
  rintro e w13 ⟨rfl, hb⟩
  have hz13 := hb.size
  replace hE := Ext.trans hE hb
  replace hs := own_ext hb hs
  replace hm := own_ext hb hm
  replace hh := own_ext hb hh
  clear hb
  go_wp2_with fail
  refine (heldIntS_any _ _ _ _ (by omega) (by omega) (by omega) _ (own_reads hm)).mono ?_
  rintro e _ ⟨rfl, rfl⟩
  go_wp2
  go_ret
  exact ⟨rfl, hE⟩

end Go.Proofs.Ytehcjlbkfgfmjaa
