/-
  The ends at a vertex, as the reference makes them; the cell that is asked for.
-/
import Derived.Test.YtngbdopgdcjdeaaGreatCuE
import Derived.Test.YtngbdopgdcjdeaaGreatCont
import Derived.Test.YtngbdopgdcjdeaaGreatBa4
import Derived.BigQuiet
namespace Go.Proofs.YtngbdopgdcjdeaaGreat
open Go.RowKit

/-- The two terms of a side. -/
theorem pair_form {zs : List (Int × Int × Int)} (hA : Apt zs) {x y : List Int} (hx : IsCell zs x) (h : y ∈ sidesL zs x) : ∃ i j : Nat, i < j ∧ j < zs.length ∧ y = [(i : Int), (j : Int)] ∧ [(i : Int), (j : Int)] ∈ pairsL zs x := by
  have h1 := mem_sidesL.1 h
  obtain ⟨i, j, h2, h3, rfl, _⟩ := side_way hA hx h1
  exact ⟨i, j, h2, h3, rfl, h1⟩
theorem map_take {f : List Int → List Int} {S : List (List Int)} {k : Nat} (h : k < S.length) : (S.take (k + 1)).map f = (S.take k).map f ++ [f (S.getD k [])] := by
  rw [List.take_succ_eq_append_getElem h, List.map_append]
  simp [List.getD, h]
theorem endR_at (zs : List (Int × Int × Int)) (x : List Int) (i j : Nat) : endR zs x [(i : Int), (j : Int)] = [(i : Int), (j : Int), eX zs x i j, eY zs x i j, sideI zs i j] := by
  unfold endR
  rw [endT_at]
  rfl
theorem cuEnd3 (a ax ay : Option Addr) (n c nx cx cs : Nat) (zs : List (Int × Int × Int)) (hZ : PZ zs) (x : List Int) (hx : IsCell zs x) (i j : Nat) (he : [(i : Int), (j : Int)] ∈ pairsL zs x) (w : World) (h : Reads w a 3 n (tv zs)) (hxr : Reads w ax 1 nx (iv x)) (hs : Reads w ay 1 2 (iv [(i : Int), (j : Int)])) :
    Calls Tryz.prog 40 #[.slice a n c, .slice ax nx cx, .slice ay 2 cs] w fun r w' => ∃ a1 c1, r = .returned (.slice a1 3 c1) ∧ w'.ownsRow w.heap.size 3 1 (.slice a1 3 c1) 3 (iv [eX zs x i j, eY zs x i j, sideI zs i j]) ∧ Ext w w' :=
  (cuEnd_any a ax ay n c nx cx cs zs hZ x hx i j he w h hxr hs).mono fun _ _ ⟨a1, c1, h1, h2, h3⟩ => ⟨a1, c1, h1, h2, h3⟩
set_option maxHeartbeats 4000000 in
theorem cuEnds_any (a ax : Option Addr) (n c nx cx : Nat) (zs : List (Int × Int × Int)) (hZ : PZ zs) (x : List Int) (hx : IsCell zs x) (w : World) (h : Reads w a 3 n (tv zs)) (hxr : Reads w ax 1 nx (iv x)) :
    Calls Tryz.prog 56 #[.slice a n c, .slice ax nx cx] w (OwnsL w.heap.size (endsC zs x) w) := by
  have hl : zs.length = n := by have := h.1; rw [tv_len] at this; omega
  have hn12 : n ≤ 12 := by rw [← hl]; exact hZ.1
  have hS24 := sidesL_most hZ hx
  have HSF := Lib.hid (fun y (hy : y ∈ sidesL zs x) => pair_form hZ.2.2 hx hy)
  have HEN := Lib.hid (show endsC zs x = (sidesL zs x).map (endR zs x) from rfl)
  rw [HEN.out]
  have HZ := Lib.hid hZ
  have HX := Lib.hid hx
  clear hZ hx HEN
  go_enter Tryz.func56, Tryz.ntmps56
  go_wp2_with fail
  refine (ceSides_any _ _ _ _ _ _ zs HZ.out x HX.out w h hxr).mono ?_
  rintro e w3 ⟨a3, c3, us3, rfl, ho3, hv3, hE3⟩
  generalize sidesL zs x = S at *
  have HO3 := Lib.hid ho3
  have HV3 := Lib.hid hv3
  have HE3 := Lib.hid hE3
  have HH := Lib.hid (Reads.ext hE3 h)
  have HHX := Lib.hid (Reads.ext hE3 hxr)
  clear ho3 hv3 hE3 h hxr
  go_wp2
  go_loopw [5, 12] (fun s t wr => ∃ (k : Nat) (ts : List (Value × List Int)), k ≤ S.length ∧ t = .int .i64 k ∧ OwnL wr w3.heap.size s ts ∧ ts.map (·.2) = (S.take k).map (endR zs x) ∧ ts.length ≤ k ∧ Ext w3 wr) (fun _ t _ => S.length - (intOf t).toNat)
  case atStart => exact ⟨0, [], Nat.zero_le _, rfl, ownL_nil _ _, rfl, Nat.le_refl _, Ext.refl _⟩
  case round =>
    obtain ⟨k, ts, hk, rfl, hot, hts, htk, hE⟩ := hrel
    by_cases hlk : k < S.length
    · obtain ⟨i, j, hij, hj, hsd, hep⟩ := HSF.out (S.getD k []) (by rw [show S.getD k [] = S[k] by simp [List.getD, hlk]]; exact List.getElem_mem _)
      have HTK := Lib.hid ((map_take (f := endR zs x) hlk).trans (by rw [hsd, endR_at]))
      obtain ⟨ak, ck, hvk, hrk⟩ := VA.at k (HV3.out.ext hE) hlk
      obtain ⟨g, rfl, hg1, hg2⟩ := own_head HO3.out (by omega)
      have hck : wr.cell? ⟨g, k, none⟩ = some (.slice ak (S.getD k []).length ck) := ((own_ext hE HO3.out).cellAt k (by omega)).trans hvk
      rw [hsd] at hck hrk
      simp only [List.length_cons, List.length_nil, Nat.zero_add, Nat.reduceAdd] at hck hrk
      have HRK := Lib.hid hrk
      have HTS := Lib.hid hts
      have HOT := Lib.hid hot
      have HE := Lib.hid hE
      have HEP := Lib.hid hep
      have hkS : (k : Int) < (S.length : Int) := by omega
      have hzr := hE.size
      clear hvk hrk hts hot hE hep hsd
      go_wp2_with fail
      refine (l1Own_any ak 2 ck [(i : Int), (j : Int)] (by omega) (by omega) wr HRK.out).mono ?_
      rintro e w4 ⟨a4, c4, rfl, ho4, hE4⟩
      have HE4 := Lib.hid hE4
      have HO4 := Lib.hid ho4
      have HR4 := Lib.hid (Reads.ext hE4 HRK.out)
      have HH4 := Lib.hid (Reads.ext (HE.out.trans hE4) HH.out)
      have HX4 := Lib.hid (Reads.ext (HE.out.trans hE4) HHX.out)
      have hz4 := hE4.size
      clear ho4 hE4 hck
      go_wp2_with fail
      refine (cuEnd3 _ _ _ _ _ _ _ _ zs HZ.out x HX.out i j HEP.out w4 HH4.out HX4.out HR4.out).mono ?_
      rintro e w5 ⟨a5, c5, rfl, ho5, hE5⟩
      have HE5 := Lib.hid (HE4.out.trans hE5)
      have HR5 := Lib.hid (own_reads ho5)
      have HO45 := Lib.hid (own_ext hE5 HO4.out)
      have hz5 := hE5.size
      clear ho5 hE5
      generalize eX zs x i j = ex at *
      generalize eY zs x i j = ey at *
      generalize sideI zs i j = sd at *
      obtain ⟨i0, hz1, hz2, hz3, hz4⟩ := info_parts int_info
      go_wp2_with (at_builtin; go_must (refine wpList_app_any _ rfl _ _ 56 rfl wr.heap.size 3 i0 _ 1 8 Tryz.underlying56 hz1 hz2 hz3 hz4 rfl (by decide) _ 2 (iv [(i : Int), (j : Int)]) rfl HO45.out _ 3 _ (iv [ex, ey, sd]) rfl HR5.out (iv_oneE _) (by unfold maxLen; omega) (by omega) (by omega) ?_))
      intro a6 c6 w6 hown6 hg6 hl6
      clear hz1 hz2 hz3 hz4
      have HOR := Lib.hid (show w6.ownsRow wr.heap.size 3 1 (.slice a6 5 c6) 5 (iv [(i : Int), (j : Int), ex, ey, sd]) by simpa [iv] using hown6)
      have HE6 := Lib.hid (Ext.grown HE5.out hg6 (fun q hq => (HO45.out.lt q hq).1))
      obtain ⟨q6, hq6, hq7, _⟩ := own_some HOR.out (by omega)
      have HOT3 := Lib.hid (HOT.out.ext HE6.out)
      have HF3 := Lib.hid (HOT.out.fresh hq7)
      have HQ3 := Lib.hid hq6
      have HO3 := Lib.hid (own_mono (Nat.le_trans HE.out.size (Nat.le_refl _)) HOR.out)
      have HE36 := Lib.hid (HE.out.trans HE6.out)
      clear hown6 hg6 hl6 hq6 hq7 HO45 HR5 HO4 HOR
      obtain ⟨sa, sc, rfl⟩ := HOT3.out.form
      have hz3 := HE36.out.size
      obtain ⟨i0, hz1, hz2, hz4, hz5⟩ := info_parts ints_info2
      go_wp2_with (at_builtin; go_must (refine wpList_app_any _ rfl _ _ 24 rfl w3.heap.size 56 i0 _ 1 24 Tryz.underlying24 hz1 hz2 hz4 hz5 rfl (by decide) (.slice sa ts.length sc) ts.length (ts.map (·.1)) (by rfl) ((HOT3.out.ext ((Ext.refl w6).alloc _)).1) _ 1 1 [.slice a6 5 c6] (by rfl) (one_val (by simp)) (by simp [Value.oneCell']) (by unfold maxLen; omega) (by omega) (by simp; omega) ?_))
      intro a9 c9 w9 hown9 hg9 hl9
      have HOT9 := Lib.hid ((HOT3.out.ext ((Ext.refl w6).alloc _)).push (x := [(i : Int), (j : Int), ex, ey, sd]) (own_ext ((Ext.refl w6).alloc _) HO3.out) HQ3.out HF3.out.1 HF3.out.2 hg9 hown9 (hl9.imp id fun e => ⟨_, e, by simp⟩))
      have HE9 := Lib.hid (Ext.grown (HE36.out.alloc _) hg9 (fun k hk => (HOT3.out.1.lt k hk).1))
      clear hown9 hg9 hl9 hz1 hz2 hz4 hz5
      go_wp2
      go_roundw
      case rel => exact ⟨k + 1, ts ++ [(.slice a6 5 c6, [(i : Int), (j : Int), ex, ey, sd])], by omega, by go_num, HOT9.out, by rw [List.map_append, HTS.out, HTK.out]; rfl, by simp; omega, HE9.out⟩
      case measure => simp [intOf]; omega
    · obtain rfl : k = S.length := by omega
      have HTS := Lib.hid (show ts.map (·.2) = S.map (endR zs x) by rw [hts, List.take_length])
      have HOT := Lib.hid (hot.base HE3.out.size)
      have HE := Lib.hid (HE3.out.trans hE)
      clear hts hot hE
      go_wp2
      go_ret
      exact ⟨_, ts, rfl, HOT.out, HTS.out, HE.out⟩
/-- The cell of the number that is asked for, and whether there is one. -/
def TheCell (zs : List (Int × Int × Int)) (i : Int) (w : World) (r : Ending) (w' : World) : Prop :=
  ∃ a1 n1 c1, r = .returned (.tuple #[.slice a1 n1 c1, .bool (planeB zs && askB zs i)]) ∧ ((planeB zs && askB zs i) = true → Reads w' a1 1 n1 (iv ((cellsL zs).getD i.toNat []))) ∧ Ext w w'
set_option maxHeartbeats 1000000 in
theorem cuCell_any (a : Option Addr) (n c : Nat) (zs : List (Int × Int × Int)) (i : Int) (hn : n ≤ 1048576) (w : World) (h : Reads w a 3 n (tv zs)) :
    Calls Tryz.prog 52 #[.slice a n c, .int .i64 i] w (TheCell zs i w) := by
  have hl : zs.length = n := by have := h.1; rw [tv_len] at this; omega
  unfold TheCell
  cases hp : planeB zs
  · go_enter Tryz.func52, Tryz.ntmps52
    go_wp2_with fail
    refine (plGood_any _ _ _ zs (by omega) _ h).mono ?_
    rw [hp]
    rintro e w1 ⟨rfl, hb1⟩
    go_wp2
    go_ret2
    exact ⟨none, 0, 0, rfl, fun h => absurd h (by simp), hb1⟩
  · have HZ := Lib.hid (pz_of hp)
    have hN2 := cells_most HZ.out
    have hn12 : n ≤ 12 := by rw [← hl]; exact HZ.out.1
    have HB := Lib.hid (fun m (hm : m < n) => HZ.out.2.1 m (by rw [hl]; exact hm))
    obtain ⟨N, hN⟩ : ∃ N, N = (cellsL zs).length := ⟨_, rfl⟩
    rw [← hN] at hN2
    have HASK := Lib.hid (show askB zs i = inB i 0 ((N : Int) - 1) by unfold askB; rw [hN])
    have HN := Lib.hid hN
    clear hN
    cases hin : askB zs i
    · rw [HASK.out] at hin
      have HIN := Lib.hid hin
      clear hin
      go_enter Tryz.func52, Tryz.ntmps52
      go_wp2_with fail
      refine (plGood_any _ _ _ zs (by omega) _ h).mono ?_
      rw [hp]
      rintro e w1 ⟨rfl, hb1⟩
      have HH := Lib.hid (h.ext hb1)
      have HE := Lib.hid hb1
      clear h hb1
      go_wp2_with fail
      refine (ceOf_any _ _ _ zs hn12 HB.out w1 HH.out).mono ?_
      rintro e w2 ⟨a2, c2, vs, rfl, ho2, hv2, hE2⟩
      have HE2 := Lib.hid (HE.out.trans hE2)
      clear ho2 hv2 hE2
      rw [← HN.out]
      go_wp2_with fail
      refine (l1In_any _ _ _ _).mono ?_
      rw [HIN.out]
      rintro e _ ⟨rfl, rfl⟩
      go_wp2
      go_ret2
      exact ⟨none, 0, 0, rfl, fun h => absurd h (by simp), HE2.out⟩
    · rw [HASK.out] at hin
      have hik := inB_true.1 hin
      obtain ⟨k, rfl⟩ : ∃ k : Nat, i = (k : Int) := ⟨i.toNat, by omega⟩
      have HIN := Lib.hid hin
      have HKO := Lib.hid (show k < (cellsL zs).length by rw [← HN.out]; omega)
      have hkN : (k : Int) < (N : Int) := by omega
      rw [Int.toNat_natCast]
      clear hin hik
      go_enter Tryz.func52, Tryz.ntmps52
      go_wp2_with fail
      refine (plGood_any _ _ _ zs (by omega) _ h).mono ?_
      rw [hp]
      rintro e w1 ⟨rfl, hb1⟩
      have HH := Lib.hid (h.ext hb1)
      have HE := Lib.hid hb1
      clear h hb1
      go_wp2_with fail
      refine (ceOf_any _ _ _ zs hn12 HB.out w1 HH.out).mono ?_
      rintro e w2 ⟨a2, c2, vs, rfl, ho2, hv2, hE2⟩
      have HE2 := Lib.hid (HE.out.trans hE2)
      have HH2 := Lib.hid (Reads.ext hE2 HH.out)
      clear ho2 hv2 hE2
      rw [← HN.out]
      go_wp2_with fail
      refine (l1In_any _ _ _ _).mono ?_
      rw [HIN.out]
      rintro e _ ⟨rfl, rfl⟩
      go_wp2_with fail
      refine (ceOf_any _ _ _ zs hn12 HB.out w2 HH2.out).mono ?_
      rintro e w3 ⟨a3, c3, vs3, rfl, ho3, hv3, hE3⟩
      have HE3 := Lib.hid (HE2.out.trans hE3)
      obtain ⟨ak, ck, hvk, hrk⟩ := hv3.at k HKO.out
      rw [← HN.out] at ho3 ⊢
      obtain ⟨gc, rfl, _, hgc2⟩ := own_head ho3 (by omega)
      have hck := (ho3.cellAt k (by omega)).trans hvk
      obtain ⟨x, hx⟩ : ∃ x, x = (cellsL zs).getD k [] := ⟨_, rfl⟩
      rw [← hx] at hck hrk
      have HXX := Lib.hid hx
      have HRK := Lib.hid hrk
      clear ho3 hv3 hE3 hvk hrk HKO hx
      go_wp2
      go_ret2
      exact ⟨ak, x.length, ck, rfl, fun _ => by rw [← HXX.out]; exact HRK.out, HE3.out⟩
end Go.Proofs.YtngbdopgdcjdeaaGreat
