/-
  RaysOfCurve: the reference's side.
-/
import Derived.Test.YtngbdopgdcjdeaaGreatCuN
import Derived.Test.YtngbdopgdcjdeaaGreatSubW
import Derived.Test.YtngbdopgdcjdeaaGreatFloatS
import Derived.BigQuiet
namespace Go.Proofs.YtngbdopgdcjdeaaGreat
open Go.RowKit

/-- What is known of a side with one cell. -/
theorem one_form {zs : List (Int × Int × Int)} (hZ : PZ zs) {y : List Int} (h : y ∈ onceL zs) (h1 : (sidesAt zs y).length = 1) : ∃ i j p : Nat, i < j ∧ j < zs.length ∧ y = [(i : Int), (j : Int)] ∧ sidesAt zs y = [(p : Int)] ∧ p < (cellsL zs).length ∧ [(i : Int), (j : Int)] ∈ pairsL zs ((cellsL zs).getD p []) := by
  obtain ⟨i, j, hij, hj, rfl⟩ := once_form hZ.2.2 h
  match hs : sidesAt zs [(i : Int), (j : Int)], h1 with
  | [p], _ =>
    obtain ⟨p', hp1, hp2, hp3⟩ := atE_form (show p ∈ atE zs [(i : Int), (j : Int)] (cellsL zs).length from by unfold sidesAt at hs; rw [hs]; simp)
    exact ⟨i, j, p', hij, hj, rfl, by rw [hp1], hp2, hp3⟩
theorem rayR_at {zs : List (Int × Int × Int)} {i j p : Nat} (h : sidesAt zs [(i : Int), (j : Int)] = [(p : Int)]) : rayR zs [(i : Int), (j : Int)] = [(i : Int), (j : Int), (p : Int), eX zs ((cellsL zs).getD p []) i j, eY zs ((cellsL zs).getD p []) i j, sideI zs i j] := by
  unfold rayR
  rw [h]
  simp only [List.getD_cons_zero, Int.toNat_natCast, endT_at]
  rfl
theorem rays_rows {zs : List (Int × Int × Int)} (hZ : PZ zs) : ∀ y ∈ raysL zs, y.length ≤ 12 := fun y hy => by
  obtain ⟨e, he, rfl⟩ := List.mem_map.1 hy
  obtain ⟨he1, he2⟩ := List.mem_filter.1 he
  obtain ⟨i, j, p, _, _, rfl, hs, _⟩ := one_form hZ he1 (by simpa using he2)
  rw [rayR_at hs]
  simp
theorem rays_len {zs : List (Int × Int × Int)} (hZ : PZ zs) : (raysL zs).length ≤ 48000 := by
  unfold raysL
  rw [List.length_map]
  exact Nat.le_trans (List.length_filter_le _ _) (onceL_len hZ)
theorem cuAt1 (a ay : Option Addr) (n c cs : Nat) (zs : List (Int × Int × Int)) (hZ : PZ zs) (L : List Int) {p : Int} (hp : sidesAt zs L = [p]) (w : World) (h : Reads w a 3 n (tv zs)) (hs : Reads w ay 1 2 (iv L)) :
    Calls Tryz.prog 38 #[.slice a n c, .slice ay 2 cs] w fun r w' => ∃ a1 c1, r = .returned (.slice a1 1 c1) ∧ w'.ownsRow w.heap.size 3 1 (.slice a1 1 c1) 1 (iv [p]) ∧ Ext w w' := by
  have h := cuAt_any a ay n c 2 cs zs hZ L (by omega) w h hs
  rw [hp] at h
  exact h.mono fun _ _ ⟨a1, c1, h1, h2, h3⟩ => ⟨a1, c1, h1, h2, h3⟩
set_option maxHeartbeats 8000000 in
set_option maxRecDepth 100000 in
theorem spec_RaysOfCurve_any (a : Option Addr) (n c : Nat) (zs : List (Int × Int × Int)) (hn : n ≤ 1048576) (w : World) (h : Reads w a 3 n (tv zs)) :
    Calls Tryz.prog 11 #[.slice a n c] w (RdLB (gR (planeB zs) (raysL zs)) (planeB zs) w) := by
  have hl : zs.length = n := by have := h.1; rw [tv_len] at this; omega
  cases hp : planeB zs
  · simp only [gR, Bool.false_eq_true, if_false]
    go_enter Tryz.func11, Tryz.ntmps11
    go_wp2_with fail
    refine (plGood_any _ _ _ zs (by omega) _ h).mono ?_
    rw [hp]
    rintro e w1 ⟨rfl, hb1⟩
    go_wp2
    go_ret2
    exact ⟨_, rfl, rdL_none _, hb1⟩
  · simp only [gR, if_true]
    have HZ := Lib.hid (pz_of hp)
    have hn12 : n ≤ 12 := by rw [← hl]; exact HZ.out.1
    have HB := Lib.hid (fun m (hm : m < n) => HZ.out.2.1 m (by rw [hl]; exact hm))
    go_enter Tryz.func11, Tryz.ntmps11
    go_wp2_with fail
    refine (plGood_any _ _ _ zs (by omega) _ h).mono ?_
    rw [hp]
    rintro e w1 ⟨rfl, hb1⟩
    have HH := Lib.hid (h.ext hb1)
    have HE := Lib.hid hb1
    clear h hb1
    have hN2 := cells_most HZ.out
    go_wp2_with fail
    refine (ceEdges_any _ _ _ zs HZ.out false w1 HH.out).mono ?_
    rintro e w3 ⟨a3, c3, us3, rfl, ho3, hv3, hE3⟩
    rw [show edgesL zs false = onceL zs from rfl] at ho3 hv3 ⊢
    have hS := onceL_len HZ.out
    obtain ⟨f, hf⟩ : ∃ f : List Int → Bool, f = fun e => decide ((sidesAt zs e).length = 1) := ⟨_, rfl⟩
    have HRL := Lib.hid (show raysL zs = ((onceL zs).filter f).map (rayR zs) by rw [hf]; rfl)
    have HFd := Lib.hid hf
    clear hf
    have HOF := Lib.hid (fun y (hy : y ∈ onceL zs) => once_form HZ.out.2.2 hy)
    have HON := Lib.hid (fun y (hy : y ∈ onceL zs) (h1 : (sidesAt zs y).length = 1) => one_form HZ.out hy h1)
    obtain ⟨S0, hSS⟩ : ∃ S, S = onceL zs := ⟨_, rfl⟩
    rw [← hSS] at hS HOF HON ho3 hv3 HRL ⊢
    clear hSS
    have HO3 := Lib.hid ho3
    have HV3 := Lib.hid hv3
    have HE3 := Lib.hid (HE.out.trans hE3)
    have HH3 := Lib.hid (Reads.ext hE3 HH.out)
    clear ho3 hv3 hE3
    go_wp2
    go_loopw [4, 14] (fun s t wr => ∃ (k : Nat) (ts : List (Value × List Int)), k ≤ S0.length ∧ t = .int .i64 k ∧ OwnL wr w3.heap.size s ts ∧ ts.map (·.2) = ((S0.take k).filter f).map (rayR zs) ∧ ts.length ≤ k ∧ Ext w3 wr) (fun _ t _ => S0.length - (intOf t).toNat)
    case atStart => exact ⟨0, [], Nat.zero_le _, rfl, ownL_nil _ _, by simp, Nat.le_refl _, Ext.refl _⟩
    case round =>
      obtain ⟨k, ts, hk, rfl, hot, hts, htk, hE⟩ := hrel
      by_cases hlk : k < S0.length
      · have hmem : S0.getD k [] ∈ S0 := by rw [show S0.getD k [] = S0[k] by simp [List.getD, hlk]]; exact List.getElem_mem _
        obtain ⟨i, j, hij, hj, hsd⟩ := HOF.out _ hmem
        have HTK := Lib.hid (once_take (f := f) hlk)
        rw [hsd] at HTK
        have HFI := Lib.hid (show f [(i : Int), (j : Int)] = decide ((sidesAt zs [(i : Int), (j : Int)]).length = 1) by rw [HFd.out])
        obtain ⟨ak, ck, hvk, hrk⟩ := VA.at k (HV3.out.ext hE) hlk
        obtain ⟨g, rfl, hg1, hg2⟩ := own_head HO3.out (by omega)
        have hck : wr.cell? ⟨g, k, none⟩ = some (.slice ak (S0.getD k []).length ck) := ((own_ext hE HO3.out).cellAt k (by omega)).trans hvk
        rw [hsd] at hck hrk
        simp only [List.length_cons, List.length_nil, Nat.zero_add, Nat.reduceAdd] at hck hrk
        have HRK := Lib.hid hrk
        have HTS := Lib.hid hts
        have HOT := Lib.hid hot
        have HEr := Lib.hid hE
        have hkS : (k : Int) < (S0.length : Int) := by omega
        have hzr := hE.size
        have HMEM := Lib.hid (show [(i : Int), (j : Int)] ∈ S0 by rw [← hsd]; exact hmem)
        have HHr := Lib.hid (Reads.ext hE HH3.out)
        clear hvk hrk hts hot hE hsd hj hij hmem
        by_cases hone : (sidesAt zs [(i : Int), (j : Int)]).length = 1
        · obtain ⟨i', j', p, _, _, e1, hsp, hpN, hpair⟩ := HON.out _ HMEM.out hone
          simp only [List.cons.injEq, and_true] at e1
          obtain ⟨rfl, rfl⟩ : i = i' ∧ j = j' := by omega
          have HV := Lib.hid (show ((S0.take (k + 1)).filter f).map (rayR zs) = ((S0.take k).filter f).map (rayR zs) ++ [[(i : Int), (j : Int), (p : Int), eX zs ((cellsL zs).getD p []) i j, eY zs ((cellsL zs).getD p []) i j, sideI zs i j]] by rw [HTK.out, HFI.out, if_pos (by simpa using hone), List.map_append, List.map_cons, List.map_nil, rayR_at hsp])
          have HSP := Lib.hid hsp
          have HX := Lib.hid (cell_at hpN)
          have HPR := Lib.hid hpair
          have HPN := Lib.hid hpN
          obtain ⟨N, hN⟩ : ∃ N, N = (cellsL zs).length := ⟨_, rfl⟩
          have HN := Lib.hid hN
          rw [← hN] at hpN
          have hp3 : (p : Int) < (N : Int) := by omega
          have hN0 : 0 < N := by omega
          have hN22 : N ≤ 2000 := by rw [hN]; exact hN2
          obtain ⟨x, hx⟩ : ∃ x, x = (cellsL zs).getD p [] := ⟨_, rfl⟩
          rw [← hx] at HV HX HPR
          have HXX := Lib.hid hx
          clear hx hN hsp hpair hpN HTK HFI hone e1
          go_wp2_with fail
          refine (cuAt1 _ _ _ _ _ zs HZ.out _ HSP.out wr HHr.out HRK.out).mono ?_
          rintro e V ⟨a4, c4, rfl, ho4, hE4⟩
          obtain ⟨ba, rfl, _, hba⟩ := own_head ho4 (by omega)
          have at0 : V.cell? ⟨ba, 0, none⟩ = some (.int .i64 (p : Int)) := ho4.cellAt 0 (by omega)
          have hba2 := (ho4.lt ba rfl).1
          have HEV := Lib.hid (HEr.out.trans hE4)
          have HOT3 := Lib.hid (HOT.out.ext hE4)
          have HRV := Lib.hid (Reads.ext hE4 HRK.out)
          have HHV := Lib.hid (Reads.ext hE4 HHr.out)
          have hzV := hE4.size
          obtain ⟨sa, sc, rfl⟩ := HOT3.out.form
          have HFB := Lib.hid (show (Value.slice sa ts.length sc).ownBlock ≠ some ba from fun e => by
            have h1 := (HOT.out.1.lt ba e).2
            omega)
          clear ho4 hE4 hck HOT HRK HHr
          go_wp2
          obtain ⟨S, hSd⟩ : ∃ S : World → Prop, S = fun w' => w'.cell? ⟨ba, 0, none⟩ = some (.int .i64 (p : Int)) := ⟨_, rfl⟩
          have hSE : ∀ w', Ext V w' → S w' := fun w' e => by rw [hSd]; exact e.keep at0
          have hS0 : S V.drew := hSE _ (Ext.drew (Ext.refl _))
          refine wp_region_T S 21 (by kernel_rfl) ?_
          simp only [List.length_cons, List.length_nil, Nat.reduceAdd]
          refine wpAnyT_take (i := 0) (v := .slice sa ts.length sc) rfl (by kernel_rfl) (by kernel_rfl) (by kernel_rfl) (by kernel_rfl) (fun _ _ _ h => h) (.inl ⟨by rfl, fun _ _ => by
            simp [go_sem]⟩) hS0 ?_
          simp only [Act.put, List.getElem_toArray, List.getElem_cons_succ, List.getElem_cons_zero, List.setIfInBounds_toArray, List.set_cons_succ, List.set_cons_zero]
          refine wpAnyT_take (i := 1) (v := .slice ak 2 ck) rfl (by kernel_rfl) (by kernel_rfl) (by kernel_rfl) (by kernel_rfl) (fun _ _ _ h => h) (.inl ⟨by rfl, fun _ _ => by
            simp [go_sem]⟩) hS0 ?_
          simp only [Act.put, List.getElem_toArray, List.getElem_cons_succ, List.getElem_cons_zero, List.setIfInBounds_toArray, List.set_cons_succ, List.set_cons_zero]
          refine wpAnyT_take (i := 3) (v := .slice (some ⟨ba, 0, none⟩) 1 c4) rfl (by kernel_rfl) (by kernel_rfl) (by kernel_rfl) (by kernel_rfl) (fun _ _ _ h => h) (.inl ⟨by rfl, fun _ _ => by
            simp [go_sem]⟩) hS0 ?_
          simp only [Act.put, List.getElem_toArray, List.getElem_cons_succ, List.getElem_cons_zero, List.setIfInBounds_toArray, List.set_cons_succ, List.set_cons_zero]
          refine wpAnyT_take (i := 4) (v := .pointer (some ⟨ba, 0, none⟩)) rfl (by kernel_rfl) (by kernel_rfl) (by kernel_rfl) (by kernel_rfl) (fun _ _ _ h => h) (.inl ⟨by rfl, fun _ _ => by
            simp [go_sem]⟩) hS0 ?_
          simp only [Act.put, List.getElem_toArray, List.getElem_cons_succ, List.getElem_cons_zero, List.setIfInBounds_toArray, List.set_cons_succ, List.set_cons_zero]
          refine wpAnyT_take (i := 5) (v := .int .i64 (p : Int)) rfl (by kernel_rfl) (by kernel_rfl) (by kernel_rfl) (by kernel_rfl) (fun _ _ _ h => h) (.inl ⟨by rfl, fun w' hw' => by
            rw [hSd] at hw'
            simp [go_sem, hw']⟩) hS0 ?_
          simp only [Act.put, List.getElem_toArray, List.getElem_cons_succ, List.getElem_cons_zero, List.setIfInBounds_toArray, List.set_cons_succ, List.set_cons_zero]
          refine wpAnyT_take (i := 8) (v := .slice a n c) rfl (by kernel_rfl) (by kernel_rfl) (by kernel_rfl) (by kernel_rfl) (fun _ _ _ h => h) (.inl ⟨by rfl, fun _ _ => by
            simp [go_sem]⟩) hS0 ?_
          simp only [Act.put, List.getElem_toArray, List.getElem_cons_succ, List.getElem_cons_zero, List.setIfInBounds_toArray, List.set_cons_succ, List.set_cons_zero]
          refine wpAnyT_take (i := 9) (v := .slice a n c) rfl (by kernel_rfl) (by kernel_rfl) (by kernel_rfl) (by kernel_rfl) (fun _ _ _ h => h) (.inl ⟨by rfl, fun _ _ => by
            simp [go_sem]⟩) hS0 ?_
          simp only [Act.put, List.getElem_toArray, List.getElem_cons_succ, List.getElem_cons_zero, List.setIfInBounds_toArray, List.set_cons_succ, List.set_cons_zero]
          refine wpAnyT_take (i := 11) (v := .slice (some ⟨ba, 0, none⟩) 1 c4) rfl (by kernel_rfl) (by kernel_rfl) (by kernel_rfl) (by kernel_rfl) (fun _ _ _ h => h) (.inl ⟨by rfl, fun _ _ => by
            simp [go_sem]⟩) hS0 ?_
          simp only [Act.put, List.getElem_toArray, List.getElem_cons_succ, List.getElem_cons_zero, List.setIfInBounds_toArray, List.set_cons_succ, List.set_cons_zero]
          refine wpAnyT_take (i := 12) (v := .pointer (some ⟨ba, 0, none⟩)) rfl (by kernel_rfl) (by kernel_rfl) (by kernel_rfl) (by kernel_rfl) (fun _ _ _ h => h) (.inl ⟨by rfl, fun _ _ => by
            simp [go_sem]⟩) hS0 ?_
          simp only [Act.put, List.getElem_toArray, List.getElem_cons_succ, List.getElem_cons_zero, List.setIfInBounds_toArray, List.set_cons_succ, List.set_cons_zero]
          refine wpAnyT_take (i := 13) (v := .int .i64 (p : Int)) rfl (by kernel_rfl) (by kernel_rfl) (by kernel_rfl) (by kernel_rfl) (fun _ _ _ h => h) (.inl ⟨by rfl, fun w' hw' => by
            rw [hSd] at hw'
            simp [go_sem, hw']⟩) hS0 ?_
          simp only [Act.put, List.getElem_toArray, List.getElem_cons_succ, List.getElem_cons_zero, List.setIfInBounds_toArray, List.set_cons_succ, List.set_cons_zero]
          refine wpAnyT_take (i := 16) (v := .slice ak 2 ck) rfl (by kernel_rfl) (by kernel_rfl) (by kernel_rfl) (by kernel_rfl) (fun _ _ _ h => h) (.inl ⟨by rfl, fun _ _ => by
            simp [go_sem]⟩) hS0 ?_
          simp only [Act.put, List.getElem_toArray, List.getElem_cons_succ, List.getElem_cons_zero, List.setIfInBounds_toArray, List.set_cons_succ, List.set_cons_zero]
          refine floatSG hSE (k := 2) (g := 9) (L := #[true, true, true, true, true, true, true, false, true, true, false, true, true, true, false, false, true, false, false, false, false, false]) (T := wpAnyT Tryz.prog .any _ _ S 21 9 _) [2] [(⟨6, 30, fun b => .slice (some ⟨b, 0, none⟩) 1 1, .cells #[.int .i64 (p : Int)] 3⟩, none)] (w := V.drew) (by kernel_rfl) (by kernel_rfl) (fun a w _ h => h) (by kernel_rfl) (by simp) ?_ (Ext.drew (Ext.refl _)) ⟨by simp, by simp⟩ ?_
          · intro p hp
            simp only [List.mem_cons, List.not_mem_nil, or_false] at hp
            subst hp
            exact ⟨_, rfl, rfl, rfl, fun w => by simp [go_sem]⟩
          · intro ops' R' hO hR'
            have O2 := get_of (i := 2) hO.out rfl
            conv at O2 => rhs; arg 1; whnf
            clear hO
            refine chainG_call O2 rfl (fun w' e => by simp [go_sem] <;> exact ⟨rfl, rfl⟩) (fun v5 e5 => ?_)
            refine (l1Own_any ak 2 ck [(i : Int), (j : Int)] (by omega) (by omega) v5 (Reads.ext (Ext.trans (Ext.drew (Ext.refl V)) e5) HRV.out)).mono ?_
            rintro e v6 ⟨a5, c5, rfl, ho5, hb⟩
            refine ⟨_, rfl, hb, ?_⟩
            simp only [Act.put, List.setIfInBounds_toArray, List.set_cons_succ, List.set_cons_zero]
            have HE5 := Lib.hid (Ext.trans (Ext.trans (Ext.drew (Ext.refl V)) e5) hb)
            have HO5 := Lib.hid (own_mono (Ext.trans (Ext.drew (Ext.refl V)) e5).size ho5)
            clear ho5 hb
            intro w5 e6
            rw [hR'.out]
            clear hR' O2
            simp only [finF, List.map_cons, List.map_nil]
            intro lb nlb _ hB
            simp only [Act.put, List.setIfInBounds_toArray, List.set_cons_succ, List.set_cons_zero]
            have hlb : w5.cell? ⟨lb, 0, none⟩ = some (.int .i64 (p : Int)) := boxed_has hB (b := lb) (cs := #[.int .i64 (p : Int)]) (t := 3) (by simp) 0 _ rfl
            have hE5 : Ext V w5 := HE5.out.trans e6
            have HOR := Lib.hid (own_ext e6 HO5.out)
            have hz5 := hE5.size
            clear hB HE5 HO5 e6 nlb
            obtain ⟨i0, hz1, hz2, hz3, hz4⟩ := info_parts int_info
            have HZI := Lib.hid (And.intro hz1 (And.intro hz2 (And.intro hz3 hz4)))
            clear hz1 hz2 hz3 hz4
            refine wpAnyT_step (i := 7) rfl (by kernel_rfl) (fun K' hK => ?_)
            refine step_app_any _ rfl _ _ 56 rfl V.heap.size 3 i0 _ 1 8 Tryz.underlying56 HZI.out.1 HZI.out.2.1 HZI.out.2.2.1 HZI.out.2.2.2 rfl (by decide) (.slice a5 2 c5) 2 (iv [(i : Int), (j : Int)]) (by rfl) HOR.out (some ⟨lb, 0, none⟩) 1 1 (iv [(p : Int)]) (by rfl) (one_intE hlb) (iv_oneE _) (by unfold maxLen; omega) (by omega) hE5.size ?_
            intro a6 c6 w6 hown6 hg6 _
            have hE6 : Ext V w6 := Ext.grown hE5 hg6 (fun q hq => (HOR.out.lt q hq).1)
            have HO6 := Lib.hid (show w6.ownsRow V.heap.size 3 1 (.slice a6 3 c6) 3 (iv [(i : Int), (j : Int), (p : Int)]) by simpa [iv] using hown6)
            refine hK.out _ _ (.inr (hSE _ hE6)) ?_
            clear hK K' hown6 hg6 HOR hlb hE5 hz5
            simp only [Act.put, Nat.reduceAdd]
            refine wpAnyT_step (i := 10) rfl (by kernel_rfl) (fun K' hK => ?_)
            go_simp
            refine (ceOf_any _ _ _ zs hn12 HB.out w6 (Reads.ext hE6 HHV.out)).mono ?_
            rintro e w7 ⟨a7, c7, us7, rfl, ho7, hv7, hE7⟩
            obtain ⟨ap, cp, hvp, hrp⟩ := hv7.at p HPN.out
            rw [← HN.out] at ho7
            obtain ⟨gc, rfl, _, hgc2⟩ := own_head ho7 hN0
            have hcp := (ho7.cellAt p (by omega)).trans hvp
            rw [← HXX.out] at hcp hrp
            have HRP := Lib.hid hrp
            rw [← HN.out]
            refine hK.out _ _ (.inr (hSE _ (hE6.trans hE7))) ?_
            clear hK K' ho7 hv7 hvp hrp
            have HO7 := Lib.hid (own_ext hE7 HO6.out)
            have hEV7 := hE6.trans hE7
            clear HO6 hE6 hE7
            refine wpAnyT_step (i := 14) rfl (by kernel_rfl) (fun K' hK => ?_)
            go_simp
            refine hK.out _ _ (.inr (hSE _ hEV7)) ?_
            clear hK K'
            refine wpAnyT_step (i := 15) rfl (by kernel_rfl) (fun K' hK => ?_)
            go_simp
            refine hK.out _ _ (.inr (hSE _ hEV7)) ?_
            clear hK K' hcp
            refine wpAnyT_step (i := 17) rfl (by kernel_rfl) (fun K' hK => ?_)
            go_simp
            refine (cuEnd3 _ _ _ _ _ _ _ _ zs HZ.out x HX.out i j HPR.out w7 (Reads.ext hEV7 HHV.out) HRP.out (Reads.ext hEV7 HRV.out)).mono ?_
            rintro e w8 ⟨a8, c8, rfl, ho8, hE8⟩
            have hEV8 := hEV7.trans hE8
            have HO8 := Lib.hid (own_ext hE8 HO7.out)
            have HR8 := Lib.hid (own_reads ho8)
            refine hK.out _ _ (.inr (hSE _ hEV8)) ?_
            clear hK K' ho8 hE8 HO7 hEV7
            generalize eX zs x i j = ex at *
            generalize eY zs x i j = ey at *
            generalize sideI zs i j = sg at *
            refine wpAnyT_step (i := 18) rfl (by kernel_rfl) (fun K' hK => ?_)
            refine step_app_any _ rfl _ _ 56 rfl V.heap.size 3 i0 _ 1 8 Tryz.underlying56 HZI.out.1 HZI.out.2.1 HZI.out.2.2.1 HZI.out.2.2.2 rfl (by decide) (.slice a6 3 c6) 3 (iv [(i : Int), (j : Int), (p : Int)]) (by rfl) HO8.out a8 3 c8 (iv [ex, ey, sg]) (by rfl) HR8.out (iv_oneE _) (by unfold maxLen; omega) (by omega) hEV8.size ?_
            intro a9 c9 w9 hown9 hg9 _
            have hEV9 : Ext V w9 := Ext.grown hEV8 hg9 (fun q hq => (HO8.out.lt q hq).1)
            have HO9 := Lib.hid (show w9.ownsRow V.heap.size 3 1 (.slice a9 6 c9) 6 (iv [(i : Int), (j : Int), (p : Int), ex, ey, sg]) by simpa [iv] using hown9)
            refine hK.out _ _ (.inr (hSE _ hEV9)) ?_
            clear hK K' hown9 hg9 HO8 HR8 hEV8
            simp only [Act.put, Nat.reduceAdd]
            obtain ⟨q9, hq9, hq8, _⟩ := own_some HO9.out (by omega)
            refine wpAnyT_step (i := 19) rfl (by kernel_rfl) (fun K' hK => ?_)
            go_simp
            refine hK.out _ _ (.inr (hSE _ (hEV9.alloc _))) ?_
            clear hK K'
            obtain ⟨v5, hv5e⟩ : ∃ v5, v5 = Value.slice a9 6 c9 := ⟨_, rfl⟩
            have hone5 : v5.oneCell' = true := by rw [hv5e]; rfl
            rw [← hv5e] at HO9 hq9 ⊢
            clear hv5e
            have hcl : (w9.alloc (.cells #[v5] 56)).cell? ⟨w9.heap.size, 0, none⟩ = some v5 := by simp
            obtain ⟨wA, hwA⟩ : ∃ wA, wA = w9.alloc (.cells #[v5] 56) := ⟨_, rfl⟩
            have hEA : Ext V wA := by rw [hwA]; exact hEV9.alloc _
            have HOA := Lib.hid (show wA.ownsRow w3.heap.size 3 1 v5 6 (iv [(i : Int), (j : Int), (p : Int), ex, ey, sg]) from by rw [hwA]; exact own_mono HEV.out.size (own_ext (Ext.alloc (Ext.refl _) _) HO9.out))
            rw [← hwA] at hcl ⊢
            clear hwA HO9 hEV9
            have HOT6 := Lib.hid (HOT3.out.ext hEA)
            have HF6 := Lib.hid (HOT3.out.fresh hq8)
            obtain ⟨i1, hy1, hy2, hy3, hy4⟩ := info_parts ints_info2
            refine wpAnyT_step (i := 20) rfl (by kernel_rfl) (fun K' hK => ?_)
            refine step_app_any _ rfl _ _ 24 rfl w3.heap.size 56 i1 _ 1 24 Tryz.underlying24 hy1 hy2 hy3 hy4 rfl (by decide) (.slice sa ts.length sc) ts.length (ts.map (·.1)) (by rfl) HOT6.out.1 (some ⟨w9.heap.size, 0, none⟩) 1 1 [v5] (by rfl) (one_val hcl) (by simpa using hone5) (by unfold maxLen; omega) (by omega) (HEV.out.trans hEA).size ?_
            intro aB cB wB hownB hgB hlB
            have HOTB := Lib.hid (HOT6.out.push (x := [(i : Int), (j : Int), (p : Int), ex, ey, sg]) HOA.out hq9 HF6.out.1 HF6.out.2 hgB hownB (hlB.imp id fun e => ⟨_, e, Nat.le_refl _⟩))
            have hSB : S wB := by rw [hSd]; exact grown_keep hgB (hEA.keep at0) (fun e => HFB.out e.symm)
            have HEB := Lib.hid (Ext.grown (HEV.out.trans hEA) hgB (fun k hk => (HOT6.out.1.lt k hk).1))
            refine hK.out _ _ (.inr hSB) ?_
            clear hK K' hownB hgB hlB hcl
            refine wpAnyT_step (i := 21) rfl (by kernel_rfl) (fun K' hK => ?_)
            go_simp
            refine hK.out _ _ (.inl rfl) ?_
            clear hK K'
            refine wpAnyT_done (by kernel_rfl) ?_ _
            clear hS0 hSE hSd hSB at0 hEA HOT3 HFB hy1 hy2 hy3 hy4
            go_wp2
            go_roundw
            case rel => exact ⟨k + 1, ts ++ [(v5, [(i : Int), (j : Int), (p : Int), ex, ey, sg])], by omega, by go_num, HOTB.out, by rw [List.map_append, HTS.out, HV.out]; rfl, by simp; omega, HEB.out⟩
            case measure => simp [intOf]; omega
        · have HV := Lib.hid (HTK.out.trans (by rw [HFI.out, if_neg (by simpa using hone), List.append_nil]))
          go_wp2_with fail
          refine (cuAt_any _ _ _ _ 2 _ zs HZ.out [(i : Int), (j : Int)] (by omega) wr HHr.out HRK.out).mono ?_
          rintro e w4 ⟨a4, c4, rfl, _, hE4⟩
          have HE4 := Lib.hid (HEr.out.trans hE4)
          have HOT4 := Lib.hid (HOT.out.ext hE4)
          clear hE4 hck HTK HFI
          generalize (sidesAt zs [(i : Int), (j : Int)]).length = m at *
          have hm2 : ((m : Int) == 1) = false := by simp; omega
          clear hone
          go_wp2
          go_roundw
          case rel => exact ⟨k + 1, ts, by omega, by go_num, HOT4.out, by rw [HV.out]; exact HTS.out, by omega, HE4.out⟩
          case measure => simp [intOf]; omega
      · obtain rfl : k = S0.length := by omega
        obtain ⟨sa, sc, rfl⟩ := hot.form
        have hrd := hot.rd
        rw [show ts.map (·.2) = raysL zs by rw [hts, List.take_length, HRL.out]] at hrd
        have HRD := Lib.hid hrd
        have HEF := Lib.hid (HE3.out.trans hE)
        clear hts hot hE hrd
        go_wp2
        go_ret2
        exact ⟨.slice sa ts.length sc, rfl, HRD.out, HEF.out⟩
end Go.Proofs.YtngbdopgdcjdeaaGreat
