/-
  Stars added, mapped: the reference's walks.
-/
import Derived.Test.YtogbfhhioicbmaaStPut
import Derived.Deep.RegionHeld3
namespace Go.Proofs.Ytogbfhhioicbmaa
open Go.RowKit

/-- A slice of rays of the call's own, and a truth. -/
def OwnsRaysB (B : Nat) (zs : List (Int × Int × Int)) (ok : Bool) (w : World) (r : Ending) (w' : World) : Prop :=
  ∃ a c, r = .returned (.tuple #[.slice a zs.length c, .bool ok]) ∧ w'.ownsRow B 85 3 (.slice a zs.length c) zs.length (tv zs) ∧ Ext w w'
theorem star_rows {zs : List (Int × Int × Int)} (h : starB zs = true) : zs.length ≤ 10 ∧ SortT zs ∧ ∀ z ∈ zs, (-20 ≤ z.1 ∧ z.1 ≤ 20) ∧ (-20 ≤ z.2.1 ∧ z.2.1 ≤ 20) ∧ (1 ≤ z.2.2 ∧ z.2.2 ≤ 20) := by
  rcases starB_cases zs with h0 | ⟨_, h1, h2⟩
  · rw [h] at h0; cases h0
  · refine ⟨h1, ?_, ?_⟩
    · have hok : okTo zs zs.length = true := by unfold starB at h; simp only [Bool.and_eq_true] at h; exact h.1
      have one : ∀ k, k + 1 < zs.length → lexP (kR (tat zs k)) (kR (tat zs (k + 1))) := by
        intro k hk
        have := okTo_at _ hok hk
        simp only [okAt, Bool.and_eq_true, Bool.or_eq_true, Nat.add_sub_cancel] at this
        exact befB_lex.1 (this.2.resolve_left (by simp))
      have all : ∀ i j, i < j → j < zs.length → lexP (kR (tat zs i)) (kR (tat zs j)) := by
        intro i j hij hj
        obtain ⟨d, rfl⟩ : ∃ d, j = i + 1 + d := ⟨j - i - 1, by omega⟩
        clear hij
        induction d with
        | zero => exact one i hj
        | succ d ih => exact lexP_trans (ih (by omega)) (one (i + 1 + d) (by omega))
      unfold SortT
      rw [List.pairwise_iff_getElem]
      intro i j hi hj hij
      have := all i j hij hj
      rwa [tat_eq hi, tat_eq hj] at this
    · intro z hz
      obtain ⟨k, hk, rfl⟩ := List.mem_iff_getElem.1 hz
      have := h2 k hk
      rwa [tat_eq hk] at this
set_option maxHeartbeats 2000000 in
theorem spec_AddStars_any (a a' : Option Addr) (n n' c c' : Nat) (zs ys : List (Int × Int × Int)) (hn : n ≤ 1048576) (hn' : n' ≤ 1048576) (w : World) (h : Reads w a 3 n (tv zs)) (h' : Reads w a' 3 n' (tv ys)) :
    Calls Try.prog 28 #[.slice a n c, .slice a' n' c'] w (OwnsRaysB w.heap.size (gT (starB zs && starB ys && starB (putAll zs ys)) (putAll zs ys)) (starB zs && starB ys && starB (putAll zs ys)) w) := by
  have hl : zs.length = n := by have := h.1; rw [tv_len] at this; omega
  have hl' : ys.length = n' := by have := h'.1; rw [tv_len] at this; omega
  subst hl hl'
  cases h1 : starB zs
  · go_enter Try.func28, Try.ntmps28
    go_wp2_with fail
    refine (stGood_any _ _ _ zs (by omega) _ h).mono ?_
    rw [h1]
    rintro e w1 ⟨rfl, hb1⟩
    go_wp2
    go_ret2
    exact ⟨none, 0, rfl, own_none _ _ _, hb1⟩
  · cases h2 : starB ys
    · go_enter Try.func28, Try.ntmps28
      go_wp2_with fail
      refine (stGood_any _ _ _ zs (by omega) _ h).mono ?_
      rw [h1]
      rintro e w1 ⟨rfl, hb1⟩
      go_wp2_with fail
      refine (stGood_any _ _ _ ys (by omega) _ (h'.ext hb1)).mono ?_
      rw [h2]
      rintro e w2 ⟨rfl, hb2⟩
      go_wp2
      go_ret2
      exact ⟨none, 0, rfl, own_none _ _ _, hb1.trans hb2⟩
    · obtain ⟨l1, s1, b1⟩ := star_rows h1
      obtain ⟨l2, s2, b2⟩ := star_rows h2
      have HBP := Lib.hid (fun k (hk : k ≤ ys.length) => putAll_bd (a := zs) (fun z hz => by have := b1 z hz; omega) (ys.take k) (fun z hz => by have := b2 z (List.mem_of_mem_take hz); omega))
      have HLP := Lib.hid (fun k => (putAll_spec s1 (ys.take k)).2.2.2)
      have HB2 := Lib.hid (fun k (hk : k < ys.length) => show 1 ≤ (tat ys k).2.2 ∧ (tat ys k).2.2 ≤ 20 by rw [tat_eq hk]; exact (b2 _ (List.getElem_mem hk)).2.2)
      clear s1 s2 b1 b2
      obtain ⟨i0, hz1, hz2, hz3, hz4⟩ := info_parts ray_info
      go_enter Try.func28, Try.ntmps28
      go_wp2_with fail
      refine (stGood_any _ _ _ zs (by omega) _ h).mono ?_
      rw [h1]
      rintro e w1 ⟨rfl, hb1⟩
      go_wp2_with fail
      refine (stGood_any _ _ _ ys (by omega) _ (h'.ext hb1)).mono ?_
      rw [h2]
      rintro e w2 ⟨rfl, hb2⟩
      have hE2 := hb1.trans hb2
      clear hb1 hb2
      have hR := (h.ext hE2).alloc (.cells #[] 85)
      go_wp2_with (at_builtin; go_must (refine wpList_app_any _ rfl _ _ 47 rfl w.heap.size 85 i0 _ 3 24 Try.underlying47 hz1 hz2 hz3 hz4 rfl (by decide) _ 0 [] rfl (own_empty _ _ _ _ hE2.size) _ _ _ _ rfl hR (tv_one _) (by unfold maxLen; omega) (by omega) (by have := hE2.size; simp <;> omega) ?_))
      intro a3 c3 w3 hown3 hgr3 _
      have hE3 := Ext.grown (Ext.alloc hE2 _) hgr3 (fun k hk => by simp [Value.ownBlock] at hk; have := hE2.size; omega)

      clear hz1 hz2 hz3 hz4 hR hgr3
      have HO3 := Lib.hid hown3
      clear hown3
      go_wp2
      go_loopw [6, 22] (fun s t wr => ∃ (k : Nat) (a1 : Option Addr) (c1 : Nat), k ≤ ys.length ∧ t = .int .i64 k ∧ s = .slice a1 (putAll zs (ys.take k)).length c1 ∧ wr.ownsRow w.heap.size 85 3 (.slice a1 (putAll zs (ys.take k)).length c1) (putAll zs (ys.take k)).length (tv (putAll zs (ys.take k))) ∧ Ext w wr) (fun _ t _ => ys.length - (intOf t).toNat)
      case atStart => exact ⟨0, a3, c3, Nat.zero_le _, rfl, rfl, HO3.out, hE3⟩
      case round =>
        clear HO3 hE3 hE2
        obtain ⟨k, a1, c1, hk, rfl, rfl, hown, hE⟩ := hrel
        have hlp := HLP.out k
        have HBk := Lib.hid (HBP.out k hk)
        by_cases hlt : k < ys.length
        · obtain ⟨b, off, rfl, hp0, hp1, hp2⟩ := (Reads.ext hE h').tri hlt
          have HC := Lib.hid (show putAll zs (ys.take (k + 1)) = putT (putAll zs (ys.take k)) (tat ys k) by rw [List.take_succ_eq_append_getElem hlt, putAll_snoc, tat_eq hlt])
          have hbk := HB2.out k hlt
          generalize tat ys k = r at *
          obtain ⟨r1, r2, r3⟩ := r
          simp only at hp0 hp1 hp2 hbk
          have hlp2 : (putAll zs (ys.take k)).length ≤ 100 := by simp at hlp; omega
          have HP2 := Lib.hid (fun w hw => stPut_any a1 (putAll zs (ys.take k)).length c1 w (putAll zs (ys.take k)) r1 r2 r3 hlp2 (fun z hz => by have := HBk.out z hz; simp at this; omega) (by omega) hw)
          generalize putAll zs (ys.take k) = P at *
          have hown1 := own_ext (show Ext wr (wr.alloc (.cells #[.int .i64 r1, .int .i64 r2, .int .i64 r3] 85)) from (by repeat (first | exact Ext.refl _ | assumption | apply Ext.alloc | apply Ext.drew | apply Ext.drewN | (refine Ext.trans ?_ (by assumption)) | (refine Ext.setCell ?_ (by (try simp) <;> omega) _)))) hown
          clear hown hlp
          go_wp2_with fail
          refine (HP2.out _ _ hown1).mono ?_
          rintro e w4 ⟨a4, c4, rfl, hown4, hE4⟩
          have hEa := Ext.alloc hE (.cells #[.int .i64 r1, .int .i64 r2, .int .i64 r3] 85)
          go_wp2
          go_roundw
          case rel => exact ⟨k + 1, a4, c4, by omega, by go_num, by rw [HC.out], by rw [HC.out]; exact own_mono hEa.size hown4, hEa.trans hE4⟩
          case measure => simp [intOf]; omega
        · obtain rfl : k = ys.length := by omega
          rw [List.take_length] at hown ⊢
          generalize hPP : putAll zs ys = P at *
          have hlp2 : P.length ≤ 1000 := by rw [← hPP]; rw [List.take_length] at hlp; rw [hPP] at hlp; rw [hPP]; omega
          clear hPP HBk hlp
          cases h3 : starB P
          · go_wp2_with fail
            refine (stIf_any _ _ _ P (by omega) _ (own_reads hown)).mono ?_
            rw [h3]
            rintro e w5 ⟨rfl, hb5⟩
            go_wp2
            go_ret2
            rw [h3]
            exact ⟨none, 0, rfl, own_none _ _ _, hE.trans hb5⟩
          · go_wp2_with fail
            refine (stIf_any _ _ _ P (by omega) _ (own_reads hown)).mono ?_
            rw [h3]
            rintro e w5 ⟨rfl, hb5⟩
            go_wp2
            go_ret2
            rw [h3]
            exact ⟨a1, c1, rfl, own_ext hb5 hown, hE.trans hb5⟩

end Go.Proofs.Ytogbfhhioicbmaa
