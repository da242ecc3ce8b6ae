/-
  ScaleStar; how a triple is appended to a slice of the call's own.
-/
import Derived.Test.YtlkhjedlokklaaaSup
import Derived.Lib.SliceRun
namespace Go.Proofs.Ytlkhjedlokklaaa
open Go.RowKit

theorem tv_one : ∀ (zs : List (Int × Int × Int)) (u : Value), u ∈ tv zs → u.oneCell' = true
  | [], u, h => by simp [tv] at h
  | r :: rs, u, h => by
    simp only [tv, List.mem_cons] at h
    rcases h with rfl | rfl | rfl | h
    · rfl
    · rfl
    · rfl
    · exact tv_one rs u h
theorem tv_single (x y z : Int) : tv [(x, y, z)] = [.int .i64 x, .int .i64 y, .int .i64 z] := rfl

/-- 'append(out, zs...)', out nil or the call's own, the elements triples. -/
theorem wpList_appT {S E : TypeId} (hS : Try.prog.underlying S = some (.slice E)) (hinfo : (Try.prog.info? E).map (fun i => (i.zero, i.size, i.bytes)) = some (some (.agg #[.int .i64 0, .int .i64 0, .int .i64 0]), 3, 24))
    {w : World} {ops : Array Oper} {rest : List Oper} {o : Oper} {a : Act} {Q : Exit → Act → World → Prop} (hgd : o.guard = none) (s x : Operand)
    (ho : o.op = .call { callee := .builtin .append, args := #[s, x], argTypes := #[S, S] })
    (W : World) (base : Nat) (a0 : Option Addr) (n c : Nat) (xs : List (Int × Int × Int)) (hs : a.eval s = .slice a0 n c) (hown : w.ownsRow base E 3 (.slice a0 n c) n (tv xs))
    (ad : Addr) (m c' : Nat) (zs : List (Int × Int × Int)) (hx : a.eval x = .slice (some ad) m c') (hl : zs.length = m) (hr : ∀ j u, (tv zs)[j]? = some u → w.cell? (ad.add j) = some u)
    (hn : n ≤ 1048576) (hm : m ≤ 1048576) (hb : base ≤ w.heap.size) (hE : Ext W w) (hW : W.heap.size ≤ base)
    (h : ∀ a1 c1 w', w'.ownsRow base E 3 (.slice a1 (n + m) c1) (n + m) (tv (xs ++ zs)) → Ext W w' → wpList Try.prog ops Q rest (a.put o.dst (.slice a1 (n + m) c1)) w') :
    wpList Try.prog ops Q (o :: rest) a w := by
  obtain ⟨i0, hi, hz0, hz1, hz2⟩ := info_parts hinfo
  refine wpList_append_own w hgd s x S ho base E i0 (.agg #[.int .i64 0, .int .i64 0, .int .i64 0]) 3 24 hS hi hz0 hz1 hz2 rfl (by decide) _ n (tv xs) hs hown ad m c' (tv zs) hx (by rw [tv_len, hl]) hr (tv_one zs) ?_ ?_ hb ?_
  · unfold maxLen; omega
  · omega
  · intro v' w' h1 h2 _
    obtain ⟨a1, c1, rfl⟩ := own_form h1
    refine h a1 c1 w' ?_ (hE.grown h2 fun k hk => Nat.le_trans hW (hown.lt k hk).1)
    rw [tv_append]; exact h1

/-- A slice of triples of the call's own, and a truth. -/
def OwnsTriB (E : TypeId) (B : Nat) (zs : List (Int × Int × Int)) (ok : Bool) (w : World) (r : Ending) (w' : World) : Prop :=
  ∃ a c, r = .returned (.tuple #[.slice a zs.length c, .bool ok]) ∧ w'.ownsRow B E 3 (.slice a zs.length c) zs.length (tv zs) ∧ Ext w w'
def gT (t : Bool) (l : List (Int × Int × Int)) : List (Int × Int × Int) := if t then l else []
theorem own_none (w : World) (B : Nat) (E : TypeId) : w.ownsRow B E 3 (.slice none 0 0) 0 (tv []) := ⟨rfl, .inl ⟨rfl, rfl⟩⟩

/-- A ray with its number times k. -/
def sc (k : Int) (r : Int × Int × Int) : Int × Int × Int := (r.1, r.2.1, r.2.2 * k)
def scTo (k : Int) (zs : List (Int × Int × Int)) (j : Nat) : List (Int × Int × Int) := (zs.take j).map (sc k) ++ zs.drop j
theorem scTo_len (k : Int) (zs : List (Int × Int × Int)) (j : Nat) : (scTo k zs j).length = zs.length := by simp [scTo]; omega
theorem scTo_at {k : Int} {zs : List (Int × Int × Int)} {j : Nat} (h : j < zs.length) : tat (scTo k zs j) j = tat zs j := by
  simp [tat, scTo, List.getD, List.getElem?_append_right, h, Nat.min_eq_left (Nat.le_of_lt h)]
theorem scTo_zero (k : Int) (zs : List (Int × Int × Int)) : scTo k zs 0 = zs := by simp [scTo]
theorem scTo_all (k : Int) (zs : List (Int × Int × Int)) : scTo k zs zs.length = zs.map (sc k) := by simp [scTo]
theorem scTo_step {k : Int} {zs : List (Int × Int × Int)} {j : Nat} (h : j < zs.length) : (scTo k zs j).set j (sc k (tat zs j)) = scTo k zs (j + 1) := by
  have e : ((zs.take j).map (sc k)).length = j := by simp; omega
  have e2 : tat zs j = zs[j] := by simp [tat, List.getD, h]
  unfold scTo
  rw [List.set_append_right _ _ (by omega), e, Nat.sub_self, List.drop_eq_getElem_cons h, List.set_cons_zero, List.take_succ_eq_append_getElem h, List.map_append, List.append_assoc, e2]
  rfl
theorem take_sc {k : Int} {zs : List (Int × Int × Int)} {j : Nat} (h : j < zs.length) : (zs.take (j + 1)).map (sc k) = (zs.take j).map (sc k) ++ [sc k (tat zs j)] := by
  have e2 : tat zs j = zs[j] := by simp [tat, List.getD, h]
  rw [List.take_succ_eq_append_getElem h, List.map_append, e2]
  rfl
theorem tv_set_n : ∀ (l : List (Int × Int × Int)) (j : Nat) (c : Int), j < l.length → (tv l).set (j * 3 + 2) (.int .i64 c) = tv (l.set j ((tat l j).1, (tat l j).2.1, c))
  | [], _, _, h => by simp at h
  | r :: rs, 0, _, _ => rfl
  | r :: rs, j + 1, c, h => by
    have ih := tv_set_n rs j c (by simpa using h)
    have e : (j + 1) * 3 + 2 = j * 3 + 2 + 1 + 1 + 1 := by omega
    have e2 : tat (r :: rs) (j + 1) = tat rs j := by simp [tat, List.getD]
    rw [e, e2]
    simp only [tv, List.set_cons_succ]
    exact congrArg _ (congrArg _ (congrArg _ ih))

theorem stIf_any (a : Option Addr) (n c : Nat) (zs : List (Int × Int × Int)) (hn : n ≤ 1073741824) (w : World) (h : Reads w a 3 n (tv zs)) :
    Calls Try.prog 70 #[.slice a n c] w fun r w' => r = .returned (.tuple #[if starB zs then .slice a n c else .slice none 0 0, .bool (starB zs)]) ∧ Ext w w' := by
  cases hb : starB zs <;> (
    go_enter Try.func70, Try.ntmps70
    go_wp2_with fail
    refine (stGood_any _ _ _ zs hn _ h).mono ?_
    rw [hb]
    rintro e w1 ⟨rfl, hb1⟩
    go_wp2
    go_ret2
    exact ⟨rfl, hb1⟩)

theorem toldStar_any (a : Option Addr) (n c : Nat) (zs : List (Int × Int × Int)) (hn : n ≤ 1073741824) (w : World) (h : Reads w a 3 n (tv zs)) :
    Calls Try.prog 73 #[.slice a n c] w fun r w' => r = .returned (.tuple #[if starB zs then .slice a n c else .slice none 0 0, .bool (starB zs)]) ∧ Ext w w' := by
  cases hb : starB zs <;> (
    go_enter Try.func73, Try.ntmps73
    go_wp2_with fail
    refine (isStar_any _ _ _ zs hn _ h).mono ?_
    rw [hb]
    rintro e w1 ⟨rfl, hb1⟩
    go_wp2
    go_ret2
    exact ⟨rfl, hb1⟩)

theorem clone_any (b n c : Nat) (zs : List (Int × Int × Int)) (hn : n ≤ 1048576) (w : World) (h : Reads w (some ⟨b, 0, none⟩) 3 n (tv zs)) :
    Calls Try.prog 72 #[.slice (some ⟨b, 0, none⟩) n c] w fun r w' => ∃ a1 c1, r = .returned (.slice a1 n c1) ∧ w'.ownsRow w.heap.size 34 3 (.slice a1 n c1) n (tv zs) ∧ Ext w w' := by
  have hl : zs.length = n := by have := h.1; rw [tv_len] at this; omega
  have hcell : ∀ j u, (tv zs)[j]? = some u → w.cell? ⟨b, 0 + j, none⟩ = some u := fun j u hj => by
    have hp : 0 < n := by
      rcases Nat.eq_zero_or_pos n with h0 | h0
      · rw [h0] at hl
        rw [List.eq_nil_of_length_eq_zero hl] at hj
        simp [tv] at hj
      · exact h0
    obtain ⟨b', off, e, hc⟩ := h.2 hp
    simp only [Option.some.injEq, Addr.mk.injEq, and_true] at e
    obtain ⟨rfl, rfl⟩ := e
    exact hc j u hj
  have HC := Lib.hid hcell
  have q : ∀ (w : World) (a : Option Addr) (n c n' c' : Nat), (binOp .eql 25 (.slice a n c) (.slice none n' c')).run Try.prog w = .ok (.bool a.isNone) w := fun w a n c n' c' => Lib.run_eql_slice_nil w _ _ a n c n' c' Try.underlying25
  clear hcell h
  go_enter Try.func72, Try.ntmps72
  have H0 := Lib.hid (World.ownsRow_lit (base := w.heap.size) (e := 34) (size := 3) w #[] 0 (Nat.le_refl _) (by unfold maxLen; omega) rfl)
  go_wp2_with (at_builtin; refine wpList_appT Try.underlying25 ray_info rfl _ _ rfl w w.heap.size (some ⟨w.heap.size, 0, none⟩) 0 0 [] rfl H0.out ⟨b, 0, none⟩ n c zs rfl hl ?_ (by omega) hn ?_ ?_ (Nat.le_refl _) ?_)
  · intro j u hj
    have := Ext.keep ((Ext.refl w).alloc (.cells #[] 34)) (HC.out j u hj)
    simpa [Addr.add] using this
  · exact (Ext.refl _).alloc _
  · intro a1 c1 w2 ho2 hE2
    go_wp2
    go_ret
    exact ⟨a1, c1, rfl, ho2, hE2⟩

set_option maxHeartbeats 1000000 in
theorem spec_ScaleStar_any (a : Option Addr) (n c : Nat) (zs : List (Int × Int × Int)) (k : Int) (hn : n ≤ 1073741824) (w : World) (h : Reads w a 3 n (tv zs)) :
    Calls Try.prog 29 #[.slice a n c, .int .i64 k] w (OwnsTriB 34 w.heap.size (gT (starB zs && inB k 1 20 && starB (zs.map (sc k))) (zs.map (sc k))) (starB zs && inB k 1 20 && starB (zs.map (sc k))) w) := by
  have hl : zs.length = n := by have := h.1; rw [tv_len] at this; omega
  obtain ⟨ok, hok⟩ : ∃ ok, ok = (starB zs && inB k 1 20 && starB (zs.map (sc k))) := ⟨_, rfl⟩
  rw [← hok]
  rcases small_of (zs := zs) with hs1 | ⟨hs1, hs⟩
  · have hof : ok = false := by rw [hok, hs1]; rfl
    clear hok
    subst hof
    go_enter Try.func29, Try.ntmps29
    go_wp2_with fail
    refine (stGood_any _ _ _ zs hn _ h).mono ?_
    rw [hs1]
    rintro e w1 ⟨rfl, hb1⟩
    go_wp2
    go_ret2
    exact ⟨none, 0, rfl, own_none _ _ _, hb1⟩
  · cases hk : inB k 1 20
    · have hof : ok = false := by rw [hok, hk]; simp
      clear hok
      subst hof
      go_enter Try.func29, Try.ntmps29
      go_wp2_with fail
      refine (stGood_any _ _ _ zs hn _ h).mono ?_
      rw [hs1]
      rintro e w1 ⟨rfl, hb1⟩
      go_wp2_with fail
      refine (l1In_any _ _ _ _).mono ?_
      rw [hk]
      rintro e _ ⟨rfl, rfl⟩
      go_wp2
      go_ret2
      exact ⟨none, 0, rfl, own_none _ _ _, hb1⟩
    · have hkb := inB_true.1 hk
      have hn10 := hs.1
      have HF := Lib.hid (fun e : starB (zs.map (sc k)) = false => show ok = false by rw [hok, e]; simp)
      have HT := Lib.hid (fun e : starB (zs.map (sc k)) = true => show ok = true by rw [hok, e, hs1, hk]; rfl)
      clear hok
      go_enter Try.func29, Try.ntmps29
      go_wp2_with fail
      refine (stGood_any _ _ _ zs hn _ h).mono ?_
      rw [hs1]
      rintro e w1 ⟨rfl, hb1⟩
      go_wp2_with fail
      refine (l1In_any _ _ _ _).mono ?_
      rw [hk]
      rintro e _ ⟨rfl, rfl⟩
      go_wp2
      go_loopw [6, 19] (fun s t wr => ∃ (j : Nat) (a1 : Option Addr) (c1 : Nat), j ≤ n ∧ t = .int .i64 j ∧ s = .slice a1 j c1 ∧ wr.ownsRow w.heap.size 34 3 (.slice a1 j c1) j (tv ((zs.take j).map (sc k))) ∧ Ext w wr) (fun _ t _ => n - (intOf t).toNat)
      case atStart => exact ⟨0, none, 0, Nat.zero_le _, rfl, rfl, own_none _ _ _, hb1⟩
      case round =>
        obtain ⟨j, a1, c1, hj, rfl, rfl, hown, hbr⟩ := hrel
        by_cases hlt : j < n
        · obtain ⟨b, off, rfl, hp0, hp1, hp2⟩ := (Reads.ext hbr h).tri hlt
          have HX := Lib.hid (take_sc (k := k) (zs := zs) (j := j) (by omega))
          have hbk := hs.2 j (by omega)
          have P1 := mul_bd (A := 20) (D := 20) (by omega : -20 ≤ (tat zs j).2.2) hbk.2.2.2 (by omega : -20 ≤ k) hkb.2
          have hsc : sc k (tat zs j) = ((tat zs j).1, (tat zs j).2.1, (tat zs j).2.2 * k) := rfl
          rw [hsc] at HX
          generalize (tat zs j).1 = x at *
          generalize (tat zs j).2.1 = y at *
          generalize (tat zs j).2.2 = z at *
          clear h hs hsc HF HT hs1 hk
          have hsz := hbr.size
          generalize (zs.take j).map (sc k) = xs at *
          go_wp2_with (at_builtin; refine wpList_appT Try.underlying25 ray_info rfl _ _ rfl w w.heap.size _ _ _ xs rfl ?_ ⟨wr.heap.size + 1, 0, none⟩ 1 1 [(x, y, z * k)] ?_ rfl ?_ (by omega) (by omega) ?_ ?_ (Nat.le_refl _) ?_)
          · exact own_ext (by repeat (first | exact Ext.refl _ | assumption | apply Ext.alloc | apply Ext.drew | apply Ext.drewN | (refine Ext.trans ?_ (by assumption)) | (refine Ext.setCell ?_ (by simp; done) _) | (refine Ext.setCell ?_ (by simp; omega) _))) hown
          · rfl
          · intro q u hq
            match q, hq with
            | 0, hq => obtain rfl : Value.int .i64 x = u := by simpa [tv] using hq
                       simp [Addr.add]
            | 1, hq => obtain rfl : Value.int .i64 y = u := by simpa [tv] using hq
                       simp [Addr.add]
            | 2, hq => obtain rfl : Value.int .i64 (z * k) = u := by simpa [tv] using hq
                       simp [Addr.add]
            | q + 3, hq => simp [tv] at hq
          · simp; omega
          · exact hbr.trans (by repeat (first | exact Ext.refl _ | assumption | apply Ext.alloc | apply Ext.drew | apply Ext.drewN | (refine Ext.trans ?_ (by assumption)) | (refine Ext.setCell ?_ (by simp; done) _) | (refine Ext.setCell ?_ (by simp; omega) _)))
          · intro a2 c2 w2 ho2 hE2
            clear hown
            go_wp2
            go_roundw
            case rel => exact ⟨j + 1, a2, c2, by omega, by go_num, rfl, by rw [HX.out]; exact ho2, hE2⟩
            case measure => simp [intOf]; omega
        · obtain rfl : n = j := by omega
          have e : zs.take n = zs := List.take_of_length_le (by omega)
          rw [e] at hown
          cases hst : starB (zs.map (sc k))
          · go_wp2_with fail
            refine (stIf_any _ _ _ (zs.map (sc k)) (by omega) _ (own_reads hown)).mono ?_
            rw [hst]
            rintro e w9 ⟨rfl, hb9⟩
            obtain rfl := HF.out hst
            clear HF HT
            go_wp2
            go_ret2
            exact ⟨none, 0, rfl, own_none _ _ _, hbr.trans hb9⟩
          · go_wp2_with fail
            refine (stIf_any _ _ _ (zs.map (sc k)) (by omega) _ (own_reads hown)).mono ?_
            rw [hst]
            rintro e w9 ⟨rfl, hb9⟩
            obtain rfl := HT.out hst
            have hlm : (zs.map (sc k)).length = n := by simp [hl]
            clear HF HT
            go_wp2
            go_ret2
            exact ⟨_, _, by simp only [gT, if_true, hlm]; rfl, by simp only [gT, if_true, hlm]; exact own_ext hb9 hown, hbr.trans hb9⟩

set_option maxHeartbeats 1000000 in
theorem impl_ScaleStar_any (b n c : Nat) (zs : List (Int × Int × Int)) (k : Int) (hn : n ≤ 1048576) (w : World) (h : Reads w (some ⟨b, 0, none⟩) 3 n (tv zs)) :
    Calls Try.prog 30 #[.slice (some ⟨b, 0, none⟩) n c, .int .i64 k] w (OwnsTriB 34 w.heap.size (gT (starB zs && inB k 1 20 && starB (zs.map (sc k))) (zs.map (sc k))) (starB zs && inB k 1 20 && starB (zs.map (sc k))) w) := by
  have hl : zs.length = n := by have := h.1; rw [tv_len] at this; omega
  obtain ⟨ok, hok⟩ : ∃ ok, ok = (starB zs && inB k 1 20 && starB (zs.map (sc k))) := ⟨_, rfl⟩
  rw [← hok]
  rcases small_of (zs := zs) with hs1 | ⟨hs1, hs⟩
  · have hof : ok = false := by rw [hok, hs1]; rfl
    clear hok
    subst hof
    go_enter Try.func30, Try.ntmps30
    go_wp2_with fail
    refine (isStar_any _ _ _ zs (by omega) _ h).mono ?_
    rw [hs1]
    rintro e w1 ⟨rfl, hb1⟩
    go_wp2
    go_ret2
    exact ⟨none, 0, rfl, own_none _ _ _, hb1⟩
  · cases hk : inB k 1 20
    · have hof : ok = false := by rw [hok, hk]; simp
      clear hok
      subst hof
      go_enter Try.func30, Try.ntmps30
      go_wp2_with fail
      refine (isStar_any _ _ _ zs (by omega) _ h).mono ?_
      rw [hs1]
      rintro e w1 ⟨rfl, hb1⟩
      go_wp2_with fail
      refine (within_any _ _ _ _).mono ?_
      rw [hk]
      rintro e _ ⟨rfl, rfl⟩
      go_wp2
      go_ret2
      exact ⟨none, 0, rfl, own_none _ _ _, hb1⟩
    · have hkb := inB_true.1 hk
      have hn10 := hs.1
      have HF := Lib.hid (fun e : starB (zs.map (sc k)) = false => show ok = false by rw [hok, e]; simp)
      have HT := Lib.hid (fun e : starB (zs.map (sc k)) = true => show ok = true by rw [hok, e, hs1, hk]; rfl)
      clear hok
      go_enter Try.func30, Try.ntmps30
      go_wp2_with fail
      refine (isStar_any _ _ _ zs (by omega) _ h).mono ?_
      rw [hs1]
      rintro e w1 ⟨rfl, hb1⟩
      go_wp2_with fail
      refine (within_any _ _ _ _).mono ?_
      rw [hk]
      rintro e _ ⟨rfl, rfl⟩
      go_wp2_with fail
      refine (clone_any _ _ _ zs hn _ (h.ext hb1)).mono ?_
      rintro e w2 ⟨a1, c1, rfl, hown0, hb2⟩
      replace hown0 := own_mono hb1.size hown0
      have hb0 := hb1.trans hb2
      go_wp2
      go_loopw [20] (fun t wr => ∃ (j : Nat), j ≤ n ∧ t = .int .i64 j ∧ wr.ownsRow w.heap.size 34 3 (.slice a1 n c1) n (tv (scTo k zs j)) ∧ Ext w wr) (fun t _ => n - (intOf t).toNat)
      case atStart => exact ⟨0, Nat.zero_le _, rfl, by rw [scTo_zero]; exact hown0, hb0⟩
      case round =>
        clear hown0 hb0
        obtain ⟨j, hj, rfl, hown, hbr⟩ := hrel
        by_cases hlt : j < n
        · obtain ⟨g, rfl, hg1, hg2⟩ := own_head hown (by omega)
          have hln : (scTo k zs j).length = n := by rw [scTo_len]; exact hl
          have hc := (tv_at (zs := scTo k zs j) (k := j) (by omega)).2.2
          rw [scTo_at (by omega)] at hc
          have hc2 := hown.cellAt (j * 3 + 2) (by omega)
          rw [hc] at hc2
          have f2 := hown.frozenAt (j * 3 + 2)
          have HS := Lib.hid (hown.stored (j * 3 + 2) (.int .i64 ((tat zs j).2.2 * k)))
          have HX := Lib.hid (tv_set_n (scTo k zs j) j ((tat zs j).2.2 * k) (by omega))
          have HY := Lib.hid (scTo_step (k := k) (zs := zs) (j := j) (by omega))
          have HA := Lib.hid (scTo_at (k := k) (zs := zs) (j := j) (by omega))
          have hbk := hs.2 j (by omega)
          have P1 := mul_bd (A := 20) (D := 20) (by omega : -20 ≤ (tat zs j).2.2) hbk.2.2.2 (by omega : -20 ≤ k) hkb.2
          have HN : Hid ((wr.setCell ⟨g, j * 3 + 2, none⟩ (.int .i64 ((tat zs j).2.2 * k))).ownsRow w.heap.size 34 3 (.slice (some ⟨g, 0, none⟩) n c1) n (tv (scTo k zs (j + 1)))) := by
            have h1 := HS.out.1
            rw [HX.out, HA.out] at h1
            rw [← HY.out]
            exact h1
          clear hc HX HY HA HS hown HF HT h hs
          generalize (tat zs j).2.2 = z at *
          go_wp2
          go_roundw
          case rel => exact ⟨j + 1, by omega, by go_num, HN.out, hbr.setCell hg1 _⟩
          case measure => simp [intOf]; omega
        · obtain rfl : n = j := by omega
          rw [← hl, scTo_all, hl] at hown
          cases hst : starB (zs.map (sc k))
          · go_wp2_with fail
            refine (toldStar_any _ _ _ (zs.map (sc k)) (by omega) _ (own_reads hown)).mono ?_
            rw [hst]
            rintro e w9 ⟨rfl, hb9⟩
            obtain rfl := HF.out hst
            clear HF HT
            go_wp2
            go_ret2
            exact ⟨none, 0, rfl, own_none _ _ _, hbr.trans hb9⟩
          · go_wp2_with fail
            refine (toldStar_any _ _ _ (zs.map (sc k)) (by omega) _ (own_reads hown)).mono ?_
            rw [hst]
            rintro e w9 ⟨rfl, hb9⟩
            obtain rfl := HT.out hst
            have hlm : (zs.map (sc k)).length = n := by simp [hl]
            clear HF HT
            go_wp2
            go_ret2
            exact ⟨_, _, by simp only [gT, if_true, hlm]; rfl, by simp only [gT, if_true, hlm]; exact own_ext hb9 hown, hbr.trans hb9⟩

theorem own_apart {w w' : World} {B : Nat} {E : TypeId} {size : Nat} {v : Value} {n : Nat} {xs : List Value} {row : Option Nat} (k : w.ownsRow B E size v n xs) (hg : w.grownBy w' row) (h : ∀ q, v.ownBlock = some q → row ≠ some q) : w'.ownsRow B E size v n xs := by
  refine k.kept hg ?_
  cases hv : v.ownBlock with
  | none => exact .inl rfl
  | some q => exact .inr fun e => h q hv e.symm
theorem gT_le {t : Bool} {l : List (Int × Int × Int)} {k : Nat} (h : l.length ≤ k) : (gT t l).length ≤ k := by unfold gT; split <;> simp [h]

set_option maxHeartbeats 2000000 in
theorem law_ScaleStar (a : Option Addr) (n c : Nat) (zs : List (Int × Int × Int)) (k : Int) (w : World) (hr : IsTri w a n c zs) :
    Calls Try.prog 8 #[.slice a n c, .int .i64 k] w fun r w' => r = .returned (.bool true) ∧ Ext w w' := by
  have h := hr.1
  have hc1 := hr.2.1
  have hc2 := hr.2.2.1
  unfold maxLen at hc2
  clear hr
  by_cases hn : n ≤ 1048576
  rotate_left
  · go_enter Try.func8, Try.ntmps8
    go_wp2_with fail
    refine (szRayS_no _ _ _ _ (by omega) (by omega) (by omega) (by omega) _).mono ?_
    rintro e _ ⟨rfl, rfl⟩
    go_wp2
    go_ret
    exact ⟨rfl, Ext.refl _⟩
  · have hl : zs.length = n := by have := h.1; rw [tv_len] at this; omega
    obtain ⟨L, hL⟩ : ∃ L, L = gT (starB zs && inB k 1 20 && starB (zs.map (sc k))) (zs.map (sc k)) := ⟨_, rfl⟩
    obtain ⟨ok, hok⟩ : ∃ ok, ok = (starB zs && inB k 1 20 && starB (zs.map (sc k))) := ⟨_, rfl⟩
    have hlen : L.length ≤ 1048576 := by rw [hL]; exact gT_le (by simp; omega)
    have HS := Lib.hid (show ∀ (b : Nat) w, Reads w (some ⟨b, 0, none⟩) 3 n (tv zs) → Calls Try.prog 29 #[.slice (some ⟨b, 0, none⟩) n n, .int .i64 k] w (OwnsTriB 34 w.heap.size L ok w) by rw [hL, hok]; intro b w h; exact spec_ScaleStar_any _ _ _ zs k (by omega) _ h)
    have HI := Lib.hid (show ∀ (b : Nat) w, Reads w (some ⟨b, 0, none⟩) 3 n (tv zs) → Calls Try.prog 30 #[.slice (some ⟨b, 0, none⟩) n n, .int .i64 k] w (OwnsTriB 34 w.heap.size L ok w) by rw [hL, hok]; intro b w h; exact impl_ScaleStar_any _ _ _ zs k hn _ h)
    clear hL hok
    go_enter Try.func8, Try.ntmps8
    go_wp2_with fail
    refine (szRayS_yes _ _ _ _ (by omega) (by omega) _).mono ?_
    rintro e _ ⟨rfl, rfl⟩
    go_wp2_with fail
    refine (toRayS_any _ _ _ zs hn _ h).mono ?_
    rintro e w1 ⟨g1, rfl, ho1, hE⟩
    go_wp2_with fail
    refine (HS.out _ _ (own_reads ho1)).mono ?_
    rintro e w2 ⟨sa, sc, rfl, hs, hb⟩
    replace hE := Ext.trans hE hb
    have hs0 := hs
    have hz2 := hE.size
    go_wp2_with fail
    refine (toRayS_any _ _ _ zs hn _ (h.ext hE)).mono ?_
    rintro e w3 ⟨g2, rfl, ho2, hb⟩
    replace hE := Ext.trans hE hb
    replace hs := own_ext hb hs
    have hz3 := hb.size
    have ho20 := ho2
    go_wp2_with fail
    refine (HI.out _ _ (own_reads ho2)).mono ?_
    rintro e w4 ⟨ga, gc, rfl, hg, hb⟩
    have hg0 := hg
    replace hE := Ext.trans hE hb
    replace hs := own_ext hb hs
    replace ho2 := own_ext hb ho2
    go_wp2_with fail
    refine (eqRayS_same _ _ _ _ _ L (by omega) _ (own_reads hg) (own_reads hs)).mono ?_
    rintro e w5 ⟨rfl, hb⟩
    replace hE := Ext.trans hE hb
    replace hs := own_ext hb hs
    replace ho2 := own_ext hb ho2
    replace hg := own_ext hb hg
    go_wp2_with fail
    refine (toRayS_any _ _ _ zs hn _ (h.ext hE)).mono ?_
    rintro e w6 ⟨g3, rfl, ho3, hb⟩
    replace hE := Ext.trans hE hb
    replace hs := own_ext hb hs
    replace ho2 := own_ext hb ho2
    replace hg := own_ext hb hg
    go_wp2_with fail
    refine (eqRayS_same _ _ _ _ _ zs (by omega) _ (own_reads ho2) (own_reads ho3)).mono ?_
    rintro e w7 ⟨rfl, hb⟩
    replace hE := Ext.trans hE hb
    replace hs := own_ext hb hs
    replace ho2 := own_ext hb ho2
    replace hg := own_ext hb hg
    go_wp2_with fail
    refine (markRayS_any _ _ _ _ zs _ (by omega) (by omega) (by omega) _ ho2).mono ?_
    rintro e w8 ⟨rfl, hm, hgr⟩
    replace hE := Ext.grown hE hgr (fun k hk => Nat.le_trans hz2 (ho20.lt k hk).1)
    replace hs := own_apart hs hgr (fun q hq e => absurd (hs0.lt q hq).2 (Nat.not_lt_of_le (ho20.lt q e).1))
    replace hg := own_apart hg hgr (fun q hq e => absurd (ho20.lt q e).2 (Nat.not_lt_of_le (hg0.lt q hq).1))
    clear hm hgr ho2
    go_wp2_with fail
    refine (eqRayS_same _ _ _ _ _ L (by omega) _ (own_reads hg) (own_reads hs)).mono ?_
    rintro e w9 ⟨rfl, hb⟩
    replace hE := Ext.trans hE hb
    replace hs := own_ext hb hs
    replace hg := own_ext hb hg
    go_wp2_with fail
    refine (markRayS_any _ _ _ _ L _ (by omega) (by omega) (by omega) _ hg).mono ?_
    rintro e w10 ⟨rfl, hm, hgr⟩
    replace hE := Ext.grown hE hgr (fun k hk => Nat.le_trans hz2 (Nat.le_trans hz3 (hg0.lt k hk).1))
    replace hs := own_apart hs hgr (fun q hq e => absurd (Nat.lt_of_lt_of_le (hs0.lt q hq).2 hz3) (Nat.not_lt_of_le (hg0.lt q e).1))
    clear hgr hg
    go_wp2_with fail
    refine (heldRayS_any _ _ _ _ (by omega) (by omega) (by omega) _ (own_reads hm)).mono ?_
    rintro e _ ⟨rfl, rfl⟩
    go_wp2_with fail
    refine (toRayS_any _ _ _ zs hn _ (h.ext hE)).mono ?_
    rintro e w11 ⟨g4, rfl, ho4, hb⟩
    replace hE := Ext.trans hE hb
    replace hs := own_ext hb hs
    replace hm := own_ext hb hm
    go_wp2_with fail
    refine (HI.out _ _ (own_reads ho4)).mono ?_
    rintro e w12 ⟨ha, hc, rfl, hh, hb⟩
    replace hE := Ext.trans hE hb
    replace hs := own_ext hb hs
    replace hm := own_ext hb hm
    go_wp2_with fail
    refine (eqRayS_same _ _ _ _ _ L (by omega) _ (own_reads hh) (own_reads hs)).mono ?_
    rintro e w13 ⟨rfl, hb⟩
    replace hE := Ext.trans hE hb
    replace hm := own_ext hb hm
    go_wp2_with fail
    refine (heldRayS_any _ _ _ _ (by omega) (by omega) (by omega) _ (own_reads hm)).mono ?_
    rintro e _ ⟨rfl, rfl⟩
    go_wp2
    go_ret
    exact ⟨rfl, hE⟩

end Go.Proofs.Ytlkhjedlokklaaa
