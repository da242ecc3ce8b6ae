/-
  SegmentsOf: both sides, the law's walk.
-/
import Derived.Test.YtngbdopgdcjdeaaGreatCuN
import Derived.Test.YtngbdopgdcjdeaaGreatSubW
import Derived.BigQuiet
namespace Go.Proofs.YtngbdopgdcjdeaaGreat
open Go.RowKit

theorem OwnL.apartL {w w' : World} {B : Nat} {s : Value} {ps : List (Value × List Int)} {row : Option Nat} (h : OwnL w B s ps) (hg : w.grownBy w' row) (hs : ∀ q, s.ownBlock = some q → row ≠ some q) (hp : ∀ p ∈ ps, ∀ q, p.1.ownBlock = some q → row ≠ some q) : OwnL w' B s ps := by
  obtain ⟨h1, h2, h3⟩ := h
  refine ⟨own_apartQ h1 hg hs, fun p hpp => ?_, h3⟩
  obtain ⟨k1, k2, k3⟩ := h2 p hpp
  exact ⟨k1, own_apartQ k2 hg (hp p hpp), k3⟩
/-- A slice of rows (s2; its rows from some place on: rs) that are taken one by one and put, with more in them, into another one (o, ts). -/
structure SegI (w : World) (B C : Nat) (s2 : Value) (all : List Value) (rs : List (Value × List Int)) (o : Value) (ts : List (Value × List Int)) : Prop where
  outer : w.ownsRow C 56 1 s2 all.length all
  rows : ∀ p ∈ rs, (∃ q, p.1.ownBlock = some q) ∧ w.ownsRow C 3 1 p.1 p.2.length (iv p.2) ∧ p.1.ownBlock ≠ s2.ownBlock
  apart : rs.Pairwise (fun p q => p.1.ownBlock ≠ q.1.ownBlock)
  own : OwnL w B o ts
  dis : ∀ p ∈ rs, p.1.ownBlock ≠ o.ownBlock ∧ ∀ t ∈ ts, p.1.ownBlock ≠ t.1.ownBlock
  dis2 : s2.ownBlock ≠ o.ownBlock ∧ ∀ t ∈ ts, s2.ownBlock ≠ t.1.ownBlock
theorem SegI.ext {w w' : World} {B C : Nat} {s2 : Value} {all : List Value} {rs : List (Value × List Int)} {o : Value} {ts : List (Value × List Int)} (h : SegI w B C s2 all rs o ts) (e : Ext w w') : SegI w' B C s2 all rs o ts :=
  ⟨own_ext e h.outer, fun p hp => ⟨(h.rows p hp).1, own_ext e (h.rows p hp).2.1, (h.rows p hp).2.2⟩, h.apart, h.own.ext e, h.dis, h.dis2⟩
theorem SegI.step {w w3 w6 w7 w9 : World} {B C : Nat} {s2 : Value} {all : List Value} {p : Value × List Int} {rs : List (Value × List Int)} {o o9 : Value} {ts : List (Value × List Int)} (h : SegI w B C s2 all (p :: rs) o ts) (hBC : B ≤ C) (e3 : Ext w w3) (g6 : w3.grownBy w6 p.1.ownBlock)
    {v6 : Value} {x6 : List Int} {q : Nat} (own6 : w6.ownsRow C 3 1 v6 x6.length (iv x6)) (hq : v6.ownBlock = some q) (l6 : v6.ownBlock = p.1.ownBlock ∨ v6.ownBlock = some w3.heap.size)
    (e7 : Ext w6 w7) (g9 : w7.grownBy w9 o.ownBlock) (own9 : w9.ownsRow B 56 1 o9 (ts.length + 1) (ts.map (·.1) ++ [v6])) (l9 : o9.ownBlock = o.ownBlock ∨ ∃ t, o9.ownBlock = some t ∧ w7.heap.size ≤ t) : SegI w9 B C s2 all rs o9 (ts ++ [(v6, x6)]) := by
  obtain ⟨⟨qp, hqp⟩, hop, hps⟩ := h.rows p (by simp)
  have hd := h.dis p (by simp)
  have hap := List.pairwise_cons.1 h.apart
  have z3 := e3.size
  have z6 := g6.size
  have z7 := e7.size
  have o3 := h.own.ext e3
  have o6 : OwnL w6 B o ts := o3.apartL g6 (fun u hu e => hd.1 (by rw [e, hu])) (fun t ht u hu e => hd.2 t ht (by rw [e, hu]))
  have fresh : ∀ {v : Value} {u : Nat}, v.ownBlock = some u → u < w.heap.size → v6.ownBlock ≠ p.1.ownBlock → v.ownBlock ≠ v6.ownBlock := by
    intro v u hv hu hne e
    rcases l6 with l | l
    · exact hne l
    · rw [hv, l] at e
      cases e
      omega
  have q6 : ∀ {v : Value} {u : Nat}, v.ownBlock = some u → u < w.heap.size → p.1.ownBlock ≠ v.ownBlock → v.ownBlock ≠ some q := by
    intro v u hv hu hne e
    rcases l6 with l | l
    · exact hne (by rw [← l, hq, e])
    · rw [hq] at l
      cases l
      rw [hv] at e
      cases e
      omega
  have q6n : ∀ {v : Value}, v.ownBlock = none → v.ownBlock ≠ some q := fun hv e => by rw [hv] at e; cases e
  have lto : ∀ u, o.ownBlock = some u → u < w.heap.size := fun u hu => (h.own.1.lt u hu).2
  have ltt : ∀ t ∈ ts, ∀ u, t.1.ownBlock = some u → u < w.heap.size := fun t ht u hu => ((h.own.2.1 t ht).2.1.lt u hu).2
  have ltr : ∀ r ∈ rs, ∀ u, r.1.ownBlock = some u → u < w.heap.size := fun r hr u hu => ((h.rows r (by simp [hr])).2.1.lt u hu).2
  have lts : ∀ u, s2.ownBlock = some u → u < w.heap.size := fun u hu => (h.outer.lt u hu).2
  refine ⟨?_, fun r hr => ?_, hap.2, ?_, fun r hr => ?_, ?_⟩
  · exact own_apartQ (own_ext e7 (own_apartQ (own_ext e3 h.outer) g6 fun u hu e => hps (by rw [e, hu]))) g9 fun u hu e => h.dis2.1 (by rw [e, hu])
  · obtain ⟨k1, k2, k3⟩ := h.rows r (by simp [hr])
    exact ⟨k1, own_apartQ (own_ext e7 (own_apartQ (own_ext e3 k2) g6 fun u hu e => hap.1 r hr (by rw [e, hu]))) g9 fun u hu e => (h.dis r (by simp [hr])).1 (by rw [e, hu]), k3⟩
  · refine (o6.ext e7).push (own_ext e7 (own_mono hBC own6)) hq ?_ ?_ g9 own9 l9
    · cases ho : o.ownBlock with
      | none => simp
      | some u => exact fun e => q6 ho (lto u ho) hd.1 (by rw [ho]; exact e)
    · intro t ht
      obtain ⟨u, hu⟩ := (h.own.2.1 t ht).1
      exact q6 hu (ltt t ht u hu) (hd.2 t ht)
  · obtain ⟨u, hu⟩ := (h.rows r (by simp [hr])).1
    have hr1 := h.dis r (by simp [hr])
    refine ⟨?_, fun t ht => ?_⟩
    · rcases l9 with l | ⟨t, l, hl⟩
      · rw [l]; exact hr1.1
      · rw [l, hu]
        intro e
        cases e
        have := ltr r hr u hu
        omega
    · rcases List.mem_append.1 ht with ht | ht
      · exact hr1.2 t ht
      · simp only [List.mem_singleton] at ht
        subst ht
        rw [hq]
        exact q6 hu (ltr r hr u hu) (hap.1 r hr)
  · refine ⟨?_, fun t ht => ?_⟩
    · rcases l9 with l | ⟨t, l, hl⟩
      · rw [l]; exact h.dis2.1
      · rw [l]
        intro e
        have := lts t e
        omega
    · rcases List.mem_append.1 ht with ht | ht
      · exact h.dis2.2 t ht
      · simp only [List.mem_singleton] at ht
        subst ht
        rw [hq]
        intro e
        exact q6 e (lts q e) hps e
theorem SegI.start {w : World} {B C : Nat} {s2 o : Value} {es : List (Value × List Int)} (h : OwnL w C s2 es) (ho : OwnL w B o []) {b : Nat} (hb : o.ownBlock = some b) (hbC : b < C) : SegI w B C s2 (es.map (·.1)) es o [] := by
  refine ⟨by rw [List.length_map]; exact h.1, h.2.1, h.2.2, ho, fun p hp => ⟨fun e => ?_, by simp⟩, fun e => ?_, by simp⟩
  · have := ((h.2.1 p hp).2.1.lt b (by rw [e, hb])).1
    omega
  · have := (h.1.lt b (by rw [e, hb])).1
    omega
theorem inner_two {zs : List (Int × Int × Int)} (hZ : PZ zs) {y : List Int} (h : y ∈ twiceL zs) : ∃ (i j : Nat) (p q : Int), i < j ∧ j < zs.length ∧ y = [(i : Int), (j : Int)] ∧ sidesAt zs [(i : Int), (j : Int)] = [p, q] := by
  have h2 := (mem_twice_len hZ.2.2).1 h
  rw [twice_filter hZ.2.2] at h
  obtain ⟨i, j, h3, h4, rfl⟩ := once_form hZ.2.2 (List.mem_filter.1 h).1
  match hs : sidesAt zs [(i : Int), (j : Int)], h2 with
  | [p, q], _ => exact ⟨i, j, p, q, h3, h4, rfl, hs⟩
theorem segR_at {zs : List (Int × Int × Int)} {i j p q : Int} (h : sidesAt zs [i, j] = [p, q]) : segR zs [i, j] = [i, j, p, q] := by
  unfold segR
  rw [h]
  rfl
theorem cuAt2 (a ay : Option Addr) (n c cs : Nat) (zs : List (Int × Int × Int)) (hZ : PZ zs) (L : List Int) {p q : Int} (hpq : sidesAt zs L = [p, q]) (w : World) (h : Reads w a 3 n (tv zs)) (hs : Reads w ay 1 2 (iv L)) :
    Calls Tryz.prog 38 #[.slice a n c, .slice ay 2 cs] w fun r w' => ∃ a1 c1, r = .returned (.slice a1 2 c1) ∧ w'.ownsRow w.heap.size 3 1 (.slice a1 2 c1) 2 (iv [p, q]) ∧ Ext w w' := by
  have h := cuAt_any a ay n c 2 cs zs hZ L (by omega) w h hs
  rw [hpq] at h
  exact h.mono fun _ _ ⟨a1, c1, h1, h2, h3⟩ => ⟨a1, c1, h1, h2, h3⟩
set_option maxHeartbeats 4000000 in
theorem spec_SegmentsOf_any (a : Option Addr) (n c : Nat) (zs : List (Int × Int × Int)) (hn : n ≤ 1048576) (w : World) (h : Reads w a 3 n (tv zs)) :
    Calls Tryz.prog 24 #[.slice a n c] w (RdLB (gR (planeB zs) (segsL zs)) (planeB zs) w) := by
  have hl : zs.length = n := by have := h.1; rw [tv_len] at this; omega
  cases hp : planeB zs
  · simp only [gR, Bool.false_eq_true, if_false]
    go_enter Tryz.func24, Tryz.ntmps24
    go_wp2_with fail
    refine (plGood_any _ _ _ zs (by omega) _ h).mono ?_
    rw [hp]
    rintro e w1 ⟨rfl, hb1⟩
    go_wp2
    go_ret2
    exact ⟨_, rfl, rdL_none _, hb1⟩
  · simp only [gR, if_true]
    have HZ := Lib.hid (pz_of hp)
    go_enter Tryz.func24, Tryz.ntmps24
    go_wp2_with fail
    refine (plGood_any _ _ _ zs (by omega) _ h).mono ?_
    rw [hp]
    rintro e w1 ⟨rfl, hb1⟩
    have HH := Lib.hid (h.ext hb1)
    have HE := Lib.hid hb1
    clear h hb1
    go_wp2_with fail
    refine (ceEdges_any _ _ _ zs HZ.out true w1 HH.out).mono ?_
    rintro e w3 ⟨a3, c3, us3, rfl, ho3, hv3, hE3⟩
    rw [show edgesL zs true = twiceL zs from rfl] at ho3 hv3 ⊢
    have hS := twice_len2 HZ.out
    have HSF := Lib.hid (fun y (hy : y ∈ twiceL zs) => inner_two HZ.out hy)
    obtain ⟨S, hSS⟩ : ∃ S, S = twiceL zs := ⟨_, rfl⟩
    have HSL := Lib.hid (show segsL zs = S.map (segR zs) by rw [hSS]; rfl)
    rw [← hSS] at hS HSF ho3 hv3 ⊢
    clear hSS
    have HO3 := Lib.hid ho3
    have HV3 := Lib.hid hv3
    have HE3 := Lib.hid (HE.out.trans hE3)
    have HH3 := Lib.hid (Reads.ext hE3 HH.out)
    clear ho3 hv3 hE3
    go_wp2
    go_loopw [4, 13] (fun s t wr => ∃ (k : Nat) (ts : List (Value × List Int)), k ≤ S.length ∧ t = .int .i64 k ∧ OwnL wr w3.heap.size s ts ∧ ts.map (·.2) = (S.take k).map (segR zs) ∧ ts.length ≤ k ∧ Ext w3 wr) (fun _ t _ => S.length - (intOf t).toNat)
    case atStart => exact ⟨0, [], Nat.zero_le _, rfl, ownL_nil _ _, rfl, Nat.le_refl _, Ext.refl _⟩
    case round =>
      obtain ⟨k, ts, hk, rfl, hot, hts, htk, hE⟩ := hrel
      by_cases hlk : k < S.length
      · obtain ⟨i, j, p, q, hij, hj, hsd, hpq⟩ := HSF.out (S.getD k []) (by rw [show S.getD k [] = S[k] by simp [List.getD, hlk]]; exact List.getElem_mem _)
        have HTK := Lib.hid ((map_take (f := segR zs) hlk).trans (by rw [hsd, segR_at hpq]))
        obtain ⟨ak, ck, hvk, hrk⟩ := VA.at k (HV3.out.ext hE) hlk
        obtain ⟨g, rfl, hg1, hg2⟩ := own_head HO3.out (by omega)
        have hck : wr.cell? ⟨g, k, none⟩ = some (.slice ak (S.getD k []).length ck) := ((own_ext hE HO3.out).cellAt k (by omega)).trans hvk
        rw [hsd] at hck hrk
        simp only [List.length_cons, List.length_nil, Nat.zero_add, Nat.reduceAdd] at hck hrk
        have HRK := Lib.hid hrk
        have HTS := Lib.hid hts
        have HOT := Lib.hid hot
        have HEr := Lib.hid hE
        have HPQ := Lib.hid hpq
        have hkS : (k : Int) < (S.length : Int) := by omega
        have hzr := hE.size
        clear hvk hrk hts hot hE hpq hsd hj hij
        go_wp2_with fail
        refine (l1Own_any ak 2 ck [(i : Int), (j : Int)] (by omega) (by omega) wr HRK.out).mono ?_
        rintro e w4 ⟨a4, c4, rfl, ho4, hE4⟩
        have HE4 := Lib.hid hE4
        have HO4 := Lib.hid ho4
        have HR4 := Lib.hid (Reads.ext hE4 HRK.out)
        have HH4 := Lib.hid (Reads.ext (HEr.out.trans hE4) HH3.out)
        have hz4 := hE4.size
        clear ho4 hE4 hck
        go_wp2_with fail
        refine (cuAt2 _ _ _ _ _ zs HZ.out _ HPQ.out w4 HH4.out HR4.out).mono ?_
        rintro e w5 ⟨a5, c5, rfl, ho5, hE5⟩
        have HE5 := Lib.hid (HE4.out.trans hE5)
        have HR5 := Lib.hid (own_reads ho5)
        have HO45 := Lib.hid (own_ext hE5 HO4.out)
        have hz5 := hE5.size
        clear ho5 hE5
        obtain ⟨i0, hz1, hz2, hz3, hz4⟩ := info_parts int_info
        go_wp2_with (at_builtin; go_must (refine wpList_app_any _ rfl _ _ 56 rfl wr.heap.size 3 i0 _ 1 8 Tryz.underlying56 hz1 hz2 hz3 hz4 rfl (by decide) _ 2 (iv [(i : Int), (j : Int)]) rfl HO45.out _ 2 _ (iv [p, q]) rfl HR5.out (iv_oneE _) (by unfold maxLen; omega) (by omega) (by omega) ?_))
        intro a6 c6 w6 hown6 hg6 hl6
        clear hz1 hz2 hz3 hz4
        have HOR := Lib.hid (show w6.ownsRow wr.heap.size 3 1 (.slice a6 4 c6) 4 (iv [(i : Int), (j : Int), p, q]) by simpa [iv] using hown6)
        have HE6 := Lib.hid (Ext.grown HE5.out hg6 (fun q hq => (HO45.out.lt q hq).1))
        obtain ⟨q6, hq6, hq7, _⟩ := own_some HOR.out (by omega)
        have HOT3 := Lib.hid (HOT.out.ext HE6.out)
        have HF3 := Lib.hid (HOT.out.fresh hq7)
        have HQ3 := Lib.hid hq6
        have HO3 := Lib.hid (own_mono HEr.out.size HOR.out)
        have HE36 := Lib.hid (HEr.out.trans HE6.out)
        clear hown6 hg6 hl6 hq6 hq7 HO45 HR5 HO4 HOR
        obtain ⟨sa, sc, rfl⟩ := HOT3.out.form
        have hz3 := HE36.out.size
        obtain ⟨i0, hz1, hz2, hz4, hz5⟩ := info_parts ints_info2
        go_wp2_with (at_builtin; go_must (refine wpList_app_any _ rfl _ _ 24 rfl w3.heap.size 56 i0 _ 1 24 Tryz.underlying24 hz1 hz2 hz4 hz5 rfl (by decide) (.slice sa ts.length sc) ts.length (ts.map (·.1)) (by rfl) ((HOT3.out.ext ((Ext.refl w6).alloc _)).1) _ 1 1 [.slice a6 4 c6] (by rfl) (one_val (by simp)) (by simp [Value.oneCell']) (by unfold maxLen; omega) (by omega) (by simp; omega) ?_))
        intro a9 c9 w9 hown9 hg9 hl9
        have HOT9 := Lib.hid ((HOT3.out.ext ((Ext.refl w6).alloc _)).push (x := [(i : Int), (j : Int), p, q]) (own_ext ((Ext.refl w6).alloc _) HO3.out) HQ3.out HF3.out.1 HF3.out.2 hg9 hown9 (hl9.imp id fun e => ⟨_, e, by simp⟩))
        have HE9 := Lib.hid (Ext.grown (HE36.out.alloc _) hg9 (fun k hk => (HOT3.out.1.lt k hk).1))
        clear hown9 hg9 hl9 hz1 hz2 hz4 hz5
        go_wp2
        go_roundw
        case rel => exact ⟨k + 1, ts ++ [(.slice a6 4 c6, [(i : Int), (j : Int), p, q])], by omega, by go_num, HOT9.out, by rw [List.map_append, HTS.out, HTK.out]; rfl, by simp; omega, HE9.out⟩
        case measure => simp [intOf]; omega
      · obtain rfl : k = S.length := by omega
        obtain ⟨sa, sc, rfl⟩ := hot.form
        have hrd := hot.rd
        rw [show ts.map (·.2) = S.map (segR zs) by rw [hts, List.take_length]] at hrd
        have HRD := Lib.hid hrd
        have HE := Lib.hid (HE3.out.trans hE)
        clear hts hot hE hrd
        go_wp2
        go_ret2
        exact ⟨.slice sa ts.length sc, rfl, by rw [HSL.out]; exact HRD.out, HE.out⟩
theorem cellsAt2 (B g : Nat) (a ax : Option Addr) (n c cx : Nat) (zs : List (Int × Int × Int)) (i j : Int) (hi : B64 i) (hj : B64 j) {p q : Int} (hpq : sidesAt zs [i, j] = [p, q]) (w : World) (h : SubD w B g a n c zs) (hx : Reads w ax 1 2 (iv [i, j])) :
    Calls Tryz.prog 45 #[.pointer (some ⟨g, 0, none⟩), .slice ax 2 cx] w fun r w' => ∃ a1 c1, r = .returned (.slice a1 2 c1) ∧ Reads w' a1 1 2 (iv [p, q]) ∧ Ext w w' := by
  have h := cellsAt_any B g a ax n c cx zs i j hi hj w h hx
  rw [hpq] at h
  exact h.mono fun _ _ ⟨a1, c1, h1, h2, h3⟩ => ⟨a1, c1, h1, h2, h3⟩
set_option maxHeartbeats 4000000 in
theorem impl_SegmentsOf_any (a : Option Addr) (n c : Nat) (zs : List (Int × Int × Int)) (hn : n ≤ 1048576) (w : World) (h : Reads w a 3 n (tv zs)) :
    Calls Tryz.prog 25 #[.slice a n c] w (OwnsLB w.heap.size (gR (planeB zs) (segsL zs)) (planeB zs) w) := by
  cases hp : planeB zs
  · simp only [gR, Bool.false_eq_true, if_false]
    go_enter Tryz.func25, Tryz.ntmps25
    go_wp2_with fail
    refine (subdivided_no _ _ _ zs hn hp _ h).mono ?_
    rintro e w1 ⟨rfl, hb1⟩
    go_wp2
    go_ret2
    exact ⟨_, [], rfl, ownL_nil _ _, rfl, hb1⟩
  · simp only [gR, if_true]
    have HZ := Lib.hid (pz_of hp)
    go_enter Tryz.func25, Tryz.ntmps25
    go_wp2_with fail
    refine (subdivided_yes _ _ _ zs hn hp _ h).mono ?_
    rintro e w1 ⟨g, rfl, hs, hb1⟩
    have HD := Lib.hid hs
    have HE := Lib.hid hb1
    have hz1 := hb1.size
    clear hs hb1 h
    go_wp2_with fail
    refine (chosenEdges_any _ _ _ _ _ 2 zs HZ.out (w1.alloc (.cells #[] 56)) (HD.out.ext (Ext.alloc (Ext.refl w1) _))).mono ?_
    rintro e w2 ⟨s2, es, rfl, ho2, hes, hE2⟩
    rw [← twice_filter HZ.out.2.2] at hes
    have hS := twice_len2 HZ.out
    have HSF := Lib.hid (fun y (hy : y ∈ twiceL zs) => inner_two HZ.out hy)
    obtain ⟨S, hSS⟩ : ∃ S, S = twiceL zs := ⟨_, rfl⟩
    have HSL := Lib.hid (show segsL zs = S.map (segR zs) by rw [hSS]; rfl)
    rw [← hSS] at hS HSF hes
    clear hSS
    have hel : es.length = S.length := by rw [← List.length_map (f := (·.2)), hes]
    have hw2 : Ext w1 w2 := Ext.trans (Ext.alloc (Ext.refl w1) _) hE2
    have hzW : (w1.alloc (.cells #[] 56)).heap.size = w1.heap.size + 1 := by simp
    rw [hzW] at ho2
    have HI := Lib.hid (SegI.start ho2 ((ownL_empty w1 w1.heap.size (Nat.le_refl _)).ext hE2) (b := w1.heap.size) (by rfl) (by omega))
    have HES := Lib.hid hes
    have HW2 := Lib.hid hw2
    have HEL := Lib.hid hel
    obtain ⟨sa2, sc2, rfl⟩ := ho2.form
    rw [hel]
    clear ho2 hes hE2 hw2 hzW hel
    go_wp2
    go_loopw [6, 20] (fun s t wr => ∃ (k : Nat) (ts : List (Value × List Int)), k ≤ S.length ∧ t = .int .i64 k ∧ SegI wr w1.heap.size (w1.heap.size + 1) (.slice sa2 es.length sc2) (es.map (·.1)) (es.drop k) s ts ∧ ts.map (·.2) = (S.take k).map (segR zs) ∧ ts.length ≤ k ∧ Ext w1 wr) (fun _ t _ => S.length - (intOf t).toNat)
    case atStart => exact ⟨0, [], Nat.zero_le _, rfl, HI.out, rfl, Nat.le_refl _, HW2.out⟩
    case round =>
      obtain ⟨k, ts, hk, rfl, hI, hts, htk, hE⟩ := hrel
      by_cases hlk : k < S.length
      · obtain ⟨i, j, p, q, hij, hj, hsd, hpq⟩ := HSF.out (S.getD k []) (by rw [show S.getD k [] = S[k] by simp [List.getD, hlk]]; exact List.getElem_mem _)
        have HTK := Lib.hid ((map_take (f := segR zs) hlk).trans (by rw [hsd, segR_at hpq]))
        have hke : k < es.length := by rw [HEL.out]; exact hlk
        have hdr : es.drop k = es[k] :: es.drop (k + 1) := List.drop_eq_getElem_cons hke
        have he2 : es[k].2 = [(i : Int), (j : Int)] := by
          rw [← hsd, ← HES.out]
          simp [List.getD, hke]
        have hcell : wr.cell? ⟨0, 0, none⟩ = wr.cell? ⟨0, 0, none⟩ := rfl
        clear hcell
        rw [hdr] at hI
        have hout : wr.ownsRow (w1.heap.size + 1) 56 1 (.slice sa2 es.length sc2) es.length (es.map (·.1)) := by have := hI.outer; rwa [List.length_map] at this
        obtain ⟨gc, hgc, _, hgc2⟩ := own_head hout (by omega)
        subst hgc
        have hck := (hout.cellAt k (by omega)).trans (show (es.map (·.1))[k]? = some es[k].1 by simp [hke])
        obtain ⟨⟨qb, hqb⟩, hop, _⟩ := hI.rows es[k] List.mem_cons_self
        generalize es[k] = e0 at *
        obtain ⟨v, x⟩ := e0
        simp only at he2 hop hqb hck
        subst he2
        obtain ⟨ak, ck, rfl⟩ := own_form hop
        simp only [List.length_cons, List.length_nil, Nat.zero_add, Nat.reduceAdd] at hop hck hqb hI
        have HI := Lib.hid hI
        have HOP := Lib.hid hop
        have HTS := Lib.hid hts
        have HEr := Lib.hid hE
        have HPQ := Lib.hid hpq
        have HDr := Lib.hid (HD.out.ext hE)
        have hkS : (k : Int) < (es.length : Int) := by omega
        have hkS2 : (k : Int) < (S.length : Int) := by omega
        have hzr := hE.size
        have hbi : B64 (i : Int) := by have := HZ.out.1; unfold B64; omega
        have hbj : B64 (j : Int) := by have := HZ.out.1; unfold B64; omega
        clear hout hop hts hE hpq hsd hj hij hI hdr hqb
        go_wp2_with fail
        refine (cellsAt2 _ g a ak n c ck zs _ _ hbi hbj HPQ.out wr HDr.out (own_reads HOP.out)).mono ?_
        rintro e w3 ⟨a3, c3, rfl, hr3, hE3⟩
        have HE3 := Lib.hid hE3
        have HO3 := Lib.hid (own_ext hE3 HOP.out)
        have HR3 := Lib.hid hr3
        have hz3 := hE3.size
        clear hE3 hr3 hck HDr
        obtain ⟨i0, hz1, hz2, hz3, hz4⟩ := info_parts int_info
        go_wp2_with (at_builtin; go_must (refine wpList_app_any _ rfl _ _ 56 rfl (w1.heap.size + 1) 3 i0 _ 1 8 Tryz.underlying56 hz1 hz2 hz3 hz4 rfl (by decide) _ 2 (iv [(i : Int), (j : Int)]) rfl HO3.out _ 2 _ (iv [p, q]) rfl HR3.out (iv_oneE _) (by unfold maxLen; omega) (by omega) (by omega) ?_))
        intro a6 c6 w6 hown6 hg6 hl6
        clear hz1 hz2 hz3 hz4
        have HO6 := Lib.hid (show w6.ownsRow (w1.heap.size + 1) 3 1 (.slice a6 4 c6) 4 (iv [(i : Int), (j : Int), p, q]) by simpa [iv] using hown6)
        have HG6 := Lib.hid hg6
        have HL6 := Lib.hid (show (Value.slice a6 4 c6).ownBlock = (Value.slice ak 2 ck).ownBlock ∨ (Value.slice a6 4 c6).ownBlock = some w3.heap.size from hl6)
        have HE6 := Lib.hid (Ext.grown (HEr.out.trans HE3.out) hg6 (fun q hq => by have := (HO3.out.lt q hq).1; omega))
        have hz6 := hg6.size
        clear hown6 hg6 hl6
        obtain ⟨q6, hq6, _, _⟩ := own_some HO6.out (by omega)
        have HQ6 := Lib.hid hq6
        clear hq6
        obtain ⟨sa, sc, rfl⟩ := HI.out.own.form
        have HOS := Lib.hid (((HI.out.own.ext HE3.out).apartL HG6.out (fun u hu e => (HI.out.dis (.slice ak 2 ck, [(i : Int), (j : Int)]) List.mem_cons_self).1 (by rw [e, hu])) (fun t ht u hu e => (HI.out.dis (.slice ak 2 ck, [(i : Int), (j : Int)]) List.mem_cons_self).2 t ht (by rw [e, hu]))))
        obtain ⟨i0, hy1, hy2, hy4, hy5⟩ := info_parts ints_info2
        go_wp2_with (at_builtin; go_must (refine wpList_app_any _ rfl _ _ 24 rfl w1.heap.size 56 i0 _ 1 24 Tryz.underlying24 hy1 hy2 hy4 hy5 rfl (by decide) (.slice sa ts.length sc) ts.length (ts.map (·.1)) (by rfl) ((HOS.out.ext ((Ext.refl w6).alloc _)).1) _ 1 1 [.slice a6 4 c6] (by rfl) (one_val (by simp)) (by simp [Value.oneCell']) (by unfold maxLen; omega) (by omega) (by simp; omega) ?_))
        intro a9 c9 w9 hown9 hg9 hl9
        have HI9 := Lib.hid (HI.out.step (by omega) HE3.out HG6.out (x6 := [(i : Int), (j : Int), p, q]) HO6.out HQ6.out HL6.out ((Ext.refl w6).alloc _) hg9 hown9 (hl9.imp id fun e => ⟨_, e, by simp⟩))
        have HE9 := Lib.hid (Ext.grown (HE6.out.alloc _) hg9 (fun k hk => (HOS.out.1.lt k hk).1))
        clear hown9 hg9 hl9 hy1 hy2 hy4 hy5
        go_wp2
        go_roundw
        case rel => exact ⟨k + 1, ts ++ [(.slice a6 4 c6, [(i : Int), (j : Int), p, q])], by omega, by go_num, HI9.out, by rw [List.map_append, HTS.out, HTK.out]; rfl, by simp; omega, HE9.out⟩
        case measure => simp [intOf]; omega
      · obtain rfl : k = S.length := by omega
        obtain ⟨sa, sc, rfl⟩ := hI.own.form
        have HTS := Lib.hid (show ts.map (·.2) = S.map (segR zs) by rw [hts, List.take_length])
        have HO := Lib.hid (hI.own.base hz1)
        have HEF := Lib.hid (HE.out.trans hE)
        clear hts hI hE
        go_wp2
        go_ret2
        exact ⟨.slice sa ts.length sc, ts, rfl, HO.out, HTS.out.trans HSL.out.symm, HEF.out⟩
theorem segs_rows {zs : List (Int × Int × Int)} (hZ : PZ zs) : ∀ y ∈ segsL zs, y.length ≤ 12 := fun y hy => by
  obtain ⟨e, he, rfl⟩ := List.mem_map.1 hy
  obtain ⟨i, j, p, q, _, _, rfl, hpq⟩ := inner_two hZ he
  rw [segR_at hpq]
  simp
set_option maxHeartbeats 2000000 in
set_option maxRecDepth 100000 in
theorem law_SegmentsOf (a0 : Option Addr) (n0 c0 : Nat) (zs : List (Int × Int × Int)) (w : World) (hr0 : IsTri w a0 n0 c0 zs) :
    Calls Tryz.prog 6 #[.slice a0 n0 c0] w fun r w' => r = .returned (.bool true) ∧ Ext w w' := by
  have h0 : Reads w a0 3 n0 (tv zs) := hr0.1
  have hc01 := hr0.2.1
  have hc02 := hr0.2.2.1
  unfold maxLen at hc02
  clear hr0
  have hl0 : zs.length = n0 := by have := h0.1; rw [tv_len] at this; omega
  by_cases hg0 : n0 ≤ 1048576
  rotate_left
  · go_enter Tryz.func6, Tryz.ntmps6
    go_wp2_with fail
    refine (szTermS_no _ _ _ _ (by omega) (by omega) (by omega) (by omega) _).mono ?_
    rintro e _ ⟨rfl, rfl⟩
    go_wp2
    go_ret
    exact ⟨rfl, (by repeat (first | exact Ext.refl _ | assumption | apply Ext.alloc | apply Ext.drew | apply Ext.drewN | (refine Ext.trans ?_ (by assumption)) | (refine Ext.setCell ?_ (by (try simp) <;> omega) _)))⟩
  obtain ⟨L, eL⟩ : ∃ L : List (List Int), L = (gR (planeB zs) (segsL zs)) := ⟨_, rfl⟩
  obtain ⟨ok, eok⟩ : ∃ ok : Bool, ok = (planeB zs) := ⟨_, rfl⟩
  have hlen : L.length ≤ 50000 := by rw [eL]; exact gR_len (fun h => by unfold segsL; rw [List.length_map]; exact Nat.le_trans (twice_len2 (pz_of h)) (by omega))
  have hlenk : ∀ y ∈ L, y.length ≤ 12 := by rw [eL]; exact gR_mem (fun h => segs_rows (pz_of h))
  have HLK := Lib.hid (fun k (hk : k < L.length) => show (L.getD k []).length ≤ 1048576 by
    have := hlenk (L.getD k []) (by rw [show L.getD k [] = L[k] by simp [List.getD, hk]]; exact List.getElem_mem _)
    omega)
  have HLM := Lib.hid hlenk
  have HS := Lib.hid (show ∀ (b0 : Nat) w, Reads w (some ⟨b0, 0, none⟩) 3 n0 (tv zs) → Calls Tryz.prog 24 #[.slice (some ⟨b0, 0, none⟩) n0 n0] w (RdLB L ok w) by rw [eL, eok]; intro b0 w h0; exact spec_SegmentsOf_any _ _ _ zs  (by omega) _ h0)
  have HI := Lib.hid (show ∀ (b0 : Nat) w, Reads w (some ⟨b0, 0, none⟩) 3 n0 (tv zs) → Calls Tryz.prog 25 #[.slice (some ⟨b0, 0, none⟩) n0 n0] w (OwnsLB w.heap.size L ok w) by rw [eL, eok]; intro b0 w h0; exact impl_SegmentsOf_any _ _ _ zs  (by omega) _ h0)
  clear eL eok hlenk
  go_enter Tryz.func6, Tryz.ntmps6
  go_wp2_with fail
  refine (szTermS_yes _ _ _ _ (by omega) (by omega) _).mono ?_
  rintro e _ ⟨rfl, rfl⟩
  -- the reference
  go_wp2_with fail
  refine (toTermS_any _ _ _ zs hg0 _ h0).mono ?_
  rintro e w1 ⟨g1, rfl, x1, hb1⟩
  go_wp2_with fail
  refine (HS.out _ _ (own_reads x1)).mono ?_
  rintro e w2 ⟨s2, rfl, hr2, hb2⟩
  have HR2 := Lib.hid hr2
  have HE2 := Lib.hid (hb1.trans hb2)
  have H02 := Lib.hid (h0.ext (hb1.trans hb2))
  clear x1 hb1 hb2 hr2 h0
  -- the program
  go_wp2_with fail
  refine (toTermS_any _ _ _ zs hg0 _ H02.out).mono ?_
  rintro e w3 ⟨g3, rfl, x3, hb3⟩
  have hz3 := hb3.size
  have X3 := Lib.hid x3
  go_wp2_with fail
  refine (HI.out _ _ (own_reads x3)).mono ?_
  rintro e w4 ⟨s4, ps, rfl, ho4, hps, hb4⟩
  have hz4 := hb4.size
  have HPS := Lib.hid hps
  have hpl : ps.length ≤ 50000 := by rw [← List.length_map (f := (·.2)), hps]; exact hlen
  have htot : totL ps ≤ 600000 := by
    have := totL_le (ps := ps) (m := 12) (fun p hp => HLM.out p.2 (by rw [← hps]; exact List.mem_map_of_mem hp))
    omega
  have hrd := ho4.rd
  rw [hps] at hrd
  have HO4 := Lib.hid ho4
  have HE4 := Lib.hid (hb3.trans hb4)
  have HX4 := Lib.hid (own_ext hb4 x3)
  clear x3 hb3 hb4 ho4 hps
  go_wp2_with fail
  refine (eqIntSS_same s4 s2 L (by omega) HLK.out w4 hrd (HR2.out.ext HE4.out)).mono ?_
  rintro e w5 ⟨rfl, hb5⟩
  have HE5 := Lib.hid (HE4.out.trans hb5)
  have HO5 := Lib.hid (HO4.out.ext hb5)
  have HX5 := Lib.hid (own_ext hb5 HX4.out)
  clear hb5 hrd
  go_wp2_with fail
  refine (toTermS_any _ _ _ zs hg0 _ (H02.out.ext HE5.out)).mono ?_
  rintro e w6 ⟨g6, rfl, x6, hb6⟩
  go_wp2_with fail
  refine (eqTermS_same _ _ _ _ _ zs (by omega) _ (own_reads (own_ext hb6 HX5.out)) (own_reads x6)).mono ?_
  rintro e w7 ⟨rfl, hb7⟩
  have HE7 := Lib.hid ((HE5.out.trans hb6).trans hb7)
  have HO7 := Lib.hid (HO5.out.ext (hb6.trans hb7))
  have HX7 := Lib.hid (own_ext hb7 (own_ext hb6 HX5.out))
  clear hb6 hb7 x6
  -- the arguments are marked
  go_wp2_with fail
  refine (markTermS_any _ _ _ _ zs _ (by omega) (by omega) (by omega) _ HX7.out).mono ?_
  rintro e w8 ⟨rfl, hm8, hgr8⟩
  have HE8 := Lib.hid (Ext.grown HE7.out hgr8 (fun k hk => (X3.out.lt k hk).1))
  have HO8 := Lib.hid (HO7.out.kept hgr8 (fun q hq => (X3.out.lt q hq).2))
  clear hm8 hgr8
  have hrd := HO8.out.rd
  rw [HPS.out] at hrd
  go_wp2_with fail
  refine (eqIntSS_same s4 s2 L (by omega) HLK.out w8 hrd (HR2.out.ext HE8.out)).mono ?_
  rintro e w9 ⟨rfl, hb9⟩
  have HE9 := Lib.hid (HE8.out.trans hb9)
  have HO9 := Lib.hid (HO8.out.ext hb9)
  clear hb9 hrd
  -- the result is marked
  go_wp2_with fail
  refine (markIntSS_any _ s4 ps 1 (by omega) (by omega) (by omega) (by omega) w2 (by omega) w9 HE9.out HO9.out).mono ?_
  rintro e w10 ⟨rfl, ho10, hE10⟩
  have HO10 := Lib.hid ho10
  have HE10 := Lib.hid hE10
  clear ho10 hE10
  go_wp2_with fail
  refine (heldIntSS_any _ s4 ps 1 (by omega) (by omega) (by omega) (by omega) w10 HO10.out).mono ?_
  rintro e _ ⟨rfl, rfl⟩
  go_wp2_with fail
  refine (toTermS_any _ _ _ zs hg0 _ (H02.out.ext HE10.out)).mono ?_
  rintro e w11 ⟨g11, rfl, x11, hb11⟩
  go_wp2_with fail
  refine (HI.out _ _ (own_reads x11)).mono ?_
  rintro e w12 ⟨s12, ts, rfl, ho12, hts, hb12⟩
  have hrd := ho12.rd
  rw [hts] at hrd
  have HE12 := Lib.hid ((HE10.out.trans hb11).trans hb12)
  have HO12 := Lib.hid (HO10.out.ext (hb11.trans hb12))
  clear x11 hb11 hb12 ho12 hts
  go_wp2_with fail
  refine (eqIntSS_same s12 s2 L (by omega) HLK.out w12 hrd (HR2.out.ext HE12.out)).mono ?_
  rintro e w13 ⟨rfl, hb13⟩
  have HE13 := Lib.hid (HE12.out.trans hb13)
  have HO13 := Lib.hid (HO12.out.ext hb13)
  clear hb13 hrd
  go_wp2_with fail
  refine (heldIntSS_any _ s4 ps 1 (by omega) (by omega) (by omega) (by omega) w13 HO13.out).mono ?_
  rintro e _ ⟨rfl, rfl⟩
  go_wp2
  go_ret
  exact ⟨rfl, HE2.out.trans HE13.out⟩

end Go.Proofs.YtngbdopgdcjdeaaGreat
