/-
  DualPolygon: the program's walk.
-/
import Derived.Test.YtaloegjcdllgoaaDualR
import Derived.BigQuiet
import Derived.Deep.RegionHeld3
import Derived.BigRegion
namespace Go.Proofs.Ytaloegjcdllgoaa
open Go.RowKit

theorem Box2.grown {w w' : World} {row : Option Nat} {b : Nat} {x y : Int} (hg : w.grownBy w' row) (hne : some b ≠ row) (k : Box2 w b x y) : Box2 w' b x y :=
  ⟨fun i v hi => grown_keep hg (k.1 i v hi) hne, fun i => by rw [World.grownBy.frozen_far hg ⟨b, i, none⟩ k.lt hne]; exact k.2 i⟩
theorem own_setFar {w : World} {B : Nat} {E : TypeId} {size : Nat} {v : Value} {n : Nat} {xs : List Value} {b : Nat} (o : Nat) (u : Value) (k : w.ownsRow B E size v n xs) (h : ∀ q, v.ownBlock = some q → q ≠ b) : (w.setCell ⟨b, o, none⟩ u).ownsRow B E size v n xs :=
  own_apartQ k (grown_setQ w b o u) fun q hq e => h q hq (by injection e with e; exact e.symm)
theorem low_succ (S : List (Int × Int)) (k : Nat) : lowD S (k + 1) = (minI (lowD S k).1 (sumD S k).1, minI (lowD S k).2 (sumD S k).2) := by
  rw [minI_eq, minI_eq]; rfl
/-- The corners of which the first k are moved. -/
def partD (p : Int × Int) (C : List (Int × Int)) (k : Nat) : List (Int × Int) := movD p (C.take k) ++ C.drop k
theorem partD_len {p : Int × Int} {C : List (Int × Int)} {k : Nat} (h : k ≤ C.length) : (partD p C k).length = C.length := by
  unfold partD; rw [List.length_append, movD_len, List.length_take, List.length_drop]; omega
theorem partD_zero (p : Int × Int) (C : List (Int × Int)) : partD p C 0 = C := by simp [partD, movD]
theorem partD_full (p : Int × Int) (C : List (Int × Int)) : partD p C C.length = movD p C := by simp [partD]
theorem partD_at {p : Int × Int} {C : List (Int × Int)} {k : Nat} (h : k < C.length) : pat (partD p C k) k = pat C k := by
  unfold partD pat
  rw [List.getD, List.getD, List.getElem?_append_right (by rw [movD_len, List.length_take]; omega), movD_len, List.length_take, Nat.min_eq_left (by omega), Nat.sub_self, List.getElem?_drop, Nat.add_zero]
theorem partD_step {p : Int × Int} {C : List (Int × Int)} {k : Nat} (h : k < C.length) : (partD p C k).set k ((pat C k).1 - p.1, (pat C k).2 - p.2) = partD p C (k + 1) := by
  have e : (movD p (C.take k)).length = k := by rw [movD_len, List.length_take]; omega
  unfold partD
  rw [List.set_append_right _ _ (by omega), e, Nat.sub_self, List.drop_eq_getElem_cons h, List.set_cons_zero, List.take_succ_eq_append_getElem h, pat_eq h]
  simp only [movD, List.map_append, List.map_cons, List.map_nil, List.append_assoc, List.singleton_append]
theorem eg_ang : ∀ args w, (callFunc 33 args).run Try.prog w = .ok (.enter 33 args) w := enters_of Try.func33 (by kernel_rfl) rfl
theorem isBalanced_no (a : Option Addr) (n c : Nat) (zs : List (Int × Int × Int)) (hn : n ≤ 1048576) (hb : starB zs = false) (w : World) (h : Reads w a 3 n (tv zs)) :
    Calls Try.prog 31 #[.slice a n c] w fun r w' => r = .returned (.bool false) ∧ Ext w w' := by
  go_enter Try.func31, Try.ntmps31
  go_wp2_with fail
  refine (isStar_any _ _ _ zs (by omega) _ h).mono ?_
  rw [hb]
  rintro e w1 ⟨rfl, hb1⟩
  go_wp2
  go_ret
  exact ⟨rfl, hb1⟩
set_option maxHeartbeats 8000000 in
theorem impl_DualPolygon_any (a : Option Addr) (n c : Nat) (zs : List (Int × Int × Int)) (hn : n ≤ 1048576) (w : World) (h : Reads w a 3 n (tv zs)) :
    Calls Try.prog 14 #[.slice a n c] w (OwnsPtsB w.heap.size (gP (dualB zs) (ansD (sidesD zs))) (dualB zs) w) := by
  have hl : zs.length = n := by have := h.1; rw [tv_len] at this; omega
  rcases small_of (zs := zs) with h1 | ⟨h1, hsm⟩
  · rw [dualB_star h1]
    go_enter Try.func14, Try.ntmps14
    go_wp2_with fail
    refine (isBalanced_no _ _ _ zs hn h1 _ h).mono ?_
    rintro e w1 ⟨rfl, hb1⟩
    clear hl
    go_wp2
    go_ret2
    exact ⟨none, 0, rfl, own_nonePt _ _, hb1⟩
  · cases h2 : balB zs
    · rw [dualB_bal h2]
      go_enter Try.func14, Try.ntmps14
      go_wp2_with fail
      refine (isBalanced_any _ _ _ zs h1 hsm _ h).mono ?_
      rw [h2]
      rintro e w1 ⟨rfl, hb1⟩
      clear hl
      go_wp2
      go_ret2
      exact ⟨none, 0, rfl, own_nonePt _ _, hb1⟩
    · by_cases h0 : n = 0
      · rw [dualB_none (by omega)]
        subst h0
        go_enter Try.func14, Try.ntmps14
        go_wp2_with fail
        refine (isBalanced_any _ _ _ zs h1 hsm _ h).mono ?_
        rw [h2]
        rintro e w1 ⟨rfl, hb1⟩
        clear hl
        go_wp2
        go_ret2
        exact ⟨none, 0, rfl, own_nonePt _ _, hb1⟩
      · have h00 : 0 < n := by omega
        have hne : ¬ (n : Int) = 0 := by omega
        have hne2 : ((n : Int) == 0) = false := by simpa using hne
        have hn10 := (star_rows h1).1
        rw [hl] at hn10
        have hdb := dualB_ok h1 (by omega) h2
        have hsl := sidesD_len h1
        rw [hl] at hsl
        have HFULL := Lib.hid (ansD_full (S := sidesD zs) (by omega))
        have hal := ansD_len (sidesD zs)
        have hcl := cornsD_len (sidesD zs)
        rw [hsl] at hal hcl HFULL
        have HQA := Lib.hid (star_sides h1)
        have HTA := Lib.hid (fun k (hk : k < n) => star_tat h1 (show k < zs.length by omega))
        have HSQ := Lib.hid (sidesD_qa h1)
        have HSRT := Lib.hid (fun (ys : List (Int × Int)) (hp : ys.Perm (zs.map sideD)) (ho : OrdA ys) => show ys = sidesD zs from dual_sorted h1 hp ho)
        have HCD := Lib.hid (show cornsD (sidesD zs) = movD (lowD (sidesD zs) n) (cornD (sidesD zs) n) by unfold cornsD; rw [hsl])
        have HOK := Lib.hid (show okD (sidesD zs) = ((cornsD (sidesD zs)).all fun p => ptB p.1 p.2) from rfl)
        rw [hdb]
        clear hdb
        have HIB := Lib.hid (fun w h => isBalanced_any a n c zs h1 hsm w h)
        rw [h2] at HIB
        have HL := Lib.hid hl
        have HR := Lib.hid (fun w' (e : Ext w w') => h.ext e)
        have h9 := h
        clear hsm h1 h2 hl h
        go_enter Try.func14, Try.ntmps14
        go_wp2_with fail
        refine (HIB.out _ h9).mono ?_
        rintro e w1 ⟨rfl, hb1⟩
        clear HIB h9
        go_wp2
        go_loopw [4, 26] (fun s t wr => ∃ (k : Nat) (a1 : Option Addr) (c1 : Nat), k ≤ n ∧ t = .int .i64 k ∧ s = .slice a1 k c1 ∧ wr.ownsRow w1.heap.size 49 2 (.slice a1 k c1) k (pv ((zs.take k).map sideD)) ∧ Ext w1 wr) (fun _ t _ => n - (intOf t).toNat)
        case atStart => exact ⟨0, some ⟨w1.heap.size, 0, none⟩, 0, Nat.zero_le _, rfl, rfl, World.ownsRow_lit w1 #[] 0 (Nat.le_refl _) (by unfold maxLen; omega) rfl, (by repeat (first | exact Ext.refl _ | assumption | apply Ext.alloc | apply Ext.drew | apply Ext.drewN | (refine Ext.trans ?_ (by assumption)) | (refine Ext.setCell ?_ (by (try simp) <;> omega) _)))⟩
        case round =>
          obtain ⟨k, a1, c1, hk, rfl, rfl, hown, hE⟩ := hrel
          by_cases hlt : k < n
          · obtain ⟨b, off, rfl, hp0, hp1, hp2⟩ := (HR.out _ (hb1.trans hE)).tri hlt
            have hbb := HTA.out k hlt
            have HT := Lib.hid (show (zs.take (k + 1)).map sideD = (zs.take k).map sideD ++ [sideD (tat zs k)] by
              have hk2 : k < zs.length := by have := HL.out; omega
              rw [List.take_succ_eq_append_getElem hk2, List.map_append, List.map_singleton, tat_eq hk2])
            generalize tat zs k = r at *
            obtain ⟨r1, r2, r3⟩ := r
            have HT := Lib.hid (show (zs.take (k + 1)).map sideD = (zs.take k).map sideD ++ [(r3 * r2, -r3 * r1)] from HT.out)
            generalize (zs.take k).map sideD = L at *
            simp only at hbb hp0 hp1 hp2
            have b1 := mul_bd (a := r3) (d := r2) (A := 20) (D := 20) (by omega) (by omega) (by omega) (by omega)
            have b2 := mul_bd (a := -r3) (d := r1) (A := 20) (D := 20) (by omega) (by omega) (by omega) (by omega)
            have hsz := hE.size
            go_wp2_with (at_builtin; go_must (refine wpList_appQ rfl _ _ rfl w1 w1.heap.size _ _ _ L rfl (own_ext (Ext.alloc (Ext.alloc (Ext.refl _) _) _) hown) ⟨_, 0, none⟩ 1 1 [(r3 * r2, -r3 * r1)] rfl rfl (one_cells (by simp) (by simp)) (by omega) (by omega) (by simp; omega) (Ext.alloc (Ext.alloc hE _) _) (Nat.le_refl _) ?_))
            intro a4 c4 w4 hown4 hE4
            go_wp2
            go_roundw
            case rel => exact ⟨k + 1, a4, c4, by omega, by go_num, by rfl, by rw [HT.out]; exact hown4, hE4⟩
            case measure => simp [intOf]; omega
          · obtain rfl : n = k := by omega
            rw [show (zs.take n).map sideD = zs.map sideD by rw [List.take_of_length_le (by have := HL.out; omega)]] at hown
            obtain ⟨g, rfl, hg1, hg2⟩ := own_head hown h00
            have HE1 := Lib.hid (hb1.trans hE)
            have hgw : w.heap.size ≤ g := by have := hb1.size; omega
            go_wp2_with fail
            refine (sortP_any (Q := QA) angI swoA 33 eg_ang (fun x y w hx hy => compareAngles_grown x y hx hy w) (zs.map sideD) HQA.out w1.heap.size n c1 g _ (by omega) hown).mono ?_
            rintro e w2 ⟨rfl, ys, hp, hq, hown2, hgr2⟩
            obtain rfl := HSRT.out ys hp hq
            have HE2 := Lib.hid (Ext.grown HE1.out hgr2 (fun k hk => by cases hk; exact hgw))
            have HO2 := Lib.hid hown2
            generalize sidesD zs = S at *
            clear hp hq hgr2 hown hown2 hE hb1 HE1 HQA HTA HSRT HL HR hg2 hgw hg1
            go_wp2
            have HSB := Lib.hid (fun k (hk : k ≤ n) => sum_bd HSQ.out k (by omega))
            have HPQ := Lib.hid (fun k (hk : k < n) => (HSQ.out _ (pat_mem (l := S) (k := k) (by omega))).2)
            have HLB := Lib.hid (fun k (hk : k ≤ n) => low_bd HSQ.out (by omega) k (by omega))
            obtain ⟨b8, hb8⟩ : ∃ b8, b8 = w2.heap.size + 1 := ⟨_, rfl⟩
            obtain ⟨b9, hb9⟩ : ∃ b9, b9 = w2.heap.size + 1 + 1 := ⟨_, rfl⟩
            have hV8 : Box2 (((w2.alloc (.cells #[] 49)).alloc (.cells #[.int .i64 0, .int .i64 0] 49)).alloc (.cells #[.int .i64 0, .int .i64 0] 49)) b8 0 0 := by
              have := Box2.ext ((Ext.refl _).alloc (.cells #[.int .i64 0, .int .i64 0] 49)) (Box2.new (w2.alloc (.cells #[] 49)) 0 0 49)
              rw [World.size_alloc, ← hb8] at this
              exact this
            have hV9 : Box2 (((w2.alloc (.cells #[] 49)).alloc (.cells #[.int .i64 0, .int .i64 0] 49)).alloc (.cells #[.int .i64 0, .int .i64 0] 49)) b9 0 0 := by
              have := Box2.new ((w2.alloc (.cells #[] 49)).alloc (.cells #[.int .i64 0, .int .i64 0] 49)) 0 0 49
              rw [World.size_alloc, World.size_alloc, ← hb9] at this
              exact this
            have HV8 := Lib.hid hV8
            have HV9 := Lib.hid hV9
            clear hV8 hV9
            rw [← hb9, ← hb8]
            have HB8 := Lib.hid hb8
            have HB9 := Lib.hid hb9
            clear hb8 hb9
            go_loopw [7, 53] (fun s t wr => ∃ (k : Nat) (a2 : Option Addr) (c2 : Nat), k ≤ n ∧ t = .int .i64 k ∧ s = .slice a2 k c2 ∧ wr.ownsRow w2.heap.size 49 2 (.slice a2 k c2) k (pv (cornD S k)) ∧ Hid (∀ q, (Value.slice a2 k c2).ownBlock = some q → q ≠ b8 ∧ q ≠ b9) ∧ Box2 wr b8 (lowD S k).1 (lowD S k).2 ∧ Box2 wr b9 (sumD S k).1 (sumD S k).2 ∧ Ext w2 wr) (fun _ t _ => n - (intOf t).toNat)
            case atStart => exact ⟨0, some ⟨w2.heap.size, 0, none⟩, 0, Nat.zero_le _, rfl, rfl, own_ext (((Ext.refl _).alloc _).alloc _) (own_empty w2 w2.heap.size 49 2 (Nat.le_refl _)), Lib.hid (fun q hq => by simp [Value.ownBlock] at hq; have h1 := HB8.out; have h2 := HB9.out; omega), HV8.out, HV9.out, (by repeat (first | exact Ext.refl _ | assumption | apply Ext.alloc | apply Ext.drew | apply Ext.drewN | (refine Ext.trans ?_ (by assumption)) | (refine Ext.setCell ?_ (by (try simp) <;> omega) _)))⟩
            case round =>
              clear HV8 HV9
              obtain ⟨k, a2, c2, hk, rfl, rfl, hown, HAP, H8, H9, hE⟩ := hrel
              by_cases hlt : k < n
              · obtain ⟨_, _, e1, z0, z1⟩ := (own_reads (own_ext hE HO2.out)).pair hlt
                simp only [Option.some.injEq, Addr.mk.injEq, and_true] at e1
                obtain ⟨rfl, rfl⟩ := e1
                have hsb := HSB.out k hk
                have hpq := HPQ.out k hlt
                have hlb := HLB.out k hk
                have HS1 := Lib.hid (show sumD S (k + 1) = ((sumD S k).1 + (pat S k).1, (sumD S k).2 + (pat S k).2) from rfl)
                have HLS := Lib.hid (low_succ S k)
                have HCS := Lib.hid (show cornD S (k + 1) = cornD S k ++ [sumD S k] from cornD_succ S k)
                generalize lowD S k = l at *
                obtain ⟨lx, ly⟩ := l
                generalize pat S k = z at *
                obtain ⟨zx, zy⟩ := z
                generalize sumD S k = p at *
                obtain ⟨px, py⟩ := p
                generalize cornD S k = C at *
                simp only [Nat.zero_add] at z0 z1 hsb hpq hlb HS1 HLS H8 H9
                have h8w := H8.lt
                have h9w := H9.lt
                have HNK := Lib.hid (fun q (hq : (Value.slice a2 k c2).ownBlock = some q) => (hown.lt q hq).2)
                have hsz := hE.size
                have x0 := H9.1 0 _ rfl
                have x1 := H9.1 1 _ rfl
                go_wp2_with (at_builtin; go_must (refine wpList_appK rfl _ _ rfl w2 w2.heap.size _ _ _ C rfl (own_ext (Ext.alloc (Ext.alloc (Ext.refl _) _) _) hown) (some ⟨_, 0, none⟩) 1 1 [(px, py)] rfl (ones_reads2 (by simp) (by simp)) (by omega) (by omega) (by simp; omega) (Ext.alloc (Ext.alloc hE _) _) (Nat.le_refl _) ?_))
                intro a4 c4 w4 hown4 hE4 hg4 hob
                have v0 : w4.cell? ⟨wr.heap.size, 0, none⟩ = some (.int .i64 zx) := grown_keep hg4 (by simp) (fun e => by have := HNK.out _ e.symm; omega)
                have v1 : w4.cell? ⟨wr.heap.size, 1, none⟩ = some (.int .i64 zy) := grown_keep hg4 (by simp) (fun e => by have := HNK.out _ e.symm; omega)
                have K8 : Box2 w4 b8 lx ly := Box2.grown hg4 (fun e => (HAP.out b8 e.symm).1 rfl) (H8.ext (((Ext.refl wr).alloc _).alloc _))
                have K9 : Box2 w4 b9 px py := Box2.grown hg4 (fun e => (HAP.out b9 e.symm).2 rfl) (H9.ext (((Ext.refl wr).alloc _).alloc _))
                have h89 : b8 ≠ b9 := by have h1 := HB8.out; have h2 := HB9.out; omega
                have h98 : b9 ≠ b8 := fun e => h89 e.symm
                have hb8w : w2.heap.size ≤ b8 := by have h1 := HB8.out; omega
                have hb9w : w2.heap.size ≤ b9 := by have h1 := HB9.out; omega
                have HAP4 := Lib.hid (fun q (hq : (Value.slice a4 (k + 1) c4).ownBlock = some q) => show q ≠ b8 ∧ q ≠ b9 by
                  rcases hob with e | e
                  · exact HAP.out q (e ▸ hq)
                  · rw [e] at hq; simp at hq; omega)
                have n1 : wr.heap.size ≠ b8 := by omega
                have n2 : wr.heap.size ≠ b9 := by omega
                have n3 : b8 ≠ wr.heap.size := by omega
                have n4 : b9 ≠ wr.heap.size := by omega
                have k0 := K8.1 0 _ rfl
                have k1 := K8.1 1 _ rfl
                have kf0 := K8.2 0
                have kf1 := K8.2 1
                have m0 := K9.1 0 _ rfl
                have m1 := K9.1 1 _ rfl
                have HX9 := Lib.hid ((K9.far (p := ⟨b8, 0, none⟩) h89 (.int .i64 (minI lx px))).far (p := ⟨b8, 1, none⟩) h89 (.int .i64 (minI ly py)))
                have HX8 := Lib.hid (K8.set (minI lx px) (minI ly py))
                have HO4 := Lib.hid hown4
                have HE4 := Lib.hid hE4
                clear hown4 hE4 hg4 hob hown hE z0 z1 x0 x1 H8 H9 K8 K9 h8w h9w HAP HNK
                go_wp2_with fail
                refine (plus_any px py zx zy (by omega) (by omega) (by omega) (by omega) _).mono ?_
                rintro e w6 ⟨rfl, hb6⟩
                have J9 := HX9.out.ext hb6
                have HJ8 := Lib.hid (HX8.out.ext hb6)
                have HO6 := Lib.hid (own_ext hb6 (own_setFar 1 (.int .i64 (minI ly py)) (own_setFar 0 (.int .i64 (minI lx px)) HO4.out (fun q hq => (HAP4.out q hq).1)) (fun q hq => (HAP4.out q hq).1)))
                have HE6 := Lib.hid (Ext.trans (Ext.setCell (Ext.setCell HE4.out (p := ⟨b8, 0, none⟩) hb8w (.int .i64 (minI lx px))) (p := ⟨b8, 1, none⟩) hb8w (.int .i64 (minI ly py))) hb6)
                have j0 := J9.1 0 _ rfl
                have j1 := J9.1 1 _ rfl
                have jf0 := J9.2 0
                have jf1 := J9.2 1
                have HJ9 := Lib.hid J9
                clear J9 HX9 HX8 HO4 HE4 hb6 v0 v1 k0 k1 kf0 kf1 m0 m1
                go_wp2
                go_roundw
                case rel => exact ⟨k + 1, a4, c4, by omega, by go_num, by rfl, by rw [HCS.out]; exact own_setFar 1 _ (own_setFar 0 _ HO6.out (fun q hq => (HAP4.out q hq).2)) (fun q hq => (HAP4.out q hq).2), HAP4, by rw [HLS.out]; exact (HJ8.out.far h98 _).far h98 _, by rw [HS1.out]; exact HJ9.out.set _ _, Ext.setCell (Ext.setCell HE6.out hb9w _) hb9w _⟩
                case measure => simp [intOf]; omega
              · obtain rfl : n = k := by omega
                have hlb := HLB.out n hk
                have hlen : (cornD S n).length = n := cornD_len S n
                have HPB := Lib.hid (fun j (hj : j < n) => show (-10000 ≤ (pat (cornD S n) j).1 ∧ (pat (cornD S n) j).1 ≤ 10000) ∧ (-10000 ≤ (pat (cornD S n) j).2 ∧ (pat (cornD S n) j).2 ≤ 10000) by
                  rw [cornD_at hj]; have := HSB.out j (by omega); omega)
                generalize cornD S n = C at *
                generalize lowD S n = l at *
                obtain ⟨lx, ly⟩ := l
                obtain ⟨g2, rfl, hg3, hg4⟩ := own_head hown h00
                have hcap := (own_capQ hown).1
                have h28 : g2 ≠ b8 := (HAP.out g2 rfl).1
                have h82 : b8 ≠ g2 := fun e => h28 e.symm
                have hb8w : w2.heap.size ≤ b8 := by have h1 := HB8.out; omega
                have HLN := Lib.hid hlen
                have hown0 : wr.ownsRow w2.heap.size 49 2 (.slice (some ⟨g2, 0, none⟩) n c2) n (pv (partD (lx, ly) C 0)) := by rw [partD_zero]; exact hown
                have HO7 := Lib.hid hown0
                have H87 := Lib.hid H8
                have HE7 := Lib.hid hE
                simp only at hlb
                clear hown hown0 H8 H9 hE HAP HSB HPQ HLB HO2 hlen HB8 HB9
                go_wp2
                go_loopw [78] (fun t wr => ∃ (i : Nat), i ≤ n ∧ t = .int .i64 i ∧ wr.ownsRow w2.heap.size 49 2 (.slice (some ⟨g2, 0, none⟩) n c2) n (pv (partD (lx, ly) C i)) ∧ Hid (∀ j, j < i → ptB ((pat C j).1 - lx) ((pat C j).2 - ly) = true) ∧ Box2 wr b8 lx ly ∧ Ext w2 wr) (fun t _ => n - (intOf t).toNat)
                case atStart => exact ⟨0, Nat.zero_le _, rfl, HO7.out, Lib.hid (fun j hj => by omega), H87.out, HE7.out⟩
                case round =>
                  clear HO7 H87 HE7
                  obtain ⟨i, hi, rfl, hown, HP, H8, hE⟩ := hrel
                  by_cases hlt : i < n
                  · obtain ⟨_, _, e1, z0, z1⟩ := (own_reads hown).pair hlt
                    simp only [Option.some.injEq, Addr.mk.injEq, and_true] at e1
                    obtain ⟨rfl, rfl⟩ := e1
                    have hiC : i < C.length := by have := HLN.out; omega
                    rw [partD_at hiC] at z0 z1
                    have hzb := HPB.out i hlt
                    have HST := Lib.hid (partD_step (p := (lx, ly)) hiC)
                    have HPL := Lib.hid (show i < (partD (lx, ly) C i).length by rw [partD_len (by omega)]; exact hiC)
                    have HP1 := Lib.hid (fun (e : ptB ((pat C i).1 - lx) ((pat C i).2 - ly) = true) j (hj : j < i + 1) => show ptB ((pat C j).1 - lx) ((pat C j).2 - ly) = true by
                      rcases (show j < i ∨ j = i by omega) with h | h
                      · exact HP.out j h
                      · subst h; exact e)
                    have HNO := Lib.hid (fun (e : ptB ((pat C i).1 - lx) ((pat C i).2 - ly) = false) => show okD S = false by
                      rw [HOK.out, HCD.out]
                      exact all_not (j := i) (by rw [movD_len]; exact hiC) (by rw [movD_at hiC]; exact e))
                    have HPT := Lib.hid (fun w => isPoint_any ((pat C i).1 - lx) ((pat C i).2 - ly) w)
                    generalize pat C i = z at *
                    obtain ⟨zx, zy⟩ := z
                    simp only [Nat.zero_add] at z0 z1 hzb HST HP1 HNO HPT
                    have h8w := H8.lt
                    have m0 := H8.1 0 _ rfl
                    have m1 := H8.1 1 _ rfl
                    have HO := Lib.hid hown
                    have HH8 := Lib.hid H8
                    have HEk := Lib.hid hE
                    have hgw := (hown.lt g2 rfl)
                    have hgw2 := hgw.2
                    clear hown H8 hE HP hiC hgw
                    go_wp2_with fail
                    refine (minus_any zx zy lx ly (by omega) (by omega) (by omega) (by omega) _).mono ?_
                    rintro e w5 ⟨rfl, hb5⟩
                    have hE5 := ((Ext.refl wr).alloc (.cells #[.int .i64 zx, .int .i64 zy] 49)).trans hb5
                    have hO5 := own_ext hE5 HO.out
                    have y0 := hE5.keep z0
                    have y1 := hE5.keep z1
                    have f0 := hO5.frozenAt (i * 2)
                    have f1 := hO5.frozenAt (i * 2 + 1)
                    have s0 := hO5.stored (i * 2) (.int .i64 (zx - lx))
                    have s1 := s0.1.stored (i * 2 + 1) (.int .i64 (zy - ly))
                    have HO6 := Lib.hid (show ((w5.setCell ⟨g2, i * 2, none⟩ (.int .i64 (zx - lx))).setCell ⟨g2, i * 2 + 1, none⟩ (.int .i64 (zy - ly))).ownsRow w2.heap.size 49 2 (.slice (some ⟨g2, 0, none⟩) n c2) n (pv (partD (lx, ly) C (i + 1))) by
                      have h1 := s1.1
                      rw [pv_set2 _ _ _ _ HPL.out, HST.out] at h1
                      exact h1)
                    have H86 := Lib.hid (((HH8.out.ext hE5).far (p := ⟨g2, i * 2, none⟩) h28 (.int .i64 (zx - lx))).far (p := ⟨g2, i * 2 + 1, none⟩) h28 (.int .i64 (zy - ly)))
                    have HE6 := Lib.hid (Ext.setCell (Ext.setCell (HEk.out.trans hE5) (p := ⟨g2, i * 2, none⟩) hg3 (.int .i64 (zx - lx))) (p := ⟨g2, i * 2 + 1, none⟩) hg3 (.int .i64 (zy - ly)))
                    clear s0 s1 hO5 hb5 hE5 z0 z1 m0 m1 HO HH8 HEk HST HPL
                    go_wp2_with fail
                    cases hp : ptB (zx - lx) (zy - ly)
                    · rw [hp] at HPT
                      have HFA := Lib.hid (HNO.out hp)
                      clear HNO HP1
                      refine (HPT.out _).mono ?_
                      rintro e w6 ⟨rfl, hb6⟩
                      go_wp2
                      go_ret2
                      rw [HFA.out]
                      exact ⟨none, 0, rfl, own_nonePt _ _, HE2.out.trans (HE6.out.trans hb6)⟩
                    · rw [hp] at HPT
                      have HP2 := Lib.hid (HP1.out hp)
                      clear HNO HP1
                      refine (HPT.out _).mono ?_
                      rintro e w6 ⟨rfl, hb6⟩
                      go_wp2
                      go_roundw
                      case rel => exact ⟨i + 1, by omega, by go_num, own_ext hb6 HO6.out, HP2, H86.out.ext hb6, HE6.out.trans hb6⟩
                      case measure => simp [intOf]; omega
                  · obtain rfl : n = i := by omega
                    have hM : partD (lx, ly) C n = cornsD S := by
                      rw [HCD.out]
                      have := partD_full (lx, ly) C
                      rw [HLN.out] at this
                      exact this
                    rw [hM] at hown
                    have hat : ∀ j, j < n → ptB (pat (cornsD S) j).1 (pat (cornsD S) j).2 = true := fun j hj => by
                      rw [HCD.out, movD_at (by rw [HLN.out]; exact hj)]
                      exact HP.out j hj
                    have HFA := Lib.hid (show okD S = true by rw [HOK.out]; exact all_pat.2 (by rw [hcl]; exact hat))
                    have HPBM := Lib.hid (fun j (hj : j < n) => show PB (pat (cornsD S) j) by have := ptB_bd (hat j hj); unfold PB; omega)
                    have HFST := Lib.hid (firstT_first (l := cornsD S) n).1
                    have hf := firstT_lt (cornsD S) n h00
                    have HM := Lib.hid (fun w h => minP_any (some ⟨g2, 0, none⟩) n c2 (cornsD S) (by omega) (by omega) HPBM.out w h)
                    have HX := Lib.hid (fun w h => indexP_any (some ⟨g2, 0, none⟩) n c2 (cornsD S) _ _ (by omega) _ hf rfl HFST.out w h)
                    have HAL := Lib.hid hal
                    have HCL := Lib.hid hcl
                    generalize cornsD S = M at *
                    generalize firstT M n = f at *
                    have HO := Lib.hid hown
                    have HEk := Lib.hid hE
                    clear hat hM HP H8 hown hE hal hcl HPBM HFST HPB HCD HOK HSQ
                    go_wp2_with fail
                    refine (HM.out _ (own_reads HO.out)).mono ?_
                    rintro e w5 ⟨rfl, hb5⟩
                    have HO5 := Lib.hid (own_ext hb5 HO.out)
                    have HE5 := Lib.hid (HEk.out.trans hb5)
                    clear HM HO HEk hb5
                    go_wp2_with fail
                    refine (HX.out _ (own_reads HO5.out)).mono ?_
                    rintro e w6 ⟨rfl, hb6⟩
                    have HO6 := Lib.hid (own_ext hb6 HO5.out)
                    have HE6 := Lib.hid (HE5.out.trans hb6)
                    clear HX HO5 HE5 hb6
                    obtain ⟨m, rfl⟩ : ∃ m, n = f + 1 + m := ⟨n - f - 1, by omega⟩
                    have HRA := Lib.hid (fun w' (e : Ext w6 w') => show Reads w' (some ⟨g2, f * 2, none⟩) 2 (m + 1) (pv (M.drop f)) by
                      have := (own_reads (own_ext e HO6.out)).drop (k := f) (by omega)
                      rw [pv_drop, Nat.zero_add] at this
                      rwa [show f + 1 + m - f = m + 1 by omega] at this)
                    have HRD := Lib.hid (fun w' (e : Ext w6 w') => show Reads w' (some ⟨g2, 0, none⟩) 2 f (pv (M.take f)) by
                      have := (own_reads (own_ext e HO6.out)).take (k := f) (by omega)
                      rwa [pv_take] at this)
                    have q1 : f + 1 + m - f = m + 1 := by omega
                    have q2 : ((f + 1 + m - f : Nat) : Int) = (m : Int) + 1 := by omega
                    have q3 : ¬ c2 = f := by omega
                    have q4 : f ≤ c2 := by omega
                    have q5 : (f : Int) ≤ (f : Int) + 1 + (m : Int) := by omega
                    have q6 : (0 : Int) ≤ (f : Int) := by omega
                    have q7 : (f : Int) ≤ (c2 : Int) := by omega
                    have q8 : ¬ ((f : Int) + 1 + (m : Int) < (f : Int)) := by omega
                    go_wp2
                    go_region_held3 (fun w' => Ext w6 w') (first | exact HEZ.out | (repeat (first | exact Ext.refl _ | assumption | apply Ext.alloc | apply Ext.drew | apply Ext.drewN | (refine Ext.trans ?_ (by assumption)) | (refine Ext.setCell ?_ (by (try simp) <;> omega) _)))) (first | (go_at_call 40; refine (concatPoint_any (some ⟨g2, f * 2, none⟩) (some ⟨g2, 0, none⟩) (m + 1) f (c2 - f) c2 w6.heap.size (M.drop f) (M.take f) (by omega) (by omega) _ (HRA.out _ (by repeat (first | exact Ext.refl _ | assumption | apply Ext.alloc | apply Ext.drew | apply Ext.drewN | (refine Ext.trans ?_ (by assumption)) | (refine Ext.setCell ?_ (by (try simp) <;> omega) _)))) (HRD.out _ (by repeat (first | exact Ext.refl _ | assumption | apply Ext.alloc | apply Ext.drew | apply Ext.drewN | (refine Ext.trans ?_ (by assumption)) | (refine Ext.setCell ?_ (by (try simp) <;> omega) _)))) (by simp) (by simp)).mono ?_; rintro e w7 ⟨a7, c7, rfl, hown7, hb7⟩; have HEZ := Lib.hid (Ext.trans (show Ext w6 _ from (by repeat (first | exact Ext.refl _ | assumption | apply Ext.alloc | apply Ext.drew | apply Ext.drewN | (refine Ext.trans ?_ (by assumption)) | (refine Ext.setCell ?_ (by (try simp) <;> omega) _)))) hb7); have HZ := Lib.hid (own_mono (B' := w6.heap.size) (by simp) hown7); clear hown7 hb7))
                    go_wp2
                    go_ret2
                    rw [HFA.out]
                    have hz := own_mono (Ext.size HE2.out) (own_mono (Ext.size HE6.out) HZ.out)
                    have hz2 : (gP true (ansD S)).length = m + 1 + f := by show (ansD S).length = _; rw [HAL.out]; omega
                    have hz3 : pv (gP true (ansD S)) = pv (M.drop f ++ M.take f) := by show pv (ansD S) = _; rw [HFULL.out]
                    exact ⟨a7, c7, (by rw [hz2] <;> rfl), by rw [hz2, hz3]; exact hz, HE2.out.trans (HE6.out.trans HEZ.out)⟩
end Go.Proofs.Ytaloegjcdllgoaa
