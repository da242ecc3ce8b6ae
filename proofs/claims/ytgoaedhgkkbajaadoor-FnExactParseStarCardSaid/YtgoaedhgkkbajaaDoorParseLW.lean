/-
  Whole numbers with separators, read by the program; a line read of a text by the program; the law of ParseLine.
-/
import Derived.Test.YtgoaedhgkkbajaaDoorParseLS
import Derived.Test.YtgoaedhgkkbajaaDoorAway
import Derived.Lib.SliceRun
namespace Go.Proofs.YtgoaedhgkkbajaaDoor
open Go.RowKit

theorem wholeL_cons (b : UInt8) (r s : List UInt8) : wholeL (b :: r) s = (atV (Lib.cut s [b]).1).bind fun n => if (Lib.cut s [b]).2.2 = true then (wholeL r (Lib.cut s [b]).2.1).map (n :: ·) else none := by
  rw [wholeL]
  cases atV (Lib.cut s [b]).1 with
  | none => rfl
  | some n =>
    simp only [Option.bind_some]
    split
    · cases wholeL r (Lib.cut s [b]).2.1 <;> rfl
    · rfl
theorem wholeL_nil (s : List UInt8) : wholeL [] s = (atV s).map ([·]) := by
  rw [wholeL]
  cases atV s <;> rfl
/-- What splitWhole hands back: none, or a slice of the call's own. -/
def WholeIs (o : Option (List Int)) (w : World) (r : Ending) (w' : World) : Prop := match o with
  | none => r = .returned (.tuple #[.slice none 0 0, .bool false]) ∧ Ext w w'
  | some xs => ∃ a c, r = .returned (.tuple #[.slice a xs.length c, .bool true]) ∧ w'.ownsRow w.heap.size 3 1 (.slice a xs.length c) xs.length (iv xs) ∧ Ext w w'
/-- How far splitWhole is. -/
def WSt (l : List UInt8) (bs : List UInt8) (i : Nat) (ns : List Int) (cur : List UInt8) : Prop :=
  (i ≤ bs.length → wholeL bs l = (wholeL (bs.drop i) cur).map (ns ++ ·)) ∧ (i = bs.length + 1 → wholeL bs l = some ns)
theorem WSt.start (l bs : List UInt8) : WSt l bs 0 [] l := ⟨fun _ => by simp, fun h => by omega⟩
theorem WSt.bad {l bs cur : List UInt8} {i : Nat} {ns : List Int} (h : WSt l bs i ns cur) {e : UInt8} (he : bs[i]? = some e) (hb : atV (Lib.cut cur [e]).1 = none ∨ (Lib.cut cur [e]).2.2 = false) : wholeL bs l = none := by
  have hi := (List.getElem?_eq_some_iff.1 he).1
  rw [h.1 (by omega), show bs.drop i = e :: bs.drop (i + 1) by rw [List.drop_eq_getElem_cons hi]; simp [(List.getElem?_eq_some_iff.1 he).2], wholeL_cons]
  rcases hb with hb | hb
  · rw [hb]; rfl
  · rw [hb]; cases atV (Lib.cut cur [e]).1 <;> rfl
theorem WSt.step {l bs cur : List UInt8} {i : Nat} {ns : List Int} (h : WSt l bs i ns cur) {e : UInt8} (he : bs[i]? = some e) {n : Int} (ha : atV (Lib.cut cur [e]).1 = some n) (hf : (Lib.cut cur [e]).2.2 = true) :
    WSt l bs (i + 1) (ns ++ [n]) (Lib.cut cur [e]).2.1 := by
  have hi := (List.getElem?_eq_some_iff.1 he).1
  refine ⟨fun _ => ?_, fun h => by omega⟩
  rw [h.1 (by omega), show bs.drop i = e :: bs.drop (i + 1) by rw [List.drop_eq_getElem_cons hi]; simp [(List.getElem?_eq_some_iff.1 he).2], wholeL_cons, ha, hf]
  simp only [Option.bind_some, if_true, Option.map_map]
  congr 1
  funext x
  simp
theorem WSt.badLast {l bs cur : List UInt8} {ns : List Int} (h : WSt l bs bs.length ns cur) (hb : atV cur = none) : wholeL bs l = none := by
  rw [h.1 (Nat.le_refl _), List.drop_length, wholeL_nil, hb]; rfl
theorem WSt.last {l bs cur : List UInt8} {ns : List Int} (h : WSt l bs bs.length ns cur) {n : Int} (ha : atV cur = some n) (c : List UInt8) : WSt l bs (bs.length + 1) (ns ++ [n]) c :=
  ⟨fun h => by omega, fun _ => by rw [h.1 (Nat.le_refl _), List.drop_length, wholeL_nil, ha]; rfl⟩
theorem reads2 (w : World) (g : Nat) (x y : Value) (h0 : w.cell? ⟨g, 0, none⟩ = some x) (h1 : w.cell? ⟨g, 1, none⟩ = some y) : Reads w (some ⟨g, 0, none⟩) 1 2 [x, y] :=
  ⟨rfl, fun _ => ⟨g, 0, rfl, fun j u hj => by
    match j, hj with
    | 0, hj => simp at hj; subst hj; simpa using h0
    | 1, hj => simp at hj; subst hj; simpa using h1⟩⟩
theorem cloneS_any (g : Nat) (S0 S1 : ByteArray) (w : World) (h0 : w.cell? ⟨g, 0, none⟩ = some (.string S0)) (h1 : w.cell? ⟨g, 1, none⟩ = some (.string S1)) :
    Calls Tryd.prog 88 #[.slice (some ⟨g, 0, none⟩) 2 2] w fun r w' => ∃ a1 c1, r = .returned (.slice a1 2 c1) ∧ w'.ownsRow w.heap.size 9 1 (.slice a1 2 c1) 2 [.string S0, .string S1] ∧ Ext w w' := by
  obtain ⟨i0, hz1, hz2, hz3, hz4⟩ := info_parts str_info
  have HZI := Lib.hid (And.intro hz1 (And.intro hz2 (And.intro hz3 hz4)))
  clear hz1 hz2 hz3 hz4
  have HR := Lib.hid (fun w' (e : Ext w w') => reads2 w' g _ _ (e.keep h0) (e.keep h1))
  have q : ∀ (w : World) (a : Option Addr) (n c n' c' : Nat), (binOp .eql 80 (.slice a n c) (.slice none n' c')).run Tryd.prog w = .ok (.bool a.isNone) w := fun w a n c n' c' => Lib.run_eql_slice_nil w _ _ a n c n' c' Tryd.underlying80
  clear h0 h1
  go_enter Tryd.func88, Tryd.ntmps88
  have H0 := Lib.hid (World.ownsRow_lit (base := w.heap.size) (e := 9) (size := 1) w #[] 0 (Nat.le_refl _) (by unfold maxLen; omega) rfl)
  go_wp2_with (at_builtin; go_must (refine wpList_app_any _ rfl _ _ 80 rfl w.heap.size 9 i0 _ 1 16 Tryd.underlying80 HZI.out.1 HZI.out.2.1 HZI.out.2.2.1 HZI.out.2.2.2 rfl (by decide) _ 0 [] rfl H0.out _ 2 2 [.string S0, .string S1] rfl (HR.out _ (Ext.alloc (Ext.refl _) _)) (by simp [Value.oneCell']) (by unfold maxLen; omega) (by omega) (by simp) ?_))
  intro a1 c1 w2 ho2 hg2 _
  have hE2 := Ext.grown (Ext.alloc (Ext.refl w) _) hg2 (fun k hk => by simp [Value.ownBlock] at hk; omega)
  go_wp2
  go_ret
  exact ⟨a1, c1, rfl, by simpa using ho2, hE2⟩
set_option maxHeartbeats 4000000 in
set_option maxRecDepth 100000 in
set_option linter.unusedSimpArgs false in
theorem splitWhole_any (l : List UInt8) (b d : UInt8) (hl : l.length ≤ 1048576) (g : Nat) (w : World) (h0 : w.cell? ⟨g, 0, none⟩ = some (.string ⟨#[b]⟩)) (h1 : w.cell? ⟨g, 1, none⟩ = some (.string ⟨#[d]⟩)) (he : Env w) :
    Calls Tryd.prog 60 #[.string (txt l), .slice (some ⟨g, 0, none⟩) 2 2] w (WholeIs (wholeL [b, d] l) w) := by
  have HEN := Lib.hid (fun w' (e : Ext w w') => he.ext e)
  have HCL := Lib.hid (fun w' (e : Ext w w') => cloneS_any g _ _ w' (e.keep h0) (e.keep h1))
  obtain ⟨i0, hz1, hz2, hz3, hz4⟩ := info_parts str_info
  have HZI := Lib.hid (And.intro hz1 (And.intro hz2 (And.intro hz3 hz4)))
  clear hz1 hz2 hz3 hz4 he h0 h1
  go_enter Tryd.func60, Tryd.ntmps60
  have H0 := Lib.hid (World.ownsRow_lit (base := w.heap.size) (e := 3) (size := 1) w #[] 0 (Nat.le_refl _) (by unfold maxLen; omega) rfl)
  have hx := Ext.alloc (Ext.refl w) (.cells #[] 3)
  go_wp2_with fail
  refine (HCL.out _ hx).mono ?_
  rintro e w1 ⟨a1, c1, rfl, hown1, hb1⟩
  rw [show (w.alloc (.cells #[] 3)).heap.size = w.heap.size + 1 by simp] at hown1
  have HO1 := Lib.hid hown1
  have hz1 : w.heap.size + 1 ≤ w1.heap.size := by have := hb1.size; simpa using this
  have H1 := Lib.hid (own_ext hb1 H0.out)
  replace hb1 := hx.trans hb1
  clear hown1 hx
  go_wp2_with (at_builtin; go_must (refine wpList_app_any _ rfl _ _ 80 rfl (w.heap.size + 1) 9 i0 _ 1 16 Tryd.underlying80 HZI.out.1 HZI.out.2.1 HZI.out.2.2.1 HZI.out.2.2.2 rfl (by decide) _ 2 _ rfl (own_ext (Ext.alloc (Ext.refl _) _) HO1.out) _ _ _ [.string ⟨#[]⟩] rfl (ones_reads1 _ _ _ (by simp)) (by simp [Value.oneCell']) (by unfold maxLen; omega) (by omega) (by have := hz1; simp <;> omega) ?_))
  intro a3 c3 w3 hown3 hgr3 _
  have H3 := Lib.hid (own_away (own_ext (Ext.alloc (Ext.refl w1) _) H1.out) hgr3 (fun q hq e => by have h1 := (HO1.out.lt q e).1; simp [Value.ownBlock] at hq; omega))
  have e3 : Ext w w3 := Ext.grown (Ext.alloc hb1 _) hgr3 (fun k hk => by have := (HO1.out.lt k hk).1; omega)
  obtain ⟨gr, rfl, hg1, hg2⟩ := own_head hown3 (by omega)
  have HAw := Lib.hid (show AwayFrom w3 (.slice (some ⟨w.heap.size, 0, none⟩) 0 0) gr [.string ⟨#[b]⟩, .string ⟨#[d]⟩, .string ⟨#[]⟩] from ⟨fun i u hu => by
    have hj2 := (List.getElem?_eq_some_iff.1 hu).1
    exact (hown3.cellAt i (by simp at hj2; omega)).trans hu, fun e => by simp [Value.ownBlock] at e; omega⟩)
  clear hown3 hgr3 HO1 hb1 H0 H1
  go_wp2
  go_loopw [0, 6, 20] (fun sv s t wr => ∃ (i : Nat) (a : Option Addr) (c : Nat) (ns : List Int) (cur : List UInt8), i ≤ 3 ∧ t = .int .i64 i ∧ sv = .string (txt cur) ∧ s = .slice a i c ∧ wr.ownsRow w.heap.size 3 1 (.slice a i c) i (iv ns) ∧ Hid (AwayFrom wr (.slice a i c) gr [.string ⟨#[b]⟩, .string ⟨#[d]⟩, .string ⟨#[]⟩]) ∧ Hid (ns.length = i) ∧ Hid (WSt l [b, d] i ns cur) ∧ cur.length ≤ 1048576 ∧ Ext w wr) (fun _ _ t _ => 3 - (intOf t).toNat)
  case atStart => exact ⟨0, _, _, [], l, by omega, rfl, rfl, rfl, H3.out, HAw, Lib.hid rfl, Lib.hid (WSt.start _ _), hl, e3⟩
  case round =>
    clear H3 HAw
    obtain ⟨i, a, c, ns, cur, hi, rfl, rfl, rfl, hown, HAw, HL, HSt, hcl, hE⟩ := hrel
    by_cases h3 : i < 3
    · by_cases h2 : i < 2
      · obtain ⟨x, hx⟩ : ∃ x, [b, d][i]? = some x := ⟨[b, d][i]'(by simp; omega), by simp [h2]⟩
        obtain ⟨S, hS⟩ : ∃ S : ByteArray, S = ⟨#[x]⟩ := ⟨_, rfl⟩
        have hc : wr.cell? ⟨gr, i, none⟩ = some (.string S) := HAw.out.1 i _ (by rw [hS]; match i, hx with | 0, hx => simp at hx; subst hx; rfl | 1, hx => simp at hx; subst hx; rfl)
        have hgw : gr < wr.heap.size := HAw.out.1.lt (by simp)
        have hq : (S.toList == []) = false := by rw [hS, show (⟨#[x]⟩ : ByteArray) = txt [x] from rfl, txt_toList]; rfl
        have HCut := Lib.hid (fun w' (e : Ext w w') => cut_any cur x hcl w' (HEN.out w' e))
        rw [← hS] at HCut
        have l1 := Nat.le_trans (cut_len cur [x]).1 hcl
        have l2 := Nat.le_trans (cut_len cur [x]).2 hcl
        have HBad := Lib.hid (fun hb => HSt.out.bad hx hb)
        have HStep := Lib.hid (fun n ha hf => HSt.out.step hx (n := n) ha hf)
        generalize Lib.cut cur [x] = cc at *
        obtain ⟨p, rest, f⟩ := cc
        simp only at l1 l2 HBad HStep HCut
        clear hS hx HSt
        cases ha : atV p
        · have HA := Lib.hid (fun w' (e : Ext w w') => atoi_no p ha l1 w' (HEN.out w' e))
          have HV := Lib.hid (HBad.out (.inl ha))
          clear HBad HStep ha hown
          cases f
          all_goals (
            go_wp2_with fail
            refine (HCut.out _ hE).mono ?_
            rintro e w5 ⟨rfl, hb5⟩
            have e5 := hE.trans hb5
            go_wp2_with fail
            refine (HA.out _ e5).mono ?_
            rintro e w6 ⟨v, N, rfl, hb6⟩
            have e6 := e5.trans hb6
            go_wp2
            go_ret2
            rw [HV.out]
            exact ⟨rfl, e6⟩)
        · rename_i n
          have HA := Lib.hid (fun w' (e : Ext w w') => atoi_yes p n ha l1 w')
          cases f
          · have HV := Lib.hid (HBad.out (.inr rfl))
            clear HBad HStep ha hown
            go_wp2_with fail
            refine (HCut.out _ hE).mono ?_
            rintro e w5 ⟨rfl, hb5⟩
            have e5 := hE.trans hb5
            go_wp2_with fail
            refine (HA.out _ e5).mono ?_
            rintro e w6 ⟨rfl, hb6⟩
            have e6 := e5.trans hb6
            go_wp2
            go_ret2
            rw [HV.out]
            exact ⟨rfl, e6⟩
          · have HNx := Lib.hid (HStep.out n ha rfl)
            clear HBad HStep ha
            go_wp2_with fail
            refine (HCut.out _ hE).mono ?_
            rintro e w4 ⟨rfl, hb4⟩
            have e4 := hE.trans hb4
            go_wp2_with fail
            refine (HA.out _ e4).mono ?_
            rintro e w5 ⟨rfl, hb5⟩
            have e5 := e4.trans hb5
            have HO := Lib.hid (own_ext (hb4.trans hb5) hown)
            have HAw5 := Lib.hid (HAw.out.ext (hb4.trans hb5))
            clear hown hb4 hb5 hE e4 HAw
            go_wp2_with (at_builtin; refine wpList_app1a rfl _ _ rfl w w.heap.size _ _ _ ns n rfl (HO.out.alloc _) w5.heap.size rfl (by simp) (by omega) (by have := e5.size; simp; omega) (e5.alloc _) (Nat.le_refl _) ?_)
            intro a7 c7 w7 hown7 hE7 hap7 _
            have HAw7 := Lib.hid (hap7 gr [.string ⟨#[b]⟩, .string ⟨#[d]⟩, .string ⟨#[]⟩] (by simp) (HAw5.out.ext (Ext.alloc (Ext.refl w5) _)))
            clear hap7
            go_wp2
            go_roundw
            case rel => exact ⟨i + 1, a7, c7, ns ++ [n], rest, by omega, by go_num, rfl, by simp, by simpa using hown7, by simpa using HAw7, Lib.hid (by rw [List.length_append, HL.out]; rfl), HNx, by first | omega | simp, hE7⟩
            case measure => simp [intOf] <;> omega
      · obtain rfl : i = 2 := by omega
        have hc : wr.cell? ⟨gr, 2, none⟩ = some (.string ⟨#[]⟩) := HAw.out.1 2 _ rfl
        have hgw : gr < wr.heap.size := HAw.out.1.lt (by simp)
        cases ha : atV cur
        · have HA := Lib.hid (fun w' (e : Ext w w') => atoi_no cur ha hcl w' (HEN.out w' e))
          have HV := Lib.hid (HSt.out.badLast ha)
          clear ha hown
          go_wp2_with fail
          refine (HA.out _ hE).mono ?_
          rintro e w6 ⟨v, N, rfl, hb6⟩
          have e6 := hE.trans hb6
          go_wp2
          go_ret2
          rw [HV.out]
          exact ⟨rfl, e6⟩
        · rename_i n
          have HA := Lib.hid (fun w' (e : Ext w w') => atoi_yes cur n ha hcl w')
          have HNx := Lib.hid (HSt.out.last ha [])
          clear ha
          go_wp2_with fail
          refine (HA.out _ hE).mono ?_
          rintro e w5 ⟨rfl, hb5⟩
          have e5 := hE.trans hb5
          have HO := Lib.hid (own_ext hb5 hown)
          have HAw5 := Lib.hid (HAw.out.ext hb5)
          clear hown hb5 hE HAw
          go_wp2_with (at_builtin; refine wpList_app1a rfl _ _ rfl w w.heap.size _ _ _ ns n rfl (HO.out.alloc _) w5.heap.size rfl (by simp) (by omega) (by have := e5.size; simp; omega) (e5.alloc _) (Nat.le_refl _) ?_)
          intro a7 c7 w7 hown7 hE7 hap7 _
          have HAw7 := Lib.hid (hap7 gr [.string ⟨#[b]⟩, .string ⟨#[d]⟩, .string ⟨#[]⟩] (by simp) (HAw5.out.ext (Ext.alloc (Ext.refl w5) _)))
          clear hap7
          go_wp2
          go_roundw
          case rel => exact ⟨3, a7, c7, ns ++ [n], [], by omega, by go_num, rfl, by simp, by simpa using hown7, by simpa using HAw7, Lib.hid (by rw [List.length_append, HL.out]; rfl), HNx, by first | omega | simp, hE7⟩
          case measure => simp [intOf] <;> omega
    · obtain rfl : i = 3 := by omega
      have HV := Lib.hid (HSt.out.2 rfl)
      obtain ⟨x, y, z, rfl⟩ : ∃ x y z, ns = [x, y, z] := by
        match ns, HL.out with
        | [x, y, z], _ => exact ⟨x, y, z, rfl⟩
      clear HAw HSt HL
      go_wp2
      go_ret2
      rw [HV.out]
      exact ⟨a, c, rfl, hown, hE⟩
end Go.Proofs.YtgoaedhgkkbajaaDoor
