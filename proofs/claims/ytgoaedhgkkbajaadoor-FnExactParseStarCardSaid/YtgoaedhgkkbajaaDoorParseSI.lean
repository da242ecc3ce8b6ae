/-
  A star read of a text by the program.
-/
import Derived.Test.YtgoaedhgkkbajaaDoorParseSS
import Derived.Test.YtgoaedhgkkbajaaDoorShelfS
import Derived.Lib.SplitLaws
import Derived.Lib.CountLaws
import Derived.Shelf.Strings.Split
namespace Go.Proofs.YtgoaedhgkkbajaaDoor
open Go.RowKit

theorem first_of (b : UInt8) : ∀ l : List UInt8, (∀ c ∈ l, c ≠ b) ∨ ∃ a t, l = a ++ b :: t ∧ ∀ c ∈ a, c ≠ b
  | [] => .inl (by simp)
  | c :: r => by
    by_cases h : c = b
    · exact .inr ⟨[], r, by simp [h], by simp⟩
    · rcases first_of b r with h1 | ⟨a, t, h1, h2⟩
      · exact .inl fun x hx => by
          rcases List.mem_cons.1 hx with rfl | hx
          · exact h
          · exact h1 x hx
      · exact .inr ⟨c :: a, t, by rw [h1]; rfl, fun x hx => by
          rcases List.mem_cons.1 hx with rfl | hx
          · exact h
          · exact h2 x hx⟩
theorem splitK_L (b : UInt8) : ∀ (n : Nat) (l : List UInt8), l.length ≤ n → Lib.splitK [b] 0 (Lib.count l [b]) l = splitL b l := by
  intro n
  induction n with
  | zero =>
    intro l hl
    obtain rfl := List.eq_nil_of_length_eq_zero (show l.length = 0 by omega)
    rfl
  | succ n ih =>
    intro l hl
    rcases first_of b l with h | ⟨a, t, rfl, h⟩
    · rw [Lib.count_miss (index_miss l h)]
      unfold splitL
      rw [splitGo_none _ _ h]
      rfl
    · have hi := index_hit (t := t) a h
      have hd : (a ++ b :: t).drop (a.length + [b].length) = t := by simp
      rw [Lib.count_hit (by simp) hi, hd, Nat.add_comm, Lib.splitK, hi]
      have hne : (((a.length : Int)) == -1) = false := by simp only [beq_eq_false_iff_ne, ne_eq]; omega
      rw [hne]
      have ht : (a ++ b :: t).take ((a.length : Int).toNat + 0) = a := by simp
      have hd2 : (a ++ b :: t).drop ((a.length : Int).toNat + [b].length) = t := by simp
      rw [if_neg (by simp), ht, hd2, ih t (by simp at hl; omega)]
      unfold splitL
      rw [splitGo_some _ _ _ h]
      rfl
theorem splitB_L (b : UInt8) (l : List UInt8) : (Lib.splitB ⟨#[b]⟩ 0 (Lib.countB (txt l) ⟨#[b]⟩) (txt l)).map Value.string = sv (splitL b l) := by
  have h := Lib.splitB_data ⟨#[b]⟩ 0 (Lib.countB (txt l) ⟨#[b]⟩) (txt l)
  rw [txt_data, show (⟨#[b]⟩ : ByteArray).data.toList = [b] from rfl, show Lib.countB (txt l) ⟨#[b]⟩ = Lib.count l [b] by unfold Lib.countB; rw [txt_data], splitK_L b _ l (Nat.le_refl _)] at h
  rw [← h, sv, List.map_map, show Lib.countB (txt l) ⟨#[b]⟩ = Lib.count l [b] by unfold Lib.countB; rw [txt_data]]
  apply List.map_congr_left
  intro x _
  show Value.string x = Value.string (txt x.data.toList)
  congr 1
theorem split_any (l : List UInt8) (b : UInt8) (hl : l.length ≤ 1048576) (w : World) (he : Env w) :
    Calls Tryd.prog 89 #[.string (txt l), .string ⟨#[b]⟩] w fun r w' => ∃ g c, r = .returned (.slice (some ⟨g, 0, none⟩) (splitL b l).length c) ∧ (splitL b l).length ≤ c ∧ c ≤ 2000000 ∧ Has w' g (sv (splitL b l)) ∧ w.heap.size ≤ g ∧ Ext w w' := by
  have hs := txt_size l
  obtain ⟨m, hm⟩ := he.max
  have hc := Any.strings_Split laySplit str_info (txt l) ⟨#[b]⟩ m w (by omega) hm (show 1 ≤ (⟨#[b]⟩ : ByteArray).size from Nat.le_refl 1)
  have e := splitB_L b l
  have hlen : Lib.countB (txt l) ⟨#[b]⟩ + 1 = (splitL b l).length := by
    have h1 := congrArg List.length e
    rw [List.length_map, sv, List.length_map] at h1
    have h2 := Lib.splitB_all (⟨#[b]⟩ : ByteArray) (show 1 ≤ (⟨#[b]⟩ : ByteArray).size from Nat.le_refl 1) 0 _ (txt l) rfl
    omega
  have hbd : (splitL b l).length ≤ 1048577 := by have := splitGo_count b l []; unfold splitL; omega
  rw [e, hlen] at hc
  refine hc.mono fun r w' ⟨h1, h2⟩ => ⟨w.heap.size, _, h1, Nat.le_refl _, by omega, ?_, Nat.le_refl _, ?_⟩
  · subst h2
    exact Has.new w (sv (splitL b l)).toArray 9
  · subst h2
    exact Ext.alloc (Ext.refl w) _
set_option maxRecDepth 100000 in
theorem parts_any (l : List UInt8) (m : Nat) (q : List UInt8) (hm : (splitL 59 l).length = m + 1) (hq : (splitL 59 l)[m]? = some q) (hl : l.length ≤ 1048576) (w : World) (he : Env w) :
    Calls Tryd.prog 62 #[.string (txt l)] w fun r w' => ∃ g c, r = .returned (.tuple #[.slice (some ⟨g, 0, none⟩) m c, .bool (q == [])]) ∧ Has w' g (sv (splitL 59 l)) ∧ w.heap.size ≤ g ∧ Ext w w' := by
  have HS := Lib.hid (fun w (he : Env w) => split_any l 59 hl w he)
  have hlen : m + 1 ≤ 1048577 := by have := splitGo_count 59 l []; unfold splitL at hm; omega
  have HQ := Lib.hid (show (sv (splitL 59 l))[m]? = some (.string (txt q)) by simp [sv, hq])
  rw [hm] at HS
  have hqb : ((txt q).toList == []) = (q == []) := by rw [txt_toList]
  generalize (q == []) = B at *
  generalize sv (splitL 59 l) = S at *
  clear hm hq
  have hwm : IntKind.i64.wrap (m : Int) = m := by rw [wrap_i64] <;> omega
  have hlt1 : (m : Int) < (m : Int) + 1 := by omega
  have h0m : (0 : Int) ≤ m := by omega
  have HE := Lib.hid he
  clear he
  go_enter Tryd.func62, Tryd.ntmps62
  go_wp2_with fail
  refine (HS.out _ HE.out).mono ?_
  rintro e w1 ⟨g, c, rfl, hc1, hc2, hS, hg, hb⟩
  have HH := Lib.hid hS
  have hcm := hS m _ HQ.out
  have hc3 : (m : Int) ≤ c := by omega
  clear hS
  go_wp2
  go_quiet (fail)
  go_wp2
  go_ret2
  exact ⟨g, c, rfl, HH.out, hg, (by repeat (first | exact Ext.refl _ | assumption | apply Ext.alloc | apply Ext.drew | apply Ext.drewN | (refine Ext.trans ?_ (by assumption)) | (refine Ext.setCell ?_ (by (try simp) <;> omega) _)))⟩
set_option maxHeartbeats 4000000 in
set_option maxRecDepth 100000 in
set_option linter.unusedSimpArgs false in
theorem impl_ParseStar_any (l : List UInt8) (hl : l.length ≤ 1048576) (w : World) (he : Env w) :
    Calls Tryd.prog 32 #[.string (txt l)] w (OwnsTriB 70 w.heap.size (tellS (starI l) l).1 (tellS (starI l) l).2 w) := by
  have HEN := Lib.hid (fun w' (e : Ext w w') => he.ext e)
  have HPL := Lib.hid (fun p (hp : p ∈ splitL 59 l) => show p.length ≤ 1048576 by have := splitGo_len 59 l [] p hp; simp at this; omega)
  have hpn : (splitL 59 l).length ≤ 1048577 := by have := splitGo_count 59 l []; unfold splitL; omega
  have hpp : 0 < (splitL 59 l).length := by
    obtain ⟨p, q, hpq⟩ := splitGo_ne 59 l []
    unfold splitL; rw [hpq]; simp
  obtain ⟨m, hm⟩ : ∃ m, (splitL 59 l).length = m + 1 := ⟨(splitL 59 l).length - 1, by omega⟩
  obtain ⟨q, hq⟩ : ∃ q, (splitL 59 l)[m]? = some q := ⟨(splitL 59 l)[m]'(by omega), by simp [show m < (splitL 59 l).length by omega]⟩
  have HPt := Lib.hid (fun w' (e : Ext w w') => parts_any l m q hm hq hl w' (he.ext e))
  have hqs : (splitL 59 l).dropLast = (splitL 59 l).take m := by rw [List.dropLast_eq_take, hm]; rfl
  have hlast : (splitL 59 l).getLast? = some q := by rw [List.getLast?_eq_getElem?, hm]; exact hq
  have HST := Lib.hid (show starI l = match raysL rayI ((splitL 59 l).take m) with | none => none | some zs => if q = [] then some zs else none by unfold starI; rw [hqs, hlast]; cases raysL rayI ((splitL 59 l).take m) <;> simp)
  have hBq : Hid ((q == []) = decide (q = [])) := Lib.hid (by cases q <;> rfl)
  generalize splitL 59 l = ps at *
  clear he hq hqs hlast
  go_enter Tryd.func32, Tryd.ntmps32
  go_wp2_with fail
  refine (HPt.out _ (Ext.refl w)).mono ?_
  rintro e w1 ⟨gr, c0, rfl, hS, hg1, hb⟩
  have HRd := Lib.hid (fun (j : Nat) (p : List UInt8) (hj : ps[j]? = some p) => show w1.cell? ⟨gr, j, none⟩ = some (.string (txt p)) from hS j _ (by simp [sv, hj]))
  have hg2 : gr < w1.heap.size := hS.lt (by intro e; have := congrArg List.length e; rw [sv, List.length_map] at this; simp at this; rw [this] at hm; simp at hm)
  clear hS
  have hB2 := hBq
  generalize (q == []) = Bq at *
  have H0 := Lib.hid (World.ownsRow_lit (base := w1.heap.size) (e := 70) (size := 3) w1 #[] 0 (Nat.le_refl _) (by unfold maxLen; omega) rfl)
  go_wp2
  go_loopw [6, 19] (fun s t wr => ∃ (i : Nat) (a : Option Addr) (c : Nat) (zs : List (Int × Int × Int)), i ≤ m ∧ t = .int .i64 i ∧ s = .slice a i c ∧ wr.ownsRow w1.heap.size 70 3 (.slice a i c) i (tv zs) ∧ Hid (raysL rayI (ps.take i) = some zs) ∧ Ext w1 wr) (fun _ t _ => m - (intOf t).toNat)
  case atStart => exact ⟨0, _, _, [], Nat.zero_le _, rfl, rfl, H0.out, Lib.hid rfl, Ext.alloc (Ext.refl _) _⟩
  case round =>
    clear H0
    obtain ⟨i, a, c, zs, hi, rfl, rfl, hown, HP, hE⟩ := hrel
    have e2 := hb.trans hE
    by_cases hlt : i < m
    · obtain ⟨p, hp⟩ : ∃ p, ps[i]? = some p := ⟨ps[i]'(by omega), by simp [show i < ps.length by omega]⟩
      have hc := hE.keep (HRd.out i p hp)
      have hpl := HPL.out p (List.mem_of_getElem? hp)
      have hgw : gr < wr.heap.size := Nat.lt_of_lt_of_le hg2 hE.size
      have HNo := Lib.hid (fun h : rayI p = none => show tellS (starI l) l = ([], false) by
        rw [HST.out, raysL_none (k := i) (p := p) (by rw [List.getElem?_take, if_pos hlt]; exact hp) h]
        rfl)
      have HTK := Lib.hid (raysL_take (f := rayI) hp)
      rw [HP.out] at HTK
      have HSW := Lib.hid (fun (g : Nat) w' (e : Ext w w') h0 h1 => splitWhole_any p 42 44 hpl g w' h0 h1 (HEN.out w' e))
      have hlen := fun xs (h : wholeL [42, 44] p = some xs) => wholeL_len h
      cases hw : wholeL [42, 44] p
      · have HV := Lib.hid (HNo.out (by unfold rayI; rw [hw]))
        rw [hw] at HSW
        clear hw hlen HNo HTK HP hown hp hpl
        go_wp2_with fail
        refine (HSW.out _ _ (Ext.alloc e2 _) (by simp) (by simp)).mono ?_
        rintro e w2 ⟨rfl, hb2⟩
        have x2 := (Ext.alloc e2 _).trans hb2
        go_wp2
        go_ret2
        rw [HV.out]
        exact ⟨none, 0, rfl, own_none _ _ _, x2⟩
      · rename_i xs
        obtain ⟨X, Y, Z, rfl⟩ : ∃ X Y Z, xs = [X, Y, Z] := by
          match xs, hlen xs hw with
          | [x, y, z], _ => exact ⟨x, y, z, rfl⟩
        have HR : rayI p = some (Y, Z, X) := by unfold rayI; rw [hw]
        have HTK2 := Lib.hid (show raysL rayI (ps.take (i + 1)) = some (zs ++ [(Y, Z, X)]) by rw [HTK.out, HR]; rfl)
        rw [hw] at HSW
        clear hw hlen HNo HTK HP hp hpl HR
        go_wp2_with fail
        refine (HSW.out _ _ (Ext.alloc e2 _) (by simp) (by simp)).mono ?_
        rintro e w2 ⟨a2, c2, rfl, hown2, hb2⟩
        have hb2' : Ext wr w2 := Ext.trans (Ext.alloc (Ext.refl _) _) hb2
        have e3 := hE.trans hb2'
        clear hb2
        obtain ⟨g, rfl, hg3, hg4⟩ := own_head hown2 (by simp)
        have hne : (Value.slice a i c).ownBlock ≠ some g := fun e => by have := (hown.lt g e).2; simp at hg3; omega
        have HH := Lib.hid (show Has w2 g [.int .i64 X, .int .i64 Y, .int .i64 Z] from fun j u hj => by
          have hj2 := (List.getElem?_eq_some_iff.1 hj).1
          exact (hown2.cellAt j (by simp at hj2; simp; omega)).trans (by simpa [iv] using hj))
        have HSI := Lib.hid (fun w' (e : Ext w1 w') (k : Has w' g [.int .i64 X, .int .i64 Y, .int .i64 Z]) => show Ext w1 w' ∧ w'.cell? ⟨g, 0, none⟩ = some (.int .i64 X) ∧ w'.cell? ⟨g, 1, none⟩ = some (.int .i64 Y) ∧ w'.cell? ⟨g, 2, none⟩ = some (.int .i64 Z) from ⟨e, k 0 _ rfl, k 1 _ rfl, k 2 _ rfl⟩)
        have hgw2 := hg4
        clear hown2 hc
        have HO := Lib.hid (own_ext hb2' hown)
        have hz3 := e3.size
        have e4 := e2.trans hb2'
        clear hown hb2' hE
        obtain ⟨i0, hz1, hz2, hz4, hz5⟩ := info_parts ray_info
        have HZ := Lib.hid (And.intro hz1 (And.intro hz2 (And.intro hz4 hz5)))
        clear hz1 hz2 hz4 hz5
        have hbase : ∀ k, (Value.slice a i c).ownBlock = some k → w1.heap.size ≤ k := fun k hk => (HO.out.lt k hk).1
        have HB := Lib.hid hbase
        have HNE := Lib.hid hne
        clear hbase hne
        go_wp2
        go_region_held3 (fun w' => Ext w1 w' ∧ w'.cell? ⟨g, 0, none⟩ = some (.int .i64 X) ∧ w'.cell? ⟨g, 1, none⟩ = some (.int .i64 Y) ∧ w'.cell? ⟨g, 2, none⟩ = some (.int .i64 Z)) (first | exact HE5.out | exact HSI.out _ (by repeat (first | exact Ext.refl _ | assumption | apply Ext.alloc | apply Ext.drew | apply Ext.drewN | (refine Ext.trans ?_ (by assumption)) | (refine Ext.setCell ?_ (by (try simp) <;> omega) _))) (Has.ext (by repeat (first | exact Ext.refl _ | assumption | apply Ext.alloc | apply Ext.drew | apply Ext.drewN | (refine Ext.trans ?_ (by assumption)) | (refine Ext.setCell ?_ (by (try simp) <;> omega) _))) HH.out)) (first | (refine step_append_lies _ (by rfl) _ _ _ (by rfl) w1.heap.size 70 i0 _ 3 24 Tryd.underlying43 HZ.out.1 HZ.out.2.1 HZ.out.2.2.1 HZ.out.2.2.2 rfl (by omega) _ i (tv zs) (by rfl) (own_ext (by repeat (first | exact Ext.refl _ | assumption | apply Ext.alloc | apply Ext.drew | apply Ext.drewN | (refine Ext.trans ?_ (by assumption)) | (refine Ext.setCell ?_ (by (try simp) <;> omega) _))) HO.out) ⟨_, 0, none⟩ 1 1 [.int .i64 Y, .int .i64 Z, .int .i64 X] (by rfl) (by rfl) (World.news_of_block (cs := #[.int .i64 Y, .int .i64 Z, .int .i64 X]) (t := 70) (fr := (0, 0)) (heap_alloc_new _ _)) (by simp [Value.oneCell']) (by omega) (by unfold maxLen; omega) (by omega) (by simp; omega) _ rfl ?_; intro gg cap w5 hown5 hgrow hat hlt5; have HE6 := Lib.hid (Ext.grown (a := w1) (by repeat (first | exact Ext.refl _ | assumption | apply Ext.alloc | apply Ext.drew | apply Ext.drewN | (refine Ext.trans ?_ (by assumption)) | (refine Ext.setCell ?_ (by (try simp) <;> omega) _))) hgrow HB.out); have HE5 := Lib.hid (HSI.out _ HE6.out (fun j u hj => cell_grown hgrow (Has.ext (by repeat (first | exact Ext.refl _ | assumption | apply Ext.alloc | apply Ext.drew | apply Ext.drewN | (refine Ext.trans ?_ (by assumption)) | (refine Ext.setCell ?_ (by (try simp) <;> omega) _))) HH.out j u hj) HNE.out))))
        go_wp2
        go_roundw
        case rel => exact ⟨i + 1, some ⟨gg, 0, none⟩, cap, zs ++ [(Y, Z, X)], by omega, by go_num, rfl, by rw [tv_append]; exact own_ext (by repeat (first | exact Ext.refl _ | assumption | apply Ext.alloc | apply Ext.drew | apply Ext.drewN | (refine Ext.trans ?_ (by assumption)) | (refine Ext.setCell ?_ (by (try simp) <;> omega) _))) hown5, HTK2, Ext.trans HE6.out (by repeat (first | exact Ext.refl _ | assumption | apply Ext.alloc | apply Ext.drew | apply Ext.drewN | (refine Ext.trans ?_ (by assumption)) | (refine Ext.setCell ?_ (by (try simp) <;> omega) _)))⟩
        case measure => simp [intOf]; omega
    · obtain rfl : i = m := by omega
      have hnl : zs.length = i := by have := raysL_len HP.out; rw [List.length_take] at this; omega
      have HCD := Lib.hid (show starI l = if q = [] then some zs else none by rw [HST.out, HP.out])
      clear HP HST
      cases Bq
      · have HV := Lib.hid (show tellS (starI l) l = ([], false) by rw [HCD.out, if_neg (by have := hBq.out; simpa using this)]; rfl)
        clear hown
        go_wp2
        go_ret2
        rw [HV.out]
        exact ⟨none, 0, rfl, own_none _ _ _, e2⟩
      · have HCD2 := Lib.hid (show starI l = some zs by rw [HCD.out, if_pos (by have := hBq.out; simpa using this)])
        clear HCD
        have HG := Lib.hid (fun w2 (e : Ext wr w2) => isStar_any a i c zs (by omega) w2 (own_reads (own_ext e hown)))
        rcases starB_cases zs with hz | ⟨hz, hz1, hz2⟩
        · rw [hz] at HG
          have HV := Lib.hid (show tellS (starI l) l = ([], false) by rw [HCD2.out]; unfold tellS; simp [hz])
          clear hown
          go_wp2_with fail
          refine (HG.out _ (Ext.refl _)).mono ?_
          rintro e w2 ⟨rfl, hb2⟩
          have x2 := e2.trans hb2
          go_wp2
          go_ret2
          rw [HV.out]
          exact ⟨none, 0, rfl, own_none _ _ _, x2⟩
        · rw [hz] at HG
          have HX := Lib.hid (fun w2 (e : Ext wr w2) => starText_any a i c zs (by omega) (fun k hk => hz2 k hk) w2 (own_reads (own_ext e hown)) (HEN.out w2 (e2.trans e)).tab)
          clear hz2
          go_wp2_with fail
          refine (HG.out _ (Ext.refl _)).mono ?_
          rintro e w2 ⟨rfl, hb2⟩
          go_wp2_with fail
          refine (HX.out _ hb2).mono ?_
          rintro e w3 ⟨rfl, hb3⟩
          have x3 := (e2.trans hb2).trans hb3
          have HO := Lib.hid (own_ext (hb2.trans hb3) hown)
          clear hown
          by_cases hEq : starT zs = txt l
          · have HV := Lib.hid (show tellS (starI l) l = (zs, true) by rw [HCD2.out]; unfold tellS; simp [hz, hEq])
            have hq : ((starT zs).toList == (txt l).toList) = true := by rw [hEq]; simp
            clear hEq hz HCD2
            go_wp2
            go_ret2
            rw [HV.out]
            have ho := own_mono hb.size HO.out
            rw [← hnl] at ho ⊢
            exact ⟨a, c, rfl, ho, x3⟩
          · have HV := Lib.hid (show tellS (starI l) l = ([], false) by rw [HCD2.out]; unfold tellS; simp [hEq])
            have hq : ((starT zs).toList == (txt l).toList) = false := by
              simp only [beq_eq_false_iff_ne, ne_eq]
              intro e
              apply hEq
              rw [ByteArray.toList_eq, ByteArray.toList_eq] at e
              exact ByteArray.ext (Array.toList_inj.1 e)
            clear hEq hz HCD2
            go_wp2
            go_ret2
            rw [HV.out]
            exact ⟨none, 0, rfl, own_none _ _ _, x3⟩
theorem spec_ParseStar_any (l : List UInt8) (hl : l.length ≤ 1048576) (w : World) :
    Calls Tryd.prog 31 #[.string (txt l)] w (OwnsTriB 70 w.heap.size (tellS (starI l) l).1 (tellS (starI l) l).2 w) := by
  have := spec_ParseStar_any0 l hl w
  rwa [← tellS_same l] at this
theorem tellS_len (c : Option (List (Int × Int × Int))) (l : List UInt8) : (tellS c l).1.length ≤ 10 := by
  unfold tellS
  split
  · rename_i zs
    split
    · rename_i h
      rcases starB_cases zs with h0 | ⟨_, h1, _⟩
      · rw [h.1] at h0; cases h0
      · exact h1
    · simp
  · simp
set_option maxHeartbeats 2000000 in
set_option maxRecDepth 100000 in
theorem law_ParseStar (s : ByteArray) (w : World) (hz : s.size ≤ maxLen) (he : Env w) :
    Calls Tryd.prog 9 #[.string s] w fun r w' => r = .returned (.bool true) ∧ Ext w w' := by
  unfold maxLen at hz
  by_cases hg : s.size ≤ 1048576
  rotate_left
  · go_enter Tryd.func9, Tryd.ntmps9
    go_wp2
    go_ret
    exact ⟨rfl, Ext.refl _⟩
  obtain ⟨l, rfl⟩ : ∃ l, s = txt l := ⟨s.data.toList, by apply ByteArray.ext; simp [txt]⟩
  have hl : l.length ≤ 1048576 := by rw [txt_size] at hg; exact hg
  obtain ⟨L, eL⟩ : ∃ L : List (Int × Int × Int), L = (tellS (starI l) l).1 := ⟨_, rfl⟩
  obtain ⟨ok, eok⟩ : ∃ ok : Bool, ok = (tellS (starI l) l).2 := ⟨_, rfl⟩
  have hlen : L.length ≤ 1048576 := by rw [eL]; exact Nat.le_trans (tellS_len _ _) (by omega)
  have HS := Lib.hid (show ∀ (w : World), Calls Tryd.prog 31 #[.string (txt l)] w (OwnsTriB 70 w.heap.size L ok w) by rw [eL, eok]; intro w; exact spec_ParseStar_any l hl w)
  have HI := Lib.hid (show ∀ (v : World), Ext w v → Calls Tryd.prog 32 #[.string (txt l)] v (OwnsTriB 70 v.heap.size L ok v) by rw [eL, eok]; intro v e; exact impl_ParseStar_any l hl v (he.ext e))
  clear eL eok
  go_enter Tryd.func9, Tryd.ntmps9
  have hE : Ext w w := (by repeat (first | exact Ext.refl _ | assumption | apply Ext.alloc | apply Ext.drew | apply Ext.drewN | (refine Ext.trans ?_ (by assumption)) | (refine Ext.setCell ?_ (by (try simp) <;> omega) _)))
  go_wp2_with fail
  refine (HS.out  _ ).mono ?_
  rintro e w1 ⟨sa, sc, rfl, hs, hb⟩
  have hz1 := hb.size
  replace hE := Ext.trans hE hb
  clear hb
  have hs0 := hs
  go_wp2_with fail
  refine (HI.out _ hE).mono ?_
  rintro e w2 ⟨ga, gc, rfl, hg, hb⟩
  have hz2 := hb.size
  replace hE := Ext.trans hE hb
  replace hs := own_ext hb hs
  clear hb
  have hg0 := hg
  go_wp2_with fail
  refine (eqRayS_same _ _ _ _ _ L (by omega) _ (own_reads hg) (own_reads hs)).mono ?_
  rintro e w3 ⟨rfl, hb⟩
  have hz3 := hb.size
  replace hE := Ext.trans hE hb
  replace hs := own_ext hb hs
  replace hg := own_ext hb hg
  clear hb
  go_wp2_with fail
  refine (markRayS_any _ _ _ _ L _ (by omega) (by omega) (by omega) _ hg).mono ?_
  rintro e w4 ⟨rfl, hm, hgr⟩
  have hz4 := hgr.size
  replace hE := Ext.grown hE hgr (fun k hk => by have := (hg0.lt k hk).1; omega)
  replace hs := own_apart hs hgr (fun q hq e => by have h1 := (hs0.lt q hq); have h2 := (hg0.lt q e); omega)
  clear hgr hg
  go_wp2_with fail
  refine (heldRayS_any _ _ _ _ (by omega) (by omega) (by omega) _ (own_reads hm)).mono ?_
  rintro e _ ⟨rfl, rfl⟩
  go_wp2_with fail
  refine (HI.out _ hE).mono ?_
  rintro e w5 ⟨ha, hc, rfl, hh, hb⟩
  have hz5 := hb.size
  replace hE := Ext.trans hE hb
  replace hs := own_ext hb hs
  replace hm := own_ext hb hm
  clear hb
  go_wp2_with fail
  refine (eqRayS_same _ _ _ _ _ L (by omega) _ (own_reads hh) (own_reads hs)).mono ?_
  rintro e w6 ⟨rfl, hb⟩
  have hz6 := hb.size
  replace hE := Ext.trans hE hb
  replace hs := own_ext hb hs
  replace hm := own_ext hb hm
  replace hh := own_ext hb hh
  clear hb
  go_wp2_with fail
  refine (heldRayS_any _ _ _ _ (by omega) (by omega) (by omega) _ (own_reads hm)).mono ?_
  rintro e _ ⟨rfl, rfl⟩
  go_wp2
  go_ret
  exact ⟨rfl, hE⟩

end Go.Proofs.YtgoaedhgkkbajaaDoor
