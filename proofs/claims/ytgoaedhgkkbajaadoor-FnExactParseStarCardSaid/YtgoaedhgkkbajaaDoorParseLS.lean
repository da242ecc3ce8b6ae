/-
  A line read of a text: both walks; both sides tell the same; the law.
-/
import Derived.Test.YtgoaedhgkkbajaaDoorParseLR
import Derived.Test.YtgoaedhgkkbajaaDoorLineT
import Derived.Test.YtgoaedhgkkbajaaDoorPlaces
import Derived.Test.YtgoaedhgkkbajaaDoorEnv
import Derived.Test.YtgoaedhgkkbajaaDoorLine
namespace Go.Proofs.YtgoaedhgkkbajaaDoor
open Go.RowKit

/-- What is said of a line that was read of a text. -/
def tellLn (c : Option (Int × Int × Int)) (l : List UInt8) : Int × Int × Int × Bool := match c with
  | some (x, y, z) => if fin3 x y z = true ∧ lineT x y z = txt l then (x, y, z, true) else (0, 0, 0, false)
  | none => (0, 0, 0, false)
def LineIs (r3 : Int × Int × Int × Bool) (w : World) (r : Ending) (w' : World) : Prop := r = .returned (.tuple #[.agg #[.int .i64 r3.1, .int .i64 r3.2.1, .int .i64 r3.2.2.1], .bool r3.2.2.2]) ∧ Ext w w'
theorem splitGo_len (b : UInt8) : ∀ (r cur p : List UInt8), p ∈ splitGo b cur r → p.length ≤ cur.length + r.length
  | [], cur, p, h => by simp [splitGo] at h; subst h; simp
  | c :: r, cur, p, h => by
    rw [splitGo] at h
    split at h
    · rcases List.mem_cons.1 h with rfl | h
      · simp
      · have := splitGo_len b r [] p h
        simp at this ⊢; omega
    · have := splitGo_len b r (cur ++ [c]) p h
      simp at this ⊢; omega
theorem splitGo_count (b : UInt8) : ∀ (r cur : List UInt8), (splitGo b cur r).length ≤ r.length + 1
  | [], cur => by simp [splitGo]
  | c :: r, cur => by
    rw [splitGo]
    split
    · have := splitGo_count b r []; simp; omega
    · have := splitGo_count b r (cur ++ [c]); simp; omega
theorem parsL_no : ∀ {{ps : List (List UInt8)}} {{k : Nat}} {{p : List UInt8}}, ps[k]? = some p → parB p = false → parsL ps = none
  | [], k, p, h, _ => by simp at h
  | q :: r, 0, p, h, hf => by
    simp at h
    subst h
    simp [parsL, hf]
  | q :: r, k + 1, p, h, hf => by
    have ih := parsL_no (ps := r) (k := k) (p := p) (by simpa using h) hf
    simp only [parsL, ih]
    split <;> rfl
theorem lineT_LL (x y z : Int) : lineT x y z = txt (lineLL x y z) := by
  unfold lineT lineLL
  rw [show (⟨#[32]⟩ : ByteArray) = txt [32] from rfl, txt_app, txt_app, txt_app, txt_app]
  simp
theorem tellLn_same (l : List UInt8) : tellLn (lineI l) l = tellLn (lineS l) l := by
  have key : ∀ c : Option (Int × Int × Int), ∀ x y z : Int, (fin3 x y z = true ∧ lineT x y z = txt l) → (c = some (x, y, z) → tellLn c l = (x, y, z, true)) := by
    rintro c x y z h rfl
    unfold tellLn
    simp only
    rw [if_pos h]
  by_cases hx : ∃ x y z : Int, fin3 x y z = true ∧ lineT x y z = txt l
  · obtain ⟨x, y, z, h1, h2⟩ := hx
    obtain ⟨b1, b2, b3⟩ := fin3_bd h1
    have hl : l = lineLL x y z := by
      apply txt_inj
      rw [← h2, lineT_LL]
    rw [key _ x y z ⟨h1, h2⟩ (by rw [hl]; exact lineI_line b1 b2 b3), key _ x y z ⟨h1, h2⟩ (by rw [hl]; exact lineS_line b1 b2 b3)]
  · have no : ∀ c, tellLn c l = (0, 0, 0, false) := by
      intro c
      unfold tellLn
      split
      · rename_i x y z
        rw [if_neg fun h => hx ⟨x, y, z, h⟩]
      · rfl
    rw [no, no]
set_option maxHeartbeats 4000000 in
set_option maxRecDepth 100000 in
set_option linter.unusedSimpArgs false in
theorem spec_ParseLine_any0 (l : List UInt8) (hl : l.length ≤ 1048576) (w : World) :
    Calls Tryd.prog 28 #[.string (txt l)] w (LineIs (tellLn (lineS l) l) w) := by
  have HSp := Lib.hid (fun w => l1Split_any l 32 hl w)
  have HPL := Lib.hid (fun p (hp : p ∈ splitL 32 l) => show p.length ≤ 1048576 by have := splitGo_len 32 l [] p hp; simp at this; omega)
  have hpn : (splitL 32 l).length ≤ 1048577 := by have := splitGo_count 32 l []; unfold splitL; omega
  have hpp : 0 < (splitL 32 l).length := by
    obtain ⟨p, q, hpq⟩ := splitGo_ne 32 l []
    unfold splitL; rw [hpq]; simp
  obtain ⟨ps, hps⟩ : ∃ ps, ps = splitL 32 l := ⟨_, rfl⟩
  have HSL := Lib.hid hps.symm
  rw [← hps] at HSp HPL hpn hpp
  clear hps
  go_enter Tryd.func28, Tryd.ntmps28
  go_wp2_with fail
  refine (HSp.out _).mono ?_
  rintro e w1 ⟨a0, c0, rfl, hown, hb⟩
  have HF0 := Lib.hid (fun w' (e : Ext (w.alloc (.cells #[.int .i64 0, .int .i64 0, .int .i64 0] 26)) w') => Ext.thaws (w := (w.alloc (.cells #[.int .i64 0, .int .i64 0, .int .i64 0] 26))) (b := w.heap.size) (o := 0) (v := .int .i64 0) (by simp) (by simp) w' e)
  have HF1 := Lib.hid (fun w' (e : Ext (w.alloc (.cells #[.int .i64 0, .int .i64 0, .int .i64 0] 26)) w') => Ext.thaws (w := (w.alloc (.cells #[.int .i64 0, .int .i64 0, .int .i64 0] 26))) (b := w.heap.size) (o := 1) (v := .int .i64 0) (by simp) (by simp) w' e)
  have HF2 := Lib.hid (fun w' (e : Ext (w.alloc (.cells #[.int .i64 0, .int .i64 0, .int .i64 0] 26)) w') => Ext.thaws (w := (w.alloc (.cells #[.int .i64 0, .int .i64 0, .int .i64 0] 26))) (b := w.heap.size) (o := 2) (v := .int .i64 0) (by simp) (by simp) w' e)
  have HC0 := Lib.hid (fun w' (e : Ext (w.alloc (.cells #[.int .i64 0, .int .i64 0, .int .i64 0] 26)) w') => e.keep (b := w.heap.size) (o := 0) (v := .int .i64 0) (by simp))
  have HC1 := Lib.hid (fun w' (e : Ext (w.alloc (.cells #[.int .i64 0, .int .i64 0, .int .i64 0] 26)) w') => e.keep (b := w.heap.size) (o := 1) (v := .int .i64 0) (by simp))
  have HC2 := Lib.hid (fun w' (e : Ext (w.alloc (.cells #[.int .i64 0, .int .i64 0, .int .i64 0] 26)) w') => e.keep (b := w.heap.size) (o := 2) (v := .int .i64 0) (by simp))
  have HW := Lib.hid (fun w' (e : Ext (w.alloc (.cells #[.int .i64 0, .int .i64 0, .int .i64 0] 26)) w') => show Ext w w' from Ext.trans (Ext.alloc (Ext.refl w) _) e)
  have e1 : Ext (w.alloc (.cells #[.int .i64 0, .int .i64 0, .int .i64 0] 26)) w1 := hb
  clear hb
  obtain ⟨gr, rfl, hg1, hg2⟩ := own_head hown (by omega)
  have HRd := Lib.hid (fun (j : Nat) (p : List UInt8) (hj : ps[j]? = some p) => show w1.cell? ⟨gr, j, none⟩ = some (.string (txt p)) by
    have hj2 := (List.getElem?_eq_some_iff.1 hj).1
    exact (hown.cellAt j (by omega)).trans (by simp [sv, hj]))
  clear hown
  go_wp2
  go_loopw [4, 13] (fun s t wr => ∃ (i : Nat) (a : Option Addr) (c : Nat) (ns : List Int), i ≤ ps.length ∧ t = .int .i64 i ∧ s = .slice a i c ∧ wr.ownsRow w1.heap.size 3 1 (.slice a i c) i (iv ns) ∧ Hid (parsL (ps.take i) = some ns) ∧ Ext w1 wr) (fun _ t _ => ps.length - (intOf t).toNat)
  case atStart => exact ⟨0, none, 0, [], Nat.zero_le _, rfl, rfl, World.ownsRow_nil _ _ _ _, Lib.hid rfl, Ext.refl _⟩
  case round =>
    obtain ⟨i, a, c, ns, hi, rfl, rfl, hown, HP, hE⟩ := hrel
    have e2 := e1.trans hE
    by_cases hlt : i < ps.length
    · obtain ⟨p, hp⟩ : ∃ p, ps[i]? = some p := ⟨ps[i], by simp [hlt]⟩
      have hc := hE.keep (HRd.out i p hp)
      have hpl := HPL.out p (List.mem_of_getElem? hp)
      have hgw : gr < wr.heap.size := Nat.lt_of_lt_of_le hg2 hE.size
      have HPs := Lib.hid (fun w => nuParse_any p hpl w)
      have HTK := Lib.hid (show parsL (ps.take (i + 1)) = (parsL (ps.take i)).bind fun l => if parB p = true then some (l ++ [parL p]) else none by rw [← parsL_app]; congr 1; rw [List.take_add_one, hp]; rfl)
      rw [HP.out] at HTK
      cases hB : parB p
      · have HV := Lib.hid (show tellLn (lineS l) l = (0, 0, 0, false) by unfold lineS; rw [HSL.out, parsL_no hp hB]; rfl)
        rw [hB] at HPs
        clear hp hpl HTK hown HP
        go_wp2_with fail
        refine (HPs.out _).mono ?_
        rintro e w3 ⟨rfl, hb3⟩
        have e3 := e2.trans hb3
        have s0 := HC0.out _ e3
        have s1 := HC1.out _ e3
        have s2 := HC2.out _ e3
        have k0 := HF0.out _ e3
        have k1 := HF1.out _ e3
        have k2 := HF2.out _ e3
        have xx := HW.out _ e3
        go_wp2
        refine bodyPost_ret (v := .tuple #[.agg #[.int .i64 0, .int .i64 0, .int .i64 0], .bool false]) (by simp [results, Tryd.results28, go_sem, s0, s1, s2, k0, k1, k2]) rfl ⟨by rw [HV.out], ?_⟩
        exact Ext.setCell (Ext.setCell (Ext.setCell (xx) (Nat.le_refl _) _) (Nat.le_refl _) _) (Nat.le_refl _) _
      · rw [hB] at HPs HTK
        have HTK2 := Lib.hid (show parsL (ps.take (i + 1)) = some (ns ++ [parL p]) from HTK.out)
        clear hp hpl HTK HP
        rw [show gI true (parL p) = parL p from rfl] at HPs
        generalize parL p = z at *
        go_wp2_with fail
        refine (HPs.out _).mono ?_
        rintro e w3 ⟨rfl, hb3⟩
        have e3 := hE.trans hb3
        have HO := Lib.hid (own_ext hb3 hown)
        clear hown hb3 hE
        go_wp2_with (at_builtin; refine wpList_app1 rfl _ _ rfl w1 w1.heap.size _ _ _ ns z rfl (HO.out.alloc _) w3.heap.size rfl (by simp) (by omega) (by have := e3.size; simp; omega) (e3.alloc _) (Nat.le_refl _) ?_)
        intro a4 c4 w4 hown4 hE4
        go_wp2
        go_roundw
        case rel => exact ⟨i + 1, a4, c4, ns ++ [z], by omega, by go_num, by simp, by simpa using hown4, HTK2, hE4⟩
        case measure => simp [intOf]; omega
    · obtain rfl : i = ps.length := by omega
      have HPT := Lib.hid (show parsL ps = some ns by have := HP.out; rwa [List.take_length] at this)
      have hnl : ns.length = ps.length := parsL_len HPT.out
      by_cases h3 : ps.length = 3
      · obtain ⟨x, y, z, rfl⟩ : ∃ x y z, ns = [x, y, z] := by
          match ns, hnl.trans h3 with
          | [x, y, z], _ => exact ⟨x, y, z, rfl⟩
        have HCD := Lib.hid (show lineS l = some (x, y, z) by unfold lineS; rw [HSL.out, HPT.out])
        rw [h3] at hown ⊢
        obtain ⟨g, rfl, hg3, hg4⟩ := own_head hown (by omega)
        have c0 := Ext.keeps (show wr.cell? ⟨g, 0, none⟩ = some (.int .i64 x) from (hown.cellAt 0 (by omega)).trans (by simp [iv]))
        have c1 := Ext.keeps (show wr.cell? ⟨g, 1, none⟩ = some (.int .i64 y) from (hown.cellAt 1 (by omega)).trans (by simp [iv]))
        have c2 := Ext.keeps (show wr.cell? ⟨g, 2, none⟩ = some (.int .i64 z) from (hown.cellAt 2 (by omega)).trans (by simp [iv]))
        have HEr := Ext.refl wr
        clear hown HP HPT hnl h3 hlt hi
        go_wp2
        go_region_held3 (fun w' => Ext wr w') ((repeat (first | exact Ext.refl _ | assumption | apply Ext.alloc | apply Ext.drew | apply Ext.drewN | (refine Ext.trans ?_ (by assumption)) | (refine Ext.setCell ?_ (by (try simp) <;> omega) _)))) (fail)
        obtain ⟨w5, hw5⟩ : ∃ w5, w5 = (wr.alloc (.cells #[.int .i64 x, .int .i64 y, .int .i64 z] 26)).drew := ⟨_, rfl⟩
        rw [← hw5]
        have e5 : Ext (w.alloc (.cells #[.int .i64 0, .int .i64 0, .int .i64 0] 26)) w5 := by rw [hw5]; exact Ext.drew (Ext.alloc e2 _)
        have q0 : w5.cell? ⟨wr.heap.size, 0, none⟩ = some (.int .i64 x) := by rw [hw5]; simp
        have q1 : w5.cell? ⟨wr.heap.size, 1, none⟩ = some (.int .i64 y) := by rw [hw5]; simp
        have q2 : w5.cell? ⟨wr.heap.size, 2, none⟩ = some (.int .i64 z) := by rw [hw5]; simp
        clear hw5
        cases hF : fin3 x y z
        · have HG := Lib.hid (fun w => lnGood_any x y z w)
          rw [hF] at HG
          have HV := Lib.hid (show tellLn (lineS l) l = (0, 0, 0, false) by rw [HCD.out]; unfold tellLn; simp [hF])
          go_wp2_with fail
          refine (HG.out _).mono ?_
          rintro e w6 ⟨rfl, hb6⟩
          have e6 : Ext (w.alloc (.cells #[.int .i64 0, .int .i64 0, .int .i64 0] 26)) w6 := e5.trans hb6
          clear hb6
          have s0 := HC0.out _ e6
          have s1 := HC1.out _ e6
          have s2 := HC2.out _ e6
          have k0 := HF0.out _ e6
          have k1 := HF1.out _ e6
          have k2 := HF2.out _ e6
          have xx := HW.out _ e6
          go_wp2
          refine bodyPost_ret (v := .tuple #[.agg #[.int .i64 0, .int .i64 0, .int .i64 0], .bool false]) (by simp [results, Tryd.results28, go_sem, s0, s1, s2, k0, k1, k2]) rfl ⟨by rw [HV.out], ?_⟩
          exact Ext.setCell (Ext.setCell (Ext.setCell (xx) (Nat.le_refl _) _) (Nat.le_refl _) _) (Nat.le_refl _) _
        · have HG := Lib.hid (fun w => lnGood_any x y z w)
          rw [hF] at HG
          have HX := Lib.hid (fun w' (e : Ext w w') => lnText_any x y z hF w')
          go_wp2_with fail
          refine (HG.out _).mono ?_
          rintro e w6 ⟨rfl, hb6⟩
          have e6 : Ext (w.alloc (.cells #[.int .i64 0, .int .i64 0, .int .i64 0] 26)) w6 := e5.trans hb6
          replace q0 := hb6.keep q0
          replace q1 := hb6.keep q1
          replace q2 := hb6.keep q2
          clear hb6
          go_wp2_with fail
          refine (HX.out _ (HW.out _ e6)).mono ?_
          rintro e w7 ⟨rfl, hb7⟩
          have e7 : Ext (w.alloc (.cells #[.int .i64 0, .int .i64 0, .int .i64 0] 26)) w7 := e6.trans hb7
          replace q0 := hb7.keep q0
          replace q1 := hb7.keep q1
          replace q2 := hb7.keep q2
          clear hb7
          by_cases hE : lineT x y z = txt l
          · have HV := Lib.hid (show tellLn (lineS l) l = (x, y, z, true) by rw [HCD.out]; unfold tellLn; simp [hF, hE])
            have hq : ((lineT x y z).toList == (txt l).toList) = true := by rw [hE]; simp
            clear hE
            have s0 := HC0.out _ e7
            have s1 := HC1.out _ e7
            have s2 := HC2.out _ e7
            have k0 := HF0.out _ e7
            have k1 := HF1.out _ e7
            have k2 := HF2.out _ e7
            have xx := HW.out _ e7
            go_wp2
            refine bodyPost_ret (v := .tuple #[.agg #[.int .i64 x, .int .i64 y, .int .i64 z], .bool true]) (by simp [results, Tryd.results28, go_sem, s0, s1, s2, k0, k1, k2]) rfl ⟨by rw [HV.out], ?_⟩
            exact Ext.setCell (Ext.setCell (Ext.setCell (xx) (Nat.le_refl _) _) (Nat.le_refl _) _) (Nat.le_refl _) _
          · have HV := Lib.hid (show tellLn (lineS l) l = (0, 0, 0, false) by rw [HCD.out]; unfold tellLn; simp [hE])
            have hq : ((lineT x y z).toList == (txt l).toList) = false := by
              simp only [beq_eq_false_iff_ne, ne_eq]
              intro e
              apply hE
              rw [ByteArray.toList_eq, ByteArray.toList_eq] at e
              exact ByteArray.ext (Array.toList_inj.1 e)
            clear hE
            have s0 := HC0.out _ e7
            have s1 := HC1.out _ e7
            have s2 := HC2.out _ e7
            have k0 := HF0.out _ e7
            have k1 := HF1.out _ e7
            have k2 := HF2.out _ e7
            have xx := HW.out _ e7
            go_wp2
            refine bodyPost_ret (v := .tuple #[.agg #[.int .i64 0, .int .i64 0, .int .i64 0], .bool false]) (by simp [results, Tryd.results28, go_sem, s0, s1, s2, k0, k1, k2]) rfl ⟨by rw [HV.out], ?_⟩
            exact Ext.setCell (Ext.setCell (Ext.setCell (xx) (Nat.le_refl _) _) (Nat.le_refl _) _) (Nat.le_refl _) _
      · have hne : ¬ ((ps.length : Int) = 3) := by omega
        have hne2 : decide ((ps.length : Int) = 3) = false := decide_eq_false hne
        have HV := Lib.hid (show tellLn (lineS l) l = (0, 0, 0, false) by
          have : lineS l = none := by
            unfold lineS
            rw [HSL.out, HPT.out]
            split
            · rename_i a b c hh
              rw [Option.some.inj hh] at hnl
              exact absurd hnl.symm h3
            · rfl
          rw [this]; rfl)
        have s0 := HC0.out _ e2
        have s1 := HC1.out _ e2
        have s2 := HC2.out _ e2
        have k0 := HF0.out _ e2
        have k1 := HF1.out _ e2
        have k2 := HF2.out _ e2
        have xx := HW.out _ e2
        go_wp2
        refine bodyPost_ret (v := .tuple #[.agg #[.int .i64 0, .int .i64 0, .int .i64 0], .bool false]) (by simp [results, Tryd.results28, go_sem, s0, s1, s2, k0, k1, k2]) rfl ⟨by rw [HV.out], ?_⟩
        exact Ext.setCell (Ext.setCell (Ext.setCell (xx) (Nat.le_refl _) _) (Nat.le_refl _) _) (Nat.le_refl _) _
end Go.Proofs.YtgoaedhgkkbajaaDoor
