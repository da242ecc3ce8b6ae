/-
  The corners of a polynomial: both sides' walks.
-/
import Derived.Test.YtaloegjcdllgoaaPoly
import Derived.Test.YtaloegjcdllgoaaPlaces
import Derived.Test.YtaloegjcdllgoaaCorn
import Derived.Test.YtaloegjcdllgoaaPair
import Derived.WalkSmall
import Derived.BigQuiet
namespace Go.Proofs.Ytaloegjcdllgoaa
open Go.RowKit

theorem snoc_ind {α : Type} {P : List α → Prop} (h0 : P []) (h1 : ∀ l x, P l → P (l ++ [x])) (l : List α) : P l := by
  have h : ∀ n (l : List α), l.length = n → P l := by
    intro n
    induction n with
    | zero => intro l hl; rw [List.eq_nil_of_length_eq_zero hl]; exact h0
    | succ n ih =>
      intro l hl
      have hne : l ≠ [] := by intro e; rw [e] at hl; simp at hl
      rw [← List.dropLast_concat_getLast hne]
      exact h1 _ _ (ih _ (by rw [List.length_dropLast]; omega))
  exact h _ l rfl
theorem cell_fresh {w : World} {n : Nat} (h : n = w.heap.size) (v : Value) (t : TypeId) : (w.alloc (.cells #[v] t)).cell? ⟨n, 0, none⟩ = some v := by
  subst h; simp
theorem own_cap {w : World} {B : Nat} {E : TypeId} {size : Nat} {a : Option Addr} {n c : Nat} {xs : List Value} (k : w.ownsRow B E size (.slice a n c) n xs) : n ≤ c ∧ c ≤ maxLen := by
  rcases k.2 with ⟨h, h0⟩ | ⟨g, cap, cur, hv, hb, _, r1, r2, _⟩
  · simp only [Value.slice.injEq] at h; omega
  · simp only [Value.slice.injEq, true_and] at hv
    omega
/-- How many elements a slice value has. -/
def slLen : Value → Nat
  | .slice _ n _ => n
  | _ => 0
theorem popI_len (zs : List Int) (i : Int) : ∀ s : List Int, (popI zs i s).length ≤ s.length
  | [] => Nat.le_refl _
  | [_] => Nat.le_refl _
  | b :: a :: r => by
    simp only [popI]
    split
    · have := popI_len zs i (a :: r); simp at this ⊢; omega
    · simp
theorem cornR_len (zs : List Int) : ∀ k : Nat, (cornR zs k).length ≤ k
  | 0 => by simp [cornR]
  | k + 1 => by
    have ih := cornR_len zs k
    simp only [cornR]
    split
    · omega
    · have := popI_len zs k (cornR zs k); simp; omega
theorem iv_top (b : Int) (r : List Int) : (iv (b :: r).reverse)[r.length]? = some (.int .i64 b) := by
  simp [iv]
theorem iv_two (b a : Int) (r : List Int) : (iv (b :: a :: r).reverse)[r.length]? = some (.int .i64 a) := by
  simp [iv]
theorem iv_pop (b : Int) (r : List Int) : iv (b :: r).reverse = iv r.reverse ++ [.int .i64 b] := by simp [iv]
theorem cf_at {zs : List Int} {k : Nat} (h : k < zs.length) : (iv zs)[k]? = some (.int .i64 (cf zs k)) := by
  have := iv_at h
  simpa [cf] using this
theorem num_bd {z : Int} (h : numB z = true) (hne : z ≠ 1000000000) : -1000000 ≤ z ∧ z ≤ 1000000 := by
  rw [numB_true] at h; omega
theorem turn_le {zs : List Int} {a b i : Int} : turnI (pt zs a) (pt zs b) (pt zs i) ≤ 0 ↔ ¬ ((cf zs b - cf zs a) * (i - a) < (cf zs i - cf zs a) * (b - a)) := by
  unfold turnI detI pt
  simp only
  have e : (b - a) * (cf zs i - cf zs a) = (cf zs i - cf zs a) * (b - a) := Int.mul_comm _ _
  omega
/-- The finite places, in their order; the corners by them. -/
def finI (zs : List Int) : Nat → List Int
  | 0 => []
  | k + 1 => if cf zs k = 1000000000 then finI zs k else finI zs k ++ [(k : Int)]
def cornF (zs : List Int) (l : List Int) : List Int := l.foldl (fun s i => i :: popI zs i s) []
theorem cornF_snoc (zs l : List Int) (i : Int) : cornF zs (l ++ [i]) = i :: popI zs i (cornF zs l) := by simp [cornF, List.foldl_append]
theorem cornF_fin (zs : List Int) : ∀ k : Nat, cornF zs (finI zs k) = cornR zs k
  | 0 => rfl
  | k + 1 => by
    simp only [finI, cornR]
    split
    · exact cornF_fin zs k
    · rw [cornF_snoc, cornF_fin zs k]
theorem finI_len (zs : List Int) : ∀ k : Nat, (finI zs k).length ≤ k
  | 0 => by simp [finI]
  | k + 1 => by
    have := finI_len zs k
    simp only [finI]
    split <;> simp <;> omega
theorem finI_mem (zs : List Int) : ∀ (k : Nat) (x : Int), x ∈ finI zs k → 0 ≤ x ∧ x < k ∧ cf zs x ≠ 1000000000
  | 0, x, h => by simp [finI] at h
  | k + 1, x, h => by
    simp only [finI] at h
    split at h
    · have := finI_mem zs k x h; omega
    · rename_i hk
      rcases List.mem_append.1 h with h | h
      · have := finI_mem zs k x h; omega
      · obtain rfl : x = k := by simpa using h
        exact ⟨by omega, by omega, hk⟩
theorem finI_sorted (zs : List Int) : ∀ k : Nat, (finI zs k).Pairwise (· < ·)
  | 0 => .nil
  | k + 1 => by
    simp only [finI]
    split
    · exact finI_sorted zs k
    · refine List.pairwise_append.2 ⟨finI_sorted zs k, by simp, fun x hx y hy => ?_⟩
      have := finI_mem zs k x hx
      obtain rfl : y = k := by simpa using hy
      omega
theorem cornF_mem (zs : List Int) : ∀ (l : List Int) (x : Int), x ∈ cornF zs l → x ∈ l := by
  refine snoc_ind (P := fun l => ∀ x ∈ cornF zs l, x ∈ l) (by intro x hx; simp [cornF] at hx) ?_
  intro l i ih x hx
  rw [cornF_snoc] at hx
  rcases List.mem_cons.1 hx with rfl | hx
  · simp
  · exact List.mem_append_left _ (ih x (popI_mem zs _ _ _ hx))
theorem cornF_len (zs : List Int) (l : List Int) : (cornF zs l).length ≤ l.length := by
  refine snoc_ind (P := fun l => (cornF zs l).length ≤ l.length) (by simp [cornF]) ?_ l
  intro l i ih
  rw [cornF_snoc]
  have := popI_len zs i (cornF zs l)
  simp; omega

set_option maxHeartbeats 1000000 in
theorem rtPoints_any (a : Option Addr) (n c : Nat) (zs : List Int) (hn : n ≤ 1048576) (w : World) (h : Reads w a 1 n (iv zs)) :
    Calls Try.prog 65 #[.slice a n c] w (OwnsInts w.heap.size (finI zs n) w) := by
  have hl : zs.length = n := by have := h.1; rw [iv_len] at this; omega
  subst hl
  go_enter Try.func65, Try.ntmps65
  go_wp2
  go_loopw [3, 8] (fun s t wr => ∃ (k : Nat) (a1 : Option Addr) (c1 : Nat), k ≤ zs.length ∧ t = .int .i64 k ∧ s = .slice a1 (finI zs k).length c1 ∧ wr.ownsRow w.heap.size 3 1 (.slice a1 (finI zs k).length c1) (finI zs k).length (iv (finI zs k)) ∧ Ext w wr) (fun _ t _ => zs.length - (intOf t).toNat)
  case atStart => exact ⟨0, none, 0, Nat.zero_le _, rfl, rfl, World.ownsRow_nil _ _ _ _, Ext.refl _⟩
  case round =>
    obtain ⟨k, a1, c1, hk, rfl, rfl, hown, hE⟩ := hrel
    have hple := finI_len zs k
    by_cases hlt : k < zs.length
    · obtain ⟨b, off, rfl, hcell⟩ := (Reads.ext hE h).2 (by omega)
      have hck := hcell k _ (cf_at hlt)
      have P1 := Lib.hid (fun e : cf zs k = 1000000000 => show finI zs (k + 1) = finI zs k by simp [finI, e])
      have P2 := Lib.hid (fun e : cf zs k ≠ 1000000000 => show finI zs (k + 1) = finI zs k ++ [(k : Int)] by simp [finI, e])
      generalize cf zs k = z at hck P1 P2
      have hsz := hE.size
      generalize finI zs k = ps at *
      clear hcell h
      by_cases hz : z = 1000000000
      · have P := Lib.hid (P1.out hz)
        clear P1 P2
        subst hz
        go_wp2
        go_roundw
        case rel => exact ⟨k + 1, a1, c1, by omega, by go_num, by rw [P.out], by rw [P.out]; exact hown, hE⟩
        case measure => simp [intOf]; omega
      · have P := Lib.hid (P2.out hz)
        have hz2 : (z != 1000000000) = true := by simpa using hz
        clear P1 P2 hz
        go_wp2_with (at_builtin; refine wpList_app1 rfl _ _ rfl w w.heap.size _ _ _ ps (k : Int) rfl (hown.alloc _) wr.heap.size rfl (by simp) (by omega) (by simp; omega) (hE.alloc _) (Nat.le_refl _) ?_)
        intro a2 c2 w2 hown2 hE2
        clear hown
        go_wp2
        go_roundw
        case rel => exact ⟨k + 1, a2, c2, by omega, by go_num, by rw [P.out]; simp, by rw [P.out]; simpa using hown2, hE2⟩
        case measure => simp [intOf]; omega
    · have hkn : Hid (k = zs.length) := by show k = zs.length; omega
      go_wp2
      go_ret
      exact ⟨a1, c1, by rw [hkn.out]; rfl, by rw [← hkn.out]; exact hown, hE⟩

set_option maxHeartbeats 2000000 in
theorem corners_any (a : Option Addr) (n c : Nat) (zs : List Int) (hn : n ≤ 13) (hz : ∀ j : Nat, j < zs.length → numB (cf zs j) = true) (w : World) (h : Reads w a 1 n (iv zs)) :
    Calls Try.prog 49 #[.slice a n c] w (OwnsInts w.heap.size (cornR zs n).reverse w) := by
  have hl : zs.length = n := by have := h.1; rw [iv_len] at this; omega
  subst hl
  go_enter Try.func49, Try.ntmps49
  go_wp2
  go_loopw [3, 11] (fun s t wr => ∃ (k : Nat) (a1 : Option Addr) (c1 : Nat), k ≤ zs.length ∧ t = .int .i64 k ∧ s = .slice a1 (cornR zs k).length c1 ∧ wr.ownsRow w.heap.size 3 1 (.slice a1 (cornR zs k).length c1) (cornR zs k).length (iv (cornR zs k).reverse) ∧ Ext w wr) (fun _ t _ => zs.length - (intOf t).toNat)
  case atStart => exact ⟨0, some ⟨w.heap.size, 0, none⟩, 0, Nat.zero_le _, rfl, rfl, World.ownsRow_lit w #[] 0 (Nat.le_refl _) (by unfold maxLen; omega) rfl, (by repeat (first | exact Ext.refl _ | assumption | apply Ext.alloc | apply Ext.drew | apply Ext.drewN | (refine Ext.trans ?_ (by assumption)) | (refine Ext.setCell ?_ (by (try simp) <;> omega) _)))⟩
  case round =>
    obtain ⟨k, a1, c1, hk, rfl, rfl, hown, hE⟩ := hrel
    have hlen : (cornR zs k).length ≤ 13 := by have := cornR_len zs k; omega
    have hmem := cornR_mem zs k
    by_cases hlt : k < zs.length
    · obtain ⟨b, off, ha, hcell⟩ := (Reads.ext hE h).2 (by omega)
      have hck0 := hcell k _ (cf_at hlt)
      by_cases hi : cf zs k = 1000000000
      · have P := Lib.hid (show cornR zs (k + 1) = cornR zs k by simp [cornR, hi])
        rw [hi] at hck0
        subst ha
        clear hcell h hmem
        go_wp2
        go_roundw
        case rel => exact ⟨k + 1, a1, c1, by omega, by go_num, by rw [P.out], by rw [P.out]; exact hown, hE⟩
        case measure => simp [intOf]; omega
      · have HC := Lib.hid (show cornR zs (k + 1) = (k : Int) :: popI zs k (cornR zs k) by simp [cornR, hi])
        have bk := num_bd (hz k hlt) hi
        have hi2 : (cf zs k == 1000000000) = false := by simpa using hi
        subst ha
        clear hcell hi
        obtain ⟨wo, hwo⟩ : ∃ wo, wo = wr := ⟨_, rfl⟩
        subst hwo
        go_wp2
        go_loopw [3] (fun s wr => ∃ (st : List Int) (a2 : Option Addr) (c2 : Nat), s = .slice a2 st.length c2 ∧ (∀ x ∈ st, 0 ≤ x ∧ x < (k : Int) ∧ cf zs x ≠ 1000000000) ∧ popI zs k st = popI zs k (cornR zs k) ∧ st.length ≤ 13 ∧ wr.ownsRow w.heap.size 3 1 (.slice a2 st.length c2) st.length (iv st.reverse) ∧ Ext w wr) (fun s _ => slLen s)
        case atStart => exact ⟨cornR zs k, a1, c1, rfl, hmem, rfl, hlen, hown, (by repeat (first | exact Ext.refl _ | assumption | apply Ext.alloc | apply Ext.drew | apply Ext.drewN | (refine Ext.trans ?_ (by assumption)) | (refine Ext.setCell ?_ (by (try simp) <;> omega) _)))⟩
        case round =>
          clear hown hE hmem
          obtain ⟨st, a2, c2, rfl, hm, hpop, hsl, hown, hE⟩ := hrel
          have hsz := hE.size
          have HP := Lib.hid hpop
          have HM := Lib.hid hm
          clear hpop hm
          by_cases h1 : st.length ≤ 1
          · have HS : Hid (popI zs k (cornR zs k) = st) := by
              show popI zs k (cornR zs k) = st
              rw [← HP.out]
              match st, h1 with
              | [], _ => rfl
              | [_], _ => rfl
            go_wp2_with (at_builtin; refine wpList_app1 rfl _ _ rfl w w.heap.size _ _ _ st.reverse (k : Int) rfl (hown.alloc _) wr.heap.size rfl (by simp) (by omega) (by simp; omega) (hE.alloc _) (Nat.le_refl _) ?_)
            intro a3 c3 w3 hown3 hE3
            clear hown
            go_wp2
            go_roundw
            case rel => exact ⟨k + 1, a3, c3, by omega, by go_num, by rw [HC.out, HS.out]; simp, by rw [HC.out, HS.out]; simpa using hown3, hE3⟩
            case measure => simp [intOf]; omega
          · obtain ⟨y, x, r, rfl⟩ : ∃ y x r, st = y :: x :: r := by
              match st, h1 with
              | [], h1 => exact absurd (Nat.zero_le _) h1
              | [_], h1 => exact absurd (Nat.le_refl _) h1
              | y :: x :: r, _ => exact ⟨y, x, r, rfl⟩
            have hmx := HM.out x (by simp)
            have hmy := HM.out y (by simp)
            obtain ⟨x, rfl⟩ := Int.eq_ofNat_of_zero_le hmx.1
            obtain ⟨y, rfl⟩ := Int.eq_ofNat_of_zero_le hmy.1
            have bx := num_bd (hz x (by omega)) hmx.2.2
            have by' := num_bd (hz y (by omega)) hmy.2.2
            have hcell := (Reads.ext hE h).cells
            have hcx := hcell x _ (cf_at (by omega))
            have hcy := hcell y _ (cf_at (by omega))
            have hck := hcell k _ (cf_at hlt)
            obtain ⟨g, rfl, hg1, hg2⟩ := own_head hown (by simp)
            have hty := hown.cellAt (r.length + 1) (by simp)
            have htx := hown.cellAt r.length (by simp; omega)
            rw [show r.length + 1 = ((x : Int) :: r).length from rfl, iv_top] at hty
            rw [iv_two] at htx
            simp only [List.length_cons] at hty hsl
            have HT := Lib.hid (turn_le (zs := zs) (a := x) (b := y) (i := k))
            have HX := Lib.hid (fun e : turnI (pt zs x) (pt zs y) (pt zs k) ≤ 0 => show popI zs k ((y : Int) :: (x : Int) :: r) = popI zs k ((x : Int) :: r) by simp only [popI]; rw [if_pos e])
            have HY := Lib.hid (fun e : ¬ turnI (pt zs x) (pt zs y) (pt zs k) ≤ 0 => show popI zs k ((y : Int) :: (x : Int) :: r) = (y : Int) :: (x : Int) :: r by simp only [popI]; rw [if_neg e])
            generalize (turnI (pt zs x) (pt zs y) (pt zs k) ≤ 0) = T at HT HX HY
            have HO := Lib.hid (show wr.ownsRow w.heap.size 3 1 (.slice (some ⟨g, 0, none⟩) (r.length + 1 + 1) c2) (r.length + 1 + 1) (iv ((y : Int) :: (x : Int) :: r).reverse) from hown)
            have hp0 := hown
            rw [iv_pop] at hp0
            have HPo := Lib.hid (ownsRow_pop (n := r.length + 1) (xs := iv ((x : Int) :: r).reverse) (by simp [iv]) hp0)
            clear hp0
            have HPP := HP
            generalize popI zs k (cornR zs k) = Q at *
            generalize cf zs x = zx at *
            generalize cf zs y = zy at *
            generalize cf zs k = zk at *
            have M1 := mul_bd (A := 2000000) (D := 13) (by omega : -2000000 ≤ zy - zx) (by omega) (by omega : -13 ≤ (k : Int) - x) (by omega)
            have M2 := mul_bd (A := 2000000) (D := 13) (by omega : -2000000 ≤ zk - zx) (by omega) (by omega : -13 ≤ (y : Int) - x) (by omega)
            clear hcell hown h hz
            have hlx : x < k := by omega
            have hcap := (own_cap HO.out).1
            have hcap2 : (r.length : Int) + 1 ≤ c2 := by omega
            have hly : y < k := by omega
            clear hmx hmy
            go_wp2
            go_quiet (fail)
            by_cases hT : (zy - zx) * ((k : Int) - x) < (zk - zx) * ((y : Int) - x)
            · have hT2 : decide ((zy - zx) * ((k : Int) - x) < (zk - zx) * ((y : Int) - x)) = true := decide_eq_true hT
              have HS : Hid (Q = (y : Int) :: (x : Int) :: r) := by
                show Q = (y : Int) :: (x : Int) :: r
                rw [← HP.out]
                exact HY.out (fun e => absurd hT (by have := HT.out.1 e; omega))
              clear HX HY HT HPP HPo hT HP
              go_wp2
              go_quiet (fail)
              go_wp2_with (at_builtin; go_must (refine wpList_app1 rfl _ _ rfl w w.heap.size _ _ _ ((y : Int) :: (x : Int) :: r).reverse (k : Int) rfl (own_ext ((Ext.drewN (Ext.refl wr) _).alloc _) HO.out) wr.heap.size rfl (cell_fresh rfl _ _) (by omega) (by simp; omega) ((Ext.drewN hE _).alloc _) (Nat.le_refl _) ?_))
              intro a3 c3 w3 hown3 hE3
              clear HO
              go_wp2
              go_roundw
              case rel => exact ⟨k + 1, a3, c3, by omega, by go_num, by rw [HC.out, HS.out]; simp, by rw [HC.out, HS.out]; simpa using hown3, hE3⟩
              case measure => simp [intOf]; omega
            · have hT2 : decide ((zy - zx) * ((k : Int) - x) < (zk - zx) * ((y : Int) - x)) = false := decide_eq_false hT
              have HN : Hid (popI zs k ((x : Int) :: r) = Q) := by
                show popI zs k ((x : Int) :: r) = Q
                rw [← HP.out]
                exact (HX.out (HT.out.2 (by omega))).symm
              have HM2 := Lib.hid (fun z (hz : z ∈ (x : Int) :: r) => HM.out z (List.mem_cons_of_mem _ hz))
              clear HX HY HT HPP HO hT HP HM
              go_wp2
              go_quiet (fail)
              go_wp2
              go_roundw
              case rel => exact ⟨(x : Int) :: r, some ⟨g, 0, none⟩, c2, by simp, HM2.out, HN.out, by simp; omega, own_ext (Ext.drewN (Ext.refl wr) _) HPo.out, Ext.drewN hE _⟩
              case measure => simp [slLen]

    · have hkn : Hid (k = zs.length) := by show k = zs.length; omega
      go_wp2
      go_ret
      exact ⟨a1, c1, by rw [hkn.out]; simp, by rw [← hkn.out]; simpa using hown, hE⟩

set_option maxHeartbeats 2000000 in
theorem rtCorners_any (a : Option Addr) (n c : Nat) (zs : List Int) (hn : n ≤ 13) (hz : ∀ j : Nat, j < zs.length → numB (cf zs j) = true) (w : World) (h : Reads w a 1 n (iv zs)) :
    Calls Try.prog 45 #[.slice a n c] w (OwnsInts w.heap.size (cornR zs n).reverse w) := by
  have hl : zs.length = n := by have := h.1; rw [iv_len] at this; omega
  subst hl
  have HF := Lib.hid (cornF_fin zs zs.length)
  obtain ⟨ps, hps⟩ : ∃ ps, ps = finI zs zs.length := ⟨_, rfl⟩
  have hpl : ps.length ≤ 13 := by rw [hps]; have := finI_len zs zs.length; omega
  have HPm := Lib.hid (fun x (hx : x ∈ ps) => finI_mem zs zs.length x (by rw [← hps]; exact hx))
  have HPs := Lib.hid (show ps.Pairwise (· < ·) by rw [hps]; exact finI_sorted zs _)
  have HCon := Lib.hid (rtPoints_any a zs.length c zs (by omega) w h)
  rw [← hps] at HF HCon
  clear hps
  go_enter Try.func45, Try.ntmps45
  go_wp2_with fail
  refine HCon.out.mono ?_
  rintro e w1 ⟨pa, pc, rfl, hpo, hE1⟩
  have hP := own_reads hpo
  clear hpo HCon
  replace h := Reads.ext hE1 h
  go_wp2
  go_loopw [3, 11] (fun s t wr => ∃ (j : Nat) (a1 : Option Addr) (c1 : Nat), j ≤ ps.length ∧ t = .int .i64 j ∧ s = .slice a1 (cornF zs (ps.take j)).length c1 ∧ wr.ownsRow w1.heap.size 3 1 (.slice a1 (cornF zs (ps.take j)).length c1) (cornF zs (ps.take j)).length (iv (cornF zs (ps.take j)).reverse) ∧ Ext w1 wr) (fun _ t _ => ps.length - (intOf t).toNat)
  case atStart => exact ⟨0, none, 0, Nat.zero_le _, rfl, rfl, World.ownsRow_nil _ _ _ _, Ext.refl _⟩
  case round =>
    obtain ⟨j, a1, c1, hj, rfl, rfl, hown, hEr⟩ := hrel
    by_cases hjlt : j < ps.length
    · have hlen : (cornF zs (ps.take j)).length ≤ 13 := by have := cornF_len zs (ps.take j); simp at this; omega
      have hkm := HPm.out ps[j] (List.getElem_mem hjlt)
      obtain ⟨k, hke⟩ := Int.eq_ofNat_of_zero_le hkm.1
      have hlt : k < zs.length := by omega
      have hE := hEr
      have hmem : ∀ x ∈ cornF zs (ps.take j), 0 ≤ x ∧ x < (k : Int) ∧ cf zs x ≠ 1000000000 := by
        intro x hx
        have h1 := cornF_mem zs _ x hx
        have h2 := HPm.out x (List.mem_of_mem_take h1)
        refine ⟨h2.1, ?_, h2.2.2⟩
        obtain ⟨i, hi, rfl⟩ := List.mem_take_iff_getElem.1 h1
        have := (List.pairwise_iff_getElem.1 HPs.out) i j (by omega) hjlt (by omega)
        omega
      have hi : cf zs k ≠ 1000000000 := by rw [hke] at hkm; exact hkm.2.2
      have bk := num_bd (hz k hlt) hi
      have HC := Lib.hid (show cornF zs (ps.take (j + 1)) = (k : Int) :: popI zs k (cornF zs (ps.take j)) by rw [List.take_succ_eq_append_getElem hjlt, cornF_snoc, hke])
      obtain ⟨pb, poff, hpa, hpc⟩ := (Reads.ext hEr hP).2 (by omega)
      subst hpa
      have hpk := hpc j _ (iv_at hjlt)
      rw [show ps.getD j 0 = (k : Int) by simp [List.getD, hjlt, hke]] at hpk
      obtain ⟨b, off, ha, hcell⟩ := (Reads.ext hE h).2 (by omega)
      subst ha
      clear hcell hi hpc hkm hke
      have HE1 := Lib.hid hE1
      have HPr := Lib.hid hP
      clear hE1 hP hEr
      obtain ⟨wo, hwo⟩ : ∃ wo, wo = wr := ⟨_, rfl⟩
      subst hwo
      go_wp2
      go_loopw [3] (fun s wr => ∃ (st : List Int) (a2 : Option Addr) (c2 : Nat), s = .slice a2 st.length c2 ∧ (∀ x ∈ st, 0 ≤ x ∧ x < (k : Int) ∧ cf zs x ≠ 1000000000) ∧ popI zs k st = popI zs k (cornF zs (ps.take j)) ∧ st.length ≤ 13 ∧ wr.ownsRow w1.heap.size 3 1 (.slice a2 st.length c2) st.length (iv st.reverse) ∧ Ext w1 wr) (fun s _ => slLen s)
      case atStart => exact ⟨cornF zs (ps.take j), a1, c1, rfl, hmem, rfl, hlen, hown, (by repeat (first | exact Ext.refl _ | assumption | apply Ext.alloc | apply Ext.drew | apply Ext.drewN | (refine Ext.trans ?_ (by assumption)) | (refine Ext.setCell ?_ (by (try simp) <;> omega) _)))⟩
      case round =>
        clear hown hE hmem
        obtain ⟨st, a2, c2, rfl, hm, hpop, hsl, hown, hE⟩ := hrel
        have hsz := hE.size
        have HP := Lib.hid hpop
        have HM := Lib.hid hm
        clear hpop hm
        by_cases h1 : st.length ≤ 1
        · have HS : Hid (popI zs k (cornF zs (ps.take j)) = st) := by
            show popI zs k (cornF zs (ps.take j)) = st
            rw [← HP.out]
            match st, h1 with
            | [], _ => rfl
            | [_], _ => rfl
          go_wp2_with (at_builtin; refine wpList_app1 rfl _ _ rfl w1 w1.heap.size _ _ _ st.reverse (k : Int) rfl (hown.alloc _) wr.heap.size rfl (by simp) (by omega) (by simp; omega) (hE.alloc _) (Nat.le_refl _) ?_)
          intro a3 c3 w3 hown3 hE3
          clear hown
          go_wp2
          go_roundw
          case rel => exact ⟨j + 1, a3, c3, by omega, by go_num, by rw [HC.out, HS.out]; simp, by rw [HC.out, HS.out]; simpa using hown3, hE3⟩
          case measure => simp [intOf]; omega
        · obtain ⟨y, x, r, rfl⟩ : ∃ y x r, st = y :: x :: r := by
            match st, h1 with
            | [], h1 => exact absurd (Nat.zero_le _) h1
            | [_], h1 => exact absurd (Nat.le_refl _) h1
            | y :: x :: r, _ => exact ⟨y, x, r, rfl⟩
          have hmx := HM.out x (by simp)
          have hmy := HM.out y (by simp)
          obtain ⟨x, rfl⟩ := Int.eq_ofNat_of_zero_le hmx.1
          obtain ⟨y, rfl⟩ := Int.eq_ofNat_of_zero_le hmy.1
          have bx := num_bd (hz x (by omega)) hmx.2.2
          have by' := num_bd (hz y (by omega)) hmy.2.2
          have hcell := (Reads.ext hE h).cells
          have hcx := hcell x _ (cf_at (by omega))
          have hcy := hcell y _ (cf_at (by omega))
          have hck := hcell k _ (cf_at hlt)
          obtain ⟨g, rfl, hg1, hg2⟩ := own_head hown (by simp)
          have hty := hown.cellAt (r.length + 1) (by simp)
          have htx := hown.cellAt r.length (by simp; omega)
          rw [show r.length + 1 = ((x : Int) :: r).length from rfl, iv_top] at hty
          rw [iv_two] at htx
          simp only [List.length_cons] at hty hsl
          have HT := Lib.hid (turn_le (zs := zs) (a := x) (b := y) (i := k))
          have HX := Lib.hid (fun e : turnI (pt zs x) (pt zs y) (pt zs k) ≤ 0 => show popI zs k ((y : Int) :: (x : Int) :: r) = popI zs k ((x : Int) :: r) by simp only [popI]; rw [if_pos e])
          have HY := Lib.hid (fun e : ¬ turnI (pt zs x) (pt zs y) (pt zs k) ≤ 0 => show popI zs k ((y : Int) :: (x : Int) :: r) = (y : Int) :: (x : Int) :: r by simp only [popI]; rw [if_neg e])
          generalize (turnI (pt zs x) (pt zs y) (pt zs k) ≤ 0) = T at HT HX HY
          have HO := Lib.hid (show wr.ownsRow w1.heap.size 3 1 (.slice (some ⟨g, 0, none⟩) (r.length + 1 + 1) c2) (r.length + 1 + 1) (iv ((y : Int) :: (x : Int) :: r).reverse) from hown)
          have hp0 := hown
          rw [iv_pop] at hp0
          have HPo := Lib.hid (ownsRow_pop (n := r.length + 1) (xs := iv ((x : Int) :: r).reverse) (by simp [iv]) hp0)
          clear hp0
          have HPP := HP
          generalize popI zs k (cornF zs (ps.take j)) = Q at *
          generalize cf zs x = zx at *
          generalize cf zs y = zy at *
          generalize cf zs k = zk at *
          have M1 := mul_bd (A := 2000000) (D := 13) (by omega : -2000000 ≤ zy - zx) (by omega) (by omega : -13 ≤ (k : Int) - x) (by omega)
          have M2 := mul_bd (A := 2000000) (D := 13) (by omega : -2000000 ≤ zk - zx) (by omega) (by omega : -13 ≤ (y : Int) - x) (by omega)
          clear hcell hown h hz
          have hlx : x < k := by omega
          have hcap := (own_cap HO.out).1
          have hcap2 : (r.length : Int) + 1 ≤ c2 := by omega
          have hly : y < k := by omega
          clear hmx hmy
          go_wp2
          go_quiet (fail)
          by_cases hT : (zy - zx) * ((k : Int) - x) < (zk - zx) * ((y : Int) - x)
          · have hT2 : decide ((zy - zx) * ((k : Int) - x) < (zk - zx) * ((y : Int) - x)) = true := decide_eq_true hT
            have HS : Hid (Q = (y : Int) :: (x : Int) :: r) := by
              show Q = (y : Int) :: (x : Int) :: r
              rw [← HP.out]
              exact HY.out (fun e => absurd hT (by have := HT.out.1 e; omega))
            clear HX HY HT HPP HPo hT HP
            go_wp2
            go_quiet (fail)
            go_wp2_with (at_builtin; go_must (refine wpList_app1 rfl _ _ rfl w1 w1.heap.size _ _ _ ((y : Int) :: (x : Int) :: r).reverse (k : Int) rfl (own_ext ((Ext.drewN (Ext.refl wr) _).alloc _) HO.out) wr.heap.size rfl (cell_fresh rfl _ _) (by omega) (by simp; omega) ((Ext.drewN hE _).alloc _) (Nat.le_refl _) ?_))
            intro a3 c3 w3 hown3 hE3
            clear HO
            go_wp2
            go_roundw
            case rel => exact ⟨j + 1, a3, c3, by omega, by go_num, by rw [HC.out, HS.out]; simp, by rw [HC.out, HS.out]; simpa using hown3, hE3⟩
            case measure => simp [intOf]; omega
          · have hT2 : decide ((zy - zx) * ((k : Int) - x) < (zk - zx) * ((y : Int) - x)) = false := decide_eq_false hT
            have HN : Hid (popI zs k ((x : Int) :: r) = Q) := by
              show popI zs k ((x : Int) :: r) = Q
              rw [← HP.out]
              exact (HX.out (HT.out.2 (by omega))).symm
            have HM2 := Lib.hid (fun z (hz : z ∈ (x : Int) :: r) => HM.out z (List.mem_cons_of_mem _ hz))
            clear HX HY HT HPP HO hT HP HM
            go_wp2
            go_quiet (fail)
            go_wp2
            go_roundw
            case rel => exact ⟨(x : Int) :: r, some ⟨g, 0, none⟩, c2, by simp, HM2.out, HN.out, by simp; omega, own_ext (Ext.drewN (Ext.refl wr) _) HPo.out, Ext.drewN hE _⟩
            case measure => simp [slLen]

    · have hkn : Hid (j = ps.length) := by show j = ps.length; omega
      have e : ps.take j = ps := by rw [hkn.out]; exact List.take_length
      rw [e, HF.out] at hown ⊢
      go_wp2
      go_ret
      exact ⟨a1, c1, by simp, by simpa using own_mono hE1.size hown, hE1.trans hEr⟩

end Go.Proofs.Ytaloegjcdllgoaa
