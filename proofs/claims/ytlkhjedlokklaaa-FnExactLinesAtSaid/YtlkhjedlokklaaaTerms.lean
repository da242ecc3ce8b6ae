/-
  The contracts of the functions on the terms of a line at a point; their laws.
-/
import Derived.Test.YtlkhjedlokklaaaLine2
import Derived.Test.YtlkhjedlokklaaaPlaces
namespace Go.Proofs.Ytlkhjedlokklaaa
open Go.RowKit

/-- The numbers of the terms of a line with the least value at a point. -/
def lineT (a b c x y : Int) : List Int := placesTo [a + x, b + y, c] (lowI [a + x, b + y, c] 3) 3
theorem lineT_le (a b c x y : Int) : (lineT a b c x y).length ≤ 3 := placesTo_le _ _ _
theorem own_iv_nil (w : World) (B : Nat) : w.ownsRow B 3 1 (.slice none 0 0) 0 (iv []) := World.ownsRow_nil _ _ _ _
/-- A list that is told only where the arguments are valid. -/
def gL (t : Bool) (l : List Int) : List Int := if t then l else []
theorem gL_le {t : Bool} {l : List Int} {k : Nat} (h : l.length ≤ k) : (gL t l).length ≤ k := by unfold gL; split <;> simp [h]
/-- A slice that reads so, and nothing that was there has turned. -/
def ReadsInts (zs : List Int) (w : World) (r : Ending) (w' : World) : Prop := ∃ a c, r = .returned (.slice a zs.length c) ∧ Reads w' a 1 zs.length (iv zs) ∧ Ext w w'
/-- A slice of the call's own and a bool. -/
def OwnsIntsB (B : Nat) (zs : List Int) (ok : Bool) (w : World) (r : Ending) (w' : World) : Prop :=
  ∃ a c, r = .returned (.tuple #[.slice a zs.length c, .bool ok]) ∧ w'.ownsRow B 3 1 (.slice a zs.length c) zs.length (iv zs) ∧ Ext w w'

theorem terms_any (a b c x y : Int) (a1 : -1000000 ≤ a) (a2 : a ≤ 1000000) (b1 : -1000000 ≤ b) (b2 : b ≤ 1000000) (x1 : -1000000 ≤ x) (x2 : x ≤ 1000000) (y1 : -1000000 ≤ y) (y2 : y ≤ 1000000) (w : World) :
    Calls Try.prog 106 #[.agg #[.int .i64 a, .int .i64 b, .int .i64 c], .int .i64 x, .int .i64 y] w (ReadsInts [a + x, b + y, c] w) := by
  go_enter Try.func106, Try.ntmps106
  go_wp2
  go_ret
  refine ⟨_, _, rfl, ⟨rfl, fun _ => ⟨_, _, rfl, fun j u hj => ?_⟩⟩, (by repeat (first | exact Ext.refl _ | assumption | apply Ext.alloc | apply Ext.drew | apply Ext.drewN | (refine Ext.trans ?_ (by assumption)) | (refine Ext.setCell ?_ (by simp; done) _) | (refine Ext.setCell ?_ (by simp; omega) _)))⟩
  match j, hj with
  | 0, hj => simp [iv] at hj; subst hj; simp
  | 1, hj => simp [iv] at hj; subst hj; simp
  | 2, hj => simp [iv] at hj; subst hj; simp

theorem termsOn_any (a b c x y : Int) (a1 : -1000000 ≤ a) (a2 : a ≤ 1000000) (b1 : -1000000 ≤ b) (b2 : b ≤ 1000000) (x1 : -1000000 ≤ x) (x2 : x ≤ 1000000) (y1 : -1000000 ≤ y) (y2 : y ≤ 1000000) (w : World) :
    Calls Try.prog 87 #[.agg #[.int .i64 a, .int .i64 b, .int .i64 c], .int .i64 x, .int .i64 y] w (OwnsInts w.heap.size (lineT a b c x y) w) := by
  have HL : Hid (placesTo [a + x, b + y, c] (lowI [a + x, b + y, c] 3) (List.length [a + x, b + y, c]) = lineT a b c x y) := Lib.hid rfl
  go_enter Try.func87, Try.ntmps87
  go_wp2_with fail
  refine (terms_any _ _ _ _ _ (by omega) (by omega) (by omega) (by omega) (by omega) (by omega) (by omega) (by omega) _).mono ?_
  rintro e w1 ⟨g, c0, rfl, hr, hb1⟩
  go_wp2_with fail
  have h0 : List.getD [a + x, b + y, c] 0 0 ≤ 1000000000 := by show a + x ≤ 1000000000; omega
  refine (min_any _ _ _ [a + x, b + y, c] (by simp) (by simp) h0 _ hr).mono ?_
  rintro e _ ⟨rfl, rfl⟩
  go_wp2_with fail
  refine (placesOf_any _ _ _ [a + x, b + y, c] _ (by simp) _ hr).mono ?_
  rintro e w2 ⟨a2, c2, rfl, hown, hb2⟩
  rw [HL.out] at hown ⊢
  go_wp2
  go_ret
  exact ⟨a2, c2, rfl, own_mono (by have := hb1.size; simp at this; omega) hown, (by repeat (first | exact Ext.refl _ | assumption | apply Ext.alloc | apply Ext.drew | apply Ext.drewN | (refine Ext.trans ?_ (by assumption)) | (refine Ext.setCell ?_ (by simp; done) _) | (refine Ext.setCell ?_ (by simp; omega) _)))⟩

set_option maxHeartbeats 1000000 in
theorem lnTerms_any (a b c x y : Int) (a1 : -1000000 ≤ a) (a2 : a ≤ 1000000) (b1 : -1000000 ≤ b) (b2 : b ≤ 1000000) (x1 : -1000000 ≤ x) (x2 : x ≤ 1000000) (y1 : -1000000 ≤ y) (y2 : y ≤ 1000000) (w : World) :
    Calls Try.prog 84 #[.agg #[.int .i64 a, .int .i64 b, .int .i64 c], .int .i64 x, .int .i64 y] w (OwnsInts w.heap.size (lineT a b c x y) w) := by
  have HL : Hid (placesTo [a + x, b + y, c] (lowI [a + x, b + y, c] 3) 3 = lineT a b c x y) := Lib.hid rfl
  have hr : Reads ((w.alloc (.cells #[.int .i64 a, .int .i64 b, .int .i64 c] 55)).alloc (.cells #[.int .i64 (a + x), .int .i64 (b + y), .int .i64 c] 3)) (some ⟨w.heap.size + 1, 0, none⟩) 1 3 (iv [a + x, b + y, c]) := by
    refine ⟨rfl, fun _ => ⟨_, _, rfl, fun j u hj => ?_⟩⟩
    match j, hj with
    | 0, hj => simp [iv] at hj; subst hj; simp
    | 1, hj => simp [iv] at hj; subst hj; simp
    | 2, hj => simp [iv] at hj; subst hj; simp
  have hE0 : Ext w ((w.alloc (.cells #[.int .i64 a, .int .i64 b, .int .i64 c] 55)).alloc (.cells #[.int .i64 (a + x), .int .i64 (b + y), .int .i64 c] 3)) := (by repeat (first | exact Ext.refl _ | assumption | apply Ext.alloc | apply Ext.drew | apply Ext.drewN | (refine Ext.trans ?_ (by assumption)) | (refine Ext.setCell ?_ (by simp; done) _) | (refine Ext.setCell ?_ (by simp; omega) _)))
  go_enter Try.func84, Try.ntmps84
  go_wp2_with fail
  refine (nuSum_any _ _ _ [a + x, b + y, c] (by omega) _ hr).mono ?_
  rintro e _ ⟨rfl, rfl⟩
  generalize (w.alloc (.cells #[.int .i64 a, .int .i64 b, .int .i64 c] 55)).alloc (.cells #[.int .i64 (a + x), .int .i64 (b + y), .int .i64 c] 3) = W at hr hE0 ⊢
  generalize lowI [a + x, b + y, c] 3 = z at HL ⊢
  obtain ⟨zs, hzs⟩ : ∃ zs, zs = [a + x, b + y, c] := ⟨_, rfl⟩
  rw [← hzs] at hr HL
  have hl : zs.length = 3 := by rw [hzs]; rfl
  clear hzs
  go_wp2
  go_loopw [9, 10, 11, 27] (fun s _ _ t wr => ∃ (k : Nat) (a1 : Option Addr) (c1 : Nat), k ≤ 3 ∧ t = .int .i64 k ∧ s = .slice a1 (placesTo zs z k).length c1 ∧ wr.ownsRow W.heap.size 3 1 (.slice a1 (placesTo zs z k).length c1) (placesTo zs z k).length (iv (placesTo zs z k)) ∧ Ext W wr) (fun _ _ _ t _ => 3 - (intOf t).toNat)
  case atStart => exact ⟨0, none, 0, Nat.zero_le _, rfl, rfl, World.ownsRow_nil _ _ _ _, Ext.refl _⟩
  case round =>
    obtain ⟨k, a1, c1, hk, rfl, rfl, hown, hE⟩ := hrel
    have hple := placesTo_le zs z k
    by_cases hlt : k < 3
    · obtain ⟨b', off, hb', hcell⟩ := (Reads.ext hE hr).2 (by omega)
      simp only [Option.some.injEq, Addr.mk.injEq, and_true] at hb'
      obtain ⟨rfl, rfl⟩ := hb'
      have hck := hcell k _ (iv_at (by omega))
      simp only [Nat.zero_add] at hck
      have P1 := Lib.hid (placesTo_hit (zs := zs) (z := z) (k := k))
      have P2 := Lib.hid (placesTo_miss (zs := zs) (z := z) (k := k))
      generalize zs.getD k 0 = y' at hck P1 P2
      generalize placesTo zs z k = ps at hown hple P1 P2
      have HS := Lib.hid hl
      clear hcell hr hl
      go_wp2_with (at_builtin; refine wpList_app1 rfl _ _ rfl W W.heap.size _ _ _ ps (k : Int) rfl (hown.alloc _) wr.heap.size rfl (by simp) (by omega) (by have := hE.size; simp; omega) (hE.alloc _) (Nat.le_refl _) ?_)
      · intro a2 c2 w2 hown2 hE2
        have hyz : (y' == z) = true := by first | assumption | (rw [beq_iff_eq]; assumption)
        have P := Lib.hid (P1.out hyz)
        clear P1 P2 hown hyz
        go_wp2
        go_roundw
        case rel => exact ⟨k + 1, a2, c2, by omega, by go_num, by rw [P.out]; simp, by rw [P.out]; simpa using hown2, hE2⟩
        case measure => simp [intOf]; omega
      · have hyz : (y' == z) = false := by first | assumption | (rw [beq_eq_false_iff_ne]; assumption)
        have P := Lib.hid (P2.out hyz)
        go_roundw
        case rel => exact ⟨k + 1, a1, c1, by omega, by go_num, by rw [P.out], by rw [P.out]; exact hown, hE⟩
        case measure => simp [intOf]; omega
    · have hkn : Hid (k = 3) := by show k = 3; omega
      go_wp2
      go_ret
      refine ⟨a1, c1, ?_, ?_, hE0.trans hE⟩
      · rw [← HL.out, ← hkn.out]; rfl
      · have h := own_mono hE0.size hown
        rw [hkn.out, HL.out] at h
        exact h

theorem spec_TermsOn_any (a b c x y : Int) (w : World) :
    Calls Try.prog 41 #[.agg #[.int .i64 a, .int .i64 b, .int .i64 c], .int .i64 x, .int .i64 y] w (OwnsIntsB w.heap.size (gL (fin3 a b c && finB x && finB y) (lineT a b c x y)) (fin3 a b c && finB x && finB y) w) := by
  have HA := (Has.new w #[.int .i64 a, .int .i64 b, .int .i64 c] 55)
  have Ac0 := Ext.keeps (HA 0 _ rfl)
  have Ac1 := Ext.keeps (HA 1 _ rfl)
  have Ac2 := Ext.keeps (HA 2 _ rfl)
  clear HA
  have hE : Ext (w.alloc (.cells #[.int .i64 a, .int .i64 b, .int .i64 c] 55)) (w.alloc (.cells #[.int .i64 a, .int .i64 b, .int .i64 c] 55)) := Ext.refl _
  rcases fin3_cases a b c with h | ⟨h, hx⟩ <;> rcases finB_cases x with h1 | ⟨h1, k1⟩ <;> rcases finB_cases y with h2 | ⟨h2, k2⟩
  case inr.inr.inr =>
    go_enter Try.func41, Try.ntmps41
    go_wp2_with fail
    refine (lnAsked_any _ _ _ _ _ _).mono ?_
    rintro e w' ⟨rfl, hb⟩
    (first | replace hE := Ext.trans hE hb | replace hE := Ext.trans (Ext.alloc hE _) hb | replace hE := Ext.trans (Ext.alloc (Ext.alloc hE _) _) hb | replace hE := Ext.trans (Ext.drew hE) hb | replace hE := Ext.trans (Ext.alloc (Ext.alloc (Ext.alloc hE _) _) _) hb)
    go_wp2_with fail
    refine (lnTerms_any _ _ _ _ _ (by omega) (by omega) (by omega) (by omega) (by omega) (by omega) (by omega) (by omega) _).mono ?_
    rintro e w2 ⟨a2, c2, rfl, hown, hb⟩
    go_wp2
    go_ret2
    refine ⟨a2, c2, ?_, ?_, (by repeat (first | exact Ext.refl _ | assumption | apply Ext.alloc | apply Ext.drew | apply Ext.drewN | (refine Ext.trans ?_ (by assumption)) | (refine Ext.setCell ?_ (by simp; done) _) | (refine Ext.setCell ?_ (by simp; omega) _)))⟩
    · simp [gL, h, h1, h2]
    · have hz := hE.size
      simp at hz
      simpa [gL, h, h1, h2] using own_mono (B' := w.heap.size) (by omega) hown
  all_goals (
    go_enter Try.func41, Try.ntmps41
    go_wp2_with ((go_at_call 83; refine (lnAsked_any _ _ _ _ _ _).mono ?_; rintro e w' ⟨rfl, hb⟩; (first | replace hE := Ext.trans hE hb | replace hE := Ext.trans (Ext.alloc hE _) hb | replace hE := Ext.trans (Ext.alloc (Ext.alloc hE _) _) hb | replace hE := Ext.trans (Ext.drew hE) hb | replace hE := Ext.trans (Ext.alloc (Ext.alloc (Ext.alloc hE _) _) _) hb)))
    go_ret2
    refine ⟨none, 0, ?_, ?_, (by repeat (first | exact Ext.refl _ | assumption | apply Ext.alloc | apply Ext.drew | apply Ext.drewN | (refine Ext.trans ?_ (by assumption)) | (refine Ext.setCell ?_ (by simp; done) _) | (refine Ext.setCell ?_ (by simp; omega) _)))⟩
    · simp [gL, h, h1, h2]
    · simpa [gL, h, h1, h2] using own_iv_nil _ _)

theorem impl_TermsOn_any (a b c x y : Int) (w : World) :
    Calls Try.prog 43 #[.agg #[.int .i64 a, .int .i64 b, .int .i64 c], .int .i64 x, .int .i64 y] w (OwnsIntsB w.heap.size (gL (fin3 a b c && finB x && finB y) (lineT a b c x y)) (fin3 a b c && finB x && finB y) w) := by
  have HA := (Has.new w #[.int .i64 a, .int .i64 b, .int .i64 c] 55)
  have Ac0 := Ext.keeps (HA 0 _ rfl)
  have Ac1 := Ext.keeps (HA 1 _ rfl)
  have Ac2 := Ext.keeps (HA 2 _ rfl)
  clear HA
  have hE : Ext (w.alloc (.cells #[.int .i64 a, .int .i64 b, .int .i64 c] 55)) (w.alloc (.cells #[.int .i64 a, .int .i64 b, .int .i64 c] 55)) := Ext.refl _
  rcases fin3_cases a b c with h | ⟨h, hx⟩
  · go_enter Try.func43, Try.ntmps43
    go_wp2_with ((go_at_call 85; refine (isLine_any _ _ _ _).mono ?_; rintro e w' ⟨rfl, hb⟩; (first | replace hE := Ext.trans hE hb | replace hE := Ext.trans (Ext.alloc hE _) hb | replace hE := Ext.trans (Ext.alloc (Ext.alloc hE _) _) hb | replace hE := Ext.trans (Ext.drew hE) hb | replace hE := Ext.trans (Ext.alloc (Ext.alloc (Ext.alloc hE _) _) _) hb)))
    go_ret2
    refine ⟨none, 0, ?_, ?_, (by repeat (first | exact Ext.refl _ | assumption | apply Ext.alloc | apply Ext.drew | apply Ext.drewN | (refine Ext.trans ?_ (by assumption)) | (refine Ext.setCell ?_ (by simp; done) _) | (refine Ext.setCell ?_ (by simp; omega) _)))⟩
    · simp [gL, h]
    · simpa [gL, h] using own_iv_nil _ _
  rcases finB_cases x with h1 | ⟨h1, k1⟩ <;> rcases finB_cases y with h2 | ⟨h2, k2⟩
  case inr.inr.inr =>
    go_enter Try.func43, Try.ntmps43
    go_wp2_with fail
    refine (isLine_any _ _ _ _).mono ?_
    rintro e w' ⟨rfl, hb⟩
    (first | replace hE := Ext.trans hE hb | replace hE := Ext.trans (Ext.alloc hE _) hb | replace hE := Ext.trans (Ext.alloc (Ext.alloc hE _) _) hb | replace hE := Ext.trans (Ext.drew hE) hb | replace hE := Ext.trans (Ext.alloc (Ext.alloc (Ext.alloc hE _) _) _) hb)
    go_wp2_with fail
    refine (areFinite_any _ _ _ _ [x, y] rfl (by simp) _ ?_).mono ?_
    · intro i hi
      match i, hi with
      | 0, _ => simp
      | 1, _ => simp
    rintro e _ ⟨rfl, rfl⟩
    simp only [List.all_cons, List.all_nil, Bool.and_true, h1, h2]
    replace hE := Ext.alloc hE (.cells #[.int .i64 x, .int .i64 y] 3)
    go_wp2_with fail
    refine (termsOn_any _ _ _ _ _ (by omega) (by omega) (by omega) (by omega) (by omega) (by omega) (by omega) (by omega) _).mono ?_
    rintro e w2 ⟨a2, c2, rfl, hown, hb⟩
    go_wp2
    go_ret2
    refine ⟨a2, c2, ?_, ?_, (by repeat (first | exact Ext.refl _ | assumption | apply Ext.alloc | apply Ext.drew | apply Ext.drewN | (refine Ext.trans ?_ (by assumption)) | (refine Ext.setCell ?_ (by simp; done) _) | (refine Ext.setCell ?_ (by simp; omega) _)))⟩
    · simp [gL, h, h1, h2]
    · have hz := hE.size
      simp at hz
      simpa [gL, h, h1, h2] using own_mono (B' := w.heap.size) (by simp; omega) hown
  all_goals (
    go_enter Try.func43, Try.ntmps43
    go_wp2_with fail
    refine (isLine_any _ _ _ _).mono ?_
    rintro e w' ⟨rfl, hb⟩
    (first | replace hE := Ext.trans hE hb | replace hE := Ext.trans (Ext.alloc hE _) hb | replace hE := Ext.trans (Ext.alloc (Ext.alloc hE _) _) hb | replace hE := Ext.trans (Ext.drew hE) hb | replace hE := Ext.trans (Ext.alloc (Ext.alloc (Ext.alloc hE _) _) _) hb)
    go_wp2_with fail
    refine (areFinite_any _ _ _ _ [x, y] rfl (by simp) _ ?_).mono ?_
    · intro i hi
      match i, hi with
      | 0, _ => simp
      | 1, _ => simp
    rintro e _ ⟨rfl, rfl⟩
    simp only [List.all_cons, List.all_nil, Bool.and_true, h1, h2]
    go_wp2
    go_ret2
    refine ⟨none, 0, ?_, ?_, (by repeat (first | exact Ext.refl _ | assumption | apply Ext.alloc | apply Ext.drew | apply Ext.drewN | (refine Ext.trans ?_ (by assumption)) | (refine Ext.setCell ?_ (by simp; done) _) | (refine Ext.setCell ?_ (by simp; omega) _)))⟩
    · simp [gL, h, h1, h2]
    · simpa [gL, h, h1, h2] using own_iv_nil _ _)

/-- Whether a point is on a line. -/
def onL (a b c x y : Int) : Bool := decide ((1 : Int) < ((lineT a b c x y).length : Int))

theorem impl_IsOnLine_any (a b c x y : Int) (w : World) :
    Calls Try.prog 90 #[.agg #[.int .i64 a, .int .i64 b, .int .i64 c], .int .i64 x, .int .i64 y] w fun r w' => r = .returned (.tuple #[.bool ((fin3 a b c && finB x && finB y) && onL a b c x y), .bool (fin3 a b c && finB x && finB y)]) ∧ Ext w w' := by
  have HA := (Has.new w #[.int .i64 a, .int .i64 b, .int .i64 c] 55)
  have Ac0 := Ext.keeps (HA 0 _ rfl)
  have Ac1 := Ext.keeps (HA 1 _ rfl)
  have Ac2 := Ext.keeps (HA 2 _ rfl)
  clear HA
  have hE : Ext (w.alloc (.cells #[.int .i64 a, .int .i64 b, .int .i64 c] 55)) (w.alloc (.cells #[.int .i64 a, .int .i64 b, .int .i64 c] 55)) := Ext.refl _
  rcases fin3_cases a b c with h | ⟨h, hx⟩
  · go_enter Try.func90, Try.ntmps90
    go_wp2_with ((go_at_call 85; refine (isLine_any _ _ _ _).mono ?_; rintro e w' ⟨rfl, hb⟩; (first | replace hE := Ext.trans hE hb | replace hE := Ext.trans (Ext.alloc hE _) hb | replace hE := Ext.trans (Ext.alloc (Ext.alloc hE _) _) hb | replace hE := Ext.trans (Ext.drew hE) hb | replace hE := Ext.trans (Ext.alloc (Ext.alloc (Ext.alloc hE _) _) _) hb)))
    go_ret2
    exact ⟨ret_bb (by simp [h]) (by simp [h]), (by repeat (first | exact Ext.refl _ | assumption | apply Ext.alloc | apply Ext.drew | apply Ext.drewN | (refine Ext.trans ?_ (by assumption)) | (refine Ext.setCell ?_ (by simp; done) _) | (refine Ext.setCell ?_ (by simp; omega) _)))⟩
  rcases finB_cases x with h1 | ⟨h1, k1⟩ <;> rcases finB_cases y with h2 | ⟨h2, k2⟩
  case inr.inr.inr =>
    go_enter Try.func90, Try.ntmps90
    go_wp2_with fail
    refine (isLine_any _ _ _ _).mono ?_
    rintro e w' ⟨rfl, hb⟩
    (first | replace hE := Ext.trans hE hb | replace hE := Ext.trans (Ext.alloc hE _) hb | replace hE := Ext.trans (Ext.alloc (Ext.alloc hE _) _) hb | replace hE := Ext.trans (Ext.drew hE) hb | replace hE := Ext.trans (Ext.alloc (Ext.alloc (Ext.alloc hE _) _) _) hb)
    go_wp2_with fail
    refine (areFinite_any _ _ _ _ [x, y] rfl (by simp) _ ?_).mono ?_
    · intro i hi
      match i, hi with
      | 0, _ => simp
      | 1, _ => simp
    rintro e _ ⟨rfl, rfl⟩
    simp only [List.all_cons, List.all_nil, Bool.and_true, h1, h2]
    replace hE := Ext.alloc hE (.cells #[.int .i64 x, .int .i64 y] 3)
    go_wp2_with fail
    refine (termsOn_any _ _ _ _ _ (by omega) (by omega) (by omega) (by omega) (by omega) (by omega) (by omega) (by omega) _).mono ?_
    rintro e w2 ⟨a2, c2, rfl, hown, hb⟩
    go_wp2
    go_ret2
    exact ⟨ret_bb (by simp [h, h1, h2, onL]) (by simp [h, h1, h2]), (by repeat (first | exact Ext.refl _ | assumption | apply Ext.alloc | apply Ext.drew | apply Ext.drewN | (refine Ext.trans ?_ (by assumption)) | (refine Ext.setCell ?_ (by simp; done) _) | (refine Ext.setCell ?_ (by simp; omega) _)))⟩
  all_goals (
    go_enter Try.func90, Try.ntmps90
    go_wp2_with fail
    refine (isLine_any _ _ _ _).mono ?_
    rintro e w' ⟨rfl, hb⟩
    (first | replace hE := Ext.trans hE hb | replace hE := Ext.trans (Ext.alloc hE _) hb | replace hE := Ext.trans (Ext.alloc (Ext.alloc hE _) _) hb | replace hE := Ext.trans (Ext.drew hE) hb | replace hE := Ext.trans (Ext.alloc (Ext.alloc (Ext.alloc hE _) _) _) hb)
    go_wp2_with fail
    refine (areFinite_any _ _ _ _ [x, y] rfl (by simp) _ ?_).mono ?_
    · intro i hi
      match i, hi with
      | 0, _ => simp
      | 1, _ => simp
    rintro e _ ⟨rfl, rfl⟩
    simp only [List.all_cons, List.all_nil, Bool.and_true, h1, h2]
    go_wp2
    go_ret2
    exact ⟨ret_bb (by simp [h, h1, h2]) (by simp [h, h1, h2]), (by repeat (first | exact Ext.refl _ | assumption | apply Ext.alloc | apply Ext.drew | apply Ext.drewN | (refine Ext.trans ?_ (by assumption)) | (refine Ext.setCell ?_ (by simp; done) _) | (refine Ext.setCell ?_ (by simp; omega) _)))⟩)

theorem law_TermsOn (a b c x y : Int) (w : World) :
    Calls Try.prog 13 #[.agg #[.int .i64 a, .int .i64 b, .int .i64 c], .int .i64 x, .int .i64 y] w fun r w' => r = .returned (.bool true) ∧ Ext w w' := by
  obtain ⟨L, hL⟩ : ∃ L, L = (gL (fin3 a b c && finB x && finB y) (lineT a b c x y)) := ⟨_, rfl⟩
  obtain ⟨ok, hok⟩ : ∃ ok, ok = (fin3 a b c && finB x && finB y) := ⟨_, rfl⟩
  have hlen : L.length ≤ 3 := by rw [hL]; exact gL_le (lineT_le _ _ _ _ _)
  have CS : ∀ w, Calls Try.prog 41 #[.agg #[.int .i64 a, .int .i64 b, .int .i64 c], .int .i64 x, .int .i64 y] w (OwnsIntsB w.heap.size L ok w) := by rw [hL, hok]; exact spec_TermsOn_any _ _ _ _ _
  have CI : ∀ w, Calls Try.prog 43 #[.agg #[.int .i64 a, .int .i64 b, .int .i64 c], .int .i64 x, .int .i64 y] w (OwnsIntsB w.heap.size L ok w) := by rw [hL, hok]; exact impl_TermsOn_any _ _ _ _ _
  have HS := Lib.hid CS
  have HI := Lib.hid CI
  clear CS CI hL hok
  have HA := (Has.new w #[.int .i64 a, .int .i64 b, .int .i64 c] 51)
  have Ac0 := Ext.keeps (HA 0 _ rfl)
  have Ac1 := Ext.keeps (HA 1 _ rfl)
  have Ac2 := Ext.keeps (HA 2 _ rfl)
  clear HA
  have hE : Ext (w.alloc (.cells #[.int .i64 a, .int .i64 b, .int .i64 c] 51)) (w.alloc (.cells #[.int .i64 a, .int .i64 b, .int .i64 c] 51)) := Ext.refl _
  go_enter Try.func13, Try.ntmps13
  go_wp2_with fail
  refine (toLine_any _ _ _ _).mono ?_
  rintro e w' ⟨rfl, hb⟩
  (first | replace hE := Ext.trans hE hb | replace hE := Ext.trans (Ext.alloc hE _) hb | replace hE := Ext.trans (Ext.alloc (Ext.alloc hE _) _) hb | replace hE := Ext.trans (Ext.drew hE) hb | replace hE := Ext.trans (Ext.alloc (Ext.alloc (Ext.alloc hE _) _) _) hb)
  go_wp2_with fail
  refine (HS.out _).mono ?_
  rintro e w1 ⟨sa, sc, rfl, hs, hb⟩
  replace hE := Ext.trans hE hb
  have hz1 := hE.size
  have hq1 := hb.size
  have hT : Ext (w.alloc (.cells #[.int .i64 a, .int .i64 b, .int .i64 c] 51)) w1 := hE
  replace Ac0 := Ext.rebase hT Ac0
  replace Ac1 := Ext.rebase hT Ac1
  replace Ac2 := Ext.rebase hT Ac2
  clear hT
  replace hE : Ext w1 w1 := Ext.refl _
  go_wp2_with fail
  refine (toLine_any _ _ _ _).mono ?_
  rintro e w2 ⟨rfl, hb⟩
  (first | replace hE := Ext.trans hE hb | replace hE := Ext.trans (Ext.alloc hE _) hb | replace hE := Ext.trans (Ext.alloc (Ext.alloc hE _) _) hb | replace hE := Ext.trans (Ext.drew hE) hb | replace hE := Ext.trans (Ext.alloc (Ext.alloc (Ext.alloc hE _) _) _) hb)
  go_wp2_with fail
  refine (HI.out _).mono ?_
  rintro e w3 ⟨ga, gc, rfl, hg, hb⟩
  have hg0 := own_mono hE.size hg
  replace hE := Ext.trans hE hb
  go_wp2_with fail
  refine (eqIntS_same _ _ _ _ _ L (by omega) _ (own_reads hg) (own_reads (own_ext hE hs))).mono ?_
  rintro e w4 ⟨rfl, hb⟩
  replace hg0 := own_ext hb hg0
  replace hE := Ext.trans hE hb
  go_wp2_with fail
  refine (markIntS_any _ _ _ _ L _ (by omega) (by omega) (by omega) _ hg0).mono ?_
  rintro e w5 ⟨rfl, hm, hgr⟩
  replace hE := Ext.grown hE hgr (fun k hk => (hg0.lt k hk).1)
  go_wp2_with fail
  refine (heldIntS_any _ _ _ _ (by omega) (by omega) (by omega) _ (own_reads hm)).mono ?_
  rintro e _ ⟨rfl, rfl⟩
  go_wp2_with fail
  refine (toLine_any _ _ _ _).mono ?_
  rintro e w6 ⟨rfl, hb⟩
  (first | replace hE := Ext.trans hE hb | replace hE := Ext.trans (Ext.alloc hE _) hb | replace hE := Ext.trans (Ext.alloc (Ext.alloc hE _) _) hb | replace hE := Ext.trans (Ext.drew hE) hb | replace hE := Ext.trans (Ext.alloc (Ext.alloc (Ext.alloc hE _) _) _) hb)
  replace hm := own_ext hb hm
  go_wp2_with fail
  refine (HI.out _).mono ?_
  rintro e w7 ⟨ha, hc, rfl, hh, hb⟩
  replace hm := own_ext hb hm
  replace hE := Ext.trans hE hb
  go_wp2_with fail
  refine (eqIntS_same _ _ _ _ _ L (by omega) _ (own_reads hh) (own_reads (own_ext hE hs))).mono ?_
  rintro e w8 ⟨rfl, hb⟩
  replace hm := own_ext hb hm
  replace hE := Ext.trans hE hb
  go_wp2_with fail
  refine (heldIntS_any _ _ _ _ (by omega) (by omega) (by omega) _ (own_reads hm)).mono ?_
  rintro e _ ⟨rfl, rfl⟩
  go_wp2
  go_ret
  exact ⟨rfl, (by repeat (first | exact Ext.refl _ | assumption | apply Ext.alloc | apply Ext.drew | apply Ext.drewN | (refine Ext.trans ?_ (by assumption)) | (refine Ext.setCell ?_ (by simp; done) _) | (refine Ext.setCell ?_ (by simp; omega) _)))⟩

end Go.Proofs.Ytlkhjedlokklaaa
