/-
  Directions by their angles, in plain words: an order on steps that are not both nought.
-/
import Derived.Test.YtaloegjcdllgoaaSort
import Derived.Test.YtaloegjcdllgoaaPts
namespace Go.Proofs.Ytaloegjcdllgoaa
open Go.RowKit

def crI (p q : Int × Int) : Int := p.1 * q.2 - p.2 * q.1
def upB (p : Int × Int) : Bool := decide (0 < p.2) || (decide (p.2 = 0) && decide (0 < p.1))
def angI (p q : Int × Int) : Int := if upB p = upB q then -crI p q else if upB p = true then -1 else 1
def NZ (p : Int × Int) : Prop := p.1 ≠ 0 ∨ p.2 ≠ 0
def Up (p : Int × Int) : Prop := 0 < p.2 ∨ (p.2 = 0 ∧ 0 < p.1)
theorem upB_iff {p : Int × Int} : upB p = true ↔ Up p := by simp [upB, Up]
theorem up_nonneg {p : Int × Int} (h : Up p) : 0 ≤ p.2 := by unfold Up at h; omega
def ngP (p : Int × Int) : Int × Int := (-p.1, -p.2)
theorem up_ng {p : Int × Int} (h : NZ p) (h2 : upB p = false) : Up (ngP p) := by
  have h3 : ¬ Up p := fun e => by rw [upB_iff.2 e] at h2; cases h2
  unfold Up at h3
  unfold NZ at h
  show 0 < -p.2 ∨ (-p.2 = 0 ∧ 0 < -p.1)
  omega
theorem cr_ng (p q : Int × Int) : crI (ngP p) (ngP q) = crI p q := by unfold crI ngP; simp only [Int.neg_mul_neg]
theorem cr_three (p q r : Int × Int) : q.2 * crI p r = r.2 * crI p q + p.2 * crI q r := by unfold crI; grind
theorem up_le {p q r : Int × Int} (hp : Up p) (hq : Up q) (hr : Up r) (h1 : 0 ≤ crI p q) (h2 : 0 ≤ crI q r) : 0 ≤ crI p r ∧ (0 < crI p q ∨ 0 < crI q r → 0 < crI p r) := by
  have hi := cr_three p q r
  have n1 := up_nonneg hp
  have n3 := up_nonneg hr
  have m1 := Int.mul_nonneg n3 h1
  have m2 := Int.mul_nonneg n1 h2
  rcases hq with hd | ⟨hd, hc⟩
  · have hz : 0 ≤ crI p r := by
      rcases Int.lt_or_le (crI p r) 0 with h | h
      · have := Int.mul_neg_of_pos_of_neg hd h
        omega
      · exact h
    refine ⟨hz, fun hs => ?_⟩
    rcases Int.lt_or_le 0 (crI p r) with h | h
    · exact h
    · have he : crI p r = 0 := by omega
      rw [he, Int.mul_zero] at hi
      have f0 : r.2 ≠ 0 := fun e => by
        have he : 0 < r.1 := by unfold Up at hr; omega
        have := Int.mul_pos hd he
        have hx : crI q r = q.1 * r.2 - q.2 * r.1 := rfl
        rw [e, Int.mul_zero] at hx
        omega
      have f1 : 0 < r.2 := by omega
      rcases hs with hs | hs
      · have := Int.mul_pos f1 hs
        omega
      · rcases Int.lt_or_le 0 p.2 with hb | hb
        · have := Int.mul_pos hb hs
          omega
        · have hb0 : p.2 = 0 := by omega
          have ha : 0 < p.1 := by unfold Up at hp; omega
          have hx : crI p q = p.1 * q.2 - p.2 * q.1 := rfl
          rw [hb0, Int.zero_mul] at hx
          have := Int.mul_pos ha hd
          have := Int.mul_pos f1 (show 0 < crI p q by omega)
          omega
  · have hx : crI p q = p.1 * q.2 - p.2 * q.1 := rfl
    have hy : crI q r = q.1 * r.2 - q.2 * r.1 := rfl
    have hz : crI p r = p.1 * r.2 - p.2 * r.1 := rfl
    rw [hd, Int.mul_zero] at hx
    rw [hd, Int.zero_mul] at hy
    have hb : p.2 = 0 := by
      rcases Int.lt_or_le 0 p.2 with h | h
      · have := Int.mul_pos h hc
        omega
      · omega
    have ha : 0 < p.1 := by unfold Up at hp; omega
    rw [hb, Int.zero_mul] at hx hz
    have := Int.mul_nonneg (show 0 ≤ p.1 by omega) n3
    refine ⟨by omega, fun hs => ?_⟩
    have hf : 0 < r.2 := by
      rcases Int.lt_or_le 0 r.2 with h | h
      · exact h
      · have e : r.2 = 0 := by omega
        rw [e, Int.mul_zero] at hy
        omega
    have := Int.mul_pos ha hf
    omega
theorem half_le {p q r : Int × Int} (np : NZ p) (nq : NZ q) (nr : NZ r) (h1 : upB p = upB q) (h2 : upB q = upB r) (c1 : 0 ≤ crI p q) (c2 : 0 ≤ crI q r) : 0 ≤ crI p r ∧ (0 < crI p q ∨ 0 < crI q r → 0 < crI p r) := by
  cases h : upB p
  · have a1 := up_ng np h
    have a2 := up_ng nq (h1 ▸ h)
    have a3 := up_ng nr (h2 ▸ h1 ▸ h)
    have := up_le a1 a2 a3 (by rw [cr_ng]; exact c1) (by rw [cr_ng]; exact c2)
    simpa only [cr_ng] using this
  · exact up_le (upB_iff.1 h) (upB_iff.1 (h1 ▸ h)) (upB_iff.1 (h2 ▸ h1 ▸ h)) c1 c2
theorem cr_swap (p q : Int × Int) : crI q p = -crI p q := by unfold crI; grind
theorem ang_lt {p q : Int × Int} : angI p q < 0 ↔ (upB p = upB q ∧ 0 < crI p q) ∨ (upB p = true ∧ upB q = false) := by
  unfold angI
  cases upB p <;> cases upB q <;> simp <;> omega
theorem ang_nlt {p q : Int × Int} : ¬ angI p q < 0 ↔ (upB p = upB q ∧ 0 ≤ crI q p) ∨ (upB p = false ∧ upB q = true) := by
  rw [ang_lt, cr_swap p q]
  cases upB p <;> cases upB q <;> simp <;> omega
theorem ang_irrefl (p : Int × Int) : ¬ angI p p < 0 := by rw [ang_nlt]; exact .inl ⟨rfl, by unfold crI; rw [Int.mul_comm]; omega⟩
theorem ang_trans {p q r : Int × Int} (np : NZ p) (nq : NZ q) (nr : NZ r) (h1 : angI p q < 0) (h2 : angI q r < 0) : angI p r < 0 := by
  rw [ang_lt] at h1 h2 ⊢
  rcases h1 with ⟨a, b⟩ | ⟨a, b⟩ <;> rcases h2 with ⟨c, d⟩ | ⟨c, d⟩
  · exact .inl ⟨a.trans c, (half_le np nq nr a c (by omega) (by omega)).2 (.inl b)⟩
  · exact .inr ⟨a.trans c, d⟩
  · exact .inr ⟨a, c ▸ b⟩
  · rw [b] at c; cases c
theorem ang_ntrans {p q r : Int × Int} (np : NZ p) (nq : NZ q) (nr : NZ r) (h1 : ¬ angI p q < 0) (h2 : ¬ angI q r < 0) : ¬ angI p r < 0 := by
  rw [ang_nlt] at h1 h2 ⊢
  rcases h1 with ⟨a, b⟩ | ⟨a, b⟩ <;> rcases h2 with ⟨c, d⟩ | ⟨c, d⟩
  · exact .inl ⟨a.trans c, (half_le nr nq np c.symm a.symm d b).1⟩
  · exact .inr ⟨a.trans c, d⟩
  · exact .inr ⟨a, c ▸ b⟩
  · rw [b] at c; cases c
/-- Steps that are not both nought and small. -/
def QA (p : Int × Int) : Prop := NZ p ∧ (-1000 ≤ p.1 ∧ p.1 ≤ 1000) ∧ (-1000 ≤ p.2 ∧ p.2 ≤ 1000)
instance : Inhabited {p // QA p} := ⟨⟨(1, 0), by unfold QA NZ; simp⟩⟩
theorem swoA : Sort.SWO (Go.Proofs.ltOf fun x y : {p : Int × Int // QA p} => angI x.1 y.1) where
  irrefl x := by unfold Go.Proofs.ltOf; rw [decide_eq_false_iff_not]; exact ang_irrefl _
  trans x y z := by unfold Go.Proofs.ltOf; simp only [decide_eq_true_eq]; exact ang_trans x.2.1 y.2.1 z.2.1
  ntrans x y z := by unfold Go.Proofs.ltOf; simp only [decide_eq_false_iff_not]; exact ang_ntrans x.2.1 y.2.1 z.2.1

/-- A step put among others by its angle. -/
def putA : List (Int × Int) → Int × Int → List (Int × Int)
  | [], r => [r]
  | z :: l, r => if angI z r < 0 then z :: putA l r else r :: z :: l
theorem putA_at {r : Int × Int} : ∀ {l : List (Int × Int)} (k : Nat), k ≤ l.length → (∀ i, i < k → angI (l.getD i (0, 0)) r < 0) → (k < l.length → ¬ angI (l.getD k (0, 0)) r < 0) → putA l r = l.take k ++ r :: l.drop k
  | [], k, hk, _, _ => by
    have : k = 0 := by simpa using hk
    subst this
    rfl
  | z :: l, 0, _, _, h => by
    have := h (by simp)
    simp only [List.getD_cons_zero] at this
    simp [putA, this]
  | z :: l, k + 1, hk, h, h2 => by
    have h0 := h 0 (by omega)
    simp only [List.getD_cons_zero] at h0
    have ih := putA_at (r := r) (l := l) k (by simpa using hk) (fun i hi => by have := h (i + 1) (by omega); simpa using this) (fun hl => by have := h2 (by simpa using hl); simpa using this)
    simp only [putA]
    rw [if_pos h0, ih]
    rfl
theorem perm_putA (r : Int × Int) : ∀ l : List (Int × Int), (putA l r).Perm (r :: l)
  | [] => List.Perm.refl _
  | z :: l => by
    simp only [putA]
    split
    · exact ((perm_putA r l).cons z).trans (List.Perm.swap r z l)
    · exact List.Perm.refl _
theorem mem_putA {r z : Int × Int} {l : List (Int × Int)} : z ∈ putA l r ↔ z = r ∨ z ∈ l := by rw [(perm_putA r l).mem_iff]; simp
/-- No later one is before an earlier one. -/
def OrdA (l : List (Int × Int)) : Prop := l.Pairwise fun a b => ¬ angI b a < 0
theorem ord_putA {r : Int × Int} (hr : NZ r) : ∀ {l : List (Int × Int)}, (∀ z ∈ l, NZ z) → OrdA l → OrdA (putA l r)
  | [], _, _ => by simp [putA, OrdA]
  | z :: l, hn, h => by
    obtain ⟨h1, h2⟩ := List.pairwise_cons.1 h
    have nz := hn z (by simp)
    have nl : ∀ y ∈ l, NZ y := fun y hy => hn y (by simp [hy])
    simp only [putA]
    split
    next hc =>
      refine List.pairwise_cons.2 ⟨fun y hy => ?_, ord_putA hr nl h2⟩
      rcases mem_putA.1 hy with rfl | hy
      · intro e
        exact ang_irrefl _ (ang_trans nz hr nz hc e)
      · exact h1 y hy
    next hc =>
      refine List.pairwise_cons.2 ⟨fun y hy => ?_, h⟩
      rcases List.mem_cons.1 hy with rfl | hy
      · exact hc
      · exact ang_ntrans (nl y hy) nz hr (h1 y hy) hc
def putsA (l : List (Int × Int)) : List (Int × Int) := l.foldl putA []
theorem putsA_snoc (l : List (Int × Int)) (x : Int × Int) : putsA (l ++ [x]) = putA (putsA l) x := by simp [putsA]
theorem putsA_spec (l : List (Int × Int)) : (∀ z ∈ l, NZ z) → (putsA l).Perm l ∧ OrdA (putsA l) := by
  refine ptSnoc (P := fun l => (∀ z ∈ l, NZ z) → (putsA l).Perm l ∧ OrdA (putsA l)) (fun _ => ⟨List.Perm.refl _, by simp [putsA, OrdA]⟩) (fun l x ih hn => ?_) l
  have h := ih fun z hz => hn z (by simp [hz])
  rw [putsA_snoc]
  refine ⟨(perm_putA x _).trans ((h.1.cons x).trans (List.perm_append_singleton x l).symm), ord_putA (hn x (by simp)) (fun z hz => hn z (by simp [h.1.mem_iff.1 hz])) h.2⟩
/-- Two rows in order, of the same steps, none of them alike in angle, are one. -/
theorem ord_unique : ∀ {l m : List (Int × Int)}, l.Perm m → OrdA l → OrdA m → (∀ x ∈ l, ∀ y ∈ l, ¬ angI x y < 0 → ¬ angI y x < 0 → x = y) → l = m
  | [], m, hp, _, _, _ => (List.nil_perm.1 hp).symm
  | x :: l, [], hp, _, _, _ => by have := hp.length_eq; simp at this
  | x :: l, y :: m, hp, h1, h2, hu => by
    have e : x = y := by
      have hx : x ∈ y :: m := hp.mem_iff.1 (by simp)
      have hy : y ∈ x :: l := hp.mem_iff.2 (by simp)
      rcases List.mem_cons.1 hx with e | hx
      · exact e
      · rcases List.mem_cons.1 hy with e | hy2
        · exact e.symm
        · exact hu x (by simp) y hy ((List.pairwise_cons.1 h2).1 x hx) ((List.pairwise_cons.1 h1).1 y hy2)
    subst e
    rw [ord_unique (List.Perm.cons_inv hp) (List.pairwise_cons.1 h1).2 (List.pairwise_cons.1 h2).2 (fun a ha b hb => hu a (by simp [ha]) b (by simp [hb]))]
theorem sorted_puts {l ys : List (Int × Int)} (hp : ys.Perm l) (hn : ∀ z ∈ l, NZ z) (ho : OrdA ys) (hu : ∀ x ∈ l, ∀ y ∈ l, ¬ angI x y < 0 → ¬ angI y x < 0 → x = y) : ys = putsA l := by
  obtain ⟨h1, h2⟩ := putsA_spec l hn
  exact ord_unique (hp.trans h1.symm) ho h2 (fun x hx y hy => hu x (hp.mem_iff.1 hx) y (hp.mem_iff.1 hy))
end Go.Proofs.Ytaloegjcdllgoaa
