/-
  The corners of the dual polygon, in plain words: sums of the sides, the least coordinates, the first least corner, the turn.
-/
import Derived.Test.YtaloegjcdllgoaaDualI
import Derived.Test.YtaloegjcdllgoaaDualP
namespace Go.Proofs.Ytaloegjcdllgoaa
open Go.RowKit

/-- The sum of the first k sides. -/
def sumD (S : List (Int × Int)) : Nat → Int × Int
  | 0 => (0, 0)
  | k + 1 => ((sumD S k).1 + (pat S k).1, (sumD S k).2 + (pat S k).2)
/-- The corners: the sums of the first 0, 1, .. sides. -/
def cornD (S : List (Int × Int)) (k : Nat) : List (Int × Int) := (List.range k).map (sumD S)
theorem cornD_len (S : List (Int × Int)) (k : Nat) : (cornD S k).length = k := by simp [cornD]
theorem cornD_succ (S : List (Int × Int)) (k : Nat) : cornD S (k + 1) = cornD S k ++ [sumD S k] := by simp [cornD, List.range_succ]
theorem cornD_at {S : List (Int × Int)} {k j : Nat} (h : j < k) : pat (cornD S k) j = sumD S j := by simp [cornD, pat, List.getD, h]
/-- The least of nought and f 0 .. f (k - 1); the least of nought and f 1 .. f k. -/
def lowP (f : Nat → Int) : Nat → Int
  | 0 => 0
  | k + 1 => min (lowP f k) (f k)
def lowQ (f : Nat → Int) : Nat → Int
  | 0 => 0
  | k + 1 => min (lowQ f k) (f (k + 1))
theorem lowP_le (f : Nat → Int) : ∀ k, lowP f k ≤ 0
  | 0 => Int.le_refl _
  | k + 1 => by have := lowP_le f k; unfold lowP; omega
theorem lowP_succ {f : Nat → Int} (h : f 0 = 0) : ∀ k, lowP f (k + 1) = lowQ f k
  | 0 => by simp [lowP, lowQ, h]
  | k + 1 => by
    have := lowP_succ h k
    show min (lowP f (k + 1)) (f (k + 1)) = min (lowQ f k) (f (k + 1))
    rw [this]
theorem low_same {f : Nat → Int} {n : Nat} (h : f 0 = 0) (hn : f n = 0) : lowQ f n = lowP f n := by
  rw [← lowP_succ h]
  show min (lowP f n) (f n) = _
  have := lowP_le f n
  omega
theorem lowP_ge {f : Nat → Int} {B : Int} (hB : 0 ≤ B) : ∀ k, (∀ j, j < k → -B ≤ f j) → -B ≤ lowP f k
  | 0, _ => by show -B ≤ 0; omega
  | k + 1, h => by
    have h1 := lowP_ge hB k fun j hj => h j (by omega)
    have h2 := h k (by omega)
    show -B ≤ min (lowP f k) (f k)
    omega
/-- Points moved so that p is at nought. -/
def movD (p : Int × Int) (l : List (Int × Int)) : List (Int × Int) := l.map fun q => (q.1 - p.1, q.2 - p.2)
theorem movD_len (p : Int × Int) (l : List (Int × Int)) : (movD p l).length = l.length := by simp [movD]
theorem movD_at {p : Int × Int} {l : List (Int × Int)} {k : Nat} (h : k < l.length) : pat (movD p l) k = ((pat l k).1 - p.1, (pat l k).2 - p.2) := by simp [movD, pat, List.getD, h]
theorem cmpI_mov (a b c d x y : Int) : cmpI (a - x) (b - y) (c - x) (d - y) < 0 ↔ cmpI a b c d < 0 := by
  unfold cmpI
  split <;> split <;> omega
theorem firstT_mov {p : Int × Int} {l : List (Int × Int)} : ∀ k, k ≤ l.length → firstT (movD p l) k = firstT l k
  | 0, _ => rfl
  | k + 1, h => by
    have ih := firstT_mov (p := p) (l := l) k (by omega)
    have hl : firstT l k < l.length := by
      rcases Nat.eq_zero_or_pos k with e | e
      · subst e; show 0 < l.length; omega
      · have := firstT_lt l k e; omega
    rw [firstT, firstT, ih, movD_at (by omega), movD_at hl]
    simp only [cmpI_mov]
theorem cmpI_trans {a b c d e f : Int} (h1 : ¬ cmpI a b c d < 0) (h2 : cmpI e f c d < 0) : cmpI e f a b < 0 := by
  unfold cmpI at *
  split at h1 <;> split at h2 <;> split <;> omega
/-- What stands ahead of the first least corner is another. -/
theorem firstT_first {l : List (Int × Int)} : ∀ k, (∀ j, j < firstT l k → pat l j ≠ pat l (firstT l k)) ∧ ∀ j, j < k → ¬ cmpI (pat l j).1 (pat l j).2 (pat l (firstT l k)).1 (pat l (firstT l k)).2 < 0
  | 0 => ⟨fun j hj => by simp [firstT] at hj, fun j hj => by omega⟩
  | k + 1 => by
    obtain ⟨h1, h2⟩ := firstT_first (l := l) k
    by_cases hc : cmpI (pat l k).1 (pat l k).2 (pat l (firstT l k)).1 (pat l (firstT l k)).2 < 0
    · have e : firstT l (k + 1) = k := by rw [firstT, if_pos hc]
      rw [e]
      refine ⟨fun j hj he => ?_, fun j hj => ?_⟩
      · have := h2 j hj
        rw [he] at this
        exact this hc
      · rcases Nat.lt_or_ge j k with hj | hj2
        · intro h3
          exact h2 j hj (by
            have := cmpI_trans (a := (pat l j).1) (b := (pat l j).2) (h2 j hj) hc
            unfold cmpI at *
            split at h3 <;> split at hc <;> split at this <;> split <;> omega)
        · have e2 : j = k := by omega
          subst e2
          unfold cmpI
          split <;> omega
    · have e : firstT l (k + 1) = firstT l k := by rw [firstT, if_neg hc]
      rw [e]
      refine ⟨h1, fun j hj => ?_⟩
      rcases Nat.lt_or_ge j k with hj | hj2
      · exact h2 j hj
      · have e2 : j = k := by omega
        subst e2
        exact hc
theorem sumD_app {l m : List (Int × Int)} : ∀ k, k ≤ l.length → sumD (l ++ m) k = sumD l k
  | 0, _ => rfl
  | k + 1, h => by
    have e : pat (l ++ m) k = pat l k := by
      have h2 : k < l.length + m.length := by omega
      have h3 : k < l.length := by omega
      simp [pat, List.getD, List.getElem?_append, h3]
    show ((sumD (l ++ m) k).1 + (pat (l ++ m) k).1, (sumD (l ++ m) k).2 + (pat (l ++ m) k).2) = _
    rw [sumD_app k (by omega), e]
    rfl
theorem sumD_all (l : List (Int × Int)) : sumD l l.length = ((l.map (·.1)).sum, (l.map (·.2)).sum) := by
  refine ptSnoc (P := fun l => sumD l l.length = ((l.map (·.1)).sum, (l.map (·.2)).sum)) rfl (fun l x ih => ?_) l
  have e : pat (l ++ [x]) l.length = x := by simp [pat, List.getD]
  rw [List.length_append]
  show ((sumD (l ++ [x]) l.length).1 + (pat (l ++ [x]) l.length).1, (sumD (l ++ [x]) l.length).2 + (pat (l ++ [x]) l.length).2) = _
  rw [sumD_app _ (Nat.le_refl _), ih, e]
  simp
theorem perm_sumI {l m : List Int} (h : l.Perm m) : l.sum = m.sum := by
  induction h with
  | nil => rfl
  | cons x _ ih => simp [ih]
  | swap x y l => simp; omega
  | trans _ _ h1 h2 => exact h1.trans h2
theorem sumD_perm {l m : List (Int × Int)} (h : l.Perm m) : sumD l l.length = sumD m m.length := by
  rw [sumD_all, sumD_all, perm_sumI (h.map (·.1)), perm_sumI (h.map (·.2))]
theorem sides_sum (zs : List (Int × Int × Int)) : ∀ k, k ≤ zs.length → sumD (zs.map sideD) k = (sY zs k, -sX zs k)
  | 0, _ => rfl
  | k + 1, h => by
    have e : pat (zs.map sideD) k = sideD (tat zs k) := by
      have h3 : k < zs.length := by omega
      simp [pat, tat, List.getD, h3]
    show ((sumD (zs.map sideD) k).1 + (pat (zs.map sideD) k).1, (sumD (zs.map sideD) k).2 + (pat (zs.map sideD) k).2) = _
    rw [sides_sum zs k (by omega), e]
    simp only [sideD, sX, sY]
    refine Prod.ext rfl ?_
    simp only [Int.neg_mul]
    omega
theorem sides_nought {zs : List (Int × Int × Int)} (h : balB zs = true) {S : List (Int × Int)} (hp : S.Perm (zs.map sideD)) : sumD S zs.length = (0, 0) := by
  have hl : S.length = zs.length := by rw [hp.length_eq, List.length_map]
  have h1 := sumD_perm hp
  rw [hl, List.length_map, sides_sum zs _ (Nat.le_refl _)] at h1
  rw [h1]
  unfold balB at h
  simp at h
  rw [h.1, h.2]
  rfl
end Go.Proofs.Ytaloegjcdllgoaa
