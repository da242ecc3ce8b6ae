/-
  The dual polygon's corners and whether they are valid, in plain words.
-/
import Derived.Test.YtaloegjcdllgoaaDualS
namespace Go.Proofs.Ytaloegjcdllgoaa
open Go.RowKit

/-- The sides by their angles, as the reference puts them. -/
def sidesD (zs : List (Int × Int × Int)) : List (Int × Int) := putsA (zs.map sideD)
/-- The least coordinates, nought among them. -/
def lowD (S : List (Int × Int)) (k : Nat) : Int × Int := (lowP (fun j => (sumD S j).1) k, lowP (fun j => (sumD S j).2) k)
/-- The corners, moved so that the least coordinates are nought. -/
def cornsD (S : List (Int × Int)) : List (Int × Int) := movD (lowD S S.length) (cornD S S.length)
/-- The corners from the first least one on. -/
def ansD (S : List (Int × Int)) : List (Int × Int) := turnD (cornsD S) (firstT (cornsD S) S.length) S.length
def okD (S : List (Int × Int)) : Bool := (cornsD S).all fun p => ptB p.1 p.2
def dualB (zs : List (Int × Int × Int)) : Bool := starB zs && (decide (zs.length ≠ 0) && (balB zs && okD (sidesD zs)))

theorem cornsD_len (S : List (Int × Int)) : (cornsD S).length = S.length := by unfold cornsD; rw [movD_len, cornD_len]
theorem ansD_len (S : List (Int × Int)) : (ansD S).length = S.length := by unfold ansD; rw [turnD_len]
theorem star_sides {zs : List (Int × Int × Int)} (h : starB zs = true) : ∀ z ∈ zs.map sideD, QA z := by
  intro z hz
  obtain ⟨r, hr, rfl⟩ := List.mem_map.1 hz
  exact side_qa (star_isRay h hr)
theorem sidesD_perm {zs : List (Int × Int × Int)} (h : starB zs = true) : (sidesD zs).Perm (zs.map sideD) :=
  (putsA_spec _ fun z hz => (star_sides h z hz).1).1
theorem sidesD_len {zs : List (Int × Int × Int)} (h : starB zs = true) : (sidesD zs).length = zs.length := by
  rw [(sidesD_perm h).length_eq, List.length_map]
theorem sidesD_qa {zs : List (Int × Int × Int)} (h : starB zs = true) : ∀ z ∈ sidesD zs, QA z := fun z hz =>
  star_sides h z ((sidesD_perm h).mem_iff.1 hz)
theorem pat_mem {l : List (Int × Int)} {k : Nat} (h : k < l.length) : pat l k ∈ l := by
  rw [pat_eq h]; exact List.getElem_mem h
theorem sum_bd {S : List (Int × Int)} (h : ∀ z ∈ S, QA z) : ∀ k, k ≤ S.length → (-(1000 * (k : Int)) ≤ (sumD S k).1 ∧ (sumD S k).1 ≤ 1000 * (k : Int)) ∧ (-(1000 * (k : Int)) ≤ (sumD S k).2 ∧ (sumD S k).2 ≤ 1000 * (k : Int))
  | 0, _ => by simp [sumD]
  | k + 1, hk => by
    have ih := sum_bd h k (by omega)
    have hq := (h _ (pat_mem (l := S) (k := k) (by omega))).2
    show (_ ≤ (sumD S k).1 + (pat S k).1 ∧ (sumD S k).1 + (pat S k).1 ≤ _) ∧ (_ ≤ (sumD S k).2 + (pat S k).2 ∧ (sumD S k).2 + (pat S k).2 ≤ _)
    omega
theorem low_bd {S : List (Int × Int)} (h : ∀ z ∈ S, QA z) (hl : S.length ≤ 10) : ∀ k, k ≤ S.length → (-10000 ≤ (lowD S k).1 ∧ (lowD S k).1 ≤ 0) ∧ (-10000 ≤ (lowD S k).2 ∧ (lowD S k).2 ≤ 0) := fun k hk =>
  ⟨⟨lowP_ge (B := 10000) (by omega) k fun j hj => by have := sum_bd h j (by omega); omega, lowP_le _ k⟩, ⟨lowP_ge (B := 10000) (by omega) k fun j hj => by have := sum_bd h j (by omega); omega, lowP_le _ k⟩⟩
theorem lowQ_le (f : Nat → Int) : ∀ k, lowQ f k ≤ 0
  | 0 => Int.le_refl _
  | k + 1 => by have := lowQ_le f k; unfold lowQ; omega
theorem lowQ_ge {f : Nat → Int} {B : Int} (hB : 0 ≤ B) : ∀ k, (∀ j, j ≤ k → -B ≤ f j) → -B ≤ lowQ f k
  | 0, _ => by show -B ≤ 0; omega
  | k + 1, h => by
    have h1 := lowQ_ge hB k fun j hj => h j (by omega)
    have h2 := h (k + 1) (by omega)
    show -B ≤ min (lowQ f k) (f (k + 1))
    omega
theorem lowQ_bd {S : List (Int × Int)} (h : ∀ z ∈ S, QA z) (hl : S.length ≤ 10) (k : Nat) (hk : k ≤ S.length) : (-10000 ≤ lowQ (fun j => (sumD S j).1) k ∧ lowQ (fun j => (sumD S j).1) k ≤ 0) ∧ (-10000 ≤ lowQ (fun j => (sumD S j).2) k ∧ lowQ (fun j => (sumD S j).2) k ≤ 0) :=
  ⟨⟨lowQ_ge (B := 10000) (by omega) k fun j hj => by have := sum_bd h j (by omega); omega, lowQ_le _ k⟩, ⟨lowQ_ge (B := 10000) (by omega) k fun j hj => by have := sum_bd h j (by omega); omega, lowQ_le _ k⟩⟩
/-- The turn of moved points. -/
theorem turn_mov {p : Int × Int} {l : List (Int × Int)} {f i : Nat} (h : 0 < l.length) : turnD (movD p l) f i = movD p (turnD l f i) := by
  unfold turnD
  rw [movD_len]
  show _ = List.map _ (List.map _ _)
  rw [List.map_map]
  refine List.map_congr_left fun j _ => ?_
  rw [movD_at (Nat.mod_lt _ h)]
  rfl
/-- What the reference makes of the corners. -/
theorem ansD_spec {S : List (Int × Int)} (h0 : 0 < S.length) (hs : sumD S S.length = (0, 0)) :
    movD (lowQ (fun j => (sumD S j).1) S.length, lowQ (fun j => (sumD S j).2) S.length) (turnD (cornD S S.length) (firstT (cornD S S.length) S.length) S.length) = ansD S := by
  rw [low_same (f := fun j => (sumD S j).1) rfl (by rw [hs]), low_same (f := fun j => (sumD S j).2) rfl (by rw [hs])]
  unfold ansD cornsD
  rw [turn_mov (by rw [cornD_len]; exact h0), firstT_mov _ (by rw [cornD_len]; exact Nat.le_refl _)]
  rfl
theorem ansD_full {S : List (Int × Int)} (h0 : 0 < S.length) : ansD S = (cornsD S).drop (firstT (cornsD S) S.length) ++ (cornsD S).take (firstT (cornsD S) S.length) := by
  have := turn_full (M := cornsD S) (f := firstT (cornsD S) S.length) (by rw [cornsD_len]; exact firstT_lt _ _ h0)
  rw [cornsD_len] at this
  exact this
theorem okD_ans {S : List (Int × Int)} (h0 : 0 < S.length) : okD S = (ansD S).all fun p => ptB p.1 p.2 := by
  rw [ansD_full h0, List.all_append, Bool.and_comm, ← List.all_append, List.take_append_drop]
  rfl
theorem all_pat {l : List (Int × Int)} : (l.all fun p => ptB p.1 p.2) = true ↔ ∀ j, j < l.length → ptB (pat l j).1 (pat l j).2 = true := by
  rw [List.all_eq_true]
  constructor
  · exact fun h j hj => h _ (pat_mem hj)
  · intro h x hx
    obtain ⟨j, hj, rfl⟩ := List.mem_iff_getElem.1 hx
    have := h j hj
    rwa [pat_eq hj] at this
theorem all_not {l : List (Int × Int)} {j : Nat} (hj : j < l.length) (h : ptB (pat l j).1 (pat l j).2 = false) : (l.all fun p => ptB p.1 p.2) = false := by
  cases h2 : (l.all fun p => ptB p.1 p.2)
  · rfl
  · have := all_pat.1 h2 j hj
    rw [h] at this
    cases this
theorem ptB_bd {x y : Int} (h : ptB x y = true) : (-100 ≤ x ∧ x ≤ 100) ∧ (-100 ≤ y ∧ y ≤ 100) := by
  unfold ptB inB at h
  simp at h
  omega
/-- The first k sides by their angles. -/
def putsK (zs : List (Int × Int × Int)) (k : Nat) : List (Int × Int) := putsA ((zs.take k).map sideD)
theorem putsK_succ {zs : List (Int × Int × Int)} {k : Nat} (h : k < zs.length) : putsK zs (k + 1) = putA (putsK zs k) (sideD (tat zs k)) := by
  unfold putsK
  rw [List.take_succ_eq_append_getElem h, List.map_append, List.map_singleton, putsA_snoc, tat_eq h]
theorem putsK_all (zs : List (Int × Int × Int)) : putsK zs zs.length = sidesD zs := by
  unfold putsK sidesD
  rw [List.take_length]
theorem putsK_perm {zs : List (Int × Int × Int)} (h : starB zs = true) (k : Nat) : (putsK zs k).Perm ((zs.take k).map sideD) :=
  (putsA_spec _ fun z hz => by
    obtain ⟨r, hr, rfl⟩ := List.mem_map.1 hz
    exact (side_qa (star_isRay h (List.mem_of_mem_take hr))).1).1
theorem putsK_len {zs : List (Int × Int × Int)} (h : starB zs = true) {k : Nat} (hk : k ≤ zs.length) : (putsK zs k).length = k := by
  rw [(putsK_perm h k).length_eq, List.length_map, List.length_take]
  omega
theorem putsK_qa {zs : List (Int × Int × Int)} (h : starB zs = true) (k : Nat) : ∀ z ∈ putsK zs k, QA z := fun z hz => by
  obtain ⟨r, hr, rfl⟩ := List.mem_map.1 ((putsK_perm h k).mem_iff.1 hz)
  exact side_qa (star_isRay h (List.mem_of_mem_take hr))
theorem star_side {zs : List (Int × Int × Int)} (h : starB zs = true) {k : Nat} (hk : k < zs.length) : QA (sideD (tat zs k)) := by
  rw [tat_eq hk]
  exact side_qa (star_isRay h (List.getElem_mem hk))
theorem star_tat {zs : List (Int × Int × Int)} (h : starB zs = true) {k : Nat} (hk : k < zs.length) : (-20 ≤ (tat zs k).1 ∧ (tat zs k).1 ≤ 20) ∧ (-20 ≤ (tat zs k).2.1 ∧ (tat zs k).2.1 ≤ 20) ∧ (1 ≤ (tat zs k).2.2 ∧ (tat zs k).2.2 ≤ 20) := by
  rw [tat_eq hk]
  exact (star_rows h).2.2 _ (List.getElem_mem hk)
theorem pv_drop (zs : List (Int × Int)) (k : Nat) : (pv zs).drop (k * 2) = pv (zs.drop k) := by
  rcases Nat.lt_or_ge k zs.length with h | h
  · have h1 : pv zs = pv (zs.take k) ++ pv (zs.drop k) := by rw [← pv_append, List.take_append_drop]
    rw [h1, List.drop_append_of_le_length (by rw [pv_len]; simp; omega), List.drop_of_length_le (by rw [pv_len]; simp; omega), List.nil_append]
  · rw [List.drop_of_length_le (by rw [pv_len]; omega), List.drop_of_length_le h]; rfl
end Go.Proofs.Ytaloegjcdllgoaa
