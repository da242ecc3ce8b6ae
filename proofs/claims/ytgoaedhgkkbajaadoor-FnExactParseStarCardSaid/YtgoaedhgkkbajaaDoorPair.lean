/-
  Slices of pairs: what they hold; the functions of the laws on slices of points.
-/
import Derived.Test.YtgoaedhgkkbajaaDoorInts
namespace Go.Proofs.YtgoaedhgkkbajaaDoor
open Go.RowKit

/-- The cells of a slice whose address is known. -/
theorem Reads.cells {w : World} {b off size n : Nat} {xs : List Value} (h : Reads w (some ⟨b, off, none⟩) size n xs) : ∀ j u, xs[j]? = some u → w.cell? ⟨b, off + j, none⟩ = some u := by
  intro j u hu
  have hn : 0 < n := by
    rcases Nat.eq_zero_or_pos n with h0 | h0
    · have h1 := h.1
      rw [h0, Nat.zero_mul] at h1
      rw [List.eq_nil_of_length_eq_zero h1] at hu
      simp at hu
    · exact h0
  obtain ⟨b', off', e, hc⟩ := h.2 hn
  simp only [Option.some.injEq, Addr.mk.injEq, and_true] at e
  obtain ⟨rfl, rfl⟩ := e
  exact hc j u hu
/-- What a slice of pairs holds, as cells. -/
def pv : List (Int × Int) → List Value
  | [] => []
  | r :: rs => .int .i64 r.1 :: .int .i64 r.2 :: pv rs
theorem pv_len : ∀ zs : List (Int × Int), (pv zs).length = zs.length * 2
  | [] => rfl
  | _ :: rs => by simp only [pv, List.length_cons, pv_len rs]; omega
/-- The pair at a place. -/
def pat (zs : List (Int × Int)) (k : Nat) : Int × Int := zs.getD k (0, 0)
theorem pat_eq {zs : List (Int × Int)} {k : Nat} (h : k < zs.length) : pat zs k = zs[k] := by simp [pat, List.getD, h]
theorem pv_at : ∀ {zs : List (Int × Int)} {k : Nat}, k < zs.length → (pv zs)[k * 2]? = some (.int .i64 (pat zs k).1) ∧ (pv zs)[k * 2 + 1]? = some (.int .i64 (pat zs k).2)
  | [], _, h => by simp at h
  | r :: rs, 0, _ => ⟨rfl, rfl⟩
  | r :: rs, k + 1, h => by
    have ih := pv_at (zs := rs) (k := k) (by simpa using h)
    have e : (k + 1) * 2 = k * 2 + 1 + 1 := by omega
    have e2 : pat (r :: rs) (k + 1) = pat rs k := by simp [pat, List.getD]
    rw [e, e2]
    exact ih
theorem pv_append : ∀ xs ys : List (Int × Int), pv (xs ++ ys) = pv xs ++ pv ys
  | [], _ => rfl
  | r :: rs, ys => by simp [pv, pv_append rs ys]
theorem pv_take : ∀ (zs : List (Int × Int)) (k : Nat), (pv zs).take (k * 2) = pv (zs.take k)
  | _, 0 => by simp [pv]
  | [], k + 1 => by simp [pv]
  | r :: rs, k + 1 => by
    have e : (k + 1) * 2 = k * 2 + 1 + 1 := by omega
    rw [e]
    simp [pv, pv_take rs k]
theorem pv_set2 : ∀ (l : List (Int × Int)) (j : Nat) (a b : Int), j < l.length → ((pv l).set (j * 2) (.int .i64 a)).set (j * 2 + 1) (.int .i64 b) = pv (l.set j (a, b))
  | [], _, _, _, h => by simp at h
  | r :: rs, 0, _, _, _ => rfl
  | r :: rs, j + 1, a, b, h => by
    have ih := pv_set2 rs j a b (by simpa using h)
    have e : (j + 1) * 2 = j * 2 + 1 + 1 := by omega
    rw [e]
    simp only [pv, List.set_cons_succ]
    exact congrArg _ (congrArg _ ih)
theorem pv_one : ∀ (zs : List (Int × Int)) (u : Value), u ∈ pv zs → u.oneCell' = true
  | [], u, h => by simp [pv] at h
  | r :: rs, u, h => by
    simp only [pv, List.mem_cons] at h
    rcases h with rfl | rfl | h
    · rfl
    · rfl
    · exact pv_one rs u h
/-- The marks that a law lays into a slice of pairs. -/
def pmarks (k : Int) (n : Nat) : List (Int × Int) := (List.range n).map fun i : Nat => (k + 2 * (i : Int), k + 2 * (i : Int) + 1)
theorem pmarks_len (k : Int) (n : Nat) : (pmarks k n).length = n := by simp [pmarks]
theorem pmarks_at {k : Int} {n i : Nat} (h : i < n) : pat (pmarks k n) i = (k + 2 * (i : Int), k + 2 * (i : Int) + 1) := by simp [pat, pmarks, List.getD, h]
theorem pmarks_step {zs : List (Int × Int)} {k : Int} {i : Nat} (h : i < zs.length) : ((pmarks k i ++ zs.drop i).set i (k + 2 * (i : Int), k + 2 * (i : Int) + 1)) = pmarks k (i + 1) ++ zs.drop (i + 1) := by
  have e : (pmarks k i).length = i := pmarks_len k i
  rw [List.set_append_right _ _ (by omega), e, Nat.sub_self, List.drop_eq_getElem_cons h, List.set_cons_zero]
  simp [pmarks, List.range_succ]

/-- The cells of a slice of pairs, read at a place. -/
theorem Reads.pair {w : World} {a : Option Addr} {n : Nat} {zs : List (Int × Int)} (h : Reads w a 2 n (pv zs)) {k : Nat} (hk : k < n) :
    ∃ b off, a = some ⟨b, off, none⟩ ∧ w.cell? ⟨b, off + k * 2, none⟩ = some (.int .i64 (pat zs k).1) ∧ w.cell? ⟨b, off + k * 2 + 1, none⟩ = some (.int .i64 (pat zs k).2) := by
  have hl : zs.length = n := by have := h.1; rw [pv_len] at this; omega
  obtain ⟨b, off, ha, hc⟩ := h.2 (by omega)
  have h3 := pv_at (zs := zs) (k := k) (by omega)
  exact ⟨b, off, ha, hc _ _ h3.1, hc _ _ h3.2⟩

theorem point_info : (Tryd.prog.info? 107).map (fun i => (i.zero, i.size, i.bytes)) = some (some (.agg #[.int .i64 0, .int .i64 0]), 2, 16) := by kernel_rfl

end Go.Proofs.YtgoaedhgkkbajaaDoor
