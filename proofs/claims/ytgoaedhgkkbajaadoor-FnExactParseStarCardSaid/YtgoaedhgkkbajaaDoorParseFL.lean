/-
  Plain words: what the program reads of a text (strings.Cut, strconv.Atoi), and that at the text of a number, a fraction, a line it is what the reference reads.
-/
import Derived.Test.YtgoaedhgkkbajaaDoorParseF
import Derived.Lib.AtoiTie
import Derived.Lib.IndexMore
namespace Go.Proofs.YtgoaedhgkkbajaaDoor

/-- The number that a text spells, if it spells one. -/
def atV (l : List UInt8) : Option Int := match Lib.atoiAll l with
  | .ok v => some v
  | _ => none
theorem itoa_short {n : Int} (h : -10000000000 < n ∧ n < 10000000000) : (Lib.itoa n).length ≤ 18 := by
  unfold Lib.itoa
  split
  · have := dec_len 9 n.natAbs (by simp; omega)
    simp; omega
  · have := dec_len 9 n.toNat (by simp; omega)
    omega
theorem atV_itoa {n : Int} (h : -10000000000 < n ∧ n < 10000000000) : atV (Lib.itoa n) = some n := by
  unfold atV
  rw [Lib.atoiAll_short _ (itoa_short h), atoi_itoa]
  rfl
theorem index_hit {b : UInt8} {t : List UInt8} : ∀ (a : List UInt8), (∀ c ∈ a, c ≠ b) → Lib.index (a ++ b :: t) [b] = (a.length : Int)
  | [], _ => by simp [Lib.index]
  | c :: r, h => by
    have ih := index_hit r (fun x hx => h x (by simp [hx])) (t := t)
    have hc : (b == c) = false := by
      simp only [beq_eq_false_iff_ne, ne_eq]
      exact fun e => h c (by simp) e.symm
    rw [List.cons_append, Lib.index, ih]
    simp only [List.isPrefixOf, hc, Bool.false_and, Bool.false_eq_true, if_false, List.length_cons]
    have : (((r.length : Int)) == -1) = false := by simp only [beq_eq_false_iff_ne, ne_eq]; omega
    rw [this]
    simp
theorem index_miss {b : UInt8} : ∀ (a : List UInt8), (∀ c ∈ a, c ≠ b) → Lib.index a [b] = -1
  | [], _ => by simp [Lib.index]
  | c :: r, h => by
    have ih := index_miss r (fun x hx => h x (by simp [hx]))
    have hc : (b == c) = false := by
      simp only [beq_eq_false_iff_ne, ne_eq]
      exact fun e => h c (by simp) e.symm
    rw [Lib.index, ih]
    simp [List.isPrefixOf, hc]
theorem cut_hit {b : UInt8} {a t : List UInt8} (h : ∀ c ∈ a, c ≠ b) : Lib.cut (a ++ b :: t) [b] = (a, t, true) := by
  unfold Lib.cut
  rw [index_hit a h, if_pos (by omega)]
  simp
theorem cut_miss {b : UInt8} {a : List UInt8} (h : ∀ c ∈ a, c ≠ b) : Lib.cut a [b] = (a, [], false) := by
  unfold Lib.cut
  rw [index_miss a h, if_neg (by omega)]
/-- The fraction that the program reads of a text. -/
def candI (l : List UInt8) : Option (Int × Int) :=
  match atV (Lib.cut l [47]).1 with
  | none => none
  | some n => if (Lib.cut l [47]).2.2 = true then (match atV (Lib.cut l [47]).2.1 with
    | none => none
    | some m => some (n, m)) else some (n, 1)
theorem candI_frac {x y : Int} (hx : -1000000000 ≤ x ∧ x ≤ 1000000000) (hy : 1 ≤ y ∧ y ≤ 1000000000) : candI (fracL x y) = some (x, y) := by
  have fr := itoa_free (b := 47) (by decide) (by decide) x
  have a1 := atV_itoa (n := x) (by omega)
  have a2 := atV_itoa (n := y) (by omega)
  unfold candI
  by_cases h : y = 1
  · subst h
    rw [fracL, if_pos rfl, cut_miss fr, a1]
    simp
  · rw [fracL, if_neg h, cut_hit fr, a1]
    simp only [a2, if_true]
theorem cut_len (l b : List UInt8) : (Lib.cut l b).1.length ≤ l.length ∧ (Lib.cut l b).2.1.length ≤ l.length := by
  unfold Lib.cut
  split
  · simp only [List.length_take, List.length_drop]; omega
  · simp

end Go.Proofs.YtgoaedhgkkbajaaDoor
