/-
  Plain words: what is read of the text of a star, by the program and by the reference, and that at the text of a star both read the star.
-/
import Derived.Test.YtgoaedhgkkbajaaDoorParseLL
namespace Go.Proofs.YtgoaedhgkkbajaaDoor

/-- A ray's text, a star's text, as bytes. -/
def rayLL (r : Int × Int × Int) : List UInt8 := Lib.itoa r.2.2 ++ 42 :: (Lib.itoa r.1 ++ 44 :: Lib.itoa r.2.1)
def starLL : List (Int × Int × Int) → List UInt8
  | [] => []
  | r :: l => rayLL r ++ 59 :: starLL l
/-- What the reference reads of a weight. -/
def readW (l : List UInt8) : Int := if ((1 ≤ l.length ∧ l.length ≤ 6) ∧ ¬ (l.head? = some 48 ∧ 1 < l.length)) ∧ l.all isD = true then (valD 0 l : Int) else -1
/-- The ray that the reference, that the program reads of a part. -/
def rayS (p : List UInt8) : Option (Int × Int × Int) := match splitL 42 p with
  | [a, b] => match splitL 44 b with
    | [c, d] => if parB c = true ∧ parB d = true then some (parL c, parL d, readW a) else none
    | _ => none
  | _ => none
def rayI (p : List UInt8) : Option (Int × Int × Int) := match wholeL [42, 44] p with
  | some [a, b, c] => some (b, c, a)
  | _ => none
/-- All rays of the parts, if each part is one's. -/
def raysL (f : List UInt8 → Option (Int × Int × Int)) : List (List UInt8) → Option (List (Int × Int × Int))
  | [] => some []
  | p :: r => match f p with
    | none => none
    | some x => match raysL f r with
      | none => none
      | some l => some (x :: l)
theorem raysL_len {f : List UInt8 → Option (Int × Int × Int)} : ∀ {ps : List (List UInt8)} {l : List (Int × Int × Int)}, raysL f ps = some l → l.length = ps.length
  | [], l, h => by simp [raysL] at h; subst h; rfl
  | p :: r, l, h => by
    simp only [raysL] at h
    split at h
    · cases h
    · split at h
      · cases h
      · rename_i m hm
        obtain rfl := Option.some.inj h
        simp [raysL_len hm]
theorem raysL_app {f : List UInt8 → Option (Int × Int × Int)} : ∀ (ps : List (List UInt8)) (p : List UInt8), raysL f (ps ++ [p]) = (raysL f ps).bind fun l => (f p).bind fun x => some (l ++ [x])
  | [], p => by
    simp only [List.nil_append, raysL]
    cases f p <;> rfl
  | q :: r, p => by
    rw [List.cons_append, raysL, raysL, raysL_app r p]
    cases f q with
    | none => rfl
    | some x =>
      cases raysL f r with
      | none => rfl
      | some l => cases f p <;> rfl
theorem raysL_none {f : List UInt8 → Option (Int × Int × Int)} : ∀ {ps : List (List UInt8)} {k : Nat} {p : List UInt8}, ps[k]? = some p → f p = none → raysL f ps = none
  | [], k, p, h, _ => by simp at h
  | q :: r, 0, p, h, hf => by
    simp at h
    subst h
    simp [raysL, hf]
  | q :: r, k + 1, p, h, hf => by
    have ih := raysL_none (f := f) (ps := r) (k := k) (p := p) (by simpa using h) hf
    simp only [raysL, ih]
    cases f q <;> rfl
def starS (l : List UInt8) : Option (List (Int × Int × Int)) := if 11 < (splitL 59 l).length then none else raysL rayS (splitL 59 l).dropLast
def starI (l : List UInt8) : Option (List (Int × Int × Int)) := match raysL rayI (splitL 59 l).dropLast with
  | none => none
  | some zs => if (splitL 59 l).getLast? = some [] then some zs else none
theorem readW_itoa {n : Int} (h : 0 ≤ n ∧ n < 1000000) : readW (Lib.itoa n) = n := by
  rw [itoa_pos (by omega)]
  have h1 := dec_len 5 n.toNat (by simp; omega)
  have h2 : 1 ≤ (Lib.decDigits n.toNat).length := List.length_pos_iff.2 (dec_ne _)
  unfold readW
  have h3 : ¬ ((Lib.decDigits n.toNat).head? = some 48 ∧ 1 < (Lib.decDigits n.toNat).length) := by
    rintro ⟨e1, e2⟩
    rcases Nat.eq_zero_or_pos n.toNat with h0 | h0
    · rw [h0, dec_zero] at e2; simp at e2
    · exact dec_head _ h0 e1
  rw [if_pos ⟨⟨⟨h2, h1⟩, h3⟩, List.all_eq_true.2 (dec_digits _)⟩, dec_val]
  omega
theorem rayLL_free {b : UInt8} (h1 : b ≠ 45) (h2 : isD b = false) (h3 : b ≠ 42) (h4 : b ≠ 44) (r : Int × Int × Int) : ∀ c ∈ rayLL r, c ≠ b := by
  intro c hc
  unfold rayLL at hc
  rcases List.mem_append.1 hc with h | h
  · exact itoa_free h1 h2 _ c h
  rcases List.mem_cons.1 h with rfl | h
  · exact fun e => h3 e.symm
  rcases List.mem_append.1 h with h | h
  · exact itoa_free h1 h2 _ c h
  rcases List.mem_cons.1 h with rfl | h
  · exact fun e => h4 e.symm
  · exact itoa_free h1 h2 _ c h
theorem split_star : ∀ zs : List (Int × Int × Int), splitL 59 (starLL zs) = zs.map rayLL ++ [[]]
  | [] => rfl
  | r :: l => by
    have ih := split_star l
    unfold splitL at *
    rw [starLL, splitGo_some _ _ _ (rayLL_free (by decide) (by decide) (by decide) (by decide) r), ih]
    rfl
theorem rayS_ray {r : Int × Int × Int} (hx : -20 ≤ r.1 ∧ r.1 ≤ 20) (hy : -20 ≤ r.2.1 ∧ r.2.1 ≤ 20) (hw : 1 ≤ r.2.2 ∧ r.2.2 ≤ 20) : rayS (rayLL r) = some r := by
  have h42 : splitL 42 (rayLL r) = [Lib.itoa r.2.2, Lib.itoa r.1 ++ 44 :: Lib.itoa r.2.1] := by
    unfold splitL rayLL
    rw [splitGo_some _ _ _ (itoa_free (by decide) (by decide) _), splitGo_none]
    · rfl
    · intro c hc
      rcases List.mem_append.1 hc with h | h
      · exact itoa_free (by decide) (by decide) _ c h
      rcases List.mem_cons.1 h with rfl | h
      · decide
      · exact itoa_free (by decide) (by decide) _ c h
  unfold rayS
  rw [h42]
  simp only [split_two (b := 44) (by decide) (by decide), parB_itoa (n := r.1) (by omega), parB_itoa (n := r.2.1) (by omega), par_itoa (n := r.1) (by omega), par_itoa (n := r.2.1) (by omega), readW_itoa (n := r.2.2) (by omega)]
  simp
theorem rayI_ray {r : Int × Int × Int} (hx : -20 ≤ r.1 ∧ r.1 ≤ 20) (hy : -20 ≤ r.2.1 ∧ r.2.1 ≤ 20) (hw : 1 ≤ r.2.2 ∧ r.2.2 ≤ 20) : rayI (rayLL r) = some r := by
  unfold rayI rayLL
  rw [whole_three (by decide) (by decide) (by omega) (by omega) (by omega)]
theorem raysL_map {f : List UInt8 → Option (Int × Int × Int)} : ∀ {zs : List (Int × Int × Int)}, (∀ r ∈ zs, f (rayLL r) = some r) → raysL f (zs.map rayLL) = some zs
  | [], _ => rfl
  | r :: l, h => by
    have ih := raysL_map (f := f) (zs := l) fun x hx => h x (by simp [hx])
    simp only [List.map_cons, raysL, h r (by simp), ih]
theorem starS_star {zs : List (Int × Int × Int)} (hl : zs.length ≤ 10) (h : ∀ r ∈ zs, (-20 ≤ r.1 ∧ r.1 ≤ 20) ∧ (-20 ≤ r.2.1 ∧ r.2.1 ≤ 20) ∧ (1 ≤ r.2.2 ∧ r.2.2 ≤ 20)) : starS (starLL zs) = some zs := by
  unfold starS
  rw [split_star, if_neg (by simp; omega), List.dropLast_concat, raysL_map]
  intro r hr
  obtain ⟨h1, h2, h3⟩ := h r hr
  exact rayS_ray h1 h2 h3
theorem starI_star {zs : List (Int × Int × Int)} (h : ∀ r ∈ zs, (-20 ≤ r.1 ∧ r.1 ≤ 20) ∧ (-20 ≤ r.2.1 ∧ r.2.1 ≤ 20) ∧ (1 ≤ r.2.2 ∧ r.2.2 ≤ 20)) : starI (starLL zs) = some zs := by
  unfold starI
  rw [split_star, List.dropLast_concat, raysL_map]
  · simp
  intro r hr
  obtain ⟨h1, h2, h3⟩ := h r hr
  exact rayI_ray h1 h2 h3

end Go.Proofs.YtgoaedhgkkbajaaDoor
