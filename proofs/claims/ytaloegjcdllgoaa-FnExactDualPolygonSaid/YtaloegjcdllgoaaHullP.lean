/-
  Plain laws of the hull of a row of points: its two chains, its ways, its corners. No program in sight.
-/
import Derived.Test.YtaloegjcdllgoaaChain
namespace Go.Proofs.Ytaloegjcdllgoaa

def negP (p : Int × Int) : Int × Int := (-p.1, -p.2)
theorem negP_negP (p : Int × Int) : negP (negP p) = p := by simp [negP]
theorem turnI_neg (a b c : Int × Int) : turnI (negP a) (negP b) (negP c) = turnI a b c := by unfold turnI detI negP; simp only; grind
theorem lexP_neg {a b : Int × Int} : lexP (negP a) (negP b) ↔ lexP b a := by unfold lexP lexV negP; simp only; omega
theorem popT_neg (p : Int × Int) : ∀ s : List (Int × Int), (popT p s).map negP = popT (negP p) (s.map negP)
  | [] => rfl
  | [_] => rfl
  | b :: a :: r => by
    simp only [popT, List.map_cons, turnI_neg]
    split
    · rw [popT_neg p (a :: r)]; rfl
    · rfl
theorem chainR_neg (l : List (Int × Int)) : (chainR l).map negP = chainR (l.map negP) := by
  suffices h : ∀ (l s : List (Int × Int)), (l.foldl (fun s p => p :: popT p s) s).map negP = (l.map negP).foldl (fun s p => p :: popT p s) (s.map negP) from h l []
  intro l
  induction l with
  | nil => intro s; rfl
  | cons p l ih =>
    intro s
    simp only [List.foldl_cons, List.map_cons]
    rw [ih, List.map_cons, popT_neg]

/-- The hull of points in order, each one once. -/
def hullL (l : List (Int × Int)) : List (Int × Int) := if l.length < 2 then l else (chainR l).tail.reverse ++ (chainR l.reverse).tail.reverse

theorem edges_idx {R : Int × Int → Int × Int → Prop} : ∀ {s : List (Int × Int)}, Edges R s → ∀ k, k + 1 < s.length → R (s.getD (k + 1) (0, 0)) (s.getD k (0, 0))
  | [], _, k, h => by simp at h
  | [_], _, k, h => by simp at h
  | b :: a :: r, hE, 0, _ => hE.1
  | b :: a :: r, hE, k + 1, h => by
    have := edges_idx (s := a :: r) hE.2 k (by simpa using h)
    simpa using this
theorem strict_idx : ∀ {s : List (Int × Int)}, Strict s → ∀ k, k + 2 < s.length → 0 < turnI (s.getD (k + 2) (0, 0)) (s.getD (k + 1) (0, 0)) (s.getD k (0, 0))
  | [], _, k, h => by simp at h
  | [_], _, k, h => by simp at h
  | [_, _], _, k, h => by simp only [List.length_cons, List.length_nil] at h; omega
  | c :: b :: a :: r, hS, 0, _ => hS.1
  | c :: b :: a :: r, hS, k + 1, h => by
    have := strict_idx (s := b :: a :: r) hS.2 k (by simpa using h)
    simpa using this
theorem getD_get {s : List (Int × Int)} {k : Nat} (h : k < s.length) : s.getD k (0, 0) = s[k] := by simp [List.getD, h]
theorem getD_rev {s : List (Int × Int)} {k : Nat} (h : k < s.length) : s.reverse.getD k (0, 0) = s.getD (s.length - 1 - k) (0, 0) := by
  simp [List.getD, List.getElem?_reverse h]
theorem edges_rev {R : Int × Int → Int × Int → Prop} {s : List (Int × Int)} (hE : Edges R s) {k : Nat} (h : k + 1 < s.length) : R (s.reverse.getD k (0, 0)) (s.reverse.getD (k + 1) (0, 0)) := by
  rw [getD_rev (by omega), getD_rev (by omega)]
  have := edges_idx hE (s.length - 1 - (k + 1)) (by omega)
  rwa [show s.length - 1 - (k + 1) + 1 = s.length - 1 - k by omega] at this
theorem strict_rev {s : List (Int × Int)} (hS : Strict s) {k : Nat} (h : k + 2 < s.length) : 0 < turnI (s.reverse.getD k (0, 0)) (s.reverse.getD (k + 1) (0, 0)) (s.reverse.getD (k + 2) (0, 0)) := by
  rw [getD_rev (by omega), getD_rev (by omega), getD_rev (by omega)]
  have := strict_idx hS (s.length - 1 - (k + 2)) (by omega)
  rwa [show s.length - 1 - (k + 2) + 2 = s.length - 1 - k by omega, show s.length - 1 - (k + 2) + 1 = s.length - 1 - (k + 1) by omega] at this

/-- One half of a hull as it is walked: from one end of the row to the other. 'up': the order's own way. -/
structure Half (S : Int × Int → Prop) (R : Int × Int → Int × Int → Prop) (m : Nat) (P : Nat → Int × Int) : Prop where
  mem : ∀ k, k < m → S (P k)
  lt : ∀ k, k + 1 < m → R (P k) (P (k + 1))
  strict : ∀ k, k + 2 < m → 0 < turnI (P k) (P (k + 1)) (P (k + 2))
  sup : ∀ k, k + 1 < m → ∀ x, S x → 0 ≤ turnI (P k) (P (k + 1)) x
  first : ∀ x, S x → x = P 0 ∨ R (P 0) x
  last : ∀ x, S x → x = P (m - 1) ∨ R x (P (m - 1))

theorem half_of {l : List (Int × Int)} (hne : l ≠ []) (hp : l.Pairwise lexP) : Half (· ∈ l) lexP (chainR l).length (fun k => (chainR l).reverse.getD k (0, 0)) ∧ 0 < (chainR l).length := by
  obtain ⟨hC, h0⟩ := chain_of (l.length - 1) l (by have := List.length_pos_iff.2 hne; omega) hp
  have hpos : 0 < (chainR l).length := List.length_pos_iff.2 h0
  refine ⟨⟨?_, fun k h => edges_rev hC.lex h, fun k h => strict_rev hC.strict h, fun k h => edges_rev hC.sup h, ?_, ?_⟩, hpos⟩
  · intro k hk
    apply hC.mem
    have : (chainR l).reverse.getD k (0, 0) = (chainR l).reverse[k]'(by simpa using hk) := getD_get (by simpa using hk)
    rw [this]
    exact List.mem_reverse.1 (List.getElem_mem _)
  · intro x hx
    have := hC.low ((chainR l).getLast h0) (List.getLast?_eq_some_getLast h0) x hx
    have e : (chainR l).reverse.getD 0 (0, 0) = (chainR l).getLast h0 := by
      rw [getD_rev hpos, List.getLast_eq_getElem, getD_get (by omega)]
      rfl
    show x = (chainR l).reverse.getD 0 (0, 0) ∨ lexP ((chainR l).reverse.getD 0 (0, 0)) x
    rw [e]
    rcases this with h | h
    · exact .inl h.symm
    · exact .inr h
  · intro x hx
    have := hC.top ((chainR l).head h0) (List.head?_eq_some_head h0) x hx
    have e : (chainR l).reverse.getD ((chainR l).length - 1) (0, 0) = (chainR l).head h0 := by
      rw [getD_rev (by omega), List.head_eq_getElem, getD_get (by omega)]
      simp
    show x = (chainR l).reverse.getD ((chainR l).length - 1) (0, 0) ∨ lexP x ((chainR l).reverse.getD ((chainR l).length - 1) (0, 0))
    rw [e]
    exact this

def gtP (a b : Int × Int) : Prop := lexP b a
theorem getD_neg {s : List (Int × Int)} {k : Nat} (h : k < s.length) : (s.map negP).getD k (0, 0) = negP (s.getD k (0, 0)) := by
  simp [List.getD, h]
theorem half_back {l : List (Int × Int)} (hne : l ≠ []) (hp : l.Pairwise lexP) : Half (· ∈ l) gtP (chainR l.reverse).length (fun k => (chainR l.reverse).reverse.getD k (0, 0)) ∧ 0 < (chainR l.reverse).length := by
  have hq : (l.reverse.map negP).Pairwise lexP := by
    rw [List.pairwise_map, List.pairwise_reverse]
    exact hp.imp fun h => lexP_neg.2 h
  obtain ⟨hH, hpos⟩ := half_of (l := l.reverse.map negP) (by simpa using hne) hq
  rw [← chainR_neg] at hH hpos
  rw [List.length_map] at hH hpos
  have hm : ∀ x, x ∈ l ↔ negP x ∈ l.reverse.map negP := by
    intro x
    simp only [List.mem_map, List.mem_reverse]
    constructor
    · intro h; exact ⟨x, h, rfl⟩
    · rintro ⟨y, hy, e⟩
      have : y = x := by rw [← negP_negP y, e, negP_negP]
      exact this ▸ hy
  have hg : ∀ k, k < (chainR l.reverse).length → ((chainR l.reverse).map negP).reverse.getD k (0, 0) = negP ((chainR l.reverse).reverse.getD k (0, 0)) := by
    intro k hk
    rw [← List.map_reverse, getD_neg (by simpa using hk)]
  refine ⟨⟨?_, ?_, ?_, ?_, ?_, ?_⟩, hpos⟩
  · intro k hk
    rw [hm]
    have := hH.mem k hk
    rwa [hg k hk] at this
  · intro k hk
    have := hH.lt k hk
    simp only [hg k (by omega), hg (k + 1) hk] at this
    exact lexP_neg.1 this
  · intro k hk
    have := hH.strict k hk
    simp only [hg k (by omega), hg (k + 1) (by omega), hg (k + 2) hk, turnI_neg] at this
    exact this
  · intro k hk x hx
    have := hH.sup k hk (negP x) ((hm x).1 hx)
    simp only [hg k (by omega), hg (k + 1) hk, turnI_neg] at this
    exact this
  · intro x hx
    have := hH.first (negP x) ((hm x).1 hx)
    simp only [hg 0 hpos] at this
    rcases this with h | h
    · left
      rw [← negP_negP x, h, negP_negP]
    · right; exact lexP_neg.1 h
  · intro x hx
    have := hH.last (negP x) ((hm x).1 hx)
    simp only [hg ((chainR l.reverse).length - 1) (by omega)] at this
    rcases this with h | h
    · left
      rw [← negP_negP x, h, negP_negP]
    · right; exact lexP_neg.1 h

/-- Three points on one line lie on one line. -/
theorem flat_line {p q a b c : Int × Int} (hpq : p ≠ q) (ha : turnI p q a = 0) (hb : turnI p q b = 0) (hc : turnI p q c = 0) : turnI a b c = 0 := by
  have hB : detI (q.1 - p.1) (q.2 - p.2) (b.1 - a.1) (b.2 - a.2) = 0 := by unfold turnI detI at *; grind
  have hC : detI (q.1 - p.1) (q.2 - p.2) (c.1 - a.1) (c.2 - a.2) = 0 := by unfold turnI detI at *; grind
  have hu : q.1 - p.1 ≠ 0 ∨ q.2 - p.2 ≠ 0 := by
    by_cases h1 : q.1 - p.1 = 0
    · right
      intro h2
      exact hpq (Prod.ext (by omega) (by omega))
    · exact .inl h1
  show detI (b.1 - a.1) (b.2 - a.2) (c.1 - a.1) (c.2 - a.2) = 0
  generalize q.1 - p.1 = u at *
  generalize q.2 - p.2 = v at *
  generalize b.1 - a.1 = e at *
  generalize b.2 - a.2 = f at *
  generalize c.1 - a.1 = g at *
  generalize c.2 - a.2 = h at *
  rcases hu with hu | hu
  · have : u * detI e f g h = 0 := by unfold detI at *; grind
    rcases Int.mul_eq_zero.1 this with h0 | h0
    · exact absurd h0 hu
    · exact h0
  · have : v * detI e f g h = 0 := by unfold detI at *; grind
    rcases Int.mul_eq_zero.1 this with h0 | h0
    · exact absurd h0 hu
    · exact h0

/-- Not all points lie on one line. -/
def Wide (l : List (Int × Int)) : Prop := ∃ a b c, a ∈ l ∧ b ∈ l ∧ c ∈ l ∧ turnI a b c ≠ 0
theorem Wide.no {l : List (Int × Int)} (h : Wide l) {p q : Int × Int} (hpq : p ≠ q) (hz : ∀ x ∈ l, turnI p q x = 0) : False := by
  obtain ⟨a, b, c, ha, hb, hc, hn⟩ := h
  exact hn (flat_line hpq (hz a ha) (hz b hb) (hz c hc))
theorem turnI_rev (p q x : Int × Int) : turnI q p x = -turnI p q x := by unfold turnI detI; grind
theorem Wide.two {l : List (Int × Int)} (h : Wide l) {p q : Int × Int} (hpq : p ≠ q) (h1 : ∀ x ∈ l, 0 ≤ turnI p q x) (h2 : ∀ x ∈ l, 0 ≤ turnI q p x) : False :=
  h.no hpq fun x hx => by
    have a := h1 x hx
    have b := h2 x hx
    rw [turnI_rev] at b
    omega

theorem getD_append {a b : List (Int × Int)} {k : Nat} : (a ++ b).getD k (0, 0) = if k < a.length then a.getD k (0, 0) else b.getD (k - a.length) (0, 0) := by
  simp only [List.getD, List.getElem?_append]
  split <;> rfl
theorem getD_tail_rev {s : List (Int × Int)} {k : Nat} (h : k + 1 < s.length) : s.tail.reverse.getD k (0, 0) = s.reverse.getD k (0, 0) := by
  rw [getD_rev (by simp; omega), getD_rev (by omega), getD_get (by simp; omega), getD_get (by omega)]
  simp only [List.length_tail, List.getElem_tail]
  congr 1
  omega

/-- What is known of the hull of two points or more: m ways up the order, then n ways back. -/
structure HullW (l : List (Int × Int)) (m n : Nat) (H : List (Int × Int)) : Prop where
  len : H.length = m + n
  hm : 0 < m
  hn : 0 < n
  up : ∀ k, k < m → lexP (H.getD k (0, 0)) (H.getD ((k + 1) % (m + n)) (0, 0))
  down : ∀ k, m ≤ k → k < m + n → lexP (H.getD ((k + 1) % (m + n)) (0, 0)) (H.getD k (0, 0))
  mem : ∀ k, k < m + n → H.getD k (0, 0) ∈ l
  sup : ∀ k, k < m + n → ∀ x ∈ l, 0 ≤ turnI (H.getD k (0, 0)) (H.getD ((k + 1) % (m + n)) (0, 0)) x
  strict : ∀ k, k + 1 < m → 0 < turnI (H.getD k (0, 0)) (H.getD (k + 1) (0, 0)) (H.getD (k + 2) (0, 0))
  strictB : ∀ k, m ≤ k → k + 1 < m + n → 0 < turnI (H.getD k (0, 0)) (H.getD (k + 1) (0, 0)) (H.getD ((k + 2) % (m + n)) (0, 0))

theorem hull_w {l : List (Int × Int)} (h2 : 2 ≤ l.length) (hp : l.Pairwise lexP) : ∃ m n, HullW l m n (hullL l) := by
  have hne : l ≠ [] := by rintro rfl; simp at h2
  obtain ⟨hU, hu0⟩ := half_of hne hp
  obtain ⟨hD, hd0⟩ := half_back hne hp
  have he : hullL l = (chainR l).tail.reverse ++ (chainR l.reverse).tail.reverse := by unfold hullL; rw [if_neg (by omega)]
  generalize hUf : (fun k => (chainR l).reverse.getD k (0, 0)) = U at hU
  generalize hDf : (fun k => (chainR l.reverse).reverse.getD k (0, 0)) = D at hD
  have hul : (chainR l).tail.reverse.length = (chainR l).length - 1 := by simp
  have hdl : (chainR l.reverse).tail.reverse.length = (chainR l.reverse).length - 1 := by simp
  have hUe : ∀ k, (chainR l).reverse.getD k (0, 0) = U k := fun k => by rw [← hUf]
  have hDe : ∀ k, (chainR l.reverse).reverse.getD k (0, 0) = D k := fun k => by rw [← hDf]
  generalize hM : (chainR l).length = M at *
  generalize hN : (chainR l.reverse).length = N at *
  -- the ends of the two halves are the ends of the row
  have a01 : ∃ a b, a ∈ l ∧ b ∈ l ∧ lexP a b := by
    match l, h2, hp with
    | a :: b :: r, _, hp => exact ⟨a, b, by simp, by simp, (List.pairwise_cons.1 hp).1 b (by simp)⟩
  obtain ⟨a, b, ha, hb, hab⟩ := a01
  have hM2 : 2 ≤ M := by
    rcases (show M = 1 ∨ 2 ≤ M by omega) with h | h
    · exfalso
      have all : ∀ x ∈ l, x = U 0 := by
        intro x hx
        have g1 := hU.first x hx
        have g2 := hU.last x hx
        rw [h] at g2
        rcases g1 with g | g
        · exact g
        · rcases g2 with k | k
          · exact k
          · exact absurd k (lexP_asymm g)
      rw [all a ha, all b hb] at hab
      exact lexP_irrefl _ hab
    · exact h
  have hN2 : 2 ≤ N := by
    rcases (show N = 1 ∨ 2 ≤ N by omega) with h | h
    · exfalso
      have all : ∀ x ∈ l, x = D 0 := by
        intro x hx
        have g1 := hD.first x hx
        have g2 := hD.last x hx
        rw [h] at g2
        rcases g1 with g | g
        · exact g
        · rcases g2 with k | k
          · exact k
          · exact absurd k (lexP_asymm g)
      rw [all a ha, all b hb] at hab
      exact lexP_irrefl _ hab
    · exact h
  have eMin : D (N - 1) = U 0 := by
    rcases hU.first (D (N - 1)) (hD.mem _ (by omega)) with g | g
    · exact g
    · rcases hD.last (U 0) (hU.mem _ (by omega)) with k | k
      · exact k.symm
      · exact absurd k (lexP_asymm g)
  have eMax : D 0 = U (M - 1) := by
    rcases hU.last (D 0) (hD.mem _ (by omega)) with g | g
    · exact g
    · rcases hD.first (U (M - 1)) (hU.mem _ (by omega)) with k | k
      · exact k.symm
      · exact absurd k (lexP_asymm g)
  obtain ⟨m, hm⟩ : ∃ m, M = m + 1 := ⟨M - 1, by omega⟩
  obtain ⟨n, hn⟩ : ∃ n, N = n + 1 := ⟨N - 1, by omega⟩
  rw [hm] at hul hM hU eMax
  rw [hn] at hdl hN hD eMin
  simp only [Nat.add_sub_cancel] at hul hdl eMax eMin
  have hlow : ∀ k, k < m → (hullL l).getD k (0, 0) = U k := by
    intro k hk
    rw [he, getD_append, if_pos (by omega), getD_tail_rev (by omega), hUe]
  have hhigh : ∀ k, m ≤ k → k < m + n → (hullL l).getD k (0, 0) = D (k - m) := by
    intro k hk hk2
    rw [he, getD_append, if_neg (by omega), hul, getD_tail_rev (by omega), hDe]
  have hlow2 : ∀ k, k < m → (hullL l).getD ((k + 1) % (m + n)) (0, 0) = U (k + 1) := by
    intro k hk
    rw [Nat.mod_eq_of_lt (by omega)]
    rcases (show k + 1 < m ∨ k + 1 = m by omega) with h | h
    · exact hlow _ h
    · rw [h, hhigh _ (Nat.le_refl _) (by omega), Nat.sub_self, eMax]
  have hhigh2 : ∀ k, m ≤ k → k < m + n → (hullL l).getD ((k + 1) % (m + n)) (0, 0) = D (k + 1 - m) := by
    intro k hk hk2
    rcases (show k + 1 < m + n ∨ k + 1 = m + n by omega) with h | h
    · rw [Nat.mod_eq_of_lt h, hhigh _ (by omega) h]
    · rw [h, Nat.mod_self, hlow 0 (by omega), ← eMin]
      congr 1
      omega
  refine ⟨m, n, ?_, by omega, by omega, ?_, ?_, ?_, ?_, ?_, ?_⟩
  · rw [he, List.length_append, hul, hdl]
  · intro k hk
    rw [hlow k hk, hlow2 k hk]
    exact hU.lt k (by omega)
  · intro k hk hk2
    rw [hhigh k hk hk2, hhigh2 k hk hk2]
    have := hD.lt (k - m) (by omega)
    rw [show k - m + 1 = k + 1 - m by omega] at this
    exact this
  · intro k hk
    rcases (show k < m ∨ m ≤ k by omega) with h | h
    · rw [hlow k h]; exact hU.mem k (by omega)
    · rw [hhigh k h hk]; exact hD.mem _ (by omega)
  · intro k hk x hx
    rcases (show k < m ∨ m ≤ k by omega) with h | h
    · rw [hlow k h, hlow2 k h]; exact hU.sup k (by omega) x hx
    · rw [hhigh k h hk, hhigh2 k h hk]
      have := hD.sup (k - m) (by omega) x hx
      rw [show k - m + 1 = k + 1 - m by omega] at this
      exact this
  · intro k hk
    have e2 := hlow2 (k + 1) hk
    rw [Nat.mod_eq_of_lt (by omega)] at e2
    rw [hlow k (by omega), hlow (k + 1) hk, e2]
    exact hU.strict k (by omega)
  · intro k hk hk2
    have e2 := hhigh2 (k + 1) (by omega) hk2
    rw [hhigh k hk (by omega), hhigh (k + 1) (by omega) hk2, e2]
    have := hD.strict (k - m) (by omega)
    rw [show k - m + 1 = k + 1 - m by omega, show k - m + 2 = k + 1 + 1 - m by omega] at this
    exact this

theorem lexP_ne {a b : Int × Int} (h : lexP a b) : a ≠ b := by rintro rfl; exact lexP_irrefl _ h

section
variable {l H : List (Int × Int)} {m n : Nat} (hH : HullW l m n H) (hW : Wide l)
include hH
/-- The corner k, the next one. -/
theorem HullW.ne {k : Nat} (hk : k < m + n) : H.getD k (0, 0) ≠ H.getD ((k + 1) % (m + n)) (0, 0) := by
  rcases (show k < m ∨ m ≤ k by omega) with h | h
  · exact lexP_ne (hH.up k h)
  · exact (lexP_ne (hH.down k h hk)).symm
include hW
theorem HullW.three : 3 ≤ m + n := by
  have h1 := hH.hm
  have h2 := hH.hn
  rcases (show m + n = 2 ∨ 3 ≤ m + n by omega) with h | h
  · exfalso
    have hm1 : m = 1 := by omega
    have hn1 : n = 1 := by omega
    subst hm1 hn1
    have s0 := hH.sup 0 (by omega)
    have s1 := hH.sup 1 (by omega)
    simp only [show (0 + 1) % (1 + 1) = 1 from rfl, show (1 + 1) % (1 + 1) = 0 from rfl] at s0 s1
    exact hW.two (by have := hH.ne (k := 0) (by omega); simpa using this) s0 s1
  · exact h
/-- On each way there is a corner strictly at the left. -/
theorem HullW.left {k : Nat} (hk : k < m + n) : ∃ j, j < m + n ∧ 0 < turnI (H.getD k (0, 0)) (H.getD ((k + 1) % (m + n)) (0, 0)) (H.getD j (0, 0)) := by
  by_cases hex : ∃ j, j < m + n ∧ 0 < turnI (H.getD k (0, 0)) (H.getD ((k + 1) % (m + n)) (0, 0)) (H.getD j (0, 0))
  · exact hex
  · exfalso
    have hz : ∀ j, j < m + n → turnI (H.getD k (0, 0)) (H.getD ((k + 1) % (m + n)) (0, 0)) (H.getD j (0, 0)) = 0 := by
      intro j hj
      have h1 := hH.sup k hk _ (hH.mem j hj)
      rcases (show 0 < turnI (H.getD k (0, 0)) (H.getD ((k + 1) % (m + n)) (0, 0)) (H.getD j (0, 0)) ∨ turnI (H.getD k (0, 0)) (H.getD ((k + 1) % (m + n)) (0, 0)) (H.getD j (0, 0)) = 0 by omega) with h | h
      · exact absurd ⟨j, hj, h⟩ hex
      · exact h
    have hf : ∀ i j q, i < m + n → j < m + n → q < m + n → turnI (H.getD i (0, 0)) (H.getD j (0, 0)) (H.getD q (0, 0)) = 0 :=
      fun i j q hi hj hq => flat_line (hH.ne hk) (hz i hi) (hz j hj) (hz q hq)
    have h1 := hH.hm
    have h2 := hH.hn
    have h3 := hH.three hW
    rcases (show 2 ≤ m ∨ 2 ≤ n by omega) with h | h
    · have := hH.strict 0 (by omega)
      rw [hf 0 1 2 (by omega) (by omega) (by omega)] at this
      omega
    · have := hH.strictB m (Nat.le_refl _) (by omega)
      rw [hf m (m + 1) _ (by omega) (by omega) (Nat.mod_lt _ (by omega))] at this
      omega
/-- The first three corners turn to the left. -/
theorem HullW.turn : 0 < turnI (H.getD 0 (0, 0)) (H.getD 1 (0, 0)) (H.getD 2 (0, 0)) := by
  have h1 := hH.hm
  have h2 := hH.hn
  have h3 := hH.three hW
  rcases (show 2 ≤ m ∨ m = 1 by omega) with h | h
  · exact hH.strict 0 (by omega)
  · subst h
    have s0 := hH.sup 0 (by omega)
    have s1 := hH.sup 1 (by omega)
    have u0 := hH.up 0 (by omega)
    have d1 := hH.down 1 (by omega) (by omega)
    rw [Nat.mod_eq_of_lt (show 0 + 1 < 1 + n by omega)] at s0 u0
    rw [Nat.mod_eq_of_lt (show 1 + 1 < 1 + n by omega)] at s1 d1
    simp only [Nat.zero_add, Nat.reduceAdd] at s0 s1 u0 d1
    have m2 := s0 _ (hH.mem 2 (by omega))
    rcases (show 0 < turnI (H.getD 0 (0, 0)) (H.getD 1 (0, 0)) (H.getD 2 (0, 0)) ∨ turnI (H.getD 0 (0, 0)) (H.getD 1 (0, 0)) (H.getD 2 (0, 0)) = 0 by omega) with h | h
    · exact h
    · exfalso
      generalize H.getD 0 (0, 0) = P at *
      generalize H.getD 1 (0, 0) = Q at *
      generalize H.getD 2 (0, 0) = R at *
      refine hW.no (lexP_ne u0) fun x hx => ?_
      have k0 := s0 x hx
      have k1 := s1 x hx
      -- u = R - Q, v = P - Q, both to the left; u and v are parallel
      have e1 : (P.1 - Q.1) * turnI Q R x = (R.1 - Q.1) * (-turnI P Q x) := by unfold turnI detI at *; grind
      have e2 : (P.2 - Q.2) * turnI Q R x = (R.2 - Q.2) * (-turnI P Q x) := by unfold turnI detI at *; grind
      generalize turnI Q R x = A at *
      generalize turnI P Q x = B at *
      unfold lexP lexV at u0 d1
      rcases (show B = 0 ∨ 0 < B by omega) with hB | hB
      · exact hB
      · exfalso
        rcases u0 with g | ⟨g, g'⟩
        · rcases d1 with f | ⟨f, f'⟩
          · have a1 := Int.mul_nonneg (show 0 ≤ Q.1 - P.1 by omega) k1
            have a2 := Int.mul_pos f hB
            have e3 : (P.1 - Q.1) * A = -((Q.1 - P.1) * A) := by rw [← Int.neg_mul]; congr 1; omega
            have e4 : (R.1 - Q.1) * -B = (Q.1 - R.1) * B := by grind
            omega
          · have e5 : R.1 = Q.1 := by omega
            unfold turnI detI at h
            have a3 := Int.mul_pos g f'
            have e6 : (Q.1 - P.1) * (Q.2 - R.2) = -((Q.1 - P.1) * (R.2 - P.2) - (Q.2 - P.2) * (R.1 - P.1)) := by rw [e5]; grind
            omega
        · rcases d1 with f | ⟨f, f'⟩
          · have e5 : P.1 = Q.1 := by omega
            unfold turnI detI at h
            have a3 := Int.mul_pos g' f
            have e6 : (Q.2 - P.2) * (Q.1 - R.1) = (Q.1 - P.1) * (R.2 - P.2) - (Q.2 - P.2) * (R.1 - P.1) := by rw [e5]; grind
            omega
          · have a1 := Int.mul_nonneg (show 0 ≤ Q.2 - P.2 by omega) k1
            have a2 := Int.mul_pos f' hB
            have e3 : (P.2 - Q.2) * A = -((Q.2 - P.2) * A) := by rw [← Int.neg_mul]; congr 1; omega
            have e4 : (R.2 - Q.2) * -B = (Q.2 - R.2) * B := by grind
            omega
omit hW
theorem HullW.upTo {i j : Nat} (h : i < j) (hj : j < m) : lexP (H.getD i (0, 0)) (H.getD j (0, 0)) := by
  obtain ⟨d, rfl⟩ : ∃ d, j = i + 1 + d := ⟨j - i - 1, by omega⟩
  clear h
  have hn := hH.hn
  induction d with
  | zero =>
    have := hH.up i (by omega)
    rwa [Nat.mod_eq_of_lt (by omega)] at this
  | succ d ih =>
    have := hH.up (i + 1 + d) (by omega)
    rw [Nat.mod_eq_of_lt (by omega)] at this
    exact lexP_trans (ih (by omega)) this
theorem HullW.downTo {i j : Nat} (hi : m ≤ i) (h : i < j) (hj : j < m + n) : lexP (H.getD j (0, 0)) (H.getD i (0, 0)) := by
  obtain ⟨d, rfl⟩ : ∃ d, j = i + 1 + d := ⟨j - i - 1, by omega⟩
  clear h
  induction d with
  | zero =>
    have := hH.down i (by omega) (by omega)
    rwa [Nat.mod_eq_of_lt (by omega)] at this
  | succ d ih =>
    have := hH.down (i + 1 + d) (by omega) (by omega)
    rw [Nat.mod_eq_of_lt (by omega)] at this
    exact lexP_trans this (ih (by omega))
/-- No way is gone twice, in its own direction. -/
theorem HullW.once {i j : Nat} (h : i < j) (hj : j < m + n) : ¬ (H.getD i (0, 0) = H.getD j (0, 0) ∧ H.getD ((i + 1) % (m + n)) (0, 0) = H.getD ((j + 1) % (m + n)) (0, 0)) := by
  rintro ⟨e1, e2⟩
  rcases (show j < m ∨ m ≤ j by omega) with hjm | hjm
  · exact lexP_ne (hH.upTo h hjm) e1
  · rcases (show i < m ∨ m ≤ i by omega) with him | him
    · have a1 := hH.up i him
      have a2 := hH.down j hjm hj
      rw [e1, e2] at a1
      exact lexP_asymm a1 a2
    · exact lexP_ne (hH.downTo him h hj) e1.symm
include hW
/-- .. nor backward. -/
theorem HullW.back {i j : Nat} (hi : i < m + n) (hj : j < m + n) : ¬ (H.getD i (0, 0) = H.getD ((j + 1) % (m + n)) (0, 0) ∧ H.getD ((i + 1) % (m + n)) (0, 0) = H.getD j (0, 0)) := by
  rintro ⟨e1, e2⟩
  have s1 := hH.sup i hi
  have s2 := hH.sup j hj
  rw [← e1, ← e2] at s2
  exact hW.two (hH.ne hi) s1 s2
end

end Go.Proofs.Ytaloegjcdllgoaa
