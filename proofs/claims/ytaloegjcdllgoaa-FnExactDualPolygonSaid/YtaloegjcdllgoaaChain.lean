/-
  Plain laws of chains of points: what the walk round a row of points, with its pops at right turns, leaves. No program in sight.
-/
import Derived.Test.YtaloegjcdllgoaaPlain
namespace Go.Proofs.Ytaloegjcdllgoaa

/-- A pair that comes behind (0, 0) in the order of pairs; the order itself. -/
def lexV (a b : Int) : Prop := 0 < a ∨ (a = 0 ∧ 0 < b)
def lexP (a b : Int × Int) : Prop := lexV (b.1 - a.1) (b.2 - a.2)
def leP (a b : Int × Int) : Prop := a = b ∨ lexP a b
/-- Positive where c lies at the left of the way from a to b. -/
def turnI (a b c : Int × Int) : Int := detI (b.1 - a.1) (b.2 - a.2) (c.1 - a.1) (c.2 - a.2)

theorem lexP_trans {a b c : Int × Int} (h : lexP a b) (k : lexP b c) : lexP a c := by
  unfold lexP lexV at *; omega
theorem lexP_irrefl (a : Int × Int) : ¬ lexP a a := by unfold lexP lexV; omega
theorem lexP_asymm {a b : Int × Int} (h : lexP a b) : ¬ lexP b a := by unfold lexP lexV at *; omega
theorem lexP_total (a b : Int × Int) : lexP a b ∨ a = b ∨ lexP b a := by
  unfold lexP lexV
  rcases a with ⟨a1, a2⟩
  rcases b with ⟨b1, b2⟩
  simp only [Prod.mk.injEq]
  omega
theorem leP_of_not {a b : Int × Int} (h : ¬ lexP b a) : leP a b := by
  rcases lexP_total a b with h1 | h1 | h1
  · exact .inr h1
  · exact .inl h1
  · exact absurd h1 h
theorem leP_trans_lex {a b c : Int × Int} (h : leP a b) (k : lexP b c) : lexP a c := by
  rcases h with rfl | h
  · exact k
  · exact lexP_trans h k
theorem leP_antisymm {a b : Int × Int} (h : leP a b) (k : leP b a) : a = b := by
  rcases h with h | h
  · exact h
  · rcases k with k | k
    · exact k.symm
    · exact absurd k (lexP_asymm h)

theorem pos_of_mul {c X : Int} (hc : 0 < c) (h : 0 < c * X) : 0 < X := by
  rcases (show 0 < X ∨ X ≤ 0 by omega) with h1 | h1
  · exact h1
  · have := Int.mul_le_mul_of_nonneg_left h1 (show 0 ≤ c by omega)
    omega
theorem nonneg_of_mul {c X : Int} (hc : 0 < c) (h : 0 ≤ c * X) : 0 ≤ X := by
  rcases (show X < 0 ∨ 0 ≤ X by omega) with h1 | h1
  · have := Int.mul_le_mul_of_nonneg_left (show X ≤ -1 by omega) (show 0 ≤ c by omega)
    omega
  · exact h1
theorem det_ident (a b c d e f : Int) : c * detI a b e f = a * detI c d e f + e * detI a b c d := by unfold detI; grind

/-- Angles add up: of three directions to the right (or straight up) the first is no further round than the third. -/
theorem det_nonneg {a b c d e f : Int} (hu : (a = 0 ∧ b = 0) ∨ lexV a b) (hv : lexV c d) (hw : (e = 0 ∧ f = 0) ∨ lexV e f) (h1 : 0 ≤ detI a b c d) (h2 : 0 ≤ detI c d e f) : 0 ≤ detI a b e f := by
  have ha : 0 ≤ a := by unfold lexV at hu; omega
  have he : 0 ≤ e := by unfold lexV at hw; omega
  rcases hv with hc | ⟨rfl, hd⟩
  · have hI := det_ident a b c d e f
    have p1 := Int.mul_nonneg ha h2
    have p2 := Int.mul_nonneg he h1
    exact nonneg_of_mul hc (by omega)
  · have he0 : e = 0 := by
      rcases (show 0 < e ∨ e ≤ 0 by omega) with h | h
      · have := Int.mul_pos hd h
        unfold detI at h2; omega
      · omega
    subst he0
    have hf : 0 ≤ f := by unfold lexV at hw; omega
    have := Int.mul_nonneg ha hf
    unfold detI; omega
theorem det_pos {a b c d e f : Int} (hu : lexV a b) (hv : lexV c d) (hw : lexV e f) (h1 : 0 ≤ detI a b c d) (h2 : 0 < detI c d e f) : 0 < detI a b e f := by
  have he : 0 ≤ e := by unfold lexV at hw; omega
  have hc0 : 0 < c := by
    rcases hv with hc | ⟨rfl, hd⟩
    · exact hc
    · exfalso
      have := Int.mul_nonneg (show 0 ≤ d by omega) he
      unfold detI at h2; omega
  have ha : 0 < a := by
    rcases hu with h | ⟨rfl, hb⟩
    · exact h
    · exfalso
      have := Int.mul_pos hb hc0
      unfold detI at h1; omega
  have hI := det_ident a b c d e f
  have p1 := Int.mul_pos ha h2
  have p2 := Int.mul_nonneg he h1
  exact pos_of_mul hc0 (by omega)

theorem detI_swap (a b c d : Int) : detI a b c d = -detI c d a b := by unfold detI; grind
theorem turnI_back (a b c : Int × Int) : turnI a b c = -detI (b.1 - a.1) (b.2 - a.2) (b.1 - c.1) (b.2 - c.2) := by unfold turnI detI; grind
theorem turnI_self (a b : Int × Int) : turnI a b b = 0 := by unfold turnI detI; grind
theorem turnI_first (a b : Int × Int) : turnI a b a = 0 := by unfold turnI detI; grind

/-- The steps of a row that stands with its last point first: (b, a) next to each other say that the way goes from a to b. -/
def Edges (R : Int × Int → Int × Int → Prop) : List (Int × Int) → Prop
  | b :: a :: r => R a b ∧ Edges R (a :: r)
  | _ => True
/-- Each three points next to each other turn to the left. -/
def Strict : List (Int × Int) → Prop
  | c :: b :: a :: r => 0 < turnI a b c ∧ Strict (b :: a :: r)
  | _ => True
theorem Edges.tail {R : Int × Int → Int × Int → Prop} {b : Int × Int} {r : List (Int × Int)} (h : Edges R (b :: r)) : Edges R r := by
  cases r with
  | nil => trivial
  | cons a r => exact h.2
theorem Strict.tail {b : Int × Int} {r : List (Int × Int)} (h : Strict (b :: r)) : Strict r := by
  match r, h with
  | [], _ => trivial
  | [_], _ => trivial
  | _ :: _ :: _, h => exact h.2
theorem Edges.mono {R Q : Int × Int → Int × Int → Prop} (hRQ : ∀ a b, R a b → Q a b) : ∀ {s : List (Int × Int)}, Edges R s → Edges Q s
  | [], _ => trivial
  | [_], _ => trivial
  | _ :: _ :: _, h => ⟨hRQ _ _ h.1, Edges.mono hRQ h.2⟩
theorem Edges.and {R Q : Int × Int → Int × Int → Prop} : ∀ {s : List (Int × Int)}, Edges R s → Edges Q s → Edges (fun a b => R a b ∧ Q a b) s
  | [], _, _ => trivial
  | [_], _, _ => trivial
  | _ :: _ :: _, h, k => ⟨⟨h.1, k.1⟩, Edges.and h.2 k.2⟩

/-- A chain over a set of points, its last point first. -/
structure Chain (S : Int × Int → Prop) (s : List (Int × Int)) : Prop where
  mem : ∀ x ∈ s, S x
  lex : Edges lexP s
  strict : Strict s
  sup : Edges (fun a b => ∀ x, S x → 0 ≤ turnI a b x) s
  top : ∀ h ∈ s.head?, ∀ x, S x → leP x h
  low : ∀ h ∈ s.getLast?, ∀ x, S x → leP h x

/-- The points at which a new one is met. -/
def popT (p : Int × Int) : List (Int × Int) → List (Int × Int)
  | b :: a :: r => if turnI a b p ≤ 0 then popT p (a :: r) else b :: a :: r
  | s => s
def chainR (l : List (Int × Int)) : List (Int × Int) := l.foldl (fun s p => p :: popT p s) []

/-- All ways of a chain pass a point that its last way passes at the right. -/
theorem edges_pos {p : Int × Int} : ∀ {s : List (Int × Int)}, Edges lexP s → Strict s → (∀ h ∈ s.head?, lexP h p) → (∀ b a r, s = b :: a :: r → 0 < turnI a b p) → Edges (fun a b => 0 < turnI a b p) s
  | [], _, _, _, _ => trivial
  | [_], _, _, _, _ => trivial
  | [b, a], _, _, _, ht => ⟨ht b a [] rfl, trivial⟩
  | c :: b :: a :: r, hl, hs, hh, ht => by
    have h1 := ht c b (a :: r) rfl
    have l1 : lexP b c := hl.1
    have l2 : lexP a b := hl.2.1
    have l3 : lexP c p := hh c rfl
    have h2 : 0 < turnI a b p := by
      have k := det_pos (a := b.1 - a.1) (b := b.2 - a.2) (c := c.1 - b.1) (d := c.2 - b.2) (e := p.1 - b.1) (f := p.2 - b.2) l2 l1 (lexP_trans l1 l3)
        (by have := hs.1; unfold turnI detI at this; unfold detI; grind) h1
      unfold turnI; unfold detI at *; grind
    exact ⟨h1, edges_pos hl.2 hs.2 (fun h hh' => by obtain rfl : b = h := (by simpa using hh'); exact lexP_trans l1 l3) (fun b' a' r' e => by simp at e; obtain ⟨rfl, rfl, rfl⟩ := e; exact h2)⟩

/-- What popping leaves. -/
theorem popT_inv {S : Int × Int → Prop} {p : Int × Int} (hp : ∀ x, S x → lexP x p) : ∀ {s : List (Int × Int)}, s ≠ [] → (∀ x ∈ s, S x) → Edges lexP s → Strict s → Edges (fun a b => ∀ x, S x → 0 ≤ turnI a b x) s →
    (∀ h ∈ s.head?, ∀ x, S x → leP x h ∨ 0 ≤ turnI h p x) →
    ∃ h t, popT p s = h :: t ∧ (∀ x ∈ h :: t, x ∈ s) ∧ Edges lexP (h :: t) ∧ Strict (h :: t) ∧ Edges (fun a b => ∀ x, S x → 0 ≤ turnI a b x) (h :: t) ∧ (h :: t).getLast? = s.getLast? ∧
      (∀ x, S x → leP x h ∨ 0 ≤ turnI h p x) ∧ (∀ a r, t = a :: r → 0 < turnI a h p)
  | [], h0, _, _, _, _, _ => absurd rfl h0
  | [b], _, _, hl, hs, hu, hh => ⟨b, [], rfl, fun x hx => hx, hl, hs, hu, rfl, hh b rfl, fun a r e => by simp at e⟩
  | b :: a :: r, _, hm, hl, hs, hu, hh => by
    by_cases hc : turnI a b p ≤ 0
    · have hnew : ∀ h ∈ (a :: r).head?, ∀ x, S x → leP x h ∨ 0 ≤ turnI h p x := by
        intro h hh' x hx
        obtain rfl : a = h := by simpa using hh'
        by_cases hax : lexP a x
        · right
          have h1 := hu.1 x hx
          have h2 : lexP a p := hp a (hm a (by simp))
          have h3 : lexP a b := hl.1
          exact det_nonneg (a := p.1 - a.1) (b := p.2 - a.2) (c := b.1 - a.1) (d := b.2 - a.2) (.inr h2) h3 (.inr hax)
            (by unfold turnI at hc; unfold detI at *; grind) h1
        · exact .inl (leP_of_not hax)
      obtain ⟨h, t, e, e1, e2, e3, e4, e5, e6, e7⟩ := popT_inv hp (s := a :: r) (by simp) (fun x hx => hm x (by simp at hx ⊢; exact .inr hx)) hl.2 hs.tail hu.2 hnew
      refine ⟨h, t, by rw [popT, if_pos hc]; exact e, fun x hx => ?_, e2, e3, e4, ?_, e6, e7⟩
      · exact List.mem_cons_of_mem _ (e1 x hx)
      · rw [e5]; simp
    · refine ⟨b, a :: r, by rw [popT, if_neg hc], fun x hx => hx, hl, hs, hu, rfl, fun x hx => hh b rfl x hx, ?_⟩
      intro a' r' e
      simp at e
      obtain ⟨rfl, rfl⟩ := e
      omega

theorem chain_push {S : Int × Int → Prop} {p : Int × Int} (hp : ∀ x, S x → lexP x p) {s : List (Int × Int)} (hne : s ≠ []) (h : Chain S s) : Chain (fun x => S x ∨ x = p) (p :: popT p s) := by
  obtain ⟨q, t, e, e1, e2, e3, e4, e5, e6, e7⟩ := popT_inv hp hne h.mem h.lex h.strict h.sup (fun k hk x hx => .inl (h.top k hk x hx))
  rw [e]
  have hq : S q := h.mem q (e1 q (by simp))
  have hqp : lexP q p := hp q hq
  refine ⟨?_, ⟨hqp, e2⟩, ?_, ⟨?_, ?_⟩, ?_, ?_⟩
  · intro x hx
    rcases List.mem_cons.1 hx with rfl | hx
    · exact .inr rfl
    · exact .inl (h.mem x (e1 x hx))
  · cases t with
    | nil => trivial
    | cons a r => exact ⟨e7 a r rfl, e3⟩
  · intro x hx
    rcases hx with hx | rfl
    · rcases e6 x hx with h1 | h1
      · rcases h1 with rfl | h1
        · rw [turnI_first]; exact Int.le_refl _
        · cases t with
          | nil =>
            exfalso
            have := h.low q (by rw [← e5]; rfl) x hx
            rcases this with rfl | this
            · exact lexP_irrefl _ h1
            · exact lexP_asymm h1 this
          | cons a r =>
            have k1 := e4.1 x hx
            have k2 := e7 a r rfl
            have k3 : lexP a q := e2.1
            have := det_nonneg (a := q.1 - x.1) (b := q.2 - x.2) (c := q.1 - a.1) (d := q.2 - a.2) (e := p.1 - q.1) (f := p.2 - q.2) (.inr h1) k3 (.inr hqp)
              (by unfold turnI at k1; unfold detI at *; grind) (by unfold turnI at k2; unfold detI at *; grind)
            unfold turnI; unfold detI at *; grind
      · exact h1
    · rw [turnI_self]; exact Int.le_refl _
  · have hpos := edges_pos (p := p) e2 e3 (fun k hk => by obtain rfl : q = k := (by simpa using hk); exact hqp) (fun b a r e => by simp at e; obtain ⟨rfl, rfl⟩ := e; exact e7 a r rfl)
    refine Edges.mono ?_ (e4.and hpos)
    rintro a b ⟨k1, k2⟩ x (hx | rfl)
    · exact k1 x hx
    · exact Int.le_of_lt k2
  · intro k hk x hx
    obtain rfl : p = k := by simpa using hk
    rcases hx with hx | rfl
    · exact .inr (hp x hx)
    · exact .inl rfl
  · intro k hk x hx
    have hk' : k ∈ s.getLast? := by
      rw [← e5]
      simpa [List.getLast?_cons_cons] using hk
    rcases hx with hx | rfl
    · exact h.low k hk' x hx
    · exact .inr (hp k (h.mem k (List.mem_of_getLast? hk')))

theorem chain_one (p : Int × Int) : Chain (fun x => x = p) [p] :=
  ⟨fun x hx => by simpa using hx, trivial, trivial, trivial, fun h hh x hx => by obtain rfl : p = h := (by simpa using hh); exact .inl hx,
   fun h hh x hx => by obtain rfl : p = h := (by simpa using hh); exact .inl hx.symm⟩

theorem chainR_snoc (l : List (Int × Int)) (p : Int × Int) : chainR (l ++ [p]) = p :: popT p (chainR l) := by simp [chainR, List.foldl_append]

/-- The walk round a row in order leaves its chain. -/
theorem chain_of : ∀ (n : Nat) (l : List (Int × Int)), l.length = n + 1 → l.Pairwise lexP → Chain (· ∈ l) (chainR l) ∧ chainR l ≠ []
  | 0, l, hl, _ => by
    match l, hl with
    | [p], _ => exact ⟨by have := chain_one p; simpa [chainR, popT] using this, by simp [chainR]⟩
  | n + 1, l, hl, hp => by
    obtain ⟨l0, p, rfl⟩ : ∃ l0 p, l = l0 ++ [p] := ⟨l.dropLast, l.getLast (by intro h; simp [h] at hl), (List.dropLast_concat_getLast _).symm⟩
    have h0 : l0.length = n + 1 := by simp at hl; omega
    rw [List.pairwise_append] at hp
    obtain ⟨ih, hne⟩ := chain_of n l0 h0 hp.1
    have := chain_push (p := p) (fun x hx => hp.2.2 x hx p (by simp)) hne ih
    rw [chainR_snoc]
    refine ⟨?_, by simp⟩
    have e : (fun x => x ∈ l0 ∨ x = p) = (fun x => x ∈ l0 ++ [p]) := by funext x; simp
    rw [e] at this
    exact this

/-- Two chains over one set are one. -/
theorem chain_unique : ∀ (n : Nat) {S : Int × Int → Prop} {s s' : List (Int × Int)}, s.length + s'.length = n → s ≠ [] → s' ≠ [] → Chain S s → Chain S s' → s = s' := by
  intro n
  induction n using Nat.strongRecOn with
  | _ n ih =>
  intro S s s' hn h0 h0' h h'
  match s, s', h0, h0', h, h', hn with
  | b :: t, b' :: t', _, _, h, h', hn =>
    obtain rfl : b = b' := leP_antisymm (h'.top b' rfl b (h.mem b (by simp))) (h.top b rfl b' (h'.mem b' (by simp)))
    match t, t', h, h', hn with
    | [], [], _, _, _ => rfl
    | [], a :: r, h, h', _ =>
      exfalso
      have k1 := h.low b rfl a (h'.mem a (by simp))
      have k2 : lexP a b := h'.lex.1
      rcases k1 with rfl | k1
      · exact lexP_irrefl _ k2
      · exact lexP_asymm k1 k2
    | a :: r, [], h, h', _ =>
      exfalso
      have k1 := h'.low b rfl a (h.mem a (by simp))
      have k2 : lexP a b := h.lex.1
      rcases k1 with rfl | k1
      · exact lexP_irrefl _ k2
      · exact lexP_asymm k1 k2
    | a :: r, a' :: r', h, h', hn =>
      have la : lexP a b := h.lex.1
      have la' : lexP a' b := h'.lex.1
      have Sa : S a := h.mem a (by simp)
      have Sa' : S a' := h'.mem a' (by simp)
      have t1 := h.sup.1 a' Sa'
      have t2 := h'.sup.1 a Sa
      -- one step of the argument, for both sides
      have key : ∀ (x y : Int × Int) (r : List (Int × Int)), Chain S (b :: y :: r) → S x → lexP x y → lexP y b → detI (b.1 - x.1) (b.2 - x.2) (b.1 - y.1) (b.2 - y.2) = 0 → False := by
        intro x y r hc Sx lxy lyb hz
        match r, hc with
        | [], hc =>
          have := hc.low y rfl x Sx
          rcases this with rfl | this
          · exact lexP_irrefl _ lxy
          · exact lexP_asymm lxy this
        | z :: r, hc =>
          have k1 := hc.strict.1
          have k2 := hc.sup.2.1 x Sx
          have k3 : lexP z y := hc.lex.2.1
          have := det_pos (a := y.1 - x.1) (b := y.2 - x.2) (c := y.1 - z.1) (d := y.2 - z.2) (e := b.1 - y.1) (f := b.2 - y.2) lxy k3 lyb
            (by unfold turnI at k2; unfold detI at *; grind) (by unfold turnI at k1; unfold detI at *; grind)
          unfold detI at *; grind
      have hz : detI (b.1 - a.1) (b.2 - a.2) (b.1 - a'.1) (b.2 - a'.2) = 0 := by
        rw [turnI_back] at t1 t2
        rw [detI_swap (b.1 - a'.1)] at t2
        omega
      have haa : a = a' := by
        rcases lexP_total a a' with hlt | rfl | hlt
        · exact (key a a' r' h' Sa hlt la' hz).elim
        · rfl
        · exact (key a' a r h Sa' hlt la (by rw [detI_swap, hz]; rfl)).elim
      subst haa
      have hS : ∀ {u : List (Int × Int)}, Chain S (b :: a :: u) → Chain (fun x => S x ∧ leP x a) (a :: u) := by
        intro u hc
        refine ⟨?_, hc.lex.2, hc.strict.tail, Edges.mono (fun _ _ k x hx => k x hx.1) hc.sup.2, ?_, ?_⟩
        · intro x hx
          refine ⟨hc.mem x (List.mem_cons_of_mem _ hx), ?_⟩
          rcases List.mem_cons.1 hx with rfl | hx
          · exact .inl rfl
          · have : ∀ (u : List (Int × Int)) (a : Int × Int), Edges lexP (a :: u) → ∀ x ∈ u, lexP x a := by
              intro u
              induction u with
              | nil => intro a _ x hx; cases hx
              | cons c u ihu =>
                intro a hE x hx
                rcases List.mem_cons.1 hx with rfl | hx
                · exact hE.1
                · exact lexP_trans (ihu c hE.2 x hx) hE.1
            exact .inr (this u a hc.lex.2 x hx)
        · intro k hk x hx
          obtain rfl : a = k := by simpa using hk
          exact hx.2
        · intro k hk x hx
          exact hc.low k (by simpa [List.getLast?_cons_cons] using hk) x hx.1
      have := ih ((a :: r).length + (a :: r').length) (by simp at hn ⊢; omega) rfl (by simp) (by simp) (hS h) (hS h')
      rw [this]

end Go.Proofs.Ytaloegjcdllgoaa
