/-
  Plain laws of rays in order: one more ray, rays gathered, both ways. No program in sight.
-/
import Derived.Test.YtaloegjcdllgoaaChain
namespace Go.Proofs.Ytaloegjcdllgoaa

/-- The steps of a ray. -/
def kR (r : Int × Int × Int) : Int × Int := (r.1, r.2.1)
instance (a b : Int × Int) : Decidable (lexP a b) := by unfold lexP lexV; infer_instance
/-- Rays with one more, or with a greater number. -/
def putT : List (Int × Int × Int) → Int × Int × Int → List (Int × Int × Int)
  | [], r => [r]
  | y :: l, r => if lexP (kR y) (kR r) then y :: putT l r else if kR y = kR r then (r.1, r.2.1, r.2.2 + y.2.2) :: l else r :: y :: l
theorem putT_at {r : Int × Int × Int} : ∀ {l : List (Int × Int × Int)} (k : Nat), k ≤ l.length → (∀ i, i < k → lexP (kR (l.getD i (0, 0, 0))) (kR r)) → (k < l.length → ¬ lexP (kR (l.getD k (0, 0, 0))) (kR r)) →
    putT l r = if k < l.length ∧ ¬ lexP (kR r) (kR (l.getD k (0, 0, 0))) then l.take k ++ ([(r.1, r.2.1, r.2.2 + (l.getD k (0, 0, 0)).2.2)] ++ l.drop (k + 1)) else l.take k ++ ([r] ++ l.drop k)
  | [], 0, _, _, _ => by simp [putT]
  | y :: l, 0, _, _, h => by
    have h0 : ¬ lexP (kR y) (kR r) := by simpa using h (by simp)
    simp only [putT, if_neg h0, List.take_zero, List.drop_zero, List.nil_append, List.length_cons, List.getD_cons_zero, List.drop_succ_cons]
    by_cases e : kR y = kR r
    · rw [if_pos e, if_pos ⟨by omega, by rw [e]; exact lexP_irrefl _⟩]; rfl
    · rw [if_neg e, if_neg (fun h => by
        rcases lexP_total (kR y) (kR r) with h1 | h1 | h1
        · exact h0 h1
        · exact e h1
        · exact h.2 h1)]; rfl
  | y :: l, k + 1, hk, hb, h => by
    have h0 : lexP (kR y) (kR r) := by simpa using hb 0 (by omega)
    have ih := putT_at (r := r) (l := l) k (by simpa using hk) (fun i hi => by simpa using hb (i + 1) (by omega)) (fun hlt => by simpa using h (by simpa using hlt))
    simp only [putT, if_pos h0, ih, List.length_cons, List.take_succ_cons, List.drop_succ_cons, List.getD_cons_succ]
    by_cases e : k < l.length ∧ ¬ lexP (kR r) (kR (l.getD k (0, 0, 0)))
    · rw [if_pos e, if_pos ⟨by omega, e.2⟩]; rfl
    · rw [if_neg e, if_neg (fun h => e ⟨by omega, h.2⟩)]; rfl
def SortT (l : List (Int × Int × Int)) : Prop := l.Pairwise fun a b => lexP (kR a) (kR b)
/-- The sum of the numbers of all rays with these steps. -/
def wt (l : List (Int × Int × Int)) (k : Int × Int) : Int := (l.map fun r => if kR r = k then r.2.2 else 0).sum
theorem wt_cons (r : Int × Int × Int) (l : List (Int × Int × Int)) (k : Int × Int) : wt (r :: l) k = (if kR r = k then r.2.2 else 0) + wt l k := by simp [wt]
theorem wt_append (l m : List (Int × Int × Int)) (k : Int × Int) : wt (l ++ m) k = wt l k + wt m k := by simp [wt]
theorem wt_perm {l m : List (Int × Int × Int)} (h : l.Perm m) (k : Int × Int) : wt l k = wt m k := by
  induction h with
  | nil => rfl
  | cons x _ ih => rw [wt_cons, wt_cons, ih]
  | swap x y l => simp only [wt_cons]; omega
  | trans _ _ h1 h2 => exact h1.trans h2
theorem wt_none {l : List (Int × Int × Int)} {k : Int × Int} (h : ∀ r ∈ l, kR r ≠ k) : wt l k = 0 := by
  induction l with
  | nil => rfl
  | cons x l ih =>
    rw [wt_cons, if_neg (h x (by simp)), ih fun r hr => h r (List.mem_cons_of_mem _ hr)]; rfl
theorem keys_putT {r : Int × Int × Int} {k : Int × Int} : ∀ {l : List (Int × Int × Int)}, k ∈ (putT l r).map kR ↔ k = kR r ∨ k ∈ l.map kR
  | [] => by simp [putT]
  | y :: l => by
    simp only [putT]
    split
    · simp only [List.map_cons, List.mem_cons, keys_putT (l := l)]
      constructor
      · rintro (h | h | h)
        · exact .inr (.inl h)
        · exact .inl h
        · exact .inr (.inr h)
      · rintro (h | h | h)
        · exact .inr (.inl h)
        · exact .inl h
        · exact .inr (.inr h)
    · split
      · rename_i e
        simp only [List.map_cons, List.mem_cons]
        rw [show kR (r.1, r.2.1, r.2.2 + y.2.2) = kR r from rfl, e]
        constructor
        · rintro (h | h)
          · exact .inl h
          · exact .inr (.inr h)
        · rintro (h | h | h)
          · exact .inl h
          · exact .inl h
          · exact .inr h
      · simp
theorem wt_putT {r : Int × Int × Int} {k : Int × Int} : ∀ {l : List (Int × Int × Int)}, wt (putT l r) k = wt l k + if kR r = k then r.2.2 else 0
  | [] => by simp [putT, wt]
  | y :: l => by
    simp only [putT]
    split
    · rw [wt_cons, wt_cons, wt_putT]; omega
    · split
      · rename_i e
        rw [wt_cons, wt_cons, show kR (r.1, r.2.1, r.2.2 + y.2.2) = kR r from rfl, e]
        split <;> (try simp only) <;> omega
      · rw [wt_cons, wt_cons]; omega
theorem sort_putT {r : Int × Int × Int} : ∀ {l : List (Int × Int × Int)}, SortT l → SortT (putT l r)
  | [], _ => by simp [putT, SortT]
  | y :: l, h => by
    have h1 := List.pairwise_cons.1 h
    simp only [putT]
    split
    · rename_i hyr
      refine List.pairwise_cons.2 ⟨fun z hz => ?_, sort_putT h1.2⟩
      have : kR z ∈ (putT l r).map kR := List.mem_map.2 ⟨z, hz, rfl⟩
      rcases keys_putT.1 this with e | e
      · rw [e]; exact hyr
      · obtain ⟨u, hu, e2⟩ := List.mem_map.1 e
        rw [← e2]; exact h1.1 u hu
    · split
      · rename_i e
        refine List.pairwise_cons.2 ⟨fun z hz => ?_, h1.2⟩
        rw [show kR (r.1, r.2.1, r.2.2 + y.2.2) = kR r from rfl, ← e]; exact h1.1 z hz
      · rename_i h2 h3
        have hry : lexP (kR r) (kR y) := by
          rcases lexP_total (kR y) (kR r) with e | e | e
          · exact absurd e h2
          · exact absurd e h3
          · exact e
        refine List.pairwise_cons.2 ⟨fun z hz => ?_, h⟩
        rcases List.mem_cons.1 hz with rfl | hz
        · exact hry
        · exact lexP_trans hry (h1.1 z hz)
theorem putT_len (r : Int × Int × Int) : ∀ l : List (Int × Int × Int), (putT l r).length ≤ l.length + 1
  | [] => by simp [putT]
  | y :: l => by
    have := putT_len r l
    simp only [putT]
    split
    · simp; omega
    · split <;> simp
theorem putT_bd {r : Int × Int × Int} {B : Int} : ∀ {l : List (Int × Int × Int)}, (∀ z ∈ l, 0 ≤ z.2.2 ∧ z.2.2 ≤ B) → 0 ≤ r.2.2 → r.2.2 ≤ 20 → 0 ≤ B → ∀ z ∈ putT l r, 0 ≤ z.2.2 ∧ z.2.2 ≤ B + 20
  | [], _, h1, h2, h3, z, hz => by
    obtain rfl : z = r := by simpa [putT] using hz
    omega
  | y :: l, h, h1, h2, h3, z, hz => by
    have hy := h y (by simp)
    simp only [putT] at hz
    split at hz
    · rcases List.mem_cons.1 hz with rfl | hz
      · omega
      · exact putT_bd (fun z hz => h z (List.mem_cons_of_mem _ hz)) h1 h2 h3 z hz
    · split at hz
      · rcases List.mem_cons.1 hz with rfl | hz
        · simp only; omega
        · have := h z (List.mem_cons_of_mem _ hz); omega
      · rcases List.mem_cons.1 hz with rfl | hz
        · omega
        · have := h z hz; omega
theorem uniqT : ∀ {l m : List (Int × Int × Int)}, SortT l → SortT m → (∀ k, k ∈ l.map kR ↔ k ∈ m.map kR) → (∀ k, wt l k = wt m k) → l = m
  | [], [], _, _, _, _ => rfl
  | [], b :: m, _, _, h, _ => by have := (h (kR b)).2 (by simp); simp at this
  | a :: l, [], _, _, h, _ => by have := (h (kR a)).1 (by simp); simp at this
  | a :: l, b :: m, hl, hm, h, hw => by
    have h1 := List.pairwise_cons.1 hl
    have h2 := List.pairwise_cons.1 hm
    have hab : kR a = kR b := by
      have ha := (h (kR a)).1 (by simp)
      have hb := (h (kR b)).2 (by simp)
      simp only [List.map_cons, List.mem_cons] at ha hb
      rcases ha with e | e
      · exact e
      · rcases hb with e2 | e2
        · exact e2.symm
        · obtain ⟨u, hu, eu⟩ := List.mem_map.1 e
          obtain ⟨v, hv, ev⟩ := List.mem_map.1 e2
          have t1 := h2.1 u hu
          have t2 := h1.1 v hv
          rw [eu] at t1
          rw [ev] at t2
          exact absurd t1 (lexP_asymm t2)
    have na : ∀ r ∈ l, kR r ≠ kR a := fun r hr e => by have := h1.1 r hr; rw [e] at this; exact lexP_irrefl _ this
    have nb : ∀ r ∈ m, kR r ≠ kR a := fun r hr e => by have := h2.1 r hr; rw [e, hab] at this; exact lexP_irrefl _ this
    have hww := hw (kR a)
    rw [wt_cons, wt_cons, if_pos rfl, if_pos hab.symm, wt_none na, wt_none nb] at hww
    have e : a = b := by
      unfold kR at hab
      simp only [Prod.mk.injEq] at hab
      exact Prod.ext hab.1 (Prod.ext hab.2 (by omega))
    subst e
    congr 1
    refine uniqT h1.2 h2.2 (fun k => ?_) (fun k => ?_)
    · have := h k
      simp only [List.map_cons, List.mem_cons] at this
      constructor
      · intro hk
        rcases this.1 (.inr hk) with e | e
        · obtain ⟨u, hu, eu⟩ := List.mem_map.1 hk
          exact absurd (eu.trans e) (na u hu)
        · exact e
      · intro hk
        rcases this.2 (.inr hk) with e | e
        · obtain ⟨u, hu, eu⟩ := List.mem_map.1 hk
          exact absurd (eu.trans e) (nb u hu)
        · exact e
    · have := hw k
      rw [wt_cons, wt_cons] at this
      omega

/-- A ray behind rays in order: gathered with the last one, or laid behind it. -/
def mstep (out : List (Int × Int × Int)) (r : Int × Int × Int) : List (Int × Int × Int) :=
  if out ≠ [] ∧ kR (out.getD (out.length - 1) (0, 0, 0)) = kR r then out.set (out.length - 1) ((out.getD (out.length - 1) (0, 0, 0)).1, (out.getD (out.length - 1) (0, 0, 0)).2.1, (out.getD (out.length - 1) (0, 0, 0)).2.2 + r.2.2) else out ++ [r]
def mergeT (ys : List (Int × Int × Int)) : List (Int × Int × Int) := ys.foldl mstep []
theorem mergeT_snoc (ys : List (Int × Int × Int)) (r : Int × Int × Int) : mergeT (ys ++ [r]) = mstep (mergeT ys) r := by simp [mergeT]
theorem mstep_nil (r : Int × Int × Int) : mstep [] r = [r] := by simp [mstep]
theorem mstep_snoc (l : List (Int × Int × Int)) (z r : Int × Int × Int) : mstep (l ++ [z]) r = if kR z = kR r then l ++ [(z.1, z.2.1, z.2.2 + r.2.2)] else l ++ [z] ++ [r] := by
  have e : (l ++ [z]).getD ((l ++ [z]).length - 1) (0, 0, 0) = z := by simp [List.getD]
  unfold mstep
  rw [e]
  by_cases h : kR z = kR r
  · rw [if_pos ⟨by simp, h⟩, if_pos h]
    rw [show (l ++ [z]).length - 1 = l.length by simp, List.set_append_right _ _ (Nat.le_refl _)]
    simp
  · rw [if_neg (fun q => h q.2), if_neg h]
theorem raySnoc {P : List (Int × Int × Int) → Prop} (h0 : P []) (h1 : ∀ l x, P l → P (l ++ [x])) (l : List (Int × Int × Int)) : P l := by
  have h : ∀ n (l : List (Int × Int × Int)), l.length = n → P l := by
    intro n
    induction n with
    | zero => intro l hl; rw [List.eq_nil_of_length_eq_zero hl]; exact h0
    | succ n ih =>
      intro l hl
      have hne : l ≠ [] := by intro e; rw [e] at hl; simp at hl
      rw [← List.dropLast_concat_getLast hne]
      exact h1 _ _ (ih _ (by rw [List.length_dropLast]; omega))
  exact h _ l rfl
theorem mergeT_spec (ys : List (Int × Int × Int)) (h : ys.Pairwise fun a b => ¬ lexP (kR b) (kR a)) :
    SortT (mergeT ys) ∧ (∀ k, k ∈ (mergeT ys).map kR ↔ k ∈ ys.map kR) ∧ (∀ k, wt (mergeT ys) k = wt ys k) ∧ (mergeT ys).length ≤ ys.length := by
  revert h
  refine raySnoc (P := fun ys => (ys.Pairwise fun a b => ¬ lexP (kR b) (kR a)) → SortT (mergeT ys) ∧ (∀ k, k ∈ (mergeT ys).map kR ↔ k ∈ ys.map kR) ∧ (∀ k, wt (mergeT ys) k = wt ys k) ∧ (mergeT ys).length ≤ ys.length) ?_ ?_ ys
  · intro _; exact ⟨.nil, by simp [mergeT], by simp [mergeT], by simp [mergeT]⟩
  · intro l r ih hp
    rw [List.pairwise_append] at hp
    obtain ⟨h1, h2, h3, h4⟩ := ih hp.1
    rw [mergeT_snoc]
    have hle : ∀ z ∈ mergeT l, ¬ lexP (kR r) (kR z) := by
      intro z hz
      have : kR z ∈ l.map kR := (h2 _).1 (List.mem_map.2 ⟨z, hz, rfl⟩)
      obtain ⟨u, hu, e⟩ := List.mem_map.1 this
      rw [← e]; exact hp.2.2 u hu r (by simp)
    generalize mergeT l = M at *
    rcases List.eq_nil_or_concat M with rfl | ⟨M', z, rfl⟩
    · rw [mstep_nil]
      have hl : l = [] := by
        match l, h2 with
        | [], _ => rfl
        | u :: l', h2 => have := (h2 (kR u)).2 (by simp); simp at this
      subst hl
      exact ⟨by simp [SortT], by simp, by simp, by simp⟩
    · rw [List.concat_eq_append] at *
      rw [mstep_snoc]
      have hs := List.pairwise_append.1 h1
      split
      · rename_i e
        have ke : kR (z.1, z.2.1, z.2.2 + r.2.2) = kR z := rfl
        refine ⟨?_, fun k => ?_, fun k => ?_, by simp at h4 ⊢; omega⟩
        · refine List.pairwise_append.2 ⟨hs.1, by simp, fun a ha b hb => ?_⟩
          obtain rfl : b = _ := by simpa using hb
          rw [ke]; exact hs.2.2 a ha z (by simp)
        · have := h2 k
          simp only [List.map_append, List.map_cons, List.map_nil, List.mem_append, List.mem_singleton, ke] at this ⊢
          rw [this, ← e]
          constructor
          · exact .inl
          · rintro (h | h)
            · exact h
            · exact this.1 (.inr h)
        · have := h3 k
          rw [wt_append, wt_cons] at this ⊢
          rw [wt_append l, wt_cons r, ke, ← this, ← e]
          simp only [wt, List.map_nil, List.sum_nil]
          split <;> omega
      · rename_i e
        have hlt : lexP (kR z) (kR r) := by
          rcases lexP_total (kR z) (kR r) with q | q | q
          · exact q
          · exact absurd q e
          · exact absurd q (hle z (by simp))
        refine ⟨?_, fun k => ?_, fun k => ?_, by simp at h4 ⊢; omega⟩
        · refine List.pairwise_append.2 ⟨h1, by simp, fun a ha b hb => ?_⟩
          obtain rfl : b = r := by simpa using hb
          rcases List.mem_append.1 ha with ha | ha
          · exact lexP_trans (hs.2.2 a ha z (by simp)) hlt
          · obtain rfl : a = z := by simpa using ha
            exact hlt
        · rw [List.map_append, List.mem_append, h2 k, List.map_append, List.mem_append]
        · rw [wt_append, h3 k, wt_append]

/-- All rays of a second star put into a first one. -/
def putAll (a b : List (Int × Int × Int)) : List (Int × Int × Int) := b.foldl putT a
theorem putAll_snoc (a b : List (Int × Int × Int)) (r : Int × Int × Int) : putAll a (b ++ [r]) = putT (putAll a b) r := by simp [putAll]
theorem putAll_spec {a : List (Int × Int × Int)} (ha : SortT a) (b : List (Int × Int × Int)) :
    SortT (putAll a b) ∧ (∀ k, k ∈ (putAll a b).map kR ↔ k ∈ a.map kR ∨ k ∈ b.map kR) ∧ (∀ k, wt (putAll a b) k = wt a k + wt b k) ∧ (putAll a b).length ≤ a.length + b.length := by
  refine raySnoc (P := fun b => SortT (putAll a b) ∧ (∀ k, k ∈ (putAll a b).map kR ↔ k ∈ a.map kR ∨ k ∈ b.map kR) ∧ (∀ k, wt (putAll a b) k = wt a k + wt b k) ∧ (putAll a b).length ≤ a.length + b.length) ⟨ha, by simp [putAll], by simp [putAll, wt], by simp [putAll]⟩ ?_ b
  intro l r ⟨h1, h2, h3, h4⟩
  rw [putAll_snoc]
  refine ⟨sort_putT h1, fun k => ?_, fun k => ?_, ?_⟩
  · rw [keys_putT, h2 k, List.map_append, List.mem_append]
    simp only [List.map_cons, List.map_nil, List.mem_singleton]
    constructor
    · rintro (h | h | h)
      · exact .inr (.inr h)
      · exact .inl h
      · exact .inr (.inl h)
    · rintro (h | h | h)
      · exact .inr (.inl h)
      · exact .inr (.inr h)
      · exact .inl h
  · rw [wt_putT, h3 k, wt_append, wt_cons]
    simp only [wt, List.map_nil, List.sum_nil]
    omega
  · have := putT_len r (putAll a l)
    simp only [List.length_append, List.length_cons, List.length_nil]; omega
theorem putAll_bd {a : List (Int × Int × Int)} (ha : ∀ z ∈ a, 0 ≤ z.2.2 ∧ z.2.2 ≤ 20) (b : List (Int × Int × Int)) (hb : ∀ z ∈ b, 0 ≤ z.2.2 ∧ z.2.2 ≤ 20) : ∀ z ∈ putAll a b, 0 ≤ z.2.2 ∧ z.2.2 ≤ 20 + 20 * b.length := by
  revert hb
  refine raySnoc (P := fun b => (∀ z ∈ b, 0 ≤ z.2.2 ∧ z.2.2 ≤ 20) → ∀ z ∈ putAll a b, 0 ≤ z.2.2 ∧ z.2.2 ≤ 20 + 20 * b.length) (fun _ z hz => by have := ha z hz; simp; omega) ?_ b
  intro l r ih hb z hz
  rw [putAll_snoc] at hz
  have h1 := ih fun z hz => hb z (by simp [hz])
  have h2 := hb r (by simp)
  have := putT_bd (B := 20 + 20 * (l.length : Int)) h1 h2.1 h2.2 (by omega) z hz
  simp only [List.length_append, List.length_cons, List.length_nil]
  omega
/-- Sorted and gathered, or put one by one: the same. -/
theorem merge_put {a b ys : List (Int × Int × Int)} (ha : SortT a) (hp : ys.Perm (a ++ b)) (hy : ys.Pairwise fun a b => ¬ lexP (kR b) (kR a)) : mergeT ys = putAll a b := by
  obtain ⟨h1, h2, h3, _⟩ := mergeT_spec ys hy
  obtain ⟨k1, k2, k3, _⟩ := putAll_spec ha b
  refine uniqT h1 k1 (fun k => ?_) (fun k => ?_)
  · rw [h2 k, k2 k, ← List.mem_append, ← List.map_append]
    exact (hp.map kR).mem_iff
  · rw [h3 k, k3 k, wt_perm hp k, wt_append]
/-- Sorted, all steps different. -/
theorem sort_put {b ys : List (Int × Int × Int)} (hp : ys.Perm b) (hn : (b.map kR).Nodup) (hy : ys.Pairwise fun a b => ¬ lexP (kR b) (kR a)) : ys = putAll [] b := by
  obtain ⟨k1, k2, k3, _⟩ := putAll_spec (a := []) .nil b
  have hn2 : (ys.map kR).Nodup := (hp.map kR).nodup_iff.2 hn
  have hs : SortT ys := by
    have h1 : ys.Pairwise fun a b => kR a ≠ kR b := by rw [List.Nodup, List.pairwise_map] at hn2; exact hn2
    refine (hy.and h1).imp fun {a b} h => ?_
    rcases lexP_total (kR a) (kR b) with q | q | q
    · exact q
    · exact absurd q h.2
    · exact absurd q h.1
  refine uniqT hs k1 (fun k => ?_) (fun k => ?_)
  · rw [k2 k]
    have := (hp.map kR).mem_iff (a := k)
    simp [this]
  · rw [k3 k, wt_perm hp k]; simp [wt]

end Go.Proofs.Ytaloegjcdllgoaa
