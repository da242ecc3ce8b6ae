/-
  Plain laws of the corners of a polynomial: the stack that both sides keep, the least coefficients, and when two polynomials have the same. No program in sight.
-/
import Derived.Test.YtaloegjcdllgoaaChain
namespace Go.Proofs.Ytaloegjcdllgoaa

/-- The coefficient of an exponent; its point. -/
def cf (zs : List Int) (i : Int) : Int := zs.getD i.toNat 0
def pt (zs : List Int) (i : Int) : Int × Int := (i, cf zs i)
def popI (zs : List Int) (i : Int) : List Int → List Int
  | b :: a :: r => if turnI (pt zs a) (pt zs b) (pt zs i) ≤ 0 then popI zs i (a :: r) else b :: a :: r
  | s => s
/-- The corners of the first k coefficients, the last one first. -/
def cornR (zs : List Int) : Nat → List Int
  | 0 => []
  | k + 1 => if cf zs k = 1000000000 then cornR zs k else (k : Int) :: popI zs k (cornR zs k)
def ptsTo (zs : List Int) : Nat → List (Int × Int)
  | 0 => []
  | k + 1 => if cf zs k = 1000000000 then ptsTo zs k else ptsTo zs k ++ [pt zs k]

theorem popI_map (zs : List Int) (i : Int) : ∀ s : List Int, (popI zs i s).map (pt zs) = popT (pt zs i) (s.map (pt zs))
  | [] => rfl
  | [_] => rfl
  | b :: a :: r => by
    simp only [popI, popT, List.map_cons]
    split
    · exact popI_map zs i (a :: r)
    · rfl
theorem popI_mem (zs : List Int) (i : Int) : ∀ (s : List Int) (x : Int), x ∈ popI zs i s → x ∈ s
  | [], x, h => h
  | [_], x, h => h
  | b :: a :: r, x, h => by
    simp only [popI] at h
    split at h
    · exact List.mem_cons_of_mem _ (popI_mem zs i (a :: r) x h)
    · exact h
theorem cornR_map (zs : List Int) : ∀ k : Nat, (cornR zs k).map (pt zs) = chainR (ptsTo zs k)
  | 0 => rfl
  | k + 1 => by
    simp only [cornR, ptsTo]
    split
    · exact cornR_map zs k
    · rw [chainR_snoc, List.map_cons, popI_map, cornR_map zs k]
theorem ptsTo_mem (zs : List Int) (x : Int × Int) : ∀ k : Nat, x ∈ ptsTo zs k ↔ ∃ j : Nat, j < k ∧ cf zs j ≠ 1000000000 ∧ x = pt zs j
  | 0 => by simp [ptsTo]
  | k + 1 => by
    have ih := ptsTo_mem zs x k
    simp only [ptsTo]
    split
    · rename_i h
      rw [ih]
      constructor
      · rintro ⟨j, h1, h2⟩; exact ⟨j, by omega, h2⟩
      · rintro ⟨j, h1, h2, h3⟩
        rcases Nat.lt_or_ge j k with hlt | hge
        · exact ⟨j, hlt, h2, h3⟩
        · obtain rfl : j = k := by omega
          exact absurd h h2
    · rename_i h
      rw [List.mem_append, ih]
      constructor
      · rintro (⟨j, h1, h2⟩ | h1)
        · exact ⟨j, by omega, h2⟩
        · exact ⟨k, by omega, h, by simpa using h1⟩
      · rintro ⟨j, h1, h2, h3⟩
        rcases Nat.lt_or_ge j k with hlt | hge
        · exact .inl ⟨j, hlt, h2, h3⟩
        · obtain rfl : j = k := by omega
          exact .inr (by simpa using h3)
theorem ptsTo_sorted (zs : List Int) : ∀ k : Nat, (ptsTo zs k).Pairwise lexP
  | 0 => .nil
  | k + 1 => by
    simp only [ptsTo]
    split
    · exact ptsTo_sorted zs k
    · refine List.pairwise_append.2 ⟨ptsTo_sorted zs k, by simp, fun x hx y hy => ?_⟩
      obtain ⟨j, h1, _, rfl⟩ := (ptsTo_mem zs x k).1 hx
      obtain rfl : y = pt zs k := by simpa using hy
      left
      simp [pt]
      omega
theorem cornR_mem (zs : List Int) : ∀ (k : Nat) (x : Int), x ∈ cornR zs k → 0 ≤ x ∧ x < k ∧ cf zs x ≠ 1000000000
  | 0, x, h => by simp [cornR] at h
  | k + 1, x, h => by
    simp only [cornR] at h
    split at h
    · have := cornR_mem zs k x h; omega
    · rename_i hk
      rcases List.mem_cons.1 h with rfl | h
      · exact ⟨by omega, by omega, hk⟩
      · have := cornR_mem zs k x (popI_mem zs _ _ _ h); omega
theorem popI_ne (zs : List Int) (i : Int) : ∀ s : List Int, s ≠ [] → popI zs i s ≠ []
  | [], h => absurd rfl h
  | [_], _ => by simp [popI]
  | b :: a :: r, _ => by
    simp only [popI]
    split
    · exact popI_ne zs i (a :: r) (by simp)
    · simp
theorem popI_last (zs : List Int) (i : Int) : ∀ s : List Int, (popI zs i s).getLast? = s.getLast?
  | [] => rfl
  | [_] => rfl
  | b :: a :: r => by
    simp only [popI]
    split
    · rw [popI_last zs i (a :: r)]; simp
    · rfl

/-- What is known of a polynomial's coefficients. -/
structure IsPol (zs : List Int) : Prop where
  pos : 1 ≤ zs.length
  num : ∀ j : Nat, j < zs.length → numB (cf zs j) = true
  top : cf zs ((zs.length - 1 : Nat) : Int) ≠ 1000000000
theorem IsPol.fin {zs : List Int} (h : IsPol zs) {x : Int} (h0 : 0 ≤ x) (h1 : x < zs.length) (h2 : cf zs x ≠ 1000000000) : -1000000 ≤ cf zs x ∧ cf zs x ≤ 1000000 := by
  have := h.num x.toNat (by omega)
  rw [Int.toNat_of_nonneg h0, numB_true] at this
  omega
theorem corn_head {zs : List Int} (h : IsPol zs) : ∃ t, cornR zs zs.length = ((zs.length - 1 : Nat) : Int) :: t := by
  obtain ⟨m, hm⟩ : ∃ m, zs.length = m + 1 := ⟨zs.length - 1, by have := h.pos; omega⟩
  have ht := h.top
  rw [hm] at ht ⊢
  simp only [Nat.add_sub_cancel] at ht ⊢
  exact ⟨_, by rw [cornR, if_neg ht]⟩
theorem corn_chain {zs : List Int} (h : IsPol zs) : Chain (fun x => ∃ j : Nat, j < zs.length ∧ cf zs j ≠ 1000000000 ∧ x = pt zs j) ((cornR zs zs.length).map (pt zs)) := by
  obtain ⟨t, ht⟩ := corn_head h
  have hne : ptsTo zs zs.length ≠ [] := by
    intro e
    have := (ptsTo_mem zs (pt zs ((zs.length - 1 : Nat) : Int)) zs.length).2 ⟨zs.length - 1, by have := h.pos; omega, h.top, rfl⟩
    rw [e] at this
    cases this
  have hc := (chain_of ((ptsTo zs zs.length).length - 1) (ptsTo zs zs.length) (by have := List.length_pos_iff.2 hne; omega) (ptsTo_sorted zs _)).1
  rw [← cornR_map] at hc
  have e : (fun x => x ∈ ptsTo zs zs.length) = (fun x => ∃ j : Nat, j < zs.length ∧ cf zs j ≠ 1000000000 ∧ x = pt zs j) := by
    funext x; rw [ptsTo_mem]
  rw [e] at hc
  exact hc

/-- The least whole number that is not below the side from i to k at j. -/
def segL (zs : List Int) (i k j : Int) : Int := -((-(cf zs i * (k - j) + cf zs k * (j - i))) / (k - i))
/-- The least coefficient at j, by the corners (the last one first). -/
def valAt (zs : List Int) (j : Int) : List Int → Int
  | k :: i :: r => if j = k then cf zs k else if i < j ∧ j < k then segL zs i k j else valAt zs j (i :: r)
  | [k] => if j = k then cf zs k else 1000000000
  | [] => 1000000000
def rtl (zs : List Int) : List Int := (List.range zs.length).map fun j : Nat => valAt zs (j : Int) (cornR zs zs.length)
theorem rtl_len (zs : List Int) : (rtl zs).length = zs.length := by simp [rtl]
theorem rtl_at {zs : List Int} {j : Nat} (h : j < zs.length) : cf (rtl zs) j = valAt zs j (cornR zs zs.length) := by
  simp [cf, rtl, List.getD, h]

theorem segL_above {zs : List Int} {i k j : Int} (h : i < k) : 0 ≤ turnI (pt zs i) (pt zs k) (j, segL zs i k j) := by
  have h1 := Int.ediv_mul_le (-(cf zs i * (k - j) + cf zs k * (j - i))) (show k - i ≠ 0 by omega)
  unfold segL turnI detI pt
  simp only
  generalize (-(cf zs i * (k - j) + cf zs k * (j - i))) / (k - i) = q at *
  grind
theorem segL_le {zs : List Int} {i k j : Int} (h : i < j) (h' : j < k) (hi : cf zs i ≤ 1000000) (hk : cf zs k ≤ 1000000) : segL zs i k j ≤ 1000000 := by
  have h1 : -1000000 ≤ (-(cf zs i * (k - j) + cf zs k * (j - i))) / (k - i) := by
    refine (Int.le_ediv_iff_mul_le (by omega)).2 ?_
    have p1 := Int.mul_le_mul_of_nonneg_right hi (show 0 ≤ k - j by omega)
    have p2 := Int.mul_le_mul_of_nonneg_right hk (show 0 ≤ j - i by omega)
    grind
  unfold segL; omega

/-- A point that is not below its own side is not below any: convexity. -/
theorem own_all {x : Int × Int} : ∀ {s : List (Int × Int)}, Edges (fun a b => a.1 < b.1) s → Strict s → Edges (fun a b => a.1 ≤ x.1 → x.1 ≤ b.1 → 0 ≤ turnI a b x) s →
    (∀ h ∈ s.head?, x.1 ≤ h.1) → (∀ h ∈ s.getLast?, h.1 ≤ x.1) → Edges (fun a b => 0 ≤ turnI a b x) s
  | [], _, _, _, _, _ => trivial
  | [_], _, _, _, _, _ => trivial
  | [b, a], _, _, ho, hh, hl => ⟨ho.1 (hl a rfl) (hh b rfl), trivial⟩
  | c :: b :: a :: r, hx, hs, ho, hh, hl => by
    by_cases hb : x.1 < b.1
    · have ih := own_all (s := b :: a :: r) hx.2 hs.2 ho.2 (fun h hh' => by obtain rfl : b = h := (by simpa using hh'); omega) (fun h hh' => hl h (by simpa [List.getLast?_cons_cons] using hh'))
      refine ⟨?_, ih⟩
      have h1 := ih.1
      have h2 := hs.1
      have := det_nonneg (a := b.1 - x.1) (b := b.2 - x.2) (c := b.1 - a.1) (d := b.2 - a.2) (e := c.1 - b.1) (f := c.2 - b.2) (.inr (.inl (by omega))) (.inl (by have := hx.2.1; omega)) (.inr (.inl (by have := hx.1; omega)))
        (by unfold turnI at h1; unfold detI at *; grind) (by unfold turnI at h2; unfold detI at *; grind)
      unfold turnI; unfold detI at *; grind
    · have h1 := ho.1 (by omega) (hh c rfl)
      refine ⟨h1, ?_⟩
      have aux : ∀ (s : List (Int × Int)) (b c : Int × Int), Edges (fun a b => a.1 < b.1) (c :: b :: s) → Strict (c :: b :: s) → b.1 ≤ x.1 → 0 ≤ turnI b c x → Edges (fun a b => 0 ≤ turnI a b x) (b :: s) := by
        intro s
        induction s with
        | nil => intro b c _ _ _ _; trivial
        | cons a r ih =>
          intro b c hx hs hbx h1
          have h2 := hs.1
          have h3 : 0 ≤ turnI a b x := by
            have := det_nonneg (a := b.1 - a.1) (b := b.2 - a.2) (c := c.1 - b.1) (d := c.2 - b.2) (e := x.1 - b.1) (f := x.2 - b.2) (.inr (.inl (by have := hx.2.1; omega))) (.inl (by have := hx.1; omega))
            by_cases he : b.1 < x.1
            · have := this (.inr (.inl (by omega))) (by unfold turnI at h2; unfold detI at *; grind) (by unfold turnI at h1; unfold detI at *; grind)
              unfold turnI; unfold detI at *; grind
            · have he' : x.1 - b.1 = 0 := by omega
              have hy : 0 ≤ x.2 - b.2 := by
                refine nonneg_of_mul (c := c.1 - b.1) (by have := hx.1; omega) ?_
                unfold turnI detI at h1
                rw [he', Int.mul_zero] at h1
                omega
              have := Int.mul_nonneg (show 0 ≤ b.1 - a.1 by have := hx.2.1; omega) hy
              have e1 : x.1 = b.1 := by omega
              unfold turnI detI
              rw [e1]
              grind
          exact ⟨h3, ih a b hx.2 hs.2 (by have := hx.2.1; omega) h3⟩
      exact aux (a :: r) b c hx hs (by omega) h1

/-- The corners, over the least coefficients. -/
theorem corn_least {zs : List Int} (h : IsPol zs) : (∀ k ∈ cornR zs zs.length, cf (rtl zs) k = cf zs k) ∧
    Chain (fun x => ∃ j : Nat, j < zs.length ∧ cf (rtl zs) j ≠ 1000000000 ∧ x = pt (rtl zs) j) ((cornR zs zs.length).map (pt (rtl zs))) := by
  have hc := corn_chain h
  have hmem := cornR_mem zs zs.length
  -- the corners fall
  have hfall : ∀ s : List Int, (∀ x ∈ s, 0 ≤ x ∧ x < zs.length ∧ cf zs x ≠ 1000000000) → Edges lexP (s.map (pt zs)) → s.Pairwise (· > ·) := by
    intro s
    induction s with
    | nil => intro _ _; exact .nil
    | cons b s ih =>
      intro hm hE
      have ih' := ih (fun x hx => hm x (List.mem_cons_of_mem _ hx)) hE.tail
      refine List.pairwise_cons.2 ⟨?_, ih'⟩
      cases s with
      | nil => intro x hx; cases hx
      | cons a r =>
        have h1 : lexP (pt zs a) (pt zs b) := hE.1
        have h2 : a < b := by
          rcases h1 with h1 | ⟨h1, h2⟩
          · simp [pt] at h1; omega
          · simp [pt] at h1 h2
            have : a = b := by omega
            subst this
            omega
        intro x hx
        rcases List.mem_cons.1 hx with rfl | hx
        · exact h2
        · have := (List.pairwise_cons.1 ih').1 x hx
          omega
  have hsort := hfall _ hmem hc.lex
  -- the values at the corners
  have hval : ∀ (s : List Int), s.Pairwise (· > ·) → ∀ k ∈ s, valAt zs k s = cf zs k := by
    intro s
    induction s with
    | nil => intro _ k hk; cases hk
    | cons b s ih =>
      intro hp k hk
      rcases List.mem_cons.1 hk with rfl | hk
      · cases s <;> simp [valAt]
      · have h1 := (List.pairwise_cons.1 hp).1 k hk
        cases s with
        | nil => cases hk
        | cons a r =>
          have h2 : k ≤ a := by
            rcases List.mem_cons.1 hk with rfl | hk
            · omega
            · have := (List.pairwise_cons.1 (List.pairwise_cons.1 hp).2).1 k hk; omega
          rw [valAt, if_neg (by omega), if_neg (by omega)]
          exact ih (List.pairwise_cons.1 hp).2 k hk
  have hv : ∀ k ∈ cornR zs zs.length, cf (rtl zs) k = cf zs k := by
    intro k hk
    have hb := hmem k hk
    have := rtl_at (zs := zs) (j := k.toNat) (by omega)
    rw [Int.toNat_of_nonneg hb.1] at this
    rw [this]
    exact hval _ hsort k hk
  refine ⟨hv, ?_⟩
  have hpt : ∀ k ∈ cornR zs zs.length, pt (rtl zs) k = pt zs k := fun k hk => by unfold pt; rw [hv k hk]
  have hmap : (cornR zs zs.length).map (pt (rtl zs)) = (cornR zs zs.length).map (pt zs) := List.map_congr_left hpt
  -- where the least coefficients are
  have hown : ∀ (s : List Int) (j : Int), s.Pairwise (· > ·) → (∀ x ∈ s, 0 ≤ x ∧ x < zs.length ∧ cf zs x ≠ 1000000000) → valAt zs j s ≠ 1000000000 →
      (∀ h ∈ s.head?, j ≤ h) ∧ (∀ h ∈ s.getLast?, h ≤ j) ∧ Edges (fun a b => a.1 ≤ j → j ≤ b.1 → 0 ≤ turnI a b (j, valAt zs j s)) (s.map (pt zs)) := by
    intro s j
    induction s with
    | nil => intro _ _ hne; exact absurd rfl hne
    | cons b s ih =>
      intro hp hm hne
      cases s with
      | nil =>
        simp only [valAt] at hne
        split at hne
        · rename_i hjb; subst hjb; exact ⟨by simp, by simp, trivial⟩
        · exact absurd rfl hne
      | cons a r =>
        have hab : b > a := (List.pairwise_cons.1 hp).1 a (by simp)
        have hlow : ∀ h ∈ (b :: a :: r).getLast?, h ≤ a := by
          intro h hh
          have hh' : h ∈ (a :: r).getLast? := by simpa [List.getLast?_cons_cons] using hh
          rcases List.mem_cons.1 (List.mem_of_getLast? hh') with rfl | hx
          · omega
          · have := (List.pairwise_cons.1 (List.pairwise_cons.1 hp).2).1 h hx; omega
        by_cases hjb : j = b
        · subst hjb
          have e : valAt zs j (j :: a :: r) = cf zs j := by simp [valAt]
          refine ⟨by simp, fun h hh => by have := hlow h hh; omega, ?_⟩
          rw [e]
          refine ⟨fun _ _ => by rw [show (j, cf zs j) = pt zs j from rfl, turnI_self]; exact Int.le_refl _, ?_⟩
          have : ∀ (t : List Int), (∀ x ∈ t, x < j) → Edges (fun a b => a.1 ≤ j → j ≤ b.1 → 0 ≤ turnI a b (j, cf zs j)) (t.map (pt zs)) := by
            intro t
            induction t with
            | nil => intro _; trivial
            | cons c t iht =>
              intro hlt
              cases t with
              | nil => trivial
              | cons d t => exact ⟨fun _ h2 => by have := hlt c (by simp); simp [pt] at h2; omega, iht (fun x hx => hlt x (List.mem_cons_of_mem _ hx))⟩
          exact this (a :: r) (fun x hx => (List.pairwise_cons.1 hp).1 x hx)
        · by_cases hin : a < j ∧ j < b
          · have e : valAt zs j (b :: a :: r) = segL zs a b j := by rw [valAt, if_neg hjb, if_pos hin]
            refine ⟨fun h hh => by obtain rfl : b = h := (by simpa using hh); omega, fun h hh => by have := hlow h hh; omega, ?_⟩
            rw [e]
            refine ⟨fun _ _ => segL_above (by omega), ?_⟩
            have : ∀ (t : List Int), (∀ x ∈ t, x < j) → Edges (fun a' b' => a'.1 ≤ j → j ≤ b'.1 → 0 ≤ turnI a' b' (j, segL zs a b j)) (t.map (pt zs)) := by
              intro t
              induction t with
              | nil => intro _; trivial
              | cons c t iht =>
                intro hlt
                cases t with
                | nil => trivial
                | cons d t => exact ⟨fun _ h2 => by have := hlt c (by simp); simp [pt] at h2; omega, iht (fun x hx => hlt x (List.mem_cons_of_mem _ hx))⟩
            refine this (a :: r) (fun x hx => ?_)
            rcases List.mem_cons.1 hx with rfl | hx
            · exact hin.1
            · have := (List.pairwise_cons.1 (List.pairwise_cons.1 hp).2).1 x hx; omega
          · have e : valAt zs j (b :: a :: r) = valAt zs j (a :: r) := by rw [valAt, if_neg hjb, if_neg hin]
            rw [e] at hne ⊢
            obtain ⟨i1, i2, i3⟩ := ih (List.pairwise_cons.1 hp).2 (fun x hx => hm x (List.mem_cons_of_mem _ hx)) hne
            have hja : j ≤ a := i1 a rfl
            exact ⟨fun h hh => by obtain rfl : b = h := (by simpa using hh); omega, fun h hh => i2 h (by simpa [List.getLast?_cons_cons] using hh), fun _ h2 => by
              by_cases hja' : j = a
              · subst hja'
                have : valAt zs j (j :: r) = cf zs j := hval _ (List.pairwise_cons.1 hp).2 j (by simp)
                rw [this, show (j, cf zs j) = pt zs j from rfl, turnI_first]
                exact Int.le_refl _
              · rename_i h1
                simp [pt] at h1; omega, i3⟩
  have hfst : ∀ s : List Int, s.Pairwise (· > ·) → Edges (fun a b => a.1 < b.1) (s.map (pt zs)) := by
    intro s
    induction s with
    | nil => intro _; trivial
    | cons b s ih =>
      intro hp
      cases s with
      | nil => trivial
      | cons a r => exact ⟨by have := (List.pairwise_cons.1 hp).1 a (by simp); simp [pt]; omega, ih (List.pairwise_cons.1 hp).2⟩
  have hside : ∀ x, (∃ j : Nat, j < zs.length ∧ cf (rtl zs) j ≠ 1000000000 ∧ x = pt (rtl zs) j) →
      (∀ h ∈ (cornR zs zs.length).head?, x.1 ≤ h) ∧ (∀ h ∈ (cornR zs zs.length).getLast?, h ≤ x.1) ∧ Edges (fun a b => 0 ≤ turnI a b x) ((cornR zs zs.length).map (pt zs)) := by
    rintro x ⟨j, hj, hne, rfl⟩
    rw [rtl_at hj] at hne
    obtain ⟨i1, i2, i3⟩ := hown _ (j : Int) hsort hmem hne
    have e : pt (rtl zs) (j : Int) = ((j : Int), valAt zs j (cornR zs zs.length)) := by unfold pt; rw [rtl_at hj]
    rw [e]
    refine ⟨i1, i2, own_all (hfst _ hsort) hc.strict i3 ?_ ?_⟩
    · intro h hh
      simp only [List.head?_map, Option.mem_def, Option.map_eq_some_iff] at hh
      obtain ⟨k, hk, rfl⟩ := hh
      exact i1 k hk
    · intro h hh
      simp only [List.getLast?_map, Option.mem_def, Option.map_eq_some_iff] at hh
      obtain ⟨k, hk, rfl⟩ := hh
      exact i2 k hk
  have hcmp : ∀ {a b : Int × Int}, a.1 ≤ b.1 → (a.1 = b.1 → a = b) → leP a b := by
    intro a b h1 h2
    by_cases he : a.1 = b.1
    · exact .inl (h2 he)
    · exact .inr (.inl (by omega))
  rw [hmap]
  refine ⟨?_, hc.lex, hc.strict, ?_, ?_, ?_⟩
  · intro x hx
    simp only [List.mem_map] at hx
    obtain ⟨k, hk, rfl⟩ := hx
    have hb := hmem k hk
    refine ⟨k.toNat, by omega, ?_, ?_⟩
    · rw [Int.toNat_of_nonneg hb.1, hv k hk]; exact hb.2.2
    · rw [Int.toNat_of_nonneg hb.1, hpt k hk]
  · have : ∀ (t : List (Int × Int)) (Sx : Int × Int → Prop), (∀ x, Sx x → Edges (fun a b => 0 ≤ turnI a b x) t) → Edges (fun a b => ∀ x, Sx x → 0 ≤ turnI a b x) t := by
      intro t Sx
      induction t with
      | nil => intro _; trivial
      | cons b t iht =>
        intro hall
        cases t with
        | nil => trivial
        | cons a t => exact ⟨fun x hx => (hall x hx).1, iht (fun x hx => (hall x hx).2)⟩
    exact this _ _ (fun x hx => (hside x hx).2.2)
  · intro h hh x hx
    simp only [List.head?_map, Option.mem_def, Option.map_eq_some_iff] at hh
    obtain ⟨k, hk, rfl⟩ := hh
    have h1 := (hside x hx).1 k hk
    obtain ⟨j, hj, hne, rfl⟩ := hx
    refine hcmp h1 fun he => ?_
    have : (j : Int) = k := he
    rw [this, hpt k (List.mem_of_mem_head? hk)]
  · intro h hh x hx
    simp only [List.getLast?_map, Option.mem_def, Option.map_eq_some_iff] at hh
    obtain ⟨k, hk, rfl⟩ := hh
    have h1 := (hside x hx).2.1 k hk
    obtain ⟨j, hj, hne, rfl⟩ := hx
    refine hcmp h1 fun he => ?_
    have : k = (j : Int) := he
    rw [← this, hpt k (List.mem_of_getLast? hk)]

/-- Two polynomials have the same least coefficients just where they have the same corners with the same coefficients. -/
theorem same_function {zs ys : List Int} (hz : IsPol zs) (hy : IsPol ys) : rtl zs = rtl ys ↔ cornR zs zs.length = cornR ys ys.length ∧ ∀ k ∈ cornR zs zs.length, cf zs k = cf ys k := by
  constructor
  · intro h
    have hl : zs.length = ys.length := by rw [← rtl_len zs, h, rtl_len]
    obtain ⟨v1, c1⟩ := corn_least hz
    obtain ⟨v2, c2⟩ := corn_least hy
    rw [← h, ← hl] at c2
    have hne : ∀ ws : List Int, IsPol ws → ∀ r, (cornR ws ws.length).map (pt r) ≠ [] := by
      intro ws hw r
      obtain ⟨t, ht⟩ := corn_head hw
      rw [ht]; simp
    have := chain_unique _ rfl (hne zs hz _) (by have := hne ys hy (rtl zs); rw [← hl] at this; exact this) c1 c2
    have e : cornR zs zs.length = cornR ys ys.length := by
      have h2 := congrArg (List.map Prod.fst) this
      simp only [List.map_map] at h2
      have e1 : (Prod.fst ∘ pt (rtl zs)) = id := by funext i; rfl
      rw [e1, List.map_id, List.map_id] at h2
      rw [h2, hl]
    refine ⟨e, fun k hk => ?_⟩
    rw [← v1 k hk, h]
    exact v2 k (by rw [← e]; exact hk)
  · rintro ⟨e, hv⟩
    obtain ⟨t1, h1⟩ := corn_head hz
    obtain ⟨t2, h2⟩ := corn_head hy
    have hl : zs.length = ys.length := by
      have : ((zs.length - 1 : Nat) : Int) = ((ys.length - 1 : Nat) : Int) := by
        have h3 := e
        rw [h1, h2] at h3
        exact (List.cons.inj h3).1
      have := hz.pos
      have := hy.pos
      omega
    have hva : ∀ (s : List Int) (j : Int), (∀ k ∈ s, cf zs k = cf ys k) → valAt zs j s = valAt ys j s := by
      intro s j
      induction s with
      | nil => intro _; rfl
      | cons b s ih =>
        intro hs
        cases s with
        | nil => simp only [valAt]; rw [hs b (by simp)]
        | cons a r =>
          simp only [valAt]
          rw [ih (fun k hk => hs k (List.mem_cons_of_mem _ hk)), hs b (by simp)]
          unfold segL
          rw [hs b (by simp), hs a (by simp)]
    unfold rtl
    rw [← e, ← hl]
    exact List.map_congr_left fun j _ => hva _ _ hv

end Go.Proofs.Ytaloegjcdllgoaa
