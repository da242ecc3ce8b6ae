/-
  How an argument that is a slice of triples is opened.
-/
import Derived.Test.YtaloegjcdllgoaaOpen
import Derived.Test.YtaloegjcdllgoaaTri
namespace Go.Proofs.Ytaloegjcdllgoaa
open Go.ChangeShapes Go.WideShapes Go.ChangeAt Go.RowKit Go.Joins Go.Deep

/-- A slice of triples that came in. -/
def IsTri (w : World) (a : Option Addr) (len cap : Nat) (zs : List (Int × Int × Int)) : Prop :=
  Reads w a 3 len (tv zs) ∧ len ≤ cap ∧ cap ≤ maxLen ∧ ∀ z ∈ zs, B64 z.1 ∧ B64 z.2.1 ∧ B64 z.2.2
theorem isTri_nil (w : World) : IsTri w none 0 0 [] := ⟨⟨rfl, fun h => by omega⟩, Nat.le_refl _, by simp [maxLen], by simp⟩

theorem list_of {Q : Nat → Int → Prop} : ∀ n : Nat, (∀ i, i < n → ∃ z, Q i z) → ∃ zs : List Int, zs.length = n ∧ ∀ i, i < n → Q i (zs.getD i 0)
  | 0, _ => ⟨[], rfl, fun i h => by omega⟩
  | n + 1, h => by
    obtain ⟨zs, hl, hq⟩ := list_of n (fun i hi => h i (by omega))
    obtain ⟨z, hz⟩ := h n (by omega)
    refine ⟨zs ++ [z], by simp [hl], fun i hi => ?_⟩
    by_cases e : i < n
    · have := hq i e
      simpa [List.getD, List.getElem?_append_left (show i < zs.length by omega)] using this
    · obtain rfl : i = n := by omega
      simpa [List.getD, ← hl] using hl ▸ hz

theorem triples_of : ∀ (n : Nat) (zs : List Int), zs.length = n * 3 → ∃ ts : List (Int × Int × Int), tv ts = zs.map (.int .i64) ∧ ∀ t ∈ ts, t.1 ∈ zs ∧ t.2.1 ∈ zs ∧ t.2.2 ∈ zs
  | 0, zs, h => ⟨[], by cases zs <;> simp_all [tv], by simp⟩
  | n + 1, zs, h => by
    match zs, h with
    | a :: b :: c :: r, h =>
      obtain ⟨ts, ht, hm⟩ := triples_of n r (by simp at h; omega)
      refine ⟨(a, b, c) :: ts, by simp [tv, ht], fun t ht => ?_⟩
      rcases List.mem_cons.1 ht with rfl | ht
      · simp
      · have := hm t ht
        simp [this]
    | [_, _], h => simp at h; omega
    | [_], h => simp at h; omega
    | [], h => simp at h

section
variable {H : Type} {enc : TypeId × Value → H} {P : Program} {w : World} {base : Nat} {held : Bool}
theorem open_rows3 {t e I : TypeId} {f0 f1 f2 : Field} {a0 : Option Addr} {len0 cap0 : Nat} {d : DataW H} {p : List MemPlace} (ht : P.underlying t = some (.slice e)) (he : P.underlying e = some (.struct #[f0, f1, f2]))
    (hI : P.underlying I = some (.int .i64)) (hone : oneCellFields P #[f0, f1, f2] = true) (hC : P.cellsOf e = 3) (hty : f0.type = I ∧ f1.type = I ∧ f2.type = I)
    (h : DataW.Trod enc P w base (fun _ => true) held t (.slice a0 len0 cap0) d p) : ∃ zs, IsTri w a0 len0 cap0 zs := by
  obtain ⟨fuel, h⟩ := h
  rcases open_slice ht h with h0 | ⟨a, len, cap, m, n, D, Pl, hcs, hb, hl, hm, hmm, hx, hi⟩
  · simp [Value.cells] at h0
    obtain ⟨⟨rfl, rfl, rfl⟩, _⟩ := h0
    exact ⟨[], isTri_nil w⟩
  · simp [Value.cells] at hcs
    obtain ⟨rfl, rfl, rfl⟩ := hcs
    simp at hmm
    subst hmm
    have hq : ∀ i, i < m * 3 → ∃ z, w.cell? (a.add i) = some (.int .i64 z) ∧ B64 z := by
      intro i hi3
      obtain ⟨cs', hc, ht'⟩ := hi (i / 3) (by omega)
      rw [hC] at hc
      obtain ⟨ys, n', hn', hy, hlen, hyl, hf⟩ := DataW.trod_struct he ht'
      obtain ⟨_, hcl, hat⟩ := World.cells?_some hc
      have hj : i % 3 < 3 := by omega
      obtain ⟨f, hfj, hft⟩ : ∃ f, (#[f0, f1, f2] : Array Field)[i % 3]? = some f ∧ f.type = I := by
        have h3 : i % 3 = 0 ∨ i % 3 = 1 ∨ i % 3 = 2 := by omega
        rcases h3 with e | e | e <;> rw [e]
        · exact ⟨_, rfl, hty.1⟩
        · exact ⟨_, rfl, hty.2.1⟩
        · exact ⟨_, rfl, hty.2.2⟩
      obtain ⟨ho, hk⟩ := hone_of hone (i % 3) f hfj
      have hcell := hat (i % 3) hj
      have h1 := hf (i % 3) f hfj
      rw [ho, hk] at h1
      have hone' : (cs'.drop (i % 3)).take 1 = [cs'[i % 3]'(by omega)] := by
        rw [List.drop_eq_getElem_cons (by omega)]
        rfl
      rw [hone', hft] at h1
      have hys : ys[i % 3]? = some (ys[i % 3]'(by simp at hyl; omega)) := List.getElem?_eq_getElem (by simp at hyl; omega)
      obtain ⟨z, hz, _, hwz⟩ := DataW.trod_int hI (h1.trans hys)
      refine ⟨z, ?_, b64 hwz⟩
      rw [Go.Deep.add_add] at hcell
      have e3 : i / 3 * 3 + i % 3 = i := by omega
      rw [e3] at hcell
      rw [hcell, List.getElem?_eq_getElem (by omega)]
      exact congrArg some (by simpa using hz)
    obtain ⟨ns, hnl, hn⟩ := list_of _ hq
    have hz : (ns.take (len0 * 3)).length = len0 * 3 := by simp; omega
    obtain ⟨ts, htv, htm⟩ := triples_of len0 _ hz
    refine ⟨ts, ⟨by rw [htv]; simpa using hz, fun hpos => ?_⟩, hl, hm, fun z hz => ?_⟩
    · obtain ⟨b, off, rfl, hcc⟩ := ints_at (zs := ns) (fun i hi => (hn i (by omega)).1) (by omega)
      refine ⟨b, off, rfl, fun j u hu => ?_⟩
      rw [htv] at hu
      simp only [List.getElem?_map, Option.map_eq_some_iff] at hu
      obtain ⟨z, hz1, rfl⟩ := hu
      rw [List.getElem?_take] at hz1
      split at hz1
      · have hj : j < ns.length := (List.getElem?_eq_some_iff.1 hz1).1
        rw [hcc j hj]
        simp [List.getD, hz1]
      · simp at hz1
    · have hb : ∀ y ∈ ns.take (len0 * 3), B64 y := by
        intro y hy
        obtain ⟨i, hi, rfl⟩ := List.getElem_of_mem (List.mem_of_mem_take hy)
        have := (hn i (by omega)).2
        simpa [List.getD, List.getElem?_eq_getElem hi] using this
      obtain ⟨h1, h2, h3⟩ := htm z hz
      exact ⟨hb _ h1, hb _ h2, hb _ h3⟩
end

end Go.Proofs.Ytaloegjcdllgoaa
