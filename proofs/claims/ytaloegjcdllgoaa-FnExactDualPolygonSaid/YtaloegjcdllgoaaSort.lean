/-
  The library's sort at slices of pairs and of triples of numbers: what the slice holds behind it.
-/
import Derived.Test.YtaloegjcdllgoaaShelf
import Derived.Test.YtaloegjcdllgoaaTri
import Derived.Test.YtaloegjcdllgoaaPair
namespace Go.Proofs.Ytaloegjcdllgoaa
open Go.RowKit Go.Shelf Go.Lib Go.Sort

section
variable {α : Type} [Inhabited α] {enc : α → Value}
theorem heap_put {w : World} {g n : Nat} {os : Array Obj} {cur : Array Value} {e : TypeId} {fr : Nat × Nat} (d : Array α) (hb : w.heap[g]? = some (.cells cur e fr)) :
    (grow (putRow enc (Sort.ahead w n) g 0 d) os).heap[g]? = some (.cells (putCells enc 0 d cur) e fr) := by
  have hg : g < w.heap.size := (Array.getElem?_eq_some_iff.1 hb).1
  rw [heap_grow_old _ _ (by simpa using hg)]
  simp [putRow, mapBlock, Sort.ahead, Array.getElem?_modify, hb, onCells]
theorem grown_put {w : World} {g n : Nat} {os : Array Obj} (d : Array α) : w.grownBy (grow (putRow enc (Sort.ahead w n) g 0 d) os) (some g) := by
  refine ⟨rfl, rfl, rfl, by simp, fun k hk hne => ?_⟩
  rw [heap_grow_old _ _ (by simpa using hk)]
  have : g ≠ k := fun e => hne (by rw [e])
  simp [putRow, mapBlock, Sort.ahead, Array.getElem?_modify, this]
theorem take_put (cur : Array Value) (ts : List α) (h : ts.length ≤ cur.size) : (putCells enc 0 ts.toArray cur).toList.take ts.length = ts.map enc := by
  apply List.ext_getElem?
  intro j
  by_cases hj : j < ts.length
  · rw [List.getElem?_take_of_lt hj, Array.getElem?_toList]
    simp [putCells, hj, show j < cur.size by omega]
  · rw [List.getElem?_take_eq_none (by omega), List.getElem?_eq_none (by simp; omega)]
theorem own_put {w : World} {base g cap n m size : Nat} {e : TypeId} {os : Array Obj} {cur : Array Value} {ts : List α} (hl : ts.length = m * size) (hbase : base ≤ g) (hb : w.heap[g]? = some (.cells cur e (0, 0)))
    (h1 : m ≤ cap) (h2 : cap ≤ maxLen) (h3 : cur.size = cap * size) :
    (grow (putRow enc (Sort.ahead w n) g 0 ts.toArray) os).ownsRow base e size (.slice (some ⟨g, 0, none⟩) m cap) m (ts.map enc) :=
  ⟨by simp [hl], .inr ⟨g, cap, _, rfl, hbase, heap_put _ hb, h1, h2, by simp [putCells, h3], by rw [← hl]; exact take_put cur ts (by rw [hl, h3]; exact Nat.mul_le_mul_right _ h1)⟩⟩
theorem holds_put {w : World} {g : Nat} {cur : Array Value} {e : TypeId} {ss : List α} (hb : w.heap[g]? = some (.cells cur e (0, 0))) (ht : cur.toList.take ss.length = ss.map enc) : Holds enc w g 0 ss.toArray := by
  intro j hj
  have hj' : j < ss.length := by simpa using hj
  refine ⟨?_, by simp [World.frozen?, hb]⟩
  have h1 : (cur.toList.take ss.length)[j]? = (ss.map enc)[j]? := by rw [ht]
  rw [List.getElem?_take_of_lt hj'] at h1
  simp only [World.cell?, hb, Nat.zero_add]
  simp only [Option.isSome_none, Bool.false_eq_true, if_false]
  rw [← Array.getElem?_toList, h1]
  simp [hj']
end

/-- A permutation of what was there, in the order of 'cf', behind a sort. -/
theorem perm_of {α : Type} [Inhabited α] {cf : α → α → Int} {d d' : Array α} (hp : PermIn 0 d.size d d') (hs : SortedIn (ltOf cf) 0 d.size d') : d'.toList.Perm d.toList ∧ d'.toList.Pairwise (fun a b => ¬ cf b a < 0) := by
  obtain ⟨h1, _, h3⟩ := hp
  have e1 : d.extract 0 d.size = d := by simp
  have e2 : d'.extract 0 d.size = d' := by rw [← h1]; simp
  rw [e1, e2] at h3
  refine ⟨h3, ?_⟩
  rw [List.pairwise_iff_getElem]
  intro i j hi hj hij
  have hi' : i < d'.size := by simpa using hi
  have hj' : j < d'.size := by simpa using hj
  have := hs i j (Nat.zero_le _) hij (by omega)
  rw [getElem!_pos d' i hi', getElem!_pos d' j hj'] at this
  simpa [ltOf] using this

section
variable {Q : Int × Int → Prop} [Inhabited {p // Q p}]
def enc2 (p : {p : Int × Int // Q p}) : List Value := [.int .i64 p.1.1, .int .i64 p.1.2]
theorem flat2 (d : Array {p : Int × Int // Q p}) : (flatK enc2 2 d).toList = pv (d.toList.map (·.1)) := by
  apply List.ext_getElem?
  intro j
  by_cases hj : j < d.size * 2
  · have h2 : j / 2 < d.size := by omega
    have hl : j / 2 < (d.toList.map (·.1)).length := by simpa using h2
    obtain ⟨p0, p1⟩ := pv_at hl
    rw [pat_eq hl] at p0 p1
    simp only [List.getElem_map, Array.getElem_toList] at p0 p1
    have hg : (flatK enc2 2 d).toList[j]? = some ((flatK enc2 2 d)[j]!) := by
      rw [Array.getElem?_toList, Array.getElem?_eq_getElem (by simpa using hj), getElem!_pos]
    rw [hg, get_flatK _ _ _ _ hj, getElem!_pos d (j / 2) h2]
    rcases Nat.mod_two_eq_zero_or_one j with h | h
    · rw [show j / 2 * 2 = j by omega] at p0
      rw [h, p0]
      rfl
    · rw [show j / 2 * 2 + 1 = j by omega] at p1
      rw [h, p1]
      rfl
  · rw [List.getElem?_eq_none (by simp; omega), List.getElem?_eq_none (by rw [pv_len]; simp; omega)]
end
section
variable {Q : Int × Int × Int → Prop} [Inhabited {p // Q p}]
def enc3 (p : {p : Int × Int × Int // Q p}) : List Value := [.int .i64 p.1.1, .int .i64 p.1.2.1, .int .i64 p.1.2.2]
theorem tat_eq {zs : List (Int × Int × Int)} {k : Nat} (h : k < zs.length) : tat zs k = zs[k] := by simp [tat, List.getD, h]
theorem flat3 (d : Array {p : Int × Int × Int // Q p}) : (flatK enc3 3 d).toList = tv (d.toList.map (·.1)) := by
  apply List.ext_getElem?
  intro j
  by_cases hj : j < d.size * 3
  · have h2 : j / 3 < d.size := by omega
    have hl : j / 3 < (d.toList.map (·.1)).length := by simpa using h2
    obtain ⟨p0, p1, p2⟩ := tv_at hl
    rw [tat_eq hl] at p0 p1 p2
    simp only [List.getElem_map, Array.getElem_toList] at p0 p1 p2
    have hg : (flatK enc3 3 d).toList[j]? = some ((flatK enc3 3 d)[j]!) := by
      rw [Array.getElem?_toList, Array.getElem?_eq_getElem (by simpa using hj), getElem!_pos]
    rw [hg, get_flatK _ _ _ _ hj, getElem!_pos d (j / 3) h2]
    rcases (show j % 3 = 0 ∨ j % 3 = 1 ∨ j % 3 = 2 by omega) with h | h | h
    · rw [show j / 3 * 3 = j by omega] at p0
      rw [h, p0]
      rfl
    · rw [show j / 3 * 3 + 1 = j by omega] at p1
      rw [h, p1]
      rfl
    · rw [show j / 3 * 3 + 2 = j by omega] at p2
      rw [h, p2]
      rfl
  · rw [List.getElem?_eq_none (by simp; omega), List.getElem?_eq_none (by rw [tv_len]; simp; omega)]
end

/-- Behind the sort of points: a permutation in order, in the same slice. -/
def SortedP (cf : Int × Int → Int × Int → Int) (B : Nat) (E : TypeId) (g n c : Nat) (zs : List (Int × Int)) (w : World) (e : Ending) (w' : World) : Prop :=
  e = .returned (.tuple #[]) ∧ ∃ ys, ys.Perm zs ∧ ys.Pairwise (fun a b => ¬ cf b a < 0) ∧ w'.ownsRow B E 2 (.slice (some ⟨g, 0, none⟩) n c) n (pv ys) ∧ w.grownBy w' (some g)
theorem isAggP (w : World) : (isAgg 49).run Try.prog w = .ok true w := by simp [isAgg] <;> kernel_rfl
theorem sizeOfP (w : World) : (Go.sizeOf 49).run Try.prog w = .ok 2 w := by simp [Go.sizeOf] <;> kernel_rfl
set_option maxHeartbeats 1000000 in
theorem sortP_any {Q : Int × Int → Prop} [Inhabited {p // Q p}] (cf : Int × Int → Int × Int → Int) (hO : SWO (ltOf fun x y : {p // Q p} => cf x.1 y.1)) (cmp : Nat) (eg : ∀ args w, (callFunc cmp args).run Try.prog w = .ok (.enter cmp args) w)
    (hcmp : ∀ (x y : Int × Int) (w : World), Q x → Q y → Calls Try.prog cmp #[.agg #[.int .i64 x.1, .int .i64 x.2], .agg #[.int .i64 y.1, .int .i64 y.2]] w fun e w' => e = .returned (.int .i64 (cf x y)) ∧ ∃ q os, w' = grow (w.drewN q) os)
    (zs : List (Int × Int)) (hQ : ∀ z ∈ zs, Q z) (B n c g : Nat) (w : World) (hn : n ≤ 1048576) (h : w.ownsRow B 49 2 (.slice (some ⟨g, 0, none⟩) n c) n (pv zs)) :
    Calls Try.prog 32 #[.slice (some ⟨g, 0, none⟩) n c, .func (.func cmp) #[] #[]] w (SortedP cf B 49 g n c zs w) := by
  obtain ⟨hlen, hnil | ⟨g', cap, cur, hv, hbase, hb, h1, h2, h3, h4⟩⟩ := h
  · cases hnil.1
  cases hv
  rw [pv_len] at hlen
  have hzn : zs.length = n := by omega
  obtain ⟨d, hd⟩ : ∃ d : Array {p // Q p}, d = (zs.attach.map fun z => (⟨z.1, hQ z.1 z.2⟩ : {p // Q p})).toArray := ⟨_, rfl⟩
  have hdz : d.toList.map (·.1) = zs := by
    rw [hd]
    simp [Function.comp_def]
    exact List.attach_map_subtype_val zs
  have hdn : d.size = n := by rw [hd]; simp [hzn]
  have hf : flatK enc2 2 d = (pv zs).toArray := by
    apply Array.ext'
    rw [flat2, hdz]
  have hH : HoldsK enc2 2 w g 0 d := by
    unfold HoldsK
    rw [hf]
    exact holds_put hb (by rw [pv_len, hzn, h4]; simp)
  have hcon := AnyQ.slices_SortFunc layPoint 2 isAggP sizeOfP enc2 (fun _ => rfl) (fun x v hv => by simp [enc2] at hv; rcases hv with rfl | rfl <;> rfl) (fun x y => cf x.1 y.1) hO cmp #[] g 0 c d w eg
    (fun m os dk _ x y => hcmp x.1 y.1 _ x.2 y.2) hH (Array.getElem?_eq_some_iff.1 hb).1 (by omega)
  rw [hdn] at hcon
  change Calls Try.prog 32 _ _ _ at hcon
  refine hcon.mono fun e w' ⟨he, d', k, os, hp, hs, hw⟩ => ?_
  rw [← hdn] at hp hs
  obtain ⟨p1, p2⟩ := perm_of hp hs
  have hl' : d'.size = n := by rw [hp.1, hdn]
  have hf' : flatK enc2 2 d' = (pv (d'.toList.map (·.1))).toArray := by
    apply Array.ext'
    rw [flat2]
  refine ⟨he, d'.toList.map (·.1), ?_, ?_, ?_, ?_⟩
  · rw [← hdz]; exact p1.map _
  · rw [List.pairwise_map]; exact p2
  · rw [hw]
    unfold sortWorldK putRowK
    rw [hf']
    have := own_put (enc := (id : Value → Value)) (n := k) (os := os) (ts := pv (d'.toList.map (·.1))) (m := n) (size := 2) (by rw [pv_len]; simp [hl']) hbase hb h1 h2 h3
    simpa using this
  · rw [hw]
    exact grown_put _
end Go.Proofs.Ytaloegjcdllgoaa
