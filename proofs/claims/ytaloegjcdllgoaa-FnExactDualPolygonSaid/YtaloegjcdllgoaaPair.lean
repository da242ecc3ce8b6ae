/-
  Slices of pairs: what they hold; the functions of the laws on slices of points.
-/
import Derived.Test.YtaloegjcdllgoaaInts
namespace Go.Proofs.Ytaloegjcdllgoaa
open Go.RowKit

/-- The cells of a slice whose address is known. -/
theorem Reads.cells {w : World} {b off size n : Nat} {xs : List Value} (h : Reads w (some ⟨b, off, none⟩) size n xs) : ∀ j u, xs[j]? = some u → w.cell? ⟨b, off + j, none⟩ = some u := by
  intro j u hu
  have hn : 0 < n := by
    rcases Nat.eq_zero_or_pos n with h0 | h0
    · have h1 := h.1
      rw [h0, Nat.zero_mul] at h1
      rw [List.eq_nil_of_length_eq_zero h1] at hu
      simp at hu
    · exact h0
  obtain ⟨b', off', e, hc⟩ := h.2 hn
  simp only [Option.some.injEq, Addr.mk.injEq, and_true] at e
  obtain ⟨rfl, rfl⟩ := e
  exact hc j u hu
/-- What a slice of pairs holds, as cells. -/
def pv : List (Int × Int) → List Value
  | [] => []
  | r :: rs => .int .i64 r.1 :: .int .i64 r.2 :: pv rs
theorem pv_len : ∀ zs : List (Int × Int), (pv zs).length = zs.length * 2
  | [] => rfl
  | _ :: rs => by simp only [pv, List.length_cons, pv_len rs]; omega
/-- The pair at a place. -/
def pat (zs : List (Int × Int)) (k : Nat) : Int × Int := zs.getD k (0, 0)
theorem pat_eq {zs : List (Int × Int)} {k : Nat} (h : k < zs.length) : pat zs k = zs[k] := by simp [pat, List.getD, h]
theorem pv_at : ∀ {zs : List (Int × Int)} {k : Nat}, k < zs.length → (pv zs)[k * 2]? = some (.int .i64 (pat zs k).1) ∧ (pv zs)[k * 2 + 1]? = some (.int .i64 (pat zs k).2)
  | [], _, h => by simp at h
  | r :: rs, 0, _ => ⟨rfl, rfl⟩
  | r :: rs, k + 1, h => by
    have ih := pv_at (zs := rs) (k := k) (by simpa using h)
    have e : (k + 1) * 2 = k * 2 + 1 + 1 := by omega
    have e2 : pat (r :: rs) (k + 1) = pat rs k := by simp [pat, List.getD]
    rw [e, e2]
    exact ih
theorem pv_append : ∀ xs ys : List (Int × Int), pv (xs ++ ys) = pv xs ++ pv ys
  | [], _ => rfl
  | r :: rs, ys => by simp [pv, pv_append rs ys]
theorem pv_take : ∀ (zs : List (Int × Int)) (k : Nat), (pv zs).take (k * 2) = pv (zs.take k)
  | _, 0 => by simp [pv]
  | [], k + 1 => by simp [pv]
  | r :: rs, k + 1 => by
    have e : (k + 1) * 2 = k * 2 + 1 + 1 := by omega
    rw [e]
    simp [pv, pv_take rs k]
theorem pv_set2 : ∀ (l : List (Int × Int)) (j : Nat) (a b : Int), j < l.length → ((pv l).set (j * 2) (.int .i64 a)).set (j * 2 + 1) (.int .i64 b) = pv (l.set j (a, b))
  | [], _, _, _, h => by simp at h
  | r :: rs, 0, _, _, _ => rfl
  | r :: rs, j + 1, a, b, h => by
    have ih := pv_set2 rs j a b (by simpa using h)
    have e : (j + 1) * 2 = j * 2 + 1 + 1 := by omega
    rw [e]
    simp only [pv, List.set_cons_succ]
    exact congrArg _ (congrArg _ ih)
theorem pv_one : ∀ (zs : List (Int × Int)) (u : Value), u ∈ pv zs → u.oneCell' = true
  | [], u, h => by simp [pv] at h
  | r :: rs, u, h => by
    simp only [pv, List.mem_cons] at h
    rcases h with rfl | rfl | h
    · rfl
    · rfl
    · exact pv_one rs u h
/-- The marks that a law lays into a slice of pairs. -/
def pmarks (k : Int) (n : Nat) : List (Int × Int) := (List.range n).map fun i : Nat => (k + 2 * (i : Int), k + 2 * (i : Int) + 1)
theorem pmarks_len (k : Int) (n : Nat) : (pmarks k n).length = n := by simp [pmarks]
theorem pmarks_at {k : Int} {n i : Nat} (h : i < n) : pat (pmarks k n) i = (k + 2 * (i : Int), k + 2 * (i : Int) + 1) := by simp [pat, pmarks, List.getD, h]
theorem pmarks_step {zs : List (Int × Int)} {k : Int} {i : Nat} (h : i < zs.length) : ((pmarks k i ++ zs.drop i).set i (k + 2 * (i : Int), k + 2 * (i : Int) + 1)) = pmarks k (i + 1) ++ zs.drop (i + 1) := by
  have e : (pmarks k i).length = i := pmarks_len k i
  rw [List.set_append_right _ _ (by omega), e, Nat.sub_self, List.drop_eq_getElem_cons h, List.set_cons_zero]
  simp [pmarks, List.range_succ]

/-- The cells of a slice of pairs, read at a place. -/
theorem Reads.pair {w : World} {a : Option Addr} {n : Nat} {zs : List (Int × Int)} (h : Reads w a 2 n (pv zs)) {k : Nat} (hk : k < n) :
    ∃ b off, a = some ⟨b, off, none⟩ ∧ w.cell? ⟨b, off + k * 2, none⟩ = some (.int .i64 (pat zs k).1) ∧ w.cell? ⟨b, off + k * 2 + 1, none⟩ = some (.int .i64 (pat zs k).2) := by
  have hl : zs.length = n := by have := h.1; rw [pv_len] at this; omega
  obtain ⟨b, off, ha, hc⟩ := h.2 (by omega)
  have h3 := pv_at (zs := zs) (k := k) (by omega)
  exact ⟨b, off, ha, hc _ _ h3.1, hc _ _ h3.2⟩

theorem point_info : (Try.prog.info? 49).map (fun i => (i.zero, i.size, i.bytes)) = some (some (.agg #[.int .i64 0, .int .i64 0]), 2, 16) := by kernel_rfl

theorem eqPoint_same (a b : Int) (w : World) :
    Calls Try.prog 41 #[.agg #[.int .i64 a, .int .i64 b], .agg #[.int .i64 a, .int .i64 b]] w fun r w' => r = .returned (.bool true) ∧ Ext w w' := by
  go_enter Try.func41, Try.ntmps41
  go_wp2
  go_ret
  exact ⟨rfl, (by repeat (first | exact Ext.refl _ | assumption | apply Ext.alloc | apply Ext.drew | apply Ext.drewN | (refine Ext.trans ?_ (by assumption)) | (refine Ext.setCell ?_ (by (try simp) <;> omega) _)))⟩

theorem eqPointS_same (a a' : Option Addr) (n c c' : Nat) (zs : List (Int × Int)) (hn : n ≤ 1073741824) (w : World) (h : Reads w a 2 n (pv zs)) (h' : Reads w a' 2 n (pv zs)) :
    Calls Try.prog 15 #[.slice a n c, .slice a' n c'] w fun r w' => r = .returned (.bool true) ∧ Ext w w' := by
  go_enter Try.func15, Try.ntmps15
  go_wp2
  go_loopw [5] (fun s wr => ∃ k : Nat, k ≤ n ∧ s = .int .i64 k ∧ Ext w wr) (fun s _ => n - (intOf s).toNat)
  case atStart => exact ⟨0, Nat.zero_le _, rfl, Ext.refl _⟩
  case round =>
    obtain ⟨k, hk, rfl, hbr⟩ := hrel
    by_cases hlt : k < n
    · obtain ⟨b, off, rfl, hp0, hp1⟩ := (Reads.ext hbr h).pair hlt
      obtain ⟨b', off', rfl, hq0, hq1⟩ := (Reads.ext hbr h').pair hlt
      generalize (pat zs k).1 = x at hp0 hq0
      generalize (pat zs k).2 = y at hp1 hq1
      have Pc0 := Ext.keeps hp0
      have Pc1 := Ext.keeps hp1
      have Qc0 := Ext.keeps hq0
      have Qc1 := Ext.keeps hq1
      clear h h'
      have hE : Ext wr wr := Ext.refl _
      go_wp2
      have qP0 := fun s : Past wr => Pc0 s.w s.ext
      have qP1 := fun s : Past wr => Pc1 s.w s.ext
      have qQ0 := fun s : Past wr => Qc0 s.w s.ext
      have qQ1 := fun s : Past wr => Qc1 s.w s.ext
      refine wp_region_past wr (by first | exact hE | exact Ext.alloc hE _ | exact Ext.drew hE | exact Ext.drewN hE _) (by kernel_rfl) (by kernel_rfl) ?_
      repeat (go_big_quiet_step (((go_at_call 41; exact past_ext (eqPoint_same _ _ _)))))
      refine wpQuiet_nil ?_
      intro _ hw'
      obtain ⟨⟨w2, hE⟩, hw''⟩ := hw'
      subst hw''
      clear qP0 qP1 qQ0 qQ1
      go_wp2
      go_roundw
      case rel => exact ⟨k + 1, by omega, by go_num, hbr.trans hE⟩
      case measure => simp [intOf]; omega
    · go_wp2
      go_ret
      exact ⟨rfl, hbr⟩

set_option maxHeartbeats 1000000 in
theorem markPointS_any (a : Option Addr) (n c : Nat) (k : Int) (xs : List (Int × Int)) (B : Nat) (hn : n ≤ 1073741824) (hk0 : 0 ≤ k) (hk1 : k ≤ 1073741824) (w : World) (h : w.ownsRow B 49 2 (.slice a n c) n (pv xs)) :
    Calls Try.prog 18 #[.slice a n c, .int .i64 k] w fun r w' => r = .returned (.int .i64 (k + 2 * n)) ∧ w'.ownsRow B 49 2 (.slice a n c) n (pv (pmarks k n)) ∧ w.grownBy w' (Value.slice a n c).ownBlock := by
  have hl : xs.length = n := by have := h.1; rw [pv_len] at this; omega
  by_cases hz : n = 0
  · subst hz
    have hx : xs = [] := List.eq_nil_of_length_eq_zero hl
    subst hx
    go_enter Try.func18, Try.ntmps18
    go_wp2
    go_loop [1, 5] (fun t s => s = .int .i64 0 ∧ t = .int .i64 k) (fun _ _ => 0)
    case atStart => exact ⟨rfl, rfl⟩
    case round =>
      obtain ⟨rfl, rfl⟩ := hrel
      go_wp2
      go_ret
      exact ⟨ret_int (by simp), h, World.grownBy.refl _ _⟩
  · obtain ⟨g, rfl, hgB, hgw⟩ := own_head h (by omega)
    go_enter Try.func18, Try.ntmps18
    go_wp2
    go_loopw [1, 5] (fun t s wr => ∃ i : Nat, i ≤ n ∧ s = .int .i64 i ∧ t = .int .i64 (k + 2 * i) ∧ wr.ownsRow B 49 2 (.slice (some ⟨g, 0, none⟩) n c) n (pv (pmarks k i ++ xs.drop i)) ∧ w.grownBy wr (some g)) (fun _ s _ => n - (intOf s).toNat)
    case atStart => exact ⟨0, Nat.zero_le _, rfl, by simp, by simpa [pmarks] using h, World.grownBy.refl _ _⟩
    case round =>
      obtain ⟨i, hi, rfl, rfl, hown, hgr⟩ := hrel
      by_cases hlt : i < n
      · have hyl := hown.1
        obtain ⟨o0, ho0⟩ : ∃ o, wr.cell? ⟨g, i * 2, none⟩ = some o := ⟨_, by rw [hown.cellAt _ (by omega)]; exact List.getElem?_eq_getElem (by omega)⟩
        obtain ⟨o1, ho1⟩ : ∃ o, wr.cell? ⟨g, i * 2 + 1, none⟩ = some o := ⟨_, by rw [hown.cellAt _ (by omega)]; exact List.getElem?_eq_getElem (by omega)⟩
        have f0 := hown.frozenAt (i * 2)
        have f1 := hown.frozenAt (i * 2 + 1)
        have s0 := hown.stored (i * 2) (.int .i64 (k + 2 * i))
        have s1 := s0.1.stored (i * 2 + 1) (.int .i64 (k + 2 * i + 1))
        have e := Lib.hid (pmarks_step (zs := xs) (k := k) (i := i) (by omega))
        have e3 := Lib.hid (pv_set2 (pmarks k i ++ xs.drop i) i (k + 2 * i) (k + 2 * i + 1) (by simp [pmarks_len]; omega))
        clear hown h hl hyl
        go_wp2
        go_roundw
        case rel =>
          refine ⟨i + 1, by omega, by go_num, congrArg (Value.int .i64) (by omega), ?_, grown_trans hgr (grown_trans s0.2 s1.2)⟩
          have h1 := s1.1
          rw [e3.out, e.out] at h1
          exact h1
        case measure => simp [intOf]; omega
      · have hin : i = n := by omega
        have e : pmarks k i ++ xs.drop i = pmarks k n := by rw [hin, List.drop_of_length_le (by omega), List.append_nil]
        have E := Lib.hid e
        have HN := Lib.hid hin
        clear e hin
        go_wp2
        go_ret
        exact ⟨ret_int (by rw [HN.out]), by rw [← E.out]; exact hown, hgr⟩

theorem heldPointS_any (a : Option Addr) (n c : Nat) (k : Int) (hn : n ≤ 1073741824) (hk0 : 0 ≤ k) (hk1 : k ≤ 1073741824) (w : World) (h : Reads w a 2 n (pv (pmarks k n))) :
    Calls Try.prog 19 #[.slice a n c, .int .i64 k] w fun r w' => r = .returned (.int .i64 (k + 2 * n)) ∧ w = w' := by
  go_enter Try.func19, Try.ntmps19
  go_wp2
  go_loop [1, 5] (fun t s => ∃ i : Nat, i ≤ n ∧ s = .int .i64 i ∧ t = .int .i64 (k + 2 * i)) (fun _ s => n - (intOf s).toNat)
  case atStart => exact ⟨0, Nat.zero_le _, rfl, by simp⟩
  case round =>
    obtain ⟨i, hi, rfl, rfl⟩ := hrel
    by_cases hlt : i < n
    · obtain ⟨b, off, rfl, hp0, hp1⟩ := h.pair hlt
      rw [pmarks_at hlt] at hp0 hp1
      clear h
      go_wp2
      go_round
      case rel => exact ⟨i + 1, by omega, by go_num, congrArg (Value.int .i64) (by omega)⟩
      case measure => simp [intOf]; omega
    · have hin := Lib.hid (show i = n by omega)
      go_wp2
      go_ret
      exact ⟨ret_int (by rw [hin.out]), rfl⟩

end Go.Proofs.Ytaloegjcdllgoaa
