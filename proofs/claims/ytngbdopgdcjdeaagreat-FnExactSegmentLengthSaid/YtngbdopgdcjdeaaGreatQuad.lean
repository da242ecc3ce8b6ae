/-
  Slices of spots: what they hold; the functions of the laws on slices of spots.
-/
import Derived.Test.YtngbdopgdcjdeaaGreatBa4
import Derived.BigQuiet
namespace Go.Proofs.YtngbdopgdcjdeaaGreat
open Go.RowKit

/-- What a slice of quadruples holds, as cells. -/
def qv : List (Int × Int × Int × Int) → List Value
  | [] => []
  | r :: rs => .int .i64 r.1 :: .int .i64 r.2.1 :: .int .i64 r.2.2.1 :: .int .i64 r.2.2.2 :: qv rs
theorem qv_len : ∀ zs : List (Int × Int × Int × Int), (qv zs).length = zs.length * 4
  | [] => rfl
  | _ :: rs => by simp only [qv, List.length_cons, qv_len rs]; omega
/-- The quadruple at a place. -/
def qat (zs : List (Int × Int × Int × Int)) (k : Nat) : Int × Int × Int × Int := zs.getD k (0, 0, 0, 0)
theorem qv_at : ∀ {zs : List (Int × Int × Int × Int)} {k : Nat}, k < zs.length → (qv zs)[k * 4]? = some (.int .i64 (qat zs k).1) ∧ (qv zs)[k * 4 + 1]? = some (.int .i64 (qat zs k).2.1) ∧ (qv zs)[k * 4 + 2]? = some (.int .i64 (qat zs k).2.2.1) ∧ (qv zs)[k * 4 + 3]? = some (.int .i64 (qat zs k).2.2.2)
  | [], _, h => by simp at h
  | r :: rs, 0, _ => ⟨rfl, rfl, rfl, rfl⟩
  | r :: rs, k + 1, h => by
    have ih := qv_at (zs := rs) (k := k) (by simpa using h)
    have e : (k + 1) * 4 = k * 4 + 1 + 1 + 1 + 1 := by omega
    have e2 : qat (r :: rs) (k + 1) = qat rs k := by simp [qat, List.getD]
    rw [e, e2]
    exact ih
theorem qv_append : ∀ xs ys : List (Int × Int × Int × Int), qv (xs ++ ys) = qv xs ++ qv ys
  | [], _ => rfl
  | r :: rs, ys => by simp [qv, qv_append rs ys]
theorem qv_set4 : ∀ (l : List (Int × Int × Int × Int)) (j : Nat) (a b c d : Int), j < l.length → (((((qv l).set (j * 4) (.int .i64 a)).set (j * 4 + 1) (.int .i64 b)).set (j * 4 + 2) (.int .i64 c)).set (j * 4 + 3) (.int .i64 d)) = qv (l.set j (a, b, c, d))
  | [], _, _, _, _, _, h => by simp at h
  | r :: rs, 0, _, _, _, _, _ => rfl
  | r :: rs, j + 1, a, b, c, d, h => by
    have ih := qv_set4 rs j a b c d (by simpa using h)
    have e : (j + 1) * 4 = j * 4 + 1 + 1 + 1 + 1 := by omega
    rw [e]
    simp only [qv, List.set_cons_succ]
    exact congrArg _ (congrArg _ (congrArg _ (congrArg _ ih)))
theorem qv_one : ∀ (zs : List (Int × Int × Int × Int)) (u : Value), u ∈ qv zs → u.oneCell' = true
  | [], u, h => by simp [qv] at h
  | r :: rs, u, h => by
    simp only [qv, List.mem_cons] at h
    rcases h with rfl | rfl | rfl | rfl | h
    · rfl
    · rfl
    · rfl
    · rfl
    · exact qv_one rs u h
/-- The marks that a law lays into a slice of quadruples. -/
def qmarks (k : Int) (n : Nat) : List (Int × Int × Int × Int) := (List.range n).map fun i : Nat => (k + 4 * (i : Int), k + 4 * (i : Int) + 1, k + 4 * (i : Int) + 1 + 1, k + 4 * (i : Int) + 1 + 1 + 1)
theorem qmarks_len (k : Int) (n : Nat) : (qmarks k n).length = n := by simp [qmarks]
theorem qmarks_at {k : Int} {n i : Nat} (h : i < n) : qat (qmarks k n) i = (k + 4 * (i : Int), k + 4 * (i : Int) + 1, k + 4 * (i : Int) + 1 + 1, k + 4 * (i : Int) + 1 + 1 + 1) := by simp [qat, qmarks, List.getD, h]
theorem qmarks_step {zs : List (Int × Int × Int × Int)} {k : Int} {i : Nat} (h : i < zs.length) : ((qmarks k i ++ zs.drop i).set i (k + 4 * (i : Int), k + 4 * (i : Int) + 1, k + 4 * (i : Int) + 1 + 1, k + 4 * (i : Int) + 1 + 1 + 1)) = qmarks k (i + 1) ++ zs.drop (i + 1) := by
  have e : (qmarks k i).length = i := qmarks_len k i
  rw [List.set_append_right _ _ (by omega), e, Nat.sub_self, List.drop_eq_getElem_cons h, List.set_cons_zero]
  simp [qmarks, List.range_succ]
/-- The cells of a slice of quadruples, read at a place. -/
theorem Reads.quad {w : World} {a : Option Addr} {n : Nat} {zs : List (Int × Int × Int × Int)} (h : Reads w a 4 n (qv zs)) {k : Nat} (hk : k < n) :
    ∃ b off, a = some ⟨b, off, none⟩ ∧ w.cell? ⟨b, off + k * 4, none⟩ = some (.int .i64 (qat zs k).1) ∧ w.cell? ⟨b, off + k * 4 + 1, none⟩ = some (.int .i64 (qat zs k).2.1) ∧ w.cell? ⟨b, off + k * 4 + 2, none⟩ = some (.int .i64 (qat zs k).2.2.1) ∧ w.cell? ⟨b, off + k * 4 + 3, none⟩ = some (.int .i64 (qat zs k).2.2.2) := by
  have hl : zs.length = n := by have := h.1; rw [qv_len] at this; omega
  obtain ⟨b, off, ha, hc⟩ := h.2 (by omega)
  have h3 := qv_at (zs := zs) (k := k) (by omega)
  exact ⟨b, off, ha, hc _ _ h3.1, hc _ _ h3.2.1, hc _ _ h3.2.2.1, hc _ _ h3.2.2.2⟩
theorem spot_info : (Tryz.prog.info? 37).map (fun i => (i.zero, i.size, i.bytes)) = some (some (.agg #[.int .i64 0, .int .i64 0, .int .i64 0, .int .i64 0]), 4, 32) := by kernel_rfl
theorem own_noneSp (w : World) (B : Nat) : w.ownsRow B 37 4 (.slice none 0 0) 0 (qv []) := ⟨rfl, .inl ⟨rfl, rfl⟩⟩
/-- 'append(out, spots..)', out nil or the call's own. -/
theorem wpList_appS {w : World} {ops : Array Oper} {rest : List Oper} {o : Oper} {a : Act} {Q : Exit → Act → World → Prop} (hgd : o.guard = none) (s x : Operand)
    (ho : o.op = .call { callee := .builtin .append, args := #[s, x], argTypes := #[44, 44] })
    (W : World) (base : Nat) (a0 : Option Addr) (n c : Nat) (xs : List (Int × Int × Int × Int)) (hs : a.eval s = .slice a0 n c) (hown : w.ownsRow base 37 4 (.slice a0 n c) n (qv xs))
    (ad : Addr) (m c' : Nat) (zs : List (Int × Int × Int × Int)) (hx : a.eval x = .slice (some ad) m c') (hl : zs.length = m) (hr : ∀ j u, (qv zs)[j]? = some u → w.cell? (ad.add j) = some u)
    (hn : n ≤ 1048576) (hm : m ≤ 1048576) (hb : base ≤ w.heap.size) (hE : Ext W w) (hW : W.heap.size ≤ base)
    (h : ∀ a1 c1 w', w'.ownsRow base 37 4 (.slice a1 (n + m) c1) (n + m) (qv (xs ++ zs)) → Ext W w' → wpList Tryz.prog ops Q rest (a.put o.dst (.slice a1 (n + m) c1)) w') :
    wpList Tryz.prog ops Q (o :: rest) a w := by
  obtain ⟨i0, hi, hz0, hz1, hz2⟩ := info_parts spot_info
  refine wpList_append_own w hgd s x 44 ho base 37 i0 (.agg #[.int .i64 0, .int .i64 0, .int .i64 0, .int .i64 0]) 4 32 Tryz.underlying44 hi hz0 hz1 hz2 rfl (by decide) _ n (qv xs) hs hown ad m c' (qv zs) hx (by rw [qv_len, hl]) hr (qv_one zs) ?_ ?_ hb ?_
  · unfold maxLen; omega
  · omega
  · intro v' w' h1 h2 _
    obtain ⟨a1, c1, rfl⟩ := own_form h1
    refine h a1 c1 w' ?_ (hE.grown h2 fun k hk => Nat.le_trans hW (hown.lt k hk).1)
    rw [qv_append]; exact h1
/-- The cells of one spot that lies alone in a block. -/
theorem one_cells4 {w : World} {g : Nat} {x y z u : Int} (h0 : w.cell? ⟨g, 0, none⟩ = some (.int .i64 x)) (h1 : w.cell? ⟨g, 1, none⟩ = some (.int .i64 y)) (h2 : w.cell? ⟨g, 2, none⟩ = some (.int .i64 z)) (h3 : w.cell? ⟨g, 3, none⟩ = some (.int .i64 u)) : ∀ (j : Nat) (v : Value), (qv [(x, y, z, u)])[j]? = some v → w.cell? ((⟨g, 0, none⟩ : Addr).add j) = some v := by
  intro j v hj
  match j, hj with
  | 0, hj => simp [qv] at hj; subst hj; simpa [Addr.add] using h0
  | 1, hj => simp [qv] at hj; subst hj; simpa [Addr.add] using h1
  | 2, hj => simp [qv] at hj; subst hj; simpa [Addr.add] using h2
  | 3, hj => simp [qv] at hj; subst hj; simpa [Addr.add] using h3
theorem eqSpot_same (a b c d : Int) (w : World) :
    Calls Tryz.prog 21 #[.agg #[.int .i64 a, .int .i64 b, .int .i64 c, .int .i64 d], .agg #[.int .i64 a, .int .i64 b, .int .i64 c, .int .i64 d]] w fun r w' => r = .returned (.bool true) ∧ Ext w w' := by
  have HA := (Has.alloc (Has.new w #[.int .i64 a, .int .i64 b, .int .i64 c, .int .i64 d] 37) (.cells #[.int .i64 a, .int .i64 b, .int .i64 c, .int .i64 d] 37))
  have Ac0 := Ext.keeps (HA 0 _ rfl)
  have Ac1 := Ext.keeps (HA 1 _ rfl)
  have Ac2 := Ext.keeps (HA 2 _ rfl)
  have Ac3 := Ext.keeps (HA 3 _ rfl)
  clear HA
  have HB := (Has.new2 w (.cells #[.int .i64 a, .int .i64 b, .int .i64 c, .int .i64 d] 37) #[.int .i64 a, .int .i64 b, .int .i64 c, .int .i64 d] 37)
  have Bc0 := Ext.keeps (HB 0 _ rfl)
  have Bc1 := Ext.keeps (HB 1 _ rfl)
  have Bc2 := Ext.keeps (HB 2 _ rfl)
  have Bc3 := Ext.keeps (HB 3 _ rfl)
  clear HB
  have hE : Ext ((w.alloc (.cells #[.int .i64 a, .int .i64 b, .int .i64 c, .int .i64 d] 37)).alloc (.cells #[.int .i64 a, .int .i64 b, .int .i64 c, .int .i64 d] 37)) ((w.alloc (.cells #[.int .i64 a, .int .i64 b, .int .i64 c, .int .i64 d] 37)).alloc (.cells #[.int .i64 a, .int .i64 b, .int .i64 c, .int .i64 d] 37)) := Ext.refl _
  have hw0 : Ext w ((w.alloc (.cells #[.int .i64 a, .int .i64 b, .int .i64 c, .int .i64 d] 37)).alloc (.cells #[.int .i64 a, .int .i64 b, .int .i64 c, .int .i64 d] 37)) := (by repeat (first | exact Ext.refl _ | assumption | apply Ext.alloc | apply Ext.drew | apply Ext.drewN | (refine Ext.trans ?_ (by assumption)) | (refine Ext.setCell ?_ (by (try simp) <;> omega) _)))
  go_enter Tryz.func21, Tryz.ntmps21
  go_wp2_with ((go_at_call 35; refine (eqFrac_same _ _ _).mono ?_; rintro e w' ⟨rfl, hb⟩; (first | replace hE := Ext.trans hE hb | replace hE := Ext.trans (Ext.alloc hE _) hb | replace hE := Ext.trans (Ext.alloc (Ext.alloc hE _) _) hb | replace hE := Ext.trans (Ext.drew hE) hb | replace hE := Ext.trans (Ext.alloc (Ext.alloc (Ext.alloc hE _) _) _) hb)))
  go_ret
  exact ⟨rfl, hw0.trans hE⟩
theorem eqSpotS_same (a a' : Option Addr) (n c c' : Nat) (zs : List (Int × Int × Int × Int)) (hn : n ≤ 1073741824) (w : World) (h : Reads w a 4 n (qv zs)) (h' : Reads w a' 4 n (qv zs)) :
    Calls Tryz.prog 28 #[.slice a n c, .slice a' n c'] w fun r w' => r = .returned (.bool true) ∧ Ext w w' := by
  go_enter Tryz.func28, Tryz.ntmps28
  go_wp2
  go_loopw [5] (fun s wr => ∃ k : Nat, k ≤ n ∧ s = .int .i64 k ∧ Ext w wr) (fun s _ => n - (intOf s).toNat)
  case atStart => exact ⟨0, Nat.zero_le _, rfl, Ext.refl _⟩
  case round =>
    obtain ⟨k, hk, rfl, hbr⟩ := hrel
    by_cases hlt : k < n
    · obtain ⟨b, off, rfl, hp0, hp1, hp2, hp3⟩ := (Reads.ext hbr h).quad hlt
      obtain ⟨b', off', rfl, hq0, hq1, hq2, hq3⟩ := (Reads.ext hbr h').quad hlt
      generalize (qat zs k).1 = x at hp0 hq0
      generalize (qat zs k).2.1 = y at hp1 hq1
      generalize (qat zs k).2.2.1 = z at hp2 hq2
      generalize (qat zs k).2.2.2 = u at hp3 hq3
      have Pc0 := Ext.keeps hp0
      have Pc1 := Ext.keeps hp1
      have Pc2 := Ext.keeps hp2
      have Pc3 := Ext.keeps hp3
      have Qc0 := Ext.keeps hq0
      have Qc1 := Ext.keeps hq1
      have Qc2 := Ext.keeps hq2
      have Qc3 := Ext.keeps hq3
      clear h h'
      have hE : Ext wr wr := Ext.refl _
      go_wp2
      have qP0 := fun s : Past wr => Pc0 s.w s.ext
      have qP1 := fun s : Past wr => Pc1 s.w s.ext
      have qP2 := fun s : Past wr => Pc2 s.w s.ext
      have qP3 := fun s : Past wr => Pc3 s.w s.ext
      have qQ0 := fun s : Past wr => Qc0 s.w s.ext
      have qQ1 := fun s : Past wr => Qc1 s.w s.ext
      have qQ2 := fun s : Past wr => Qc2 s.w s.ext
      have qQ3 := fun s : Past wr => Qc3 s.w s.ext
      refine wp_region_past wr (by first | exact hE | exact Ext.alloc hE _ | exact Ext.drew hE | exact Ext.drewN hE _) (by kernel_rfl) (by kernel_rfl) ?_
      repeat (go_big_quiet_step (((go_at_call 21; exact past_ext (eqSpot_same _ _ _ _ _)))))
      refine wpQuiet_nil ?_
      intro _ hw'
      obtain ⟨⟨w2, hE⟩, hw''⟩ := hw'
      subst hw''
      clear qP0 qP1 qP2 qP3 qQ0 qQ1 qQ2 qQ3
      go_wp2
      go_roundw
      case rel => exact ⟨k + 1, by omega, by go_num, hbr.trans hE⟩
      case measure => simp [intOf]; omega
    · go_wp2
      go_ret
      exact ⟨rfl, hbr⟩
set_option maxHeartbeats 1000000 in
theorem markSpotS_any (a : Option Addr) (n c : Nat) (k : Int) (xs : List (Int × Int × Int × Int)) (B : Nat) (hn : n ≤ 1073741824) (hk0 : 0 ≤ k) (hk1 : k ≤ 1073741824) (w : World) (h : w.ownsRow B 37 4 (.slice a n c) n (qv xs)) :
    Calls Tryz.prog 29 #[.slice a n c, .int .i64 k] w fun r w' => r = .returned (.int .i64 (k + 4 * n)) ∧ w'.ownsRow B 37 4 (.slice a n c) n (qv (qmarks k n)) ∧ w.grownBy w' (Value.slice a n c).ownBlock := by
  have hl : xs.length = n := by have := h.1; rw [qv_len] at this; omega
  by_cases hz : n = 0
  · subst hz
    have hx : xs = [] := List.eq_nil_of_length_eq_zero hl
    subst hx
    go_enter Tryz.func29, Tryz.ntmps29
    go_wp2
    go_loop [1, 5] (fun t s => s = .int .i64 0 ∧ t = .int .i64 k) (fun _ _ => 0)
    case atStart => exact ⟨rfl, rfl⟩
    case round =>
      obtain ⟨rfl, rfl⟩ := hrel
      go_wp2
      go_ret
      exact ⟨ret_int (by simp), h, World.grownBy.refl _ _⟩
  · obtain ⟨g, rfl, hgB, hgw⟩ := own_head h (by omega)
    go_enter Tryz.func29, Tryz.ntmps29
    go_wp2
    go_loopw [1, 5] (fun t s wr => ∃ i : Nat, i ≤ n ∧ s = .int .i64 i ∧ t = .int .i64 (k + 4 * i) ∧ wr.ownsRow B 37 4 (.slice (some ⟨g, 0, none⟩) n c) n (qv (qmarks k i ++ xs.drop i)) ∧ w.grownBy wr (some g)) (fun _ s _ => n - (intOf s).toNat)
    case atStart => exact ⟨0, Nat.zero_le _, rfl, by simp, by simpa [qmarks] using h, World.grownBy.refl _ _⟩
    case round =>
      obtain ⟨i, hi, rfl, rfl, hown, hgr⟩ := hrel
      by_cases hlt : i < n
      · have hyl := hown.1
        obtain ⟨o0, ho0⟩ : ∃ o, wr.cell? ⟨g, i * 4, none⟩ = some o := ⟨_, by rw [hown.cellAt _ (by omega)]; exact List.getElem?_eq_getElem (by omega)⟩
        obtain ⟨o1, ho1⟩ : ∃ o, wr.cell? ⟨g, i * 4 + 1, none⟩ = some o := ⟨_, by rw [hown.cellAt _ (by omega)]; exact List.getElem?_eq_getElem (by omega)⟩
        obtain ⟨o2, ho2⟩ : ∃ o, wr.cell? ⟨g, i * 4 + 2, none⟩ = some o := ⟨_, by rw [hown.cellAt _ (by omega)]; exact List.getElem?_eq_getElem (by omega)⟩
        obtain ⟨o3, ho3⟩ : ∃ o, wr.cell? ⟨g, i * 4 + 3, none⟩ = some o := ⟨_, by rw [hown.cellAt _ (by omega)]; exact List.getElem?_eq_getElem (by omega)⟩
        have f0 := hown.frozenAt (i * 4)
        have f1 := hown.frozenAt (i * 4 + 1)
        have f2 := hown.frozenAt (i * 4 + 2)
        have f3 := hown.frozenAt (i * 4 + 3)
        have s0 := hown.stored (i * 4) (.int .i64 (k + 4 * i))
        have s1 := s0.1.stored (i * 4 + 1) (.int .i64 (k + 4 * i + 1))
        have s2 := s1.1.stored (i * 4 + 2) (.int .i64 (k + 4 * i + 1 + 1))
        have s3 := s2.1.stored (i * 4 + 3) (.int .i64 (k + 4 * i + 1 + 1 + 1))
        have e := Lib.hid (qmarks_step (zs := xs) (k := k) (i := i) (by omega))
        have e3 := Lib.hid (qv_set4 (qmarks k i ++ xs.drop i) i (k + 4 * i) (k + 4 * i + 1) (k + 4 * i + 1 + 1) (k + 4 * i + 1 + 1 + 1) (by simp [qmarks_len]; omega))
        clear hown h hl hyl
        go_wp2
        go_roundw
        case rel =>
          refine ⟨i + 1, by omega, by go_num, congrArg (Value.int .i64) (by omega), ?_, grown_trans hgr (grown_trans s0.2 (grown_trans s1.2 (grown_trans s2.2 s3.2)))⟩
          have h1 := s3.1
          rw [e3.out, e.out] at h1
          exact h1
        case measure => simp [intOf]; omega
      · have hin : i = n := by omega
        have e : qmarks k i ++ xs.drop i = qmarks k n := by rw [hin, List.drop_of_length_le (by omega), List.append_nil]
        have E := Lib.hid e
        have HN := Lib.hid hin
        clear e hin
        go_wp2
        go_ret
        exact ⟨ret_int (by rw [HN.out]), by rw [← E.out]; exact hown, hgr⟩
set_option maxHeartbeats 1000000 in
theorem heldSpotS_any (a : Option Addr) (n c : Nat) (k : Int) (hn : n ≤ 1073741824) (hk0 : 0 ≤ k) (hk1 : k ≤ 1073741824) (w : World) (h : Reads w a 4 n (qv (qmarks k n))) :
    Calls Tryz.prog 30 #[.slice a n c, .int .i64 k] w fun r w' => r = .returned (.int .i64 (k + 4 * n)) ∧ w = w' := by
  go_enter Tryz.func30, Tryz.ntmps30
  go_wp2
  go_loop [1, 5] (fun t s => ∃ i : Nat, i ≤ n ∧ s = .int .i64 i ∧ t = .int .i64 (k + 4 * i)) (fun _ s => n - (intOf s).toNat)
  case atStart => exact ⟨0, Nat.zero_le _, rfl, by simp⟩
  case round =>
    obtain ⟨i, hi, rfl, rfl⟩ := hrel
    by_cases hlt : i < n
    · obtain ⟨b, off, rfl, hp0, hp1, hp2, hp3⟩ := h.quad hlt
      rw [qmarks_at hlt] at hp0 hp1 hp2 hp3
      clear h
      go_wp2
      go_round
      case rel => exact ⟨i + 1, by omega, by go_num, congrArg (Value.int .i64) (by omega)⟩
      case measure => simp [intOf]; omega
    · have hin := Lib.hid (show i = n by omega)
      go_wp2
      go_ret
      exact ⟨ret_int (by rw [hin.out]), rfl⟩

end Go.Proofs.YtngbdopgdcjdeaaGreat
