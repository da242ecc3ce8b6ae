/-
  Pairs of rays that meet when one star is moved: what both sides list.
-/
import Derived.Test.YtlkhjedlokklaaaScale
import Derived.Test.YtlkhjedlokklaaaRay2
import Derived.Test.YtlkhjedlokklaaaRay3
namespace Go.Proofs.Ytlkhjedlokklaaa
open Go.RowKit

/-- No ray, among the first k, runs along (p, q). -/
def freeTo (zs : List (Int × Int × Int)) (p q : Int) : Nat → Bool
  | 0 => true
  | k + 1 => freeTo zs p q k && (detI (tat zs k).1 (tat zs k).2.1 p q != 0)
theorem freeTo_bad {zs : List (Int × Int × Int)} {p q : Int} {k : Nat} (h : (detI (tat zs k).1 (tat zs k).2.1 p q != 0) = false) : ∀ n, k < n → freeTo zs p q n = false
  | 0, hn => by omega
  | n + 1, hn => by
    rcases Nat.lt_or_ge k n with hlt | hge
    · simp [freeTo, freeTo_bad h n hlt]
    · obtain rfl : k = n := by omega
      simp only [freeTo, h, Bool.and_false]
theorem free_det {x y p q : Int} : (detI x y p q != 0) = false ↔ p * y = q * x := by
  simp only [detI, bne_eq_false_iff_eq]
  rw [Int.mul_comm p y, Int.mul_comm q x]
  omega

set_option maxHeartbeats 1000000 in
theorem mtFree_any (a : Option Addr) (n c : Nat) (zs : List (Int × Int × Int)) (p q : Int) (hs : Small zs) (hp : -1000 ≤ p ∧ p ≤ 1000) (hq : -1000 ≤ q ∧ q ≤ 1000) (w : World) (h : Reads w a 3 n (tv zs)) :
    Calls Try.prog 97 #[.slice a n c, .int .i64 p, .int .i64 q] w fun r w' => r = .returned (.bool (freeTo zs p q n)) ∧ Ext w w' := by
  have hl : zs.length = n := by have := h.1; rw [tv_len] at this; omega
  have hn : n ≤ 10 := by have := hs.1; omega
  go_enter Try.func97, Try.ntmps97
  go_wp2
  go_loopw [11] (fun t wr => ∃ k : Nat, k ≤ n ∧ t = .int .i64 k ∧ freeTo zs p q k = true ∧ Ext w wr) (fun t _ => n - (intOf t).toNat)
  case atStart => exact ⟨0, Nat.zero_le _, rfl, rfl, (by repeat (first | exact Ext.refl _ | assumption | apply Ext.alloc | apply Ext.drew | apply Ext.drewN | (refine Ext.trans ?_ (by assumption)) | (refine Ext.setCell ?_ (by simp; done) _) | (refine Ext.setCell ?_ (by simp; omega) _)))⟩
  case round =>
    obtain ⟨k, hk, rfl, hok, hbr⟩ := hrel
    have hbw : Ext w wr := hbr
    by_cases hlt : k < n
    · obtain ⟨b, off, rfl, hp0, hp1, hp2⟩ := (Reads.ext hbw h).tri hlt
      have HN := Lib.hid (fun e : (detI (tat zs k).1 (tat zs k).2.1 p q != 0) = false => show freeTo zs p q n = false from freeTo_bad e n hlt)
      have HY := Lib.hid (fun e : (detI (tat zs k).1 (tat zs k).2.1 p q != 0) = true => show freeTo zs p q (k + 1) = true by simp only [freeTo]; rw [hok, e]; rfl)
      have hb := hs.2 k (by omega)
      have P1 := mul_bd hp.1 hp.2 hb.2.1.1 hb.2.1.2
      have P2 := mul_bd hq.1 hq.2 hb.1.1 hb.1.2
      generalize (tat zs k).1 = x at *
      generalize (tat zs k).2.1 = y at *
      generalize (tat zs k).2.2 = z at *
      clear h hs hok hl
      cases hd : (detI x y p q != 0)
      · have hpq := free_det.1 hd
        have hf := HN.out hd
        clear HN HY hd
        have hE : Ext wr wr := Ext.refl _
        have hT : Ext wr (wr.alloc (.cells #[.int .i64 x, .int .i64 y, .int .i64 z] 34)) := Ext.alloc hE _
        have HR := Has.new wr #[.int .i64 x, .int .i64 y, .int .i64 z] 34
        have Rc0 := Ext.keeps (HR 0 _ rfl)
        have Rc1 := Ext.keeps (HR 1 _ rfl)
        have Rc2 := Ext.keeps (HR 2 _ rfl)
        clear HR
        replace hE : Ext (wr.alloc (.cells #[.int .i64 x, .int .i64 y, .int .i64 z] 34)) (wr.alloc (.cells #[.int .i64 x, .int .i64 y, .int .i64 z] 34)) := Ext.refl _
        go_wp2
        go_ret
        exact ⟨ret_bool (by rw [hf]), hbw.trans (by repeat (first | exact Ext.refl _ | assumption | apply Ext.alloc | apply Ext.drew | apply Ext.drewN | (refine Ext.trans ?_ (by assumption)) | (refine Ext.setCell ?_ (by simp; done) _) | (refine Ext.setCell ?_ (by simp; omega) _)))⟩
      · have hpq : ¬ p * y = q * x := fun e => by rw [free_det.2 e] at hd; cases hd
        have hf := HY.out hd
        clear HN HY hd
        have hE : Ext wr wr := Ext.refl _
        have hT : Ext wr (wr.alloc (.cells #[.int .i64 x, .int .i64 y, .int .i64 z] 34)) := Ext.alloc hE _
        have HR := Has.new wr #[.int .i64 x, .int .i64 y, .int .i64 z] 34
        have Rc0 := Ext.keeps (HR 0 _ rfl)
        have Rc1 := Ext.keeps (HR 1 _ rfl)
        have Rc2 := Ext.keeps (HR 2 _ rfl)
        clear HR
        replace hE : Ext (wr.alloc (.cells #[.int .i64 x, .int .i64 y, .int .i64 z] 34)) (wr.alloc (.cells #[.int .i64 x, .int .i64 y, .int .i64 z] 34)) := Ext.refl _
        go_wp2
        go_roundw
        case rel => exact ⟨k + 1, by omega, by go_num, hf, hbr.trans (by repeat (first | exact Ext.refl _ | assumption | apply Ext.alloc | apply Ext.drew | apply Ext.drewN | (refine Ext.trans ?_ (by assumption)) | (refine Ext.setCell ?_ (by simp; done) _) | (refine Ext.setCell ?_ (by simp; omega) _)))⟩
        case measure => simp [intOf]; omega
    · obtain rfl : n = k := by omega
      go_wp2
      go_ret
      exact ⟨ret_bool (by rw [hok]), hbw⟩

set_option maxHeartbeats 1000000 in
theorem isGeneral_any (a : Option Addr) (n c : Nat) (zs : List (Int × Int × Int)) (p q : Int) (hs : Small zs) (hp : -1000 ≤ p ∧ p ≤ 1000) (hq : -1000 ≤ q ∧ q ≤ 1000) (w : World) (h : Reads w a 3 n (tv zs)) :
    Calls Try.prog 101 #[.slice a n c, .agg #[.int .i64 p, .int .i64 q]] w fun r w' => r = .returned (.bool (freeTo zs p q n)) ∧ Ext w w' := by
  have hl : zs.length = n := by have := h.1; rw [tv_len] at this; omega
  have hn : n ≤ 10 := by have := hs.1; omega
  go_enter Try.func101, Try.ntmps101
  go_wp2
  go_loopw [9] (fun t wr => ∃ k : Nat, k ≤ n ∧ t = .int .i64 k ∧ freeTo zs p q k = true ∧ Ext (w.alloc (.cells #[.int .i64 p, .int .i64 q] 73)) wr) (fun t _ => n - (intOf t).toNat)
  case atStart => exact ⟨0, Nat.zero_le _, rfl, rfl, (by repeat (first | exact Ext.refl _ | assumption | apply Ext.alloc | apply Ext.drew | apply Ext.drewN | (refine Ext.trans ?_ (by assumption)) | (refine Ext.setCell ?_ (by simp; done) _) | (refine Ext.setCell ?_ (by simp; omega) _)))⟩
  case round =>
    obtain ⟨k, hk, rfl, hok, hbr⟩ := hrel
    have hbw : Ext w wr := ((Ext.refl w).alloc _).trans hbr
    by_cases hlt : k < n
    · obtain ⟨b, off, rfl, hp0, hp1, hp2⟩ := (Reads.ext hbw h).tri hlt
      have HN := Lib.hid (fun e : (detI (tat zs k).1 (tat zs k).2.1 p q != 0) = false => show freeTo zs p q n = false from freeTo_bad e n hlt)
      have HY := Lib.hid (fun e : (detI (tat zs k).1 (tat zs k).2.1 p q != 0) = true => show freeTo zs p q (k + 1) = true by simp only [freeTo]; rw [hok, e]; rfl)
      have hb := hs.2 k (by omega)
      have P1 := mul_bd hp.1 hp.2 hb.2.1.1 hb.2.1.2
      have P2 := mul_bd hq.1 hq.2 hb.1.1 hb.1.2
      generalize (tat zs k).1 = x at *
      generalize (tat zs k).2.1 = y at *
      generalize (tat zs k).2.2 = z at *
      clear h hs hok hl
      have HM := Has.new w #[.int .i64 p, .int .i64 q] 73
      have Mc0 := Ext.keeps (Ext.keeps (HM 0 _ rfl) _ hbr)
      have Mc1 := Ext.keeps (Ext.keeps (HM 1 _ rfl) _ hbr)
      clear HM
      have hE : Ext wr wr := Ext.refl _
      have hT : Ext wr (wr.alloc (.cells #[.int .i64 x, .int .i64 y, .int .i64 z] 34)) := Ext.alloc hE _
      replace Mc0 := Ext.rebase hT Mc0
      replace Mc1 := Ext.rebase hT Mc1
      have HR := Has.new wr #[.int .i64 x, .int .i64 y, .int .i64 z] 34
      have Rc0 := Ext.keeps (HR 0 _ rfl)
      have Rc1 := Ext.keeps (HR 1 _ rfl)
      have Rc2 := Ext.keeps (HR 2 _ rfl)
      clear HR
      replace hE : Ext (wr.alloc (.cells #[.int .i64 x, .int .i64 y, .int .i64 z] 34)) (wr.alloc (.cells #[.int .i64 x, .int .i64 y, .int .i64 z] 34)) := Ext.refl _
      cases hd : (detI x y p q != 0)
      · have hz : detI x y p q = 0 := by simpa using hd
        have hf := HN.out hd
        clear HN HY hd
        go_wp2
        have qM0 := fun s : Past (wr.alloc (.cells #[.int .i64 x, .int .i64 y, .int .i64 z] 34)) => Mc0 s.w s.ext
        have qM1 := fun s : Past (wr.alloc (.cells #[.int .i64 x, .int .i64 y, .int .i64 z] 34)) => Mc1 s.w s.ext
        have qR0 := fun s : Past (wr.alloc (.cells #[.int .i64 x, .int .i64 y, .int .i64 z] 34)) => Rc0 s.w s.ext
        have qR1 := fun s : Past (wr.alloc (.cells #[.int .i64 x, .int .i64 y, .int .i64 z] 34)) => Rc1 s.w s.ext
        have qR2 := fun s : Past (wr.alloc (.cells #[.int .i64 x, .int .i64 y, .int .i64 z] 34)) => Rc2 s.w s.ext
        refine wp_region_past (wr.alloc (.cells #[.int .i64 x, .int .i64 y, .int .i64 z] 34)) (by first | exact hE | exact Ext.alloc hE _ | exact Ext.drew hE | exact Ext.drewN hE _) (by kernel_rfl) (by kernel_rfl) ?_
        repeat (go_big_quiet_step ((first | (go_at_call 110; exact past_ext (steps_any _ _ _ _)) | (go_at_call 114; exact past_ext (cross_any _ _ _ _ (by omega) (by omega) (by omega) (by omega) (by omega) (by omega) (by omega) (by omega) _)))))
        refine wpQuiet_nil ?_
        intro _ hw'
        obtain ⟨⟨w1, hE⟩, hw''⟩ := hw'
        subst hw''
        clear qM0 qM1 qR0 qR1 qR2
        go_wp2
        go_ret
        exact ⟨ret_bool (by rw [hf]), hbw.trans (by repeat (first | exact Ext.refl _ | assumption | apply Ext.alloc | apply Ext.drew | apply Ext.drewN | (refine Ext.trans ?_ (by assumption)) | (refine Ext.setCell ?_ (by simp; done) _) | (refine Ext.setCell ?_ (by simp; omega) _)))⟩
      · have hz : ¬ detI x y p q = 0 := by simpa using hd
        have hf := HY.out hd
        clear HN HY hd
        go_wp2
        have qM0 := fun s : Past (wr.alloc (.cells #[.int .i64 x, .int .i64 y, .int .i64 z] 34)) => Mc0 s.w s.ext
        have qM1 := fun s : Past (wr.alloc (.cells #[.int .i64 x, .int .i64 y, .int .i64 z] 34)) => Mc1 s.w s.ext
        have qR0 := fun s : Past (wr.alloc (.cells #[.int .i64 x, .int .i64 y, .int .i64 z] 34)) => Rc0 s.w s.ext
        have qR1 := fun s : Past (wr.alloc (.cells #[.int .i64 x, .int .i64 y, .int .i64 z] 34)) => Rc1 s.w s.ext
        have qR2 := fun s : Past (wr.alloc (.cells #[.int .i64 x, .int .i64 y, .int .i64 z] 34)) => Rc2 s.w s.ext
        refine wp_region_past (wr.alloc (.cells #[.int .i64 x, .int .i64 y, .int .i64 z] 34)) (by first | exact hE | exact Ext.alloc hE _ | exact Ext.drew hE | exact Ext.drewN hE _) (by kernel_rfl) (by kernel_rfl) ?_
        repeat (go_big_quiet_step ((first | (go_at_call 110; exact past_ext (steps_any _ _ _ _)) | (go_at_call 114; exact past_ext (cross_any _ _ _ _ (by omega) (by omega) (by omega) (by omega) (by omega) (by omega) (by omega) (by omega) _)))))
        refine wpQuiet_nil ?_
        intro _ hw'
        obtain ⟨⟨w1, hE⟩, hw''⟩ := hw'
        subst hw''
        clear qM0 qM1 qR0 qR1 qR2
        go_wp2
        go_roundw
        case rel => exact ⟨k + 1, by omega, by go_num, hf, hbr.trans (by repeat (first | exact Ext.refl _ | assumption | apply Ext.alloc | apply Ext.drew | apply Ext.drewN | (refine Ext.trans ?_ (by assumption)) | (refine Ext.setCell ?_ (by simp; done) _) | (refine Ext.setCell ?_ (by simp; omega) _)))⟩
        case measure => simp [intOf]; omega
    · obtain rfl : n = k := by omega
      go_wp2
      go_ret
      exact ⟨ret_bool (by rw [hok]), hbw⟩

theorem ints_info : (Try.prog.info? 52).map (fun i => (i.zero, i.size, i.bytes)) = some (some (.slice none 0 0), 1, 24) := by kernel_rfl

/-- The pairs of places. -/
def rowP (x y : Int) (ys : List (Int × Int × Int)) (p q : Int) (i : Nat) : Nat → List (Nat × Nat)
  | 0 => []
  | j + 1 => if meetB x y (tat ys j).1 (tat ys j).2.1 p q then rowP x y ys p q i j ++ [(i, j)] else rowP x y ys p q i j
def allP (xs ys : List (Int × Int × Int)) (p q : Int) : Nat → List (Nat × Nat)
  | 0 => []
  | i + 1 => allP xs ys p q i ++ rowP (tat xs i).1 (tat xs i).2.1 ys p q i ys.length
theorem rowP_le (x y : Int) (ys : List (Int × Int × Int)) (p q : Int) (i : Nat) : ∀ j, (rowP x y ys p q i j).length ≤ j
  | 0 => Nat.le_refl _
  | j + 1 => by
    have := rowP_le x y ys p q i j
    unfold rowP
    split <;> simp <;> omega
theorem allP_le (xs ys : List (Int × Int × Int)) (p q : Int) : ∀ i, (allP xs ys p q i).length ≤ i * ys.length
  | 0 => by simp [allP]
  | i + 1 => by
    have h1 := allP_le xs ys p q i
    have h2 := rowP_le (tat xs i).1 (tat xs i).2.1 ys p q i ys.length
    rw [Nat.succ_mul]
    simp [allP]
    omega
theorem rowP_mem (x y : Int) (ys : List (Int × Int × Int)) (p q : Int) (i : Nat) : ∀ j (r : Nat × Nat), r ∈ rowP x y ys p q i j → r.1 = i ∧ r.2 < j
  | 0, r, h => by simp [rowP] at h
  | j + 1, r, h => by
    unfold rowP at h
    split at h
    · rcases List.mem_append.1 h with h | h
      · have := rowP_mem x y ys p q i j r h
        omega
      · simp at h
        subst h
        simp
    · have := rowP_mem x y ys p q i j r h
      omega
theorem allP_mem (xs ys : List (Int × Int × Int)) (p q : Int) : ∀ i (r : Nat × Nat), r ∈ allP xs ys p q i → r.1 < i ∧ r.2 < ys.length
  | 0, r, h => by simp [allP] at h
  | i + 1, r, h => by
    unfold allP at h
    rcases List.mem_append.1 h with h | h
    · have := allP_mem xs ys p q i r h
      omega
    · have := rowP_mem _ _ _ _ _ _ _ r h
      omega
def pv (gs : List Nat) : List Value := gs.map fun g => .slice (some ⟨g, 0, none⟩) 2 2
/-- A slice of pairs that the call has made. -/
def OwnP (w : World) (B : Nat) (v : Value) (ps : List (Nat × Nat)) : Prop :=
  ∃ gs : List Nat, gs.length = ps.length ∧ w.ownsRow B 52 1 v ps.length (pv gs) ∧
    ∀ (t g : Nat) (r : Nat × Nat), gs[t]? = some g → ps[t]? = some r → w.cell? ⟨g, 0, none⟩ = some (.int .i64 (r.1 : Int)) ∧ w.cell? ⟨g, 1, none⟩ = some (.int .i64 (r.2 : Int))
theorem OwnP.ext {w w' : World} {B : Nat} {v : Value} {ps : List (Nat × Nat)} (h : Ext w w') (k : OwnP w B v ps) : OwnP w' B v ps := by
  obtain ⟨gs, hl, ho, hc⟩ := k
  exact ⟨gs, hl, own_ext h ho, fun t g r h1 h2 => ⟨h.keep (hc t g r h1 h2).1, h.keep (hc t g r h1 h2).2⟩⟩
theorem OwnP.none (w : World) (B : Nat) : OwnP w B (.slice Option.none 0 0) [] := ⟨[], rfl, ⟨rfl, .inl ⟨rfl, rfl⟩⟩, fun t g r h => by simp at h⟩
theorem grown_cell {w w' : World} {row : Option Nat} {g o : Nat} {u : Value} (hg : w.grownBy w' row) (hc : w.cell? ⟨g, o, Option.none⟩ = some u) (hne : row ≠ some g) : w'.cell? ⟨g, o, Option.none⟩ = some u := by
  have hlt : g < w.heap.size := by
    rcases Nat.lt_or_ge g w.heap.size with h | h
    · exact h
    · simp [World.cell?, Array.getElem?_eq_none h] at hc
  rw [← hc]
  simp only [World.cell?, hg.block g hlt (Ne.symm hne)]

/-- A box that the slice's own row is not. -/
def Apart (w : World) (v : Value) (b : Nat) (l : List Value) : Prop := Has w b l ∧ v.ownBlock ≠ some b
theorem Apart.ext {w w' : World} {v : Value} {b : Nat} {l : List Value} (h : Ext w w') (k : Apart w v b l) : Apart w' v b l := ⟨Has.ext h k.1, k.2⟩
theorem OwnP.apart {w : World} {B : Nat} {v : Value} {ps : List (Nat × Nat)} (k : OwnP w B v ps) {b : Nat} (h : w.heap.size ≤ b) : v.ownBlock ≠ some b := fun e => by
  obtain ⟨gs, _, ho, _⟩ := k
  have := (ho.lt b e).2
  omega

/-- 'append(out, [][]int(i, j))' of pairs. -/
theorem wpList_appP {w : World} {ops : Array Oper} {rest : List Oper} {o : Oper} {a : Act} {Q : Exit → Act → World → Prop} (hgd : o.guard = none) (s x : Operand)
    (ho : o.op = .call { callee := .builtin .append, args := #[s, x], argTypes := #[86, 86] })
    (W : World) (base : Nat) (a0 : Option Addr) (n c : Nat) (ps : List (Nat × Nat)) (hnl : ps.length = n) (hs : a.eval s = .slice a0 n c) (hown : OwnP w base (.slice a0 n c) ps)
    (i j g ad : Nat) (hx : a.eval x = .slice (some ⟨ad, 0, none⟩) 1 1) (hc : w.cell? ⟨ad, 0, none⟩ = some (.slice (some ⟨g, 0, none⟩) 2 2))
    (h0 : w.cell? ⟨g, 0, none⟩ = some (.int .i64 (i : Int))) (h1 : w.cell? ⟨g, 1, none⟩ = some (.int .i64 (j : Int))) (hne : ∀ q, (Value.slice a0 n c).ownBlock = some q → q ≠ g)
    (hn : n ≤ 1048576) (hb : base ≤ w.heap.size) (hE : Ext W w) (hW : W.heap.size ≤ base)
    (h : ∀ a1 c1 w', OwnP w' base (.slice a1 (n + 1) c1) (ps ++ [(i, j)]) → Ext W w' → (∀ b z l, Apart w (.slice a0 n c) b (.int .i64 z :: l) → Apart w' (.slice a1 (n + 1) c1) b (.int .i64 z :: l)) → wpList Try.prog ops Q rest (a.put o.dst (.slice a1 (n + 1) c1)) w') :
    wpList Try.prog ops Q (o :: rest) a w := by
  obtain ⟨i0, hi, hz0, hz1, hz2⟩ := info_parts ints_info
  obtain ⟨gs, hgl, hrow, hcells⟩ := hown
  rw [hnl] at hrow hgl
  refine wpList_append_own w hgd s x 86 ho base 52 i0 (.slice none 0 0) 1 24 Try.underlying86 hi hz0 hz1 hz2 rfl (by decide) _ n (pv gs) hs hrow ⟨ad, 0, none⟩ 1 1 [.slice (some ⟨g, 0, none⟩) 2 2] hx rfl ?_ ?_ ?_ ?_ hb ?_
  · intro j u hj
    match j, hj with
    | 0, hj => simp at hj; subst hj; simpa [Addr.add] using hc
  · intro u hu; simp at hu; subst hu; rfl
  · unfold maxLen; omega
  · omega
  · intro v' w' k1 k2 _
    obtain ⟨a1, c1, rfl⟩ := own_form k1
    refine h a1 c1 w' ⟨gs ++ [g], by simp [hgl, hnl], ?_, fun t g' r e1 e2 => ?_⟩ (hE.grown k2 fun k hk => Nat.le_trans hW (hrow.lt k hk).1) (fun b z l hap => ⟨fun i u hu => grown_cell k2 (hap.1 i u hu) hap.2, fun e => ?_⟩)
    · have e : (ps ++ [(i, j)]).length = n + 1 := by simp [hnl]
      rw [e]
      simpa [pv] using k1
    · by_cases ht : t < n
      · rw [List.getElem?_append_left (by omega)] at e1 e2
        have hcc := hcells t g' r e1 e2
        have hgne : (Value.slice a0 n c).ownBlock ≠ some g' := by
          intro e
          obtain ⟨g1, hg1, _⟩ := own_head hrow (by omega)
          subst hg1
          simp [Value.ownBlock] at e
          subst e
          have := hrow.cellAt 0 (by omega)
          rw [hcc.1] at this
          cases hgs : gs with
          | nil => rw [hgs] at hgl; simp at hgl; omega
          | cons y ys => rw [hgs] at this; simp [pv] at this
        exact ⟨grown_cell k2 hcc.1 hgne, grown_cell k2 hcc.2 hgne⟩
      · have ht2 : t = n := by
          have := (List.getElem?_eq_some_iff.1 e1).1
          simp at this
          omega
        subst ht2
        have e3 : g = g' := by
          rw [List.getElem?_append_right (by omega), hgl, Nat.sub_self] at e1
          simpa using e1
        have e4 : (i, j) = r := by
          rw [List.getElem?_append_right (by omega), hnl, Nat.sub_self] at e2
          simpa using e2
        subst e3
        subst e4
        have hgne : (Value.slice a0 t c).ownBlock ≠ some g := fun e => hne _ e rfl
        exact ⟨grown_cell k2 h0 hgne, grown_cell k2 h1 hgne⟩
    · obtain ⟨g1, hg1, _⟩ := own_head k1 (by omega)
      subst hg1
      simp [Value.ownBlock] at e
      subst e
      have h2 := k1.cellAt 0 (by omega)
      rw [grown_cell k2 (hap.1 0 _ rfl) hap.2] at h2
      cases gs with
      | nil => simp [pv] at h2
      | cons y ys => simp [pv] at h2

set_option maxHeartbeats 4000000 in
theorem mtPairs_any (a b : Option Addr) (n m c d : Nat) (xs ys : List (Int × Int × Int)) (p q : Int) (hsx : Small xs) (hsy : Small ys) (hp : -1000 ≤ p ∧ p ≤ 1000) (hq : -1000 ≤ q ∧ q ≤ 1000) (w : World) (h : Reads w a 3 n (tv xs)) (h' : Reads w b 3 m (tv ys)) :
    Calls Try.prog 98 #[.slice a n c, .slice b m d, .int .i64 p, .int .i64 q] w fun r w' => ∃ a1 c1, r = .returned (.slice a1 (allP xs ys p q n).length c1) ∧ OwnP w' w.heap.size (.slice a1 (allP xs ys p q n).length c1) (allP xs ys p q n) ∧ Ext w w' := by
  have hl : xs.length = n := by have := h.1; rw [tv_len] at this; omega
  have hl' : ys.length = m := by have := h'.1; rw [tv_len] at this; omega
  have hn : n ≤ 10 := by have := hsx.1; omega
  have hm : m ≤ 10 := by have := hsy.1; omega
  go_enter Try.func98, Try.ntmps98
  go_wp2
  go_loopw [9, 16] (fun s t wr => ∃ (i : Nat) (a1 : Option Addr) (c1 : Nat), i ≤ n ∧ t = .int .i64 i ∧ s = .slice a1 (allP xs ys p q i).length c1 ∧ OwnP wr w.heap.size (.slice a1 (allP xs ys p q i).length c1) (allP xs ys p q i) ∧ Ext w wr) (fun _ t _ => n - (intOf t).toNat)
  case atStart => exact ⟨0, none, 0, Nat.zero_le _, rfl, rfl, OwnP.none _ _, Ext.refl _⟩
  case round =>
    obtain ⟨i, a1, c1, hi, rfl, rfl, hown, hbr⟩ := hrel
    obtain ⟨wo, hwo⟩ : ∃ wo, wo = wr := ⟨_, rfl⟩
    subst hwo
    have hbw : Ext w wo := hbr
    by_cases hlt : i < n
    · obtain ⟨bx, ox, rfl, hp0, hp1, hp2⟩ := (Reads.ext hbw h).tri hlt
      have hb := hsx.2 i (by omega)
      have HA := Lib.hid (show allP xs ys p q (i + 1) = allP xs ys p q i ++ rowP (tat xs i).1 (tat xs i).2.1 ys p q i ys.length from rfl)
      have hLi := allP_le xs ys p q i
      generalize (tat xs i).1 = x at *
      generalize (tat xs i).2.1 = y at *
      generalize (tat xs i).2.2 = z at *
      have hL100 : (allP xs ys p q i).length ≤ 100 := Nat.le_trans hLi (by rw [hl']; exact Nat.mul_le_mul (by omega : i ≤ 10) hm)
      generalize allP xs ys p q i = ps at hown HA hL100
      clear hLi h
      have hE : Ext wo wo := Ext.refl _
      have hT : Ext wo (wo.alloc (.cells #[.int .i64 x, .int .i64 y, .int .i64 z] 34)) := Ext.alloc hE _
      have HR := Has.new wo #[.int .i64 x, .int .i64 y, .int .i64 z] 34
      have Rc0 := Ext.keeps (HR 0 _ rfl)
      have Rc1 := Ext.keeps (HR 1 _ rfl)
      have Rc2 := Ext.keeps (HR 2 _ rfl)
      clear HR
      replace hE : Ext (wo.alloc (.cells #[.int .i64 x, .int .i64 y, .int .i64 z] 34)) (wo.alloc (.cells #[.int .i64 x, .int .i64 y, .int .i64 z] 34)) := Ext.refl _
      go_wp2
      go_loopw [9, 23] (fun s t wi => ∃ (j : Nat) (a2 : Option Addr) (c2 : Nat), j ≤ m ∧ t = .int .i64 j ∧ s = .slice a2 (ps ++ rowP x y ys p q i j).length c2 ∧ OwnP wi w.heap.size (.slice a2 (ps ++ rowP x y ys p q i j).length c2) (ps ++ rowP x y ys p q i j) ∧ Apart wi (.slice a2 (ps ++ rowP x y ys p q i j).length c2) wo.heap.size [.int .i64 x, .int .i64 y, .int .i64 z] ∧ Ext w wi) (fun _ t _ => m - (intOf t).toNat)
      case atStart => exact ⟨0, a1, c1, Nat.zero_le _, rfl, by simp [rowP], by simpa [rowP] using OwnP.ext ((Ext.refl _).alloc _) hown, ⟨Has.new wo _ _, by simpa [rowP] using hown.apart (Nat.le_refl _)⟩, hbw.alloc _⟩
      case round =>
        clear hown
        obtain ⟨j, a2, c2, hj, rfl, rfl, hown, hap, hbwi⟩ := hrel
        have hsz := hbwi.size
        have hRl := rowP_le x y ys p q i j
        have hlen : (ps ++ rowP x y ys p q i j).length ≤ 110 := by simp; omega
        by_cases hlj : j < m
        · obtain ⟨bj, oj, rfl, hq0, hq1, hq2⟩ := (Reads.ext hbwi h').tri hlj
          have hbj := hsy.2 j (by omega)
          have HP1 := Lib.hid (fun e : meetB x y (tat ys j).1 (tat ys j).2.1 p q = true => show ps ++ rowP x y ys p q i (j + 1) = (ps ++ rowP x y ys p q i j) ++ [(i, j)] by simp [rowP, e])
          have HP2 := Lib.hid (fun e : meetB x y (tat ys j).1 (tat ys j).2.1 p q = false => show ps ++ rowP x y ys p q i (j + 1) = ps ++ rowP x y ys p q i j by simp [rowP, e])
          generalize (tat ys j).1 = u at *
          generalize (tat ys j).2.1 = v at *
          generalize (tat ys j).2.2 = e0 at *
          generalize ps ++ rowP x y ys p q i j = qs at *
          clear h' hl hl' hsx hsy hE hbr hRl Rc0 Rc1 Rc2
          have Rc0 := Ext.keeps (hap.1 0 _ rfl)
          have Rc1 := Ext.keeps (hap.1 1 _ rfl)
          have Rc2 := Ext.keeps (hap.1 2 _ rfl)
          have hE : Ext wr wr := Ext.refl _
          have hT : Ext wr (wr.alloc (.cells #[.int .i64 u, .int .i64 v, .int .i64 e0] 34)) := Ext.alloc hE _
          replace Rc0 := Ext.rebase hT Rc0
          replace Rc1 := Ext.rebase hT Rc1
          replace Rc2 := Ext.rebase hT Rc2
          have HS := Has.new wr #[.int .i64 u, .int .i64 v, .int .i64 e0] 34
          have Sc0 := Ext.keeps (HS 0 _ rfl)
          have Sc1 := Ext.keeps (HS 1 _ rfl)
          have Sc2 := Ext.keeps (HS 2 _ rfl)
          clear HS
          replace hE : Ext (wr.alloc (.cells #[.int .i64 u, .int .i64 v, .int .i64 e0] 34)) (wr.alloc (.cells #[.int .i64 u, .int .i64 v, .int .i64 e0] 34)) := Ext.refl _
          cases hmt : meetB x y u v p q
          · have HP := Lib.hid (HP2.out hmt)
            clear HP1 HP2
            go_wp2_with fail
            refine (mtMeets_any x y z u v e0 p q (by omega) (by omega) (by omega) (by omega) (by omega) (by omega) (by omega) (by omega) (by omega) (by omega) (by omega) (by omega) _).mono ?_
            rw [hmt]
            rintro e w3 ⟨rfl, hb3⟩
            have hE3 : Ext wr w3 := ((Ext.refl wr).alloc _).trans hb3
            have hown3 := OwnP.ext hE3 hown
            have hap3 := Apart.ext hE3 hap
            have HW3 := Lib.hid (hbwi.trans hE3)
            go_wp2
            go_roundw
            case rel => exact ⟨j + 1, a2, c2, by omega, by go_num, by rw [HP.out], by rw [HP.out]; exact hown3, by rw [HP.out]; exact hap3, HW3.out⟩
            case measure => simp [intOf]; omega
          · have HP := Lib.hid (HP1.out hmt)
            clear HP1 HP2
            go_wp2_with fail
            refine (mtMeets_any x y z u v e0 p q (by omega) (by omega) (by omega) (by omega) (by omega) (by omega) (by omega) (by omega) (by omega) (by omega) (by omega) (by omega) _).mono ?_
            rw [hmt]
            rintro e w3 ⟨rfl, hb3⟩
            have hE3 : Ext wr w3 := ((Ext.refl wr).alloc _).trans hb3
            have hown3 := OwnP.ext hE3 hown
            have hap3 := Apart.ext hE3 hap
            have HW3 := Lib.hid (hbwi.trans hE3)
            have hlt3 : ∀ k, (Value.slice a2 qs.length c2).ownBlock = some k → k ≠ w3.heap.size := fun k hk => by
              obtain ⟨gs, _, ho, _⟩ := hown3
              have := (ho.lt k hk).2
              omega
            have hO4 := OwnP.ext (((Ext.refl w3).alloc (.cells #[.int .i64 i, .int .i64 j] 3)).alloc (.cells #[.slice (some ⟨w3.heap.size, 0, none⟩) 2 2] 52)) hown3
            have hs3 := hE3.size
            go_wp2_with (at_builtin; refine wpList_appP rfl _ _ rfl w w.heap.size _ _ _ qs rfl rfl hO4 i j w3.heap.size (w3.heap.size + 1) rfl (by simp) (by simp) (by simp) hlt3 (by omega) ?_ ?_ (Nat.le_refl _) ?_)
            · have := HW3.out.size
              simp
              omega
            · exact (HW3.out.alloc _).alloc _
            · intro a4 c4 w4 hown4 hE4 hK
              have hap4 := hK _ _ _ (Apart.ext (((Ext.refl w3).alloc _).alloc _) hap3)
              clear hK hown hown3 hap hap3 hO4
              go_wp2
              go_roundw
              case rel => exact ⟨j + 1, a4, c4, by omega, by go_num, by rw [HP.out]; simp, by rw [HP.out]; simpa using hown4, by rw [HP.out]; simpa using hap4, hE4⟩
              case measure => simp [intOf]; omega
        · obtain rfl : m = j := by omega
          have e : allP xs ys p q (i + 1) = ps ++ rowP x y ys p q i m := by rw [HA.out, hl']
          go_wp2
          go_roundw
          case rel => exact ⟨i + 1, a2, c2, by omega, by go_num, by rw [e], by rw [e]; exact hown, hbwi⟩
          case measure => simp [intOf]; omega
    · obtain rfl : i = n := by omega
      go_wp2
      go_ret
      exact ⟨a1, c1, rfl, hown, hbw⟩

set_option maxHeartbeats 4000000 in
theorem meetingPairs_any (a b : Option Addr) (n m c d : Nat) (xs ys : List (Int × Int × Int)) (p q : Int) (hsx : Small xs) (hsy : Small ys) (hp : -1000 ≤ p ∧ p ≤ 1000) (hq : -1000 ≤ q ∧ q ≤ 1000) (w : World) (h : Reads w a 3 n (tv xs)) (h' : Reads w b 3 m (tv ys)) :
    Calls Try.prog 102 #[.slice a n c, .slice b m d, .agg #[.int .i64 p, .int .i64 q]] w fun r w' => ∃ a1 c1, r = .returned (.slice a1 (allP xs ys p q n).length c1) ∧ OwnP w' w.heap.size (.slice a1 (allP xs ys p q n).length c1) (allP xs ys p q n) ∧ Ext w w' := by
  have hl : xs.length = n := by have := h.1; rw [tv_len] at this; omega
  have hl' : ys.length = m := by have := h'.1; rw [tv_len] at this; omega
  have hn : n ≤ 10 := by have := hsx.1; omega
  have hm : m ≤ 10 := by have := hsy.1; omega
  go_enter Try.func102, Try.ntmps102
  go_wp2
  go_loopw [7, 15] (fun s t wr => ∃ (i : Nat) (a1 : Option Addr) (c1 : Nat), i ≤ n ∧ t = .int .i64 i ∧ s = .slice a1 (allP xs ys p q i).length c1 ∧ OwnP wr w.heap.size (.slice a1 (allP xs ys p q i).length c1) (allP xs ys p q i) ∧ Apart wr (.slice a1 (allP xs ys p q i).length c1) w.heap.size [.int .i64 p, .int .i64 q] ∧ Ext w wr) (fun _ t _ => n - (intOf t).toNat)
  case atStart => 
    refine ⟨0, some ⟨w.heap.size + 1, 0, none⟩, 0, Nat.zero_le _, rfl, rfl, ⟨[], rfl, ?_, fun t g r h => by simp at h⟩, ⟨Has.alloc (Has.new w #[.int .i64 p, .int .i64 q] 73) _, by simp [Value.ownBlock]⟩, ((Ext.refl _).alloc _).alloc _⟩
    have e := World.ownsRow_lit (base := w.heap.size) (e := 52) (size := 1) (w.alloc (.cells #[.int .i64 p, .int .i64 q] 73)) #[] 0 (by simp) (by unfold maxLen; omega) rfl
    rw [World.size_alloc] at e
    exact e
  case round =>
    obtain ⟨i, a1, c1, hi, rfl, rfl, hown, hapM, hbr⟩ := hrel
    obtain ⟨wo, hwo⟩ : ∃ wo, wo = wr := ⟨_, rfl⟩
    subst hwo
    have hbw : Ext w wo := hbr
    by_cases hlt : i < n
    · obtain ⟨bx, ox, rfl, hp0, hp1, hp2⟩ := (Reads.ext hbw h).tri hlt
      have hb := hsx.2 i (by omega)
      have HA := Lib.hid (show allP xs ys p q (i + 1) = allP xs ys p q i ++ rowP (tat xs i).1 (tat xs i).2.1 ys p q i ys.length from rfl)
      have hLi := allP_le xs ys p q i
      generalize (tat xs i).1 = x at *
      generalize (tat xs i).2.1 = y at *
      generalize (tat xs i).2.2 = z at *
      have hL100 : (allP xs ys p q i).length ≤ 100 := Nat.le_trans hLi (by rw [hl']; exact Nat.mul_le_mul (by omega : i ≤ 10) hm)
      generalize allP xs ys p q i = ps at hown HA hL100 hapM
      clear hLi h
      have hE : Ext wo wo := Ext.refl _
      have hT : Ext wo (wo.alloc (.cells #[.int .i64 x, .int .i64 y, .int .i64 z] 34)) := Ext.alloc hE _
      have HR := Has.new wo #[.int .i64 x, .int .i64 y, .int .i64 z] 34
      have Rc0 := Ext.keeps (HR 0 _ rfl)
      have Rc1 := Ext.keeps (HR 1 _ rfl)
      have Rc2 := Ext.keeps (HR 2 _ rfl)
      clear HR
      replace hE : Ext (wo.alloc (.cells #[.int .i64 x, .int .i64 y, .int .i64 z] 34)) (wo.alloc (.cells #[.int .i64 x, .int .i64 y, .int .i64 z] 34)) := Ext.refl _
      go_wp2
      go_loopw [7, 22] (fun s t wi => ∃ (j : Nat) (a2 : Option Addr) (c2 : Nat), j ≤ m ∧ t = .int .i64 j ∧ s = .slice a2 (ps ++ rowP x y ys p q i j).length c2 ∧ OwnP wi w.heap.size (.slice a2 (ps ++ rowP x y ys p q i j).length c2) (ps ++ rowP x y ys p q i j) ∧ Apart wi (.slice a2 (ps ++ rowP x y ys p q i j).length c2) wo.heap.size [.int .i64 x, .int .i64 y, .int .i64 z] ∧ Apart wi (.slice a2 (ps ++ rowP x y ys p q i j).length c2) w.heap.size [.int .i64 p, .int .i64 q] ∧ Ext w wi) (fun _ t _ => m - (intOf t).toNat)
      case atStart => exact ⟨0, a1, c1, Nat.zero_le _, rfl, by simp [rowP], by simpa [rowP] using OwnP.ext ((Ext.refl _).alloc _) hown, ⟨Has.new wo _ _, by simpa [rowP] using hown.apart (Nat.le_refl _)⟩, by simpa [rowP] using Apart.ext ((Ext.refl _).alloc _) hapM, hbw.alloc _⟩
      case round =>
        clear hown
        obtain ⟨j, a2, c2, hj, rfl, rfl, hown, hap, hapM, hbwi⟩ := hrel
        have hsz := hbwi.size
        have hRl := rowP_le x y ys p q i j
        have hlen : (ps ++ rowP x y ys p q i j).length ≤ 110 := by simp; omega
        by_cases hlj : j < m
        · obtain ⟨bj, oj, rfl, hq0, hq1, hq2⟩ := (Reads.ext hbwi h').tri hlj
          have hbj := hsy.2 j (by omega)
          have HP1 := Lib.hid (fun e : meetB x y (tat ys j).1 (tat ys j).2.1 p q = true => show ps ++ rowP x y ys p q i (j + 1) = (ps ++ rowP x y ys p q i j) ++ [(i, j)] by simp [rowP, e])
          have HP2 := Lib.hid (fun e : meetB x y (tat ys j).1 (tat ys j).2.1 p q = false => show ps ++ rowP x y ys p q i (j + 1) = ps ++ rowP x y ys p q i j by simp [rowP, e])
          generalize (tat ys j).1 = u at *
          generalize (tat ys j).2.1 = v at *
          generalize (tat ys j).2.2 = e0 at *
          generalize ps ++ rowP x y ys p q i j = qs at *
          clear h' hl hl' hsx hsy hE hbr hRl Rc0 Rc1 Rc2
          have Rc0 := Ext.keeps (hap.1 0 _ rfl)
          have Rc1 := Ext.keeps (hap.1 1 _ rfl)
          have Rc2 := Ext.keeps (hap.1 2 _ rfl)
          have Mc0 := Ext.keeps (hapM.1 0 _ rfl)
          have Mc1 := Ext.keeps (hapM.1 1 _ rfl)
          have hE : Ext wr wr := Ext.refl _
          have hT : Ext wr (wr.alloc (.cells #[.int .i64 u, .int .i64 v, .int .i64 e0] 34)) := Ext.alloc hE _
          replace Rc0 := Ext.rebase hT Rc0
          replace Rc1 := Ext.rebase hT Rc1
          replace Rc2 := Ext.rebase hT Rc2
          replace Mc0 := Ext.rebase hT Mc0
          replace Mc1 := Ext.rebase hT Mc1
          have HS := Has.new wr #[.int .i64 u, .int .i64 v, .int .i64 e0] 34
          have Sc0 := Ext.keeps (HS 0 _ rfl)
          have Sc1 := Ext.keeps (HS 1 _ rfl)
          have Sc2 := Ext.keeps (HS 2 _ rfl)
          clear HS
          replace hE : Ext (wr.alloc (.cells #[.int .i64 u, .int .i64 v, .int .i64 e0] 34)) (wr.alloc (.cells #[.int .i64 u, .int .i64 v, .int .i64 e0] 34)) := Ext.refl _
          cases hmt : meetB x y u v p q
          · have HP := Lib.hid (HP2.out hmt)
            clear HP1 HP2
            go_wp2_with fail
            refine (meets_any x y z u v e0 p q (by omega) (by omega) (by omega) (by omega) (by omega) (by omega) (by omega) (by omega) (by omega) (by omega) (by omega) (by omega) _).mono ?_
            rw [hmt]
            rintro e w3 ⟨rfl, hb3⟩
            have hE3 : Ext wr w3 := ((Ext.refl wr).alloc _).trans hb3
            have hown3 := OwnP.ext hE3 hown
            have hap3 := Apart.ext hE3 hap
            have HW3 := Lib.hid (hbwi.trans hE3)
            have hapM3 := Apart.ext hE3 hapM
            go_wp2
            go_roundw
            case rel => exact ⟨j + 1, a2, c2, by omega, by go_num, by rw [HP.out], by rw [HP.out]; exact hown3, by rw [HP.out]; exact hap3, by rw [HP.out]; exact hapM3, HW3.out⟩
            case measure => simp [intOf]; omega
          · have HP := Lib.hid (HP1.out hmt)
            clear HP1 HP2
            go_wp2_with fail
            refine (meets_any x y z u v e0 p q (by omega) (by omega) (by omega) (by omega) (by omega) (by omega) (by omega) (by omega) (by omega) (by omega) (by omega) (by omega) _).mono ?_
            rw [hmt]
            rintro e w3 ⟨rfl, hb3⟩
            have hE3 : Ext wr w3 := ((Ext.refl wr).alloc _).trans hb3
            have hown3 := OwnP.ext hE3 hown
            have hap3 := Apart.ext hE3 hap
            have HW3 := Lib.hid (hbwi.trans hE3)
            have hapM3 := Apart.ext hE3 hapM
            have hlt3 : ∀ k, (Value.slice a2 qs.length c2).ownBlock = some k → k ≠ w3.heap.size := fun k hk => by
              obtain ⟨gs, _, ho, _⟩ := hown3
              have := (ho.lt k hk).2
              omega
            have hO4 := OwnP.ext (((Ext.refl w3).alloc (.cells #[.int .i64 i, .int .i64 j] 3)).alloc (.cells #[.slice (some ⟨w3.heap.size, 0, none⟩) 2 2] 52)) hown3
            have hs3 := hE3.size
            go_wp2_with (at_builtin; refine wpList_appP rfl _ _ rfl w w.heap.size _ _ _ qs rfl rfl hO4 i j w3.heap.size (w3.heap.size + 1) rfl (by simp) (by simp) (by simp) hlt3 (by omega) ?_ ?_ (Nat.le_refl _) ?_)
            · have := HW3.out.size
              simp
              omega
            · exact (HW3.out.alloc _).alloc _
            · intro a4 c4 w4 hown4 hE4 hK
              have hap4 := hK _ _ _ (Apart.ext (((Ext.refl w3).alloc _).alloc _) hap3)
              have hapM4 := hK _ _ _ (Apart.ext (((Ext.refl w3).alloc _).alloc _) hapM3)
              clear hK hown hown3 hap hap3 hO4
              go_wp2
              go_roundw
              case rel => exact ⟨j + 1, a4, c4, by omega, by go_num, by rw [HP.out]; simp, by rw [HP.out]; simpa using hown4, by rw [HP.out]; simpa using hap4, by rw [HP.out]; simpa using hapM4, hE4⟩
              case measure => simp [intOf]; omega
        · obtain rfl : m = j := by omega
          have e : allP xs ys p q (i + 1) = ps ++ rowP x y ys p q i m := by rw [HA.out, hl']
          go_wp2
          go_roundw
          case rel => exact ⟨i + 1, a2, c2, by omega, by go_num, by rw [e], by rw [e]; exact hown, by rw [e]; exact hapM, hbwi⟩
          case measure => simp [intOf]; omega
    · obtain rfl : i = n := by omega
      go_wp2
      go_ret
      exact ⟨a1, c1, rfl, hown, hbw⟩

end Go.Proofs.Ytlkhjedlokklaaa
