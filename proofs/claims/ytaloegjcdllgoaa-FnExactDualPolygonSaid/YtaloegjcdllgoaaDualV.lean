/-
  The corners of the dual polygon: the reference's walk.
-/
import Derived.Test.YtaloegjcdllgoaaDualW
import Derived.Deep.RegionHeld3
import Derived.BigRegion
import Derived.BigQuiet
namespace Go.Proofs.Ytaloegjcdllgoaa
open Go.RowKit

/-- 'append(out, points..)', out nil or the call's own; what the other blocks hold is told by 'grownBy'. -/
theorem wpList_appK {w : World} {ops : Array Oper} {rest : List Oper} {o : Oper} {a : Act} {Q : Exit → Act → World → Prop} (hgd : o.guard = none) (s x : Operand)
    (ho : o.op = .call { callee := .builtin .append, args := #[s, x], argTypes := #[31, 31] })
    (W : World) (base : Nat) (a0 : Option Addr) (n c : Nat) (xs : List (Int × Int)) (hs : a.eval s = .slice a0 n c) (hown : w.ownsRow base 49 2 (.slice a0 n c) n (pv xs))
    (A : Option Addr) (m c' : Nat) (zs : List (Int × Int)) (hx : a.eval x = .slice A m c') (hr : Reads w A 2 m (pv zs))
    (hn : n ≤ 1048576) (hm : m ≤ 1048576) (hb : base ≤ w.heap.size) (hE : Ext W w) (hW : W.heap.size ≤ base)
    (h : ∀ a1 c1 w', w'.ownsRow base 49 2 (.slice a1 (n + m) c1) (n + m) (pv (xs ++ zs)) → Ext W w' → w.grownBy w' (Value.slice a0 n c).ownBlock → ((Value.slice a1 (n + m) c1).ownBlock = (Value.slice a0 n c).ownBlock ∨ (Value.slice a1 (n + m) c1).ownBlock = some w.heap.size) → wpList Try.prog ops Q rest (a.put o.dst (.slice a1 (n + m) c1)) w') :
    wpList Try.prog ops Q (o :: rest) a w := by
  obtain ⟨i0, hi, hz0, hz1, hz2⟩ := info_parts point_info
  refine wpList_app_any w hgd s x 31 ho base 49 i0 (.agg #[.int .i64 0, .int .i64 0]) 2 16 Try.underlying31 hi hz0 hz1 hz2 rfl (by decide) _ n (pv xs) hs hown A m c' (pv zs) hx hr (pv_one zs) ?_ ?_ hb ?_
  · unfold maxLen; omega
  · omega
  · intro a1 c1 w' h1 h2 h3
    refine h a1 c1 w' ?_ (hE.grown h2 fun k hk => Nat.le_trans hW (hown.lt k hk).1) h2 h3
    rw [pv_append]; exact h1
set_option maxHeartbeats 8000000 in
theorem stDual_any (a : Option Addr) (n c : Nat) (zs : List (Int × Int × Int)) (hb : starB zs = true) (hbal : balB zs = true) (h0 : 0 < zs.length) (w : World) (h : Reads w a 3 n (tv zs)) :
    Calls Try.prog 28 #[.slice a n c] w (OwnsPts w.heap.size (ansD (sidesD zs)) w) := by
  have hl : zs.length = n := by have := h.1; rw [tv_len] at this; omega
  have hn := (star_rows hb).1
  rw [hl] at hn h0
  have HC := Lib.hid (stSides_any a n c zs hb w h)
  have hSL := sidesD_len hb
  rw [hl] at hSL
  have hs0 := sides_nought hbal (sidesD_perm hb)
  rw [hl] at hs0
  have hQ := sidesD_qa hb
  generalize sidesD zs = S at *
  clear h hl hb hbal
  have HA := Lib.hid (ansD_spec (S := S) (by omega) (by rw [hSL]; exact hs0))
  rw [hSL] at HA
  have HAL := Lib.hid (show (ansD S).length = n by rw [ansD_len, hSL])
  have HB := Lib.hid (fun k (hk : k ≤ n) => sum_bd hQ k (by omega))
  have HQ := Lib.hid (fun k (hk : k < n) => (hQ _ (pat_mem (l := S) (k := k) (by omega))).2)
  have HBL := Lib.hid (fun k (hk : k ≤ n) => show (-10000 ≤ lowQ (fun j => (sumD S j).1) k ∧ lowQ (fun j => (sumD S j).1) k ≤ 0) ∧ (-10000 ≤ lowQ (fun j => (sumD S j).2) k ∧ lowQ (fun j => (sumD S j).2) k ≤ 0) from
    lowQ_bd hQ (by omega) k (by omega))
  have HSL := Lib.hid hSL
  clear hs0 hQ hSL
  go_enter Try.func28, Try.ntmps28
  go_wp2_with fail
  refine HC.out.mono ?_
  rintro e w1 ⟨a1, c1, rfl, hown1, hE1⟩
  rw [HSL.out] at hown1 ⊢
  obtain ⟨g, rfl, hg1, hg2⟩ := own_head hown1 h0
  have HO1 := Lib.hid hown1
  have HE1 := Lib.hid hE1
  clear hown1 hE1 HC
  go_wp2
  go_loopw [3, 4, 5, 6, 7, 19] (fun s x y p q t wr => ∃ (k : Nat) (a2 : Option Addr) (c2 : Nat), k ≤ n ∧ t = .int .i64 k ∧ x = .int .i64 (sumD S k).1 ∧ y = .int .i64 (sumD S k).2 ∧ p = .int .i64 (lowQ (fun j => (sumD S j).1) k) ∧ q = .int .i64 (lowQ (fun j => (sumD S j).2) k) ∧ s = .slice a2 k c2 ∧ wr.ownsRow w1.heap.size 49 2 (.slice a2 k c2) k (pv (cornD S k)) ∧ Ext w1 wr) (fun _ _ _ _ _ t _ => n - (intOf t).toNat)
  case atStart => exact ⟨0, none, 0, Nat.zero_le _, rfl, rfl, rfl, rfl, rfl, rfl, own_nonePt _ _, Ext.refl _⟩
  case round =>
    obtain ⟨k, a2, c2, hk, rfl, rfl, rfl, rfl, rfl, rfl, hown, hE⟩ := hrel
    by_cases hlt : k < n
    · obtain ⟨_, _, e1, z0, z1⟩ := (own_reads (own_ext hE HO1.out)).pair hlt
      simp only [Option.some.injEq, Addr.mk.injEq, and_true] at e1
      obtain ⟨rfl, rfl⟩ := e1
      have hbk := HB.out k hk
      have hqk := HQ.out k hlt
      have hlb := HBL.out k hk
      have HS1 := Lib.hid (show sumD S (k + 1) = ((sumD S k).1 + (pat S k).1, (sumD S k).2 + (pat S k).2) from rfl)
      have HLX := Lib.hid (show lowQ (fun j => (sumD S j).1) (k + 1) = minI (lowQ (fun j => (sumD S j).1) k) ((sumD S k).1 + (pat S k).1) by rw [minI_eq]; rfl)
      have HLY := Lib.hid (show lowQ (fun j => (sumD S j).2) (k + 1) = minI (lowQ (fun j => (sumD S j).2) k) ((sumD S k).2 + (pat S k).2) by rw [minI_eq]; rfl)
      have HCS := Lib.hid (show cornD S (k + 1) = cornD S k ++ [sumD S k] from cornD_succ S k)
      generalize lowQ (fun j => (sumD S j).1) k = lx at *
      generalize lowQ (fun j => (sumD S j).2) k = ly at *
      generalize pat S k = z at *
      obtain ⟨zx, zy⟩ := z
      generalize sumD S k = p at *
      obtain ⟨px, py⟩ := p
      generalize cornD S k = C at *
      simp only [Nat.zero_add] at z0 z1 hbk hqk HS1 HLX HLY
      have hnk : ∀ q, (Value.slice a2 k c2).ownBlock = some q → q < wr.heap.size := fun q hq => (hown.lt q hq).2
      have HNK := Lib.hid hnk
      have hsz := hE.size
      clear hnk
      go_wp2_with (at_builtin; go_must (refine wpList_appK rfl _ _ rfl w1 w1.heap.size _ _ _ C rfl (own_ext (Ext.alloc (Ext.alloc (Ext.refl _) _) _) hown) (some ⟨_, 0, none⟩) 1 1 [(px, py)] rfl (ones_reads2 (by simp) (by simp)) (by omega) (by omega) (by simp; omega) (Ext.alloc (Ext.alloc hE _) _) (Nat.le_refl _) ?_))
      intro a4 c4 w4 hown4 hE4 hg4 _
      have v0 : w4.cell? ⟨wr.heap.size, 0, none⟩ = some (.int .i64 zx) := grown_keep hg4 (by simp) (fun e => by have := HNK.out _ e.symm; omega)
      have v1 : w4.cell? ⟨wr.heap.size, 1, none⟩ = some (.int .i64 zy) := grown_keep hg4 (by simp) (fun e => by have := HNK.out _ e.symm; omega)
      have HO4 := Lib.hid hown4
      clear hown4 hg4 hown hE z0 z1
      go_wp2_with ((go_at_call 57; refine (l1Least_any _ _ _).mono ?_; rintro e _ ⟨rfl, rfl⟩))
      go_roundw
      case rel => exact ⟨k + 1, a4, c4, by omega, by go_num, by rw [HS1.out], by rw [HS1.out], by rw [HLX.out], by rw [HLY.out], by rfl, by rw [HCS.out]; exact HO4.out, hE4⟩
      case measure => simp [intOf]; omega
    · obtain rfl : n = k := by omega
      have HLB := Lib.hid (HBL.out n hk)
      have hlen : (cornD S n).length = n := cornD_len S n
      have HPB := Lib.hid (fun j (hj : j < n) => show (-10000 ≤ (pat (cornD S n) j).1 ∧ (pat (cornD S n) j).1 ≤ 10000) ∧ (-10000 ≤ (pat (cornD S n) j).2 ∧ (pat (cornD S n) j).2 ≤ 10000) by
        rw [cornD_at hj]; have := HB.out j (by omega); omega)
      generalize cornD S n = C at *
      generalize lowQ (fun j => (sumD S j).1) n = lx at *
      generalize lowQ (fun j => (sumD S j).2) n = ly at *
      obtain ⟨g2, rfl, hg3, hg4⟩ := own_head hown h0
      obtain ⟨w5, hw5⟩ : ∃ w5, w5 = wr := ⟨_, rfl⟩
      subst hw5
      have HO := Lib.hid hown
      have HE5 := Lib.hid (HE1.out.trans hE)
      have HLN := Lib.hid hlen
      clear hown hE HO1 HE1 HB HQ HBL hlen
      go_wp2
      go_loopw [10, 46] (fun s t wr => ∃ (k : Nat), k ≤ n ∧ t = .int .i64 k ∧ s = .int .i64 (firstT C k) ∧ Ext w5 wr) (fun _ t _ => n - (intOf t).toNat)
      case atStart => exact ⟨0, Nat.zero_le _, rfl, rfl, Ext.refl _⟩
      case round =>
        obtain ⟨k, hk2, rfl, rfl, hE⟩ := hrel
        have hfl : firstT C k < n := by
          rcases Nat.eq_zero_or_pos k with e | e
          · subst e; exact h0
          · have := firstT_lt C k e; omega
        by_cases hlt : k < n
        · obtain ⟨_, _, e1, z0, z1⟩ := (own_reads (own_ext hE HO.out)).pair hlt
          simp only [Option.some.injEq, Addr.mk.injEq, and_true] at e1
          obtain ⟨rfl, rfl⟩ := e1
          obtain ⟨_, _, e1, m0, m1⟩ := (own_reads (own_ext hE HO.out)).pair hfl
          simp only [Option.some.injEq, Addr.mk.injEq, and_true] at e1
          obtain ⟨rfl, rfl⟩ := e1
          have HF := Lib.hid (show firstT C (k + 1) = if cmpI (pat C k).1 (pat C k).2 (pat C (firstT C k)).1 (pat C (firstT C k)).2 < 0 then k else firstT C k from rfl)
          have hzb := HPB.out k hlt
          have hmb := HPB.out _ hfl
          generalize firstT C k = f at *
          generalize pat C k = z at *
          generalize pat C f = q at *
          obtain ⟨zx, zy⟩ := z
          obtain ⟨qx, qy⟩ := q
          simp only [Nat.zero_add] at z0 z1 m0 m1 HF hzb hmb
          have Zc0 := Ext.keeps z0
          have Zc1 := Ext.keeps z1
          have Mc0 := Ext.keeps m0
          have Mc1 := Ext.keeps m1
          have HEk := Lib.hid hE
          have hfi : (f : Int) < (n : Int) := by omega
          have hki : (k : Int) < (n : Int) := by omega
          clear m0 m1 hE
          have h01 : zx < qx ∨ (¬ zx < qx ∧ zx = qx) ∨ (¬ zx < qx ∧ ¬ zx = qx) := by omega
          have FIN : ∀ (x' : Int) , x' = (if cmpI zx zy qx qy < 0 then (k : Int) else (f : Int)) → Value.int .i64 x' = .int .i64 ((firstT C (k + 1) : Nat) : Int) := by
            intro x' hx'
            rw [HF.out, hx']
            split <;> rfl
          have HFIN := Lib.hid FIN
          clear FIN HF
          rcases h01 with hc | ⟨hc, he⟩ | ⟨hc, he⟩
          · have hcm : cmpI zx zy qx qy < 0 := by unfold cmpI; rw [if_neg (by omega)]; omega
            have d1 : decide (zx < qx) = true := decide_eq_true hc
            rw [if_pos hcm] at HFIN
            clear hcm
            have hE : Ext wr wr := Ext.refl _
            have hT : Ext wr (wr.alloc (.cells #[.int .i64 zx, .int .i64 zy] 49)) := Ext.alloc hE _
            replace Zc0 := Ext.rebase hT Zc0
            replace Zc1 := Ext.rebase hT Zc1
            replace Mc0 := Ext.rebase hT Mc0
            replace Mc1 := Ext.rebase hT Mc1
            have HP := Has.new wr #[.int .i64 zx, .int .i64 zy] 49
            have Pc0 := Ext.keeps (HP 0 _ rfl)
            have Pc1 := Ext.keeps (HP 1 _ rfl)
            clear HP
            replace hE : Ext (wr.alloc (.cells #[.int .i64 zx, .int .i64 zy] 49)) (wr.alloc (.cells #[.int .i64 zx, .int .i64 zy] 49)) := Ext.refl _
            go_wp2
            have qZ0 := fun s : Past (wr.alloc (.cells #[.int .i64 zx, .int .i64 zy] 49)) => Zc0 s.w s.ext
            have qZ1 := fun s : Past (wr.alloc (.cells #[.int .i64 zx, .int .i64 zy] 49)) => Zc1 s.w s.ext
            have qM0 := fun s : Past (wr.alloc (.cells #[.int .i64 zx, .int .i64 zy] 49)) => Mc0 s.w s.ext
            have qM1 := fun s : Past (wr.alloc (.cells #[.int .i64 zx, .int .i64 zy] 49)) => Mc1 s.w s.ext
            have qP0 := fun s : Past (wr.alloc (.cells #[.int .i64 zx, .int .i64 zy] 49)) => Pc0 s.w s.ext
            have qP1 := fun s : Past (wr.alloc (.cells #[.int .i64 zx, .int .i64 zy] 49)) => Pc1 s.w s.ext
            refine wp_region_past (wr.alloc (.cells #[.int .i64 zx, .int .i64 zy] 49)) (by first | exact hE | exact Ext.alloc hE _ | exact Ext.drew hE | exact Ext.drewN hE _) (by kernel_rfl) (by kernel_rfl) ?_
            repeat (go_big_quiet_step ((fail)))
            refine wpQuiet_nil ?_
            intro w6 hw'
            obtain ⟨⟨_, hE⟩, hw''⟩ := hw'
            subst hw''
            clear qZ0 qZ1 qM0 qM1 qP0 qP1
            go_wp2
            go_roundw
            case rel => exact ⟨k + 1, by omega, by go_num, HFIN.out _ rfl, (HEk.out.alloc _).trans hE⟩
            case measure => simp [intOf]; omega
          · have d1 : decide (zx < qx) = false := decide_eq_false hc
            subst he
            by_cases hd : zy < qy
            · have hcm : cmpI zx zy zx qy < 0 := by unfold cmpI; rw [if_pos rfl]; omega
              have d2 : decide (zy < qy) = true := decide_eq_true hd
              rw [if_pos hcm] at HFIN
              clear hcm
              have hE : Ext wr wr := Ext.refl _
              have hT : Ext wr (wr.alloc (.cells #[.int .i64 zx, .int .i64 zy] 49)) := Ext.alloc hE _
              replace Zc0 := Ext.rebase hT Zc0
              replace Zc1 := Ext.rebase hT Zc1
              replace Mc0 := Ext.rebase hT Mc0
              replace Mc1 := Ext.rebase hT Mc1
              have HP := Has.new wr #[.int .i64 zx, .int .i64 zy] 49
              have Pc0 := Ext.keeps (HP 0 _ rfl)
              have Pc1 := Ext.keeps (HP 1 _ rfl)
              clear HP
              replace hE : Ext (wr.alloc (.cells #[.int .i64 zx, .int .i64 zy] 49)) (wr.alloc (.cells #[.int .i64 zx, .int .i64 zy] 49)) := Ext.refl _
              go_wp2
              have qZ0 := fun s : Past (wr.alloc (.cells #[.int .i64 zx, .int .i64 zy] 49)) => Zc0 s.w s.ext
              have qZ1 := fun s : Past (wr.alloc (.cells #[.int .i64 zx, .int .i64 zy] 49)) => Zc1 s.w s.ext
              have qM0 := fun s : Past (wr.alloc (.cells #[.int .i64 zx, .int .i64 zy] 49)) => Mc0 s.w s.ext
              have qM1 := fun s : Past (wr.alloc (.cells #[.int .i64 zx, .int .i64 zy] 49)) => Mc1 s.w s.ext
              have qP0 := fun s : Past (wr.alloc (.cells #[.int .i64 zx, .int .i64 zy] 49)) => Pc0 s.w s.ext
              have qP1 := fun s : Past (wr.alloc (.cells #[.int .i64 zx, .int .i64 zy] 49)) => Pc1 s.w s.ext
              refine wp_region_past (wr.alloc (.cells #[.int .i64 zx, .int .i64 zy] 49)) (by first | exact hE | exact Ext.alloc hE _ | exact Ext.drew hE | exact Ext.drewN hE _) (by kernel_rfl) (by kernel_rfl) ?_
              repeat (go_big_quiet_step ((fail)))
              refine wpQuiet_nil ?_
              intro w6 hw'
              obtain ⟨⟨_, hE⟩, hw''⟩ := hw'
              subst hw''
              clear qZ0 qZ1 qM0 qM1 qP0 qP1
              go_wp2
              go_roundw
              case rel => exact ⟨k + 1, by omega, by go_num, HFIN.out _ rfl, (HEk.out.alloc _).trans hE⟩
              case measure => simp [intOf]; omega
            · have hcm : ¬ cmpI zx zy zx qy < 0 := by unfold cmpI; rw [if_pos rfl]; omega
              have d2 : decide (zy < qy) = false := decide_eq_false hd
              rw [if_neg hcm] at HFIN
              clear hcm
              have hE : Ext wr wr := Ext.refl _
              have hT : Ext wr (wr.alloc (.cells #[.int .i64 zx, .int .i64 zy] 49)) := Ext.alloc hE _
              replace Zc0 := Ext.rebase hT Zc0
              replace Zc1 := Ext.rebase hT Zc1
              replace Mc0 := Ext.rebase hT Mc0
              replace Mc1 := Ext.rebase hT Mc1
              have HP := Has.new wr #[.int .i64 zx, .int .i64 zy] 49
              have Pc0 := Ext.keeps (HP 0 _ rfl)
              have Pc1 := Ext.keeps (HP 1 _ rfl)
              clear HP
              replace hE : Ext (wr.alloc (.cells #[.int .i64 zx, .int .i64 zy] 49)) (wr.alloc (.cells #[.int .i64 zx, .int .i64 zy] 49)) := Ext.refl _
              go_wp2
              have qZ0 := fun s : Past (wr.alloc (.cells #[.int .i64 zx, .int .i64 zy] 49)) => Zc0 s.w s.ext
              have qZ1 := fun s : Past (wr.alloc (.cells #[.int .i64 zx, .int .i64 zy] 49)) => Zc1 s.w s.ext
              have qM0 := fun s : Past (wr.alloc (.cells #[.int .i64 zx, .int .i64 zy] 49)) => Mc0 s.w s.ext
              have qM1 := fun s : Past (wr.alloc (.cells #[.int .i64 zx, .int .i64 zy] 49)) => Mc1 s.w s.ext
              have qP0 := fun s : Past (wr.alloc (.cells #[.int .i64 zx, .int .i64 zy] 49)) => Pc0 s.w s.ext
              have qP1 := fun s : Past (wr.alloc (.cells #[.int .i64 zx, .int .i64 zy] 49)) => Pc1 s.w s.ext
              refine wp_region_past (wr.alloc (.cells #[.int .i64 zx, .int .i64 zy] 49)) (by first | exact hE | exact Ext.alloc hE _ | exact Ext.drew hE | exact Ext.drewN hE _) (by kernel_rfl) (by kernel_rfl) ?_
              repeat (go_big_quiet_step ((fail)))
              refine wpQuiet_nil ?_
              intro w6 hw'
              obtain ⟨⟨_, hE⟩, hw''⟩ := hw'
              subst hw''
              clear qZ0 qZ1 qM0 qM1 qP0 qP1
              go_wp2
              go_roundw
              case rel => exact ⟨k + 1, by omega, by go_num, HFIN.out _ rfl, (HEk.out.alloc _).trans hE⟩
              case measure => simp [intOf]; omega
          · have d1 : decide (zx < qx) = false := decide_eq_false hc
            have d2 : (zx == qx) = false := by simpa using he
            have d3 : decide (zx = qx) = false := decide_eq_false he
            have hcm : ¬ cmpI zx zy qx qy < 0 := by unfold cmpI; rw [if_neg he]; omega
            rw [if_neg hcm] at HFIN
            clear hcm
            have hE : Ext wr wr := Ext.refl _
            have hT : Ext wr (wr.alloc (.cells #[.int .i64 zx, .int .i64 zy] 49)) := Ext.alloc hE _
            replace Zc0 := Ext.rebase hT Zc0
            replace Zc1 := Ext.rebase hT Zc1
            replace Mc0 := Ext.rebase hT Mc0
            replace Mc1 := Ext.rebase hT Mc1
            have HP := Has.new wr #[.int .i64 zx, .int .i64 zy] 49
            have Pc0 := Ext.keeps (HP 0 _ rfl)
            have Pc1 := Ext.keeps (HP 1 _ rfl)
            clear HP
            replace hE : Ext (wr.alloc (.cells #[.int .i64 zx, .int .i64 zy] 49)) (wr.alloc (.cells #[.int .i64 zx, .int .i64 zy] 49)) := Ext.refl _
            go_wp2
            have qZ0 := fun s : Past (wr.alloc (.cells #[.int .i64 zx, .int .i64 zy] 49)) => Zc0 s.w s.ext
            have qZ1 := fun s : Past (wr.alloc (.cells #[.int .i64 zx, .int .i64 zy] 49)) => Zc1 s.w s.ext
            have qM0 := fun s : Past (wr.alloc (.cells #[.int .i64 zx, .int .i64 zy] 49)) => Mc0 s.w s.ext
            have qM1 := fun s : Past (wr.alloc (.cells #[.int .i64 zx, .int .i64 zy] 49)) => Mc1 s.w s.ext
            have qP0 := fun s : Past (wr.alloc (.cells #[.int .i64 zx, .int .i64 zy] 49)) => Pc0 s.w s.ext
            have qP1 := fun s : Past (wr.alloc (.cells #[.int .i64 zx, .int .i64 zy] 49)) => Pc1 s.w s.ext
            refine wp_region_past (wr.alloc (.cells #[.int .i64 zx, .int .i64 zy] 49)) (by first | exact hE | exact Ext.alloc hE _ | exact Ext.drew hE | exact Ext.drewN hE _) (by kernel_rfl) (by kernel_rfl) ?_
            repeat (go_big_quiet_step ((fail)))
            refine wpQuiet_nil ?_
            intro w6 hw'
            obtain ⟨⟨_, hE⟩, hw''⟩ := hw'
            subst hw''
            clear qZ0 qZ1 qM0 qM1 qP0 qP1
            go_wp2
            go_roundw
            case rel => exact ⟨k + 1, by omega, by go_num, HFIN.out _ rfl, (HEk.out.alloc _).trans hE⟩
            case measure => simp [intOf]; omega
        · obtain rfl : n = k := by omega
          generalize firstT C n = f at *
          obtain ⟨w6, hw6⟩ : ∃ w6, w6 = wr := ⟨_, rfl⟩
          subst hw6
          have HO := Lib.hid (own_ext hE HO.out)
          have HE6 := Lib.hid (HE5.out.trans hE)
          clear HE5 hE
          go_wp2
          go_loopw [13, 83] (fun s t wr => ∃ (i : Nat) (a3 : Option Addr) (c3 : Nat), i ≤ n ∧ t = .int .i64 i ∧ s = .slice a3 i c3 ∧ wr.ownsRow w6.heap.size 49 2 (.slice a3 i c3) i (pv (movD (lx, ly) (turnD C f i))) ∧ Ext w6 wr) (fun _ t _ => n - (intOf t).toNat)
          case atStart => exact ⟨0, none, 0, Nat.zero_le _, rfl, rfl, own_nonePt _ _, Ext.refl _⟩
          case round =>
            obtain ⟨i, a3, c3, hi, rfl, rfl, hown, hE⟩ := hrel
            by_cases hlt2 : i < n
            · have hq : (f + i) % n < n := Nat.mod_lt _ h0
              obtain ⟨_, _, e1, z0, z1⟩ := (own_reads (own_ext hE HO.out)).pair hq
              simp only [Option.some.injEq, Addr.mk.injEq, and_true] at e1
              obtain ⟨rfl, rfl⟩ := e1
              have hzb := HPB.out _ hq
              have hrem : ((f : Int) + (i : Int)) % (n : Int) = (((f + i) % n : Nat) : Int) := rfl
              have HT := Lib.hid (show movD (lx, ly) (turnD C f (i + 1)) = movD (lx, ly) (turnD C f i) ++ [((pat C ((f + i) % n)).1 - lx, (pat C ((f + i) % n)).2 - ly)] by
                rw [turnD_succ, HLN.out]; simp only [movD, List.map_append, List.map_cons, List.map_nil])
              generalize pat C ((f + i) % n) = z at *
              obtain ⟨zx, zy⟩ := z
              generalize (f + i) % n = q at *
              have hq2 : (q : Int) < (n : Int) := by omega
              have hn0 : ¬ (n : Int) = 0 := by omega
              have hlb := HLB.out
              have hsz := hE.size
              generalize turnD C f i = T at *
              simp only [Nat.zero_add] at z0 z1 hzb HT
              go_wp2_with (at_builtin; go_must (refine wpList_appK rfl _ _ rfl w6 w6.heap.size _ _ _ (movD (lx, ly) T) rfl (own_ext (Ext.alloc (Ext.alloc (Ext.refl _) _) _) hown) (some ⟨_, 0, none⟩) 1 1 [(zx - lx, zy - ly)] rfl (ones_reads2 (by simp) (by simp)) (by omega) (by omega) (by simp; omega) (Ext.alloc (Ext.alloc hE _) _) (Nat.le_refl _) ?_))
              intro a4 c4 w7 hown7 hE7 _ _
              have HO7 := Lib.hid hown7
              clear hown7 hown hE z0 z1
              go_wp2
              go_roundw
              case rel => exact ⟨i + 1, a4, c4, by omega, by go_num, by rfl, by rw [HT.out]; exact HO7.out, hE7⟩
              case measure => simp [intOf]; omega
            · obtain rfl : n = i := by omega
              have HA2 := Lib.hid HA.out
              rw [HA2.out] at hown
              have hEw := HE6.out
              go_wp2
              go_ret
              exact ⟨a3, c3, by rw [HAL.out] <;> rfl, by rw [HAL.out]; exact own_mono hEw.size hown, hEw.trans hE⟩
end Go.Proofs.Ytaloegjcdllgoaa
