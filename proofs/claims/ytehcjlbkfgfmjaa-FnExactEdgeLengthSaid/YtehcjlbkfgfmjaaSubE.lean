/-
  EdgeLength: both sides and the law's walk.
-/
import Derived.Test.YtehcjlbkfgfmjaaSubW
import Derived.BigQuiet
import Derived.Deep.RegionHeld3
namespace Go.Proofs.Ytehcjlbkfgfmjaa
open Go.RowKit

def inE (zs : List (Int × Int × Int)) (i k : Int) : Bool := decide ([i, k] ∈ onceL zs)
/-- The length of the lattice side between two terms. -/
def sideI (zs : List (Int × Int × Int)) (i k : Nat) : Int := gcdI ((pI zs i).1 - (pI zs k).1) ((pI zs i).2 - (pI zs k).2)
theorem gcdI_swap (a b c d : Int) : gcdI (b - a) (d - c) = gcdI (a - b) (c - d) := by
  rw [← gcdI_absI, ← gcdI_absI (a - b)]
  congr 1 <;> (unfold absI; omega)
theorem ext_newCell {w w' : World} {cs : Array Value} {t : TypeId} (h : Ext (w.alloc (.cells cs t)) w') {i : Nat} {v : Value} (hi : cs[i]? = some v) : w'.cell? ⟨w.heap.size, i, none⟩ = some v ∧ w'.frozen? ⟨w.heap.size, i, none⟩ = false :=
  ⟨h.keep (Has.new w cs t i v (by simpa using hi)), by rw [h.frozen _ _ (by simp)]; simp⟩
set_option maxHeartbeats 2000000 in
theorem length_any (B g : Nat) (a ax : Option Addr) (n c cx : Nat) (zs : List (Int × Int × Int)) (hZ : PZ zs) (i j : Nat) (hi : i < n) (hj : j < n) (w : World) (h : SubD w B g a n c zs) (hx : Reads w ax 1 2 (iv [(i : Int), (j : Int)])) :
    Calls Try.prog 65 #[.pointer (some ⟨g, 0, none⟩), .slice ax 2 cx] w fun r w' => r = .returned (.int .i64 (sideI zs i j)) ∧ Ext w w' := by
  have hl := subD_len h
  obtain ⟨pa, pc, s, e, b, m, B1, ps, qs, h1, _, _, h4, _⟩ := h
  have hc1 := h1.c1
  have hgl := h1.lt
  obtain ⟨bp, op, rfl, p0, p1⟩ := h4.pair hi
  obtain ⟨bp', op', e', q0, q1⟩ := h4.pair hj
  cases e'
  rw [ptsL_pI (by omega)] at p0 p1 q0 q1
  obtain ⟨bx, ox, rfl, hcx⟩ := hx.2 (by omega)
  have k0 : w.cell? ⟨bx, ox, none⟩ = some (.int .i64 (i : Int)) := hcx 0 _ rfl
  have k1 : w.cell? ⟨bx, ox + 1, none⟩ = some (.int .i64 (j : Int)) := hcx 1 _ rfl
  have t1 := (hZ.2.1 i (by omega)).PB
  have t2 := (hZ.2.1 j (by omega)).PB
  have HV := Lib.hid (show sideI zs i j = gcdI ((pI zs j).1 - (pI zs i).1) ((pI zs j).2 - (pI zs i).2) from (gcdI_swap _ _ _ _).symm)
  unfold PB at t1 t2
  rw [HV.out]
  clear HV h1 h4 hx hcx hl hZ
  generalize pI zs i = p at *
  generalize pI zs j = q at *
  obtain ⟨x1, y1⟩ := p
  obtain ⟨x2, y2⟩ := q
  simp only at p0 p1 q0 q1 t1 t2 ⊢
  have i1 : (i : Int) < (n : Int) := by omega
  have j1 : (j : Int) < (n : Int) := by omega
  have i0 : (0 : Int) ≤ (i : Int) := by omega
  have j0 : (0 : Int) ≤ (j : Int) := by omega
  go_enter Try.func65, Try.ntmps65
  go_wp2
  go_region_held3 (fun w' => Ext w w' ∧ w'.cell? ⟨g, 1, none⟩ = some (.slice (some ⟨bp, op, none⟩) n pc) ∧ w'.cell? ⟨bx, ox, none⟩ = some (.int .i64 i) ∧ w'.cell? ⟨bx, ox + 1, none⟩ = some (.int .i64 j) ∧ w'.cell? ⟨bp, op + i * 2, none⟩ = some (.int .i64 x1) ∧ w'.cell? ⟨bp, op + i * 2 + 1, none⟩ = some (.int .i64 y1) ∧ w'.cell? ⟨bp, op + j * 2, none⟩ = some (.int .i64 x2) ∧ w'.cell? ⟨bp, op + j * 2 + 1, none⟩ = some (.int .i64 y2)) (first | exact HK2.out | exact ⟨(by repeat (first | exact Ext.refl _ | assumption | apply Ext.alloc | apply Ext.drew | apply Ext.drewN | (refine Ext.trans ?_ (by assumption)) | (refine Ext.setCell ?_ (by (try simp) <;> omega) _))), Ext.keep (w := w) ((by repeat (first | exact Ext.refl _ | assumption | apply Ext.alloc | apply Ext.drew | apply Ext.drewN | (refine Ext.trans ?_ (by assumption)) | (refine Ext.setCell ?_ (by (try simp) <;> omega) _)))) hc1, Ext.keep (w := w) ((by repeat (first | exact Ext.refl _ | assumption | apply Ext.alloc | apply Ext.drew | apply Ext.drewN | (refine Ext.trans ?_ (by assumption)) | (refine Ext.setCell ?_ (by (try simp) <;> omega) _)))) k0, Ext.keep (w := w) ((by repeat (first | exact Ext.refl _ | assumption | apply Ext.alloc | apply Ext.drew | apply Ext.drewN | (refine Ext.trans ?_ (by assumption)) | (refine Ext.setCell ?_ (by (try simp) <;> omega) _)))) k1, Ext.keep (w := w) ((by repeat (first | exact Ext.refl _ | assumption | apply Ext.alloc | apply Ext.drew | apply Ext.drewN | (refine Ext.trans ?_ (by assumption)) | (refine Ext.setCell ?_ (by (try simp) <;> omega) _)))) p0, Ext.keep (w := w) ((by repeat (first | exact Ext.refl _ | assumption | apply Ext.alloc | apply Ext.drew | apply Ext.drewN | (refine Ext.trans ?_ (by assumption)) | (refine Ext.setCell ?_ (by (try simp) <;> omega) _)))) p1, Ext.keep (w := w) ((by repeat (first | exact Ext.refl _ | assumption | apply Ext.alloc | apply Ext.drew | apply Ext.drewN | (refine Ext.trans ?_ (by assumption)) | (refine Ext.setCell ?_ (by (try simp) <;> omega) _)))) q0, Ext.keep (w := w) ((by repeat (first | exact Ext.refl _ | assumption | apply Ext.alloc | apply Ext.drew | apply Ext.drewN | (refine Ext.trans ?_ (by assumption)) | (refine Ext.setCell ?_ (by (try simp) <;> omega) _)))) q1⟩) (first | (go_at_call 81; refine (minus_any x2 y2 x1 y1 (by omega) (by omega) (by omega) (by omega) _).mono ?_; rintro e w2 ⟨rfl, hb⟩; have hbw : Ext w w2 := Ext.trans (by repeat (first | exact Ext.refl _ | assumption | apply Ext.alloc | apply Ext.drew | apply Ext.drewN | (refine Ext.trans ?_ (by assumption)) | (refine Ext.setCell ?_ (by (try simp) <;> omega) _))) hb; have hsz2 := hb.size; (try simp at hsz2); (try have hbn : Ext (w.alloc (.cells #[.int .i64 0, .int .i64 0] 70)) w2 := Ext.trans (Ext.drew (Ext.refl _)) hb); have HK2 := Lib.hid (show Ext w w2 ∧ w2.cell? ⟨g, 1, none⟩ = some (.slice (some ⟨bp, op, none⟩) n pc) ∧ w2.cell? ⟨bx, ox, none⟩ = some (.int .i64 i) ∧ w2.cell? ⟨bx, ox + 1, none⟩ = some (.int .i64 j) ∧ w2.cell? ⟨bp, op + i * 2, none⟩ = some (.int .i64 x1) ∧ w2.cell? ⟨bp, op + i * 2 + 1, none⟩ = some (.int .i64 y1) ∧ w2.cell? ⟨bp, op + j * 2, none⟩ = some (.int .i64 x2) ∧ w2.cell? ⟨bp, op + j * 2 + 1, none⟩ = some (.int .i64 y2) from ⟨hbw, Ext.keep (w := w) (hbw) hc1, Ext.keep (w := w) (hbw) k0, Ext.keep (w := w) (hbw) k1, Ext.keep (w := w) (hbw) p0, Ext.keep (w := w) (hbw) p1, Ext.keep (w := w) (hbw) q0, Ext.keep (w := w) (hbw) q1⟩); (try have z0 : w2.cell? ⟨w.heap.size, 0, none⟩ = some (.int .i64 0) := (ext_newCell (cs := #[.int .i64 0, .int .i64 0]) hbn (i := 0) (v := .int .i64 0) rfl).1); (try have f0 : w2.frozen? ⟨w.heap.size, 0, none⟩ = false := (ext_newCell (cs := #[.int .i64 0, .int .i64 0]) hbn (i := 0) (v := .int .i64 0) rfl).2); (try have z1 : w2.cell? ⟨w.heap.size, 1, none⟩ = some (.int .i64 0) := (ext_newCell (cs := #[.int .i64 0, .int .i64 0]) hbn (i := 1) (v := .int .i64 0) rfl).1); (try have f1 : w2.frozen? ⟨w.heap.size, 1, none⟩ = false := (ext_newCell (cs := #[.int .i64 0, .int .i64 0]) hbn (i := 1) (v := .int .i64 0) rfl).2)))
  all_goals
    go_wp2_with fail
    refine (gcd_any (x2 - x1) (y2 - y1) (by omega) (by omega) (by omega) (by omega) _).mono ?_
    rintro e _ ⟨rfl, u, rfl⟩
    go_wp2
    go_ret
    exact ⟨by rfl, (by repeat (first | exact Ext.refl _ | assumption | apply Ext.alloc | apply Ext.drew | apply Ext.drewN | (refine Ext.trans ?_ (by assumption)) | (refine Ext.setCell ?_ (by (try simp) <;> omega) _)))⟩
set_option maxHeartbeats 1000000 in
theorem impl_EdgeLength_any (a : Option Addr) (n c : Nat) (zs : List (Int × Int × Int)) (i k : Int) (hi : B64 i) (hk : B64 k) (hn : n ≤ 1048576) (w : World) (h : Reads w a 3 n (tv zs)) :
    Calls Try.prog 37 #[.slice a n c, .int .i64 i, .int .i64 k] w fun r w' => r = .returned (.tuple #[.int .i64 (gI (planeB zs && inE zs i k) (sideI zs i.toNat k.toNat)), .bool (planeB zs && inE zs i k)]) ∧ Ext w w' := by
  cases hp : planeB zs
  · go_enter Try.func37, Try.ntmps37
    go_wp2_with fail
    refine (subdivided_no _ _ _ zs hn hp _ h).mono ?_
    rintro e w1 ⟨rfl, hb1⟩
    go_wp2
    go_ret2
    exact ⟨rfl, hb1⟩
  · have HZ := Lib.hid (pz_of hp)
    have hl : zs.length = n := by have := h.1; rw [tv_len] at this; omega
    have HIE := Lib.hid (show inE zs i k = decide (0 < (sidesAt zs [i, k]).length) by unfold inE; exact decide_eq_decide.2 (mem_onceL HZ.out.2.2))
    have HFO := Lib.hid (fun (e : inE zs i k = true) => once_form HZ.out.2.2 (of_decide_eq_true e))
    go_enter Try.func37, Try.ntmps37
    go_wp2_with fail
    refine (subdivided_yes _ _ _ zs hn hp _ h).mono ?_
    rintro e w1 ⟨g, rfl, hs, hb1⟩
    have HD := Lib.hid hs
    have HE := Lib.hid hb1
    clear hs hb1 h
    have HR := Lib.hid (show Reads (w1.alloc (.cells #[.int .i64 i, .int .i64 k] 3)) (some ⟨w1.heap.size, 0, none⟩) 1 2 (iv [i, k]) from two_ints (by simp) (by simp))
    go_wp2_with fail
    refine (cellsAt_any w.heap.size g a (some ⟨w1.heap.size, 0, none⟩) n c 2 zs i k hi hk _ (HD.out.ext (Ext.alloc (Ext.refl _) _)) HR.out).mono ?_
    rintro e w2 ⟨a2, c2, rfl, hr2, hE2⟩
    have HX2 := Lib.hid (Ext.trans (Ext.alloc (Ext.refl w1) _) hE2)
    have HE2 := Lib.hid (HE.out.trans HX2.out)
    have HS2 := Lib.hid (sidesAt_two HZ.out.2.2 [i, k])
    have hS2 := HS2.out
    clear hr2 hE2 HR
    generalize (sidesAt zs [i, k]).length = m at *
    by_cases hm : m = 0
    · have HF := Lib.hid (show inE zs i k = false by rw [HIE.out]; simp [hm])
      subst hm
      go_wp2
      go_ret2
      exact ⟨by rw [HF.out] <;> rfl, HE2.out⟩
    · have HF := Lib.hid (show inE zs i k = true by rw [HIE.out]; simp; omega)
      have hm0 : ((m : Int) == 0) = false := by simp; omega
      obtain ⟨x, y, hxy, hyn, hxy2⟩ := HFO.out HF.out
      simp only [List.cons.injEq, and_true] at hxy2
      obtain ⟨rfl, rfl⟩ := hxy2
      have HR3 := Lib.hid (show Reads (w2.alloc (.cells #[.int .i64 (x : Int), .int .i64 (y : Int)] 3)) (some ⟨w2.heap.size, 0, none⟩) 1 2 (iv [(x : Int), (y : Int)]) from two_ints (by simp) (by simp))
      go_wp2_with fail
      refine (length_any w.heap.size g a (some ⟨w2.heap.size, 0, none⟩) n c 2 zs HZ.out x y (by omega) (by omega) _ (HD.out.ext (Ext.alloc HX2.out _)) HR3.out).mono ?_
      rintro e w3 ⟨rfl, hE3⟩
      have HE3 := Lib.hid (Ext.trans (Ext.alloc HE2.out _) hE3)
      clear hE3 HR3
      go_wp2
      go_ret2
      exact ⟨by rw [HF.out] <;> rfl, HE3.out⟩
set_option maxHeartbeats 1000000 in
theorem spec_EdgeLength_any (a : Option Addr) (n c : Nat) (zs : List (Int × Int × Int)) (i k : Int) (hn : n ≤ 1048576) (w : World) (h : Reads w a 3 n (tv zs)) :
    Calls Try.prog 36 #[.slice a n c, .int .i64 i, .int .i64 k] w fun r w' => r = .returned (.tuple #[.int .i64 (gI (planeB zs && inE zs i k) (sideI zs i.toNat k.toNat)), .bool (planeB zs && inE zs i k)]) ∧ Ext w w' := by
  have hl : zs.length = n := by have := h.1; rw [tv_len] at this; omega
  cases hp : planeB zs
  · go_enter Try.func36, Try.ntmps36
    go_wp2_with fail
    refine (plGood_any _ _ _ zs (by omega) _ h).mono ?_
    rw [hp]
    rintro e w1 ⟨rfl, hb1⟩
    go_wp2
    go_ret2
    exact ⟨rfl, hb1⟩
  · have HZ := Lib.hid (pz_of hp)
    go_enter Try.func36, Try.ntmps36
    go_wp2_with fail
    refine (plGood_any _ _ _ zs (by omega) _ h).mono ?_
    rw [hp]
    rintro e w1 ⟨rfl, hb1⟩
    have HH := Lib.hid (h.ext hb1)
    have HE := Lib.hid hb1
    clear h hb1
    go_wp2_with fail
    refine (ceEdges_any _ _ _ zs HZ.out false w1 HH.out).mono ?_
    rintro e w2 ⟨a2, c2, vs, rfl, ho2, hv2, hE2⟩
    rw [show edgesL zs false = onceL zs from rfl] at ho2 hv2 ⊢
    have HH2 := Lib.hid (Reads.ext hE2 HH.out)
    have HE2 := Lib.hid (HE.out.trans hE2)
    have HV := Lib.hid hv2
    have hcl := onceL_len HZ.out
    obtain ⟨N, hN⟩ : ∃ N, N = (onceL zs).length := ⟨_, rfl⟩
    rw [← hN] at hcl ho2 ⊢
    have HO := Lib.hid ho2
    have HN := Lib.hid hN
    clear hN ho2 hv2 hE2
    go_wp2
    go_loopw [16] (fun t wr => ∃ q : Nat, q ≤ N ∧ t = .int .i64 q ∧ Hid (∀ j, j < q → (onceL zs).getD j [] ≠ [i, k]) ∧ w2 = wr) (fun t _ => N - (intOf t).toNat)
    case atStart => exact ⟨0, Nat.zero_le _, rfl, Lib.hid (fun j hj => absurd hj (by omega)), rfl⟩
    case round =>
      obtain ⟨q, hq, rfl, hT, rfl⟩ := hrel
      by_cases hlk : q < N
      · have hko : q < (onceL zs).length := by rw [← HN.out]; exact hlk
        have hmem : (onceL zs).getD q [] ∈ onceL zs := by rw [show (onceL zs).getD q [] = (onceL zs)[q] by simp [List.getD, hko]]; exact List.getElem_mem _
        obtain ⟨x, y, hxy, hyn, hxy2⟩ := once_form HZ.out.2.2 hmem
        obtain ⟨ak, ck, hvk, hrk⟩ := HV.out.at q hko
        obtain ⟨gc, rfl, _, hg2⟩ := own_head HO.out (by omega)
        have hck := (HO.out.cellAt q (by omega)).trans hvk
        rw [hxy2] at hck hrk hmem
        simp only [List.length_cons, List.length_nil, Nat.zero_add, Nat.reduceAdd] at hck hrk
        obtain ⟨bx, ox, rfl, hcx⟩ := hrk.2 (by omega)
        have k0 : w2.cell? ⟨bx, ox, none⟩ = some (.int .i64 (x : Int)) := hcx 0 _ rfl
        have k1 : w2.cell? ⟨bx, ox + 1, none⟩ = some (.int .i64 (y : Int)) := hcx 1 _ rfl
        have hqN : (q : Int) < (N : Int) := by omega
        have HNE := Lib.hid (fun (e : [(x : Int), (y : Int)] ≠ [i, k]) j (hj : j < q + 1) => show (onceL zs).getD j [] ≠ [i, k] by
          rcases Nat.lt_or_ge j q with h1 | h1
          · exact hT.out j h1
          · obtain rfl : j = q := by omega
            rw [hxy2]; exact e)
        have HM := Lib.hid hmem
        clear hvk hrk hko hmem hxy2 hcx hT
        by_cases hx1 : (x : Int) = i
        · by_cases hy1 : (y : Int) = k
          · subst hx1
            subst hy1
            have HF := Lib.hid (show inE zs (x : Int) (y : Int) = true from decide_eq_true HM.out)
            obtain ⟨bt, ot, rfl, p0, p1, _⟩ := HH2.out.tri (k := x) (by omega)
            obtain ⟨bt', ot', e', q0, q1, _⟩ := HH2.out.tri (k := y) (by omega)
            cases e'
            have t1 := (HZ.out.2.1 x (by omega)).PB
            have t2 := (HZ.out.2.1 y (by omega)).PB
            have HSI := Lib.hid (show sideI zs (x : Int).toNat (y : Int).toNat = gcdI (absI ((tat zs x).1 - (tat zs y).1)) (absI ((tat zs x).2.1 - (tat zs y).2.1)) by rw [gcdI_absI]; rfl)
            have t3 : (-500000 ≤ (tat zs x).1 ∧ (tat zs x).1 ≤ 500000) ∧ (-500000 ≤ (tat zs x).2.1 ∧ (tat zs x).2.1 ≤ 500000) := t1
            have t4 : (-500000 ≤ (tat zs y).1 ∧ (tat zs y).1 ≤ 500000) ∧ (-500000 ≤ (tat zs y).2.1 ∧ (tat zs y).2.1 ≤ 500000) := t2
            have i1 : (x : Int) < (n : Int) := by omega
            have j1 : (y : Int) < (n : Int) := by omega
            clear t1 t2 HNE
            generalize (tat zs x).1 = x1 at *
            generalize (tat zs x).2.1 = y1 at *
            generalize (tat zs y).1 = x2 at *
            generalize (tat zs y).2.1 = y2 at *
            have u1 := absI_nonneg (x1 - x2)
            have u2 := absI_nonneg (y1 - y2)
            have u3 := absI_le (n := x1 - x2) (k := 2000000) (by omega) (by omega)
            have u4 := absI_le (n := y1 - y2) (k := 2000000) (by omega) (by omega)
            go_wp2
            go_quiet ((first | (go_at_call 63; exact quiet_left (l1Abs_any _ (by omega) (by omega) _)) | (go_at_call 62; exact quiet_left (stCommon_any _ _ (by omega) (by omega) (by omega) (by omega) _))))
            go_wp2
            go_ret2
            exact ⟨by rw [HF.out, HSI.out] <;> rfl, Ext.drewN HE2.out _⟩
          · have HNE2 := Lib.hid (HNE.out (by simpa using fun _ => hy1))
            have hx2 : ((x : Int) == i) = true := by simpa using hx1
            have hy2 : ((y : Int) == k) = false := by simpa using hy1
            subst hx1
            clear HNE hy1
            go_wp2
            go_roundw
            case rel => exact ⟨q + 1, by omega, by go_num, HNE2, trivial⟩
            case measure => simp [intOf]; omega
        · have HNE2 := Lib.hid (HNE.out (by simpa using fun e => absurd e hx1))
          have hx2 : ((x : Int) == i) = false := by simpa using hx1
          clear HNE hx1
          go_wp2
          go_roundw
          case rel => exact ⟨q + 1, by omega, by go_num, HNE2, trivial⟩
          case measure => simp [intOf]; omega
      · obtain rfl : q = N := by omega
        have HF := Lib.hid (show inE zs i k = false from decide_eq_false fun hm => by
          obtain ⟨j, hj, he⟩ := List.getElem_of_mem hm
          exact hT.out j (by rw [HN.out]; exact hj) (by simpa [List.getD, hj] using he))
        go_wp2
        go_ret2
        exact ⟨by rw [HF.out] <;> rfl, HE2.out⟩
set_option maxHeartbeats 2000000 in
set_option maxRecDepth 100000 in
theorem law_EdgeLength (a0 : Option Addr) (n0 c0 : Nat) (zs : List (Int × Int × Int)) (i : Int) (k : Int) (w : World) (hr0 : IsTri w a0 n0 c0 zs) (hi : B64 i) (hk : B64 k) :
    Calls Try.prog 9 #[.slice a0 n0 c0, .int .i64 i, .int .i64 k] w fun r w' => r = .returned (.bool true) ∧ Ext w w' := by
  have h0 : Reads w a0 3 n0 (tv zs) := hr0.1
  have hc01 := hr0.2.1
  have hc02 := hr0.2.2.1
  unfold maxLen at hc02
  clear hr0
  have hl0 : zs.length = n0 := by have := h0.1; rw [tv_len] at this; omega
  by_cases hg0 : n0 ≤ 1048576
  rotate_left
  · go_enter Try.func9, Try.ntmps9
    go_wp2_with fail
    refine (szTermS_no _ _ _ _ (by omega) (by omega) (by omega) (by omega) _).mono ?_
    rintro e _ ⟨rfl, rfl⟩
    go_wp2
    go_ret
    exact ⟨rfl, (by repeat (first | exact Ext.refl _ | assumption | apply Ext.alloc | apply Ext.drew | apply Ext.drewN | (refine Ext.trans ?_ (by assumption)) | (refine Ext.setCell ?_ (by (try simp) <;> omega) _)))⟩
  have hm0 : n0 ≤ 1048576 := by omega
  obtain ⟨V, eV⟩ : ∃ z0 : Int, z0 = (gI (planeB zs && inE zs i k) (sideI zs i.toNat k.toNat)) := ⟨_, rfl⟩
  obtain ⟨K, eK⟩ : ∃ z0 : Bool, z0 = (planeB zs && inE zs i k) := ⟨_, rfl⟩
  have HS := Lib.hid (show ∀ (b0 : Nat) w,Reads w (some ⟨b0, 0, none⟩) 3 n0 (tv zs) → Calls Try.prog 36 #[.slice (some ⟨b0, 0, none⟩) n0 n0, .int .i64 i, .int .i64 k] w (fun r w' => r = .returned (.tuple #[.int .i64 V, .bool K]) ∧ Ext w w') by rw [eV, eK]; intro b0 w h0; exact spec_EdgeLength_any _ _ _ zs i k (by omega) _ h0)
  have HI := Lib.hid (show ∀ (b0 : Nat) w,Reads w (some ⟨b0, 0, none⟩) 3 n0 (tv zs) → Calls Try.prog 37 #[.slice (some ⟨b0, 0, none⟩) n0 n0, .int .i64 i, .int .i64 k] w (fun r w' => r = .returned (.tuple #[.int .i64 V, .bool K]) ∧ Ext w w') by rw [eV, eK]; intro b0 w h0; exact impl_EdgeLength_any _ _ _ zs i k hi hk (by omega) _ h0)
  clear eV eK
  go_enter Try.func9, Try.ntmps9
  go_wp2_with fail
  refine (szTermS_yes _ _ _ _ (by omega) (by omega) _).mono ?_
  rintro e _ ⟨rfl, rfl⟩
  have hE : Ext w w := (by repeat (first | exact Ext.refl _ | assumption | apply Ext.alloc | apply Ext.drew | apply Ext.drewN | (refine Ext.trans ?_ (by assumption)) | (refine Ext.setCell ?_ (by (try simp) <;> omega) _)))
  go_wp2_with fail
  refine (toTermS_any _ _ _ zs hm0 _ (h0.ext hE)).mono ?_
  rintro e w1 ⟨gs0, rfl, xs0, hb⟩
  have hz1 := hb.size
  replace hE := Ext.trans hE hb
  clear hb
  have xs00 := xs0
  go_wp2_with fail
  refine (HS.out _ _ (own_reads xs0)).mono ?_
  rintro e w2 ⟨rfl, hb⟩
  have hz2 := hb.size
  replace hE := Ext.trans hE hb
  replace xs0 := own_ext hb xs0
  clear hb
  clear xs0
  go_wp2_with fail
  refine (toTermS_any _ _ _ zs hm0 _ (h0.ext hE)).mono ?_
  rintro e w3 ⟨gp0, rfl, xp0, hb⟩
  have hz3 := hb.size
  replace hE := Ext.trans hE hb
  clear hb
  have xp00 := xp0
  go_wp2_with fail
  refine (HI.out _ _ (own_reads xp0)).mono ?_
  rintro e w4 ⟨rfl, hb⟩
  have hz4 := hb.size
  replace hE := Ext.trans hE hb
  replace xp0 := own_ext hb xp0
  clear hb
  go_wp2_with fail
  refine (toTermS_any _ _ _ zs hm0 _ (h0.ext hE)).mono ?_
  rintro e w5 ⟨gq0, rfl, xq0, hb⟩
  have hz5 := hb.size
  replace hE := Ext.trans hE hb
  replace xp0 := own_ext hb xp0
  clear hb
  have xq00 := xq0
  go_wp2_with fail
  refine (eqTermS_same _ _ _ _ _ zs (by omega) _ (own_reads xp0) (own_reads xq0)).mono ?_
  rintro e w6 ⟨rfl, hb⟩
  have hz6 := hb.size
  replace hE := Ext.trans hE hb
  replace xp0 := own_ext hb xp0
  replace xq0 := own_ext hb xq0
  clear hb
  clear xq0
  go_wp2
  go_ret
  exact ⟨rfl, hE⟩

end Go.Proofs.Ytehcjlbkfgfmjaa
