/-
  Stars mapped: both sides' walks.
-/
import Derived.Test.YtogbfhhioicbmaaAddI
namespace Go.Proofs.Ytogbfhhioicbmaa
open Go.RowKit

/-- A ray whose steps have been mapped. -/
def fR (a b c d : Int) (r : Int × Int × Int) : Int × Int × Int := (a * r.1 + b * r.2.1, c * r.1 + d * r.2.1, r.2.2)
def allB (xs : List Int) (k : Nat) : Bool := (xs.take k).all fun n => inB n (-3) 3
theorem allB_succ {xs : List Int} {k : Nat} (h : k < xs.length) : allB xs (k + 1) = (allB xs k && inB (xs.getD k 0) (-3) 3) := by
  unfold allB
  rw [List.take_succ_eq_append_getElem h, List.all_append, show xs.getD k 0 = xs[k] by simp [List.getD, h]]
  simp only [List.all_cons, List.all_nil, Bool.and_true]
theorem allB_bad {xs : List Int} {k : Nat} (h : k < xs.length) (hb : inB (xs.getD k 0) (-3) 3 = false) : allB xs xs.length = false := by
  simp only [allB, List.take_length, List.all_eq_false]
  exact ⟨xs[k], List.getElem_mem h, by simpa [List.getD, h] using hb⟩
def mapB (zs : List (Int × Int × Int)) (a b c d : Int) : Bool := starB zs && allB [a, b, c, d] 4 && decide (absI (a * d - b * c) = 1)
theorem allB_four {a b c d : Int} (h : allB [a, b, c, d] 4 = true) : (-3 ≤ a ∧ a ≤ 3) ∧ (-3 ≤ b ∧ b ≤ 3) ∧ (-3 ≤ c ∧ c ≤ 3) ∧ (-3 ≤ d ∧ d ≤ 3) := by
  simp [allB, inB] at h
  omega
theorem fR_keys {zs : List (Int × Int × Int)} {a b c d : Int} (hs : SortT zs) (hd : absI (a * d - b * c) = 1) : ((zs.map (fR a b c d)).map kR).Nodup := by
  rw [List.map_map, List.Nodup, List.pairwise_map]
  refine hs.imp fun {p q} h e => ?_
  unfold fR kR at e
  simp only [Function.comp, Prod.mk.injEq] at e
  obtain ⟨e1, e2⟩ := e
  obtain ⟨px, py, pw⟩ := p
  obtain ⟨qx, qy, qw⟩ := q
  simp only at e1 e2
  have hne : a * d - b * c ≠ 0 := by intro h0; rw [h0] at hd; simp [absI] at hd
  have k1 : (a * d - b * c) * (px - qx) = 0 := by grind
  have k2 : (a * d - b * c) * (py - qy) = 0 := by grind
  have z1 := (Int.mul_eq_zero.1 k1).resolve_left hne
  have z2 := (Int.mul_eq_zero.1 k2).resolve_left hne
  unfold lexP lexV kR at h
  simp only at h
  omega
theorem l1All4_any (g : Nat) (a b c d : Int) (w : World) (h : Reads w (some ⟨g, 0, none⟩) 1 4 (iv [a, b, c, d])) :
    Calls Try.prog 56 #[.slice (some ⟨g, 0, none⟩) 4 4, .int .i64 (-3), .int .i64 3] w fun r w' => r = .returned (.bool (allB [a, b, c, d] 4)) ∧ w = w' := by
  obtain ⟨xs, hxs⟩ : ∃ xs, xs = [a, b, c, d] := ⟨_, rfl⟩
  rw [← hxs] at h ⊢
  have hl : xs.length = 4 := by rw [hxs]; rfl
  have HL := Lib.hid hl
  have HC := Lib.hid h.cells
  clear hxs hl h
  go_enter Try.func56, Try.ntmps56
  go_wp2
  go_loop [11] (fun t => ∃ k : Nat, k ≤ 4 ∧ t = .int .i64 k ∧ Hid (allB xs k = true)) (fun t => 4 - (intOf t).toNat)
  case atStart => exact ⟨0, by omega, rfl, Lib.hid rfl⟩
  case round =>
    obtain ⟨k, hk, rfl, HA⟩ := hrel
    by_cases hlt : k < 4
    · have hc := HC.out k _ (iv_at (by rw [HL.out]; exact hlt))
      have HS := Lib.hid (allB_succ (xs := xs) (k := k) (by rw [HL.out]; exact hlt))
      have HX := Lib.hid (fun e => allB_bad (xs := xs) (k := k) (by rw [HL.out]; exact hlt) e)
      generalize xs.getD k 0 = n at *
      simp only [Nat.zero_add] at hc
      have hlt4 : (k : Int) < 4 := by omega
      cases hb : inB n (-3) 3
      · have HX2 := Lib.hid (HX.out hb)
        have HI := Lib.hid (fun w => l1In_any n (-3) 3 w)
        rw [hb] at HI
        clear HX HS hb
        go_wp2_with fail
        refine (HI.out _).mono ?_
        rintro e _ ⟨rfl, rfl⟩
        go_wp2
        go_ret
        exact ⟨ret_bool (by rw [← HL.out, HX2.out]), rfl⟩
      · have HS2 := Lib.hid (show allB xs (k + 1) = true by rw [HS.out, HA.out, hb]; rfl)
        have HI := Lib.hid (fun w => l1In_any n (-3) 3 w)
        rw [hb] at HI
        clear HX HS hb
        go_wp2_with fail
        refine (HI.out _).mono ?_
        rintro e _ ⟨rfl, rfl⟩
        go_wp2
        go_round
        case rel => exact ⟨k + 1, by omega, by go_num, HS2⟩
        case measure => simp [intOf]; omega
    · obtain rfl : k = 4 := by omega
      go_wp2
      go_ret
      exact ⟨ret_bool HA.out.symm, rfl⟩
set_option maxHeartbeats 4000000 in
set_option maxRecDepth 100000 in
theorem spec_MapStar_any (a : Option Addr) (n c : Nat) (zs : List (Int × Int × Int)) (p q r s : Int) (hn : n ≤ 1048576) (w : World) (h : Reads w a 3 n (tv zs)) :
    Calls Try.prog 22 #[.slice a n c, .int .i64 p, .int .i64 q, .int .i64 r, .int .i64 s] w (OwnsRaysB w.heap.size (gT (mapB zs p q r s && starB (putAll [] (zs.map (fR p q r s)))) (putAll [] (zs.map (fR p q r s)))) (mapB zs p q r s && starB (putAll [] (zs.map (fR p q r s)))) w) := by
  have hl : zs.length = n := by have := h.1; rw [tv_len] at this; omega
  subst hl
  have HG := Lib.hid (fun e : mapB zs p q r s = false => show (mapB zs p q r s && starB (putAll [] (zs.map (fR p q r s)))) = false by rw [e]; rfl)
  have R4 : ∀ (w1 : World), Reads (w1.alloc (.cells #[.int .i64 p, .int .i64 q, .int .i64 r, .int .i64 s] 3)) (some ⟨w1.heap.size, 0, none⟩) 1 4 (iv [p, q, r, s]) := fun w1 => ⟨rfl, fun _ => ⟨_, _, rfl, fun j u hj => by
    match j, hj with
    | 0, hj => simp [iv] at hj; subst hj; simp
    | 1, hj => simp [iv] at hj; subst hj; simp
    | 2, hj => simp [iv] at hj; subst hj; simp
    | 3, hj => simp [iv] at hj; subst hj; simp⟩⟩
  have HR4 := Lib.hid R4
  clear R4
  cases h1 : starB zs
  · go_enter Try.func22, Try.ntmps22
    go_wp2_with fail
    refine (stGood_any _ _ _ zs (by omega) _ h).mono ?_
    rw [h1]
    rintro e w1 ⟨rfl, hb1⟩
    go_wp2
    go_ret2
    exact ⟨none, 0, by rw [HG.out (by unfold mapB; rw [h1]; rfl)]; rfl, by rw [HG.out (by unfold mapB; rw [h1]; rfl)]; exact own_none _ _ _, hb1⟩
  · cases h4 : allB [p, q, r, s] 4
    · go_enter Try.func22, Try.ntmps22
      go_wp2_with fail
      refine (stGood_any _ _ _ zs (by omega) _ h).mono ?_
      rw [h1]
      rintro e w1 ⟨rfl, hb1⟩
      go_wp2_with fail
      refine (l1All4_any _ p q r s _ (HR4.out _)).mono ?_
      rw [h4]
      rintro e _ ⟨rfl, rfl⟩
      go_wp2
      go_ret2
      exact ⟨none, 0, by rw [HG.out (by unfold mapB; rw [h1, h4]; rfl)]; rfl, by rw [HG.out (by unfold mapB; rw [h1, h4]; rfl)]; exact own_none _ _ _, Ext.alloc hb1 _⟩
    · have h4b := allB_four h4
      have P1 := mul_bd (A := 3) (D := 3) (a := p) (d := s) (by omega) (by omega) (by omega) (by omega)
      have P2 := mul_bd (A := 3) (D := 3) (a := q) (d := r) (by omega) (by omega) (by omega) (by omega)
      have HAb := Lib.hid (fun w => l1Abs_any (p * s - q * r) (by omega) (by omega) w)
      cases h5 : decide (absI (p * s - q * r) = 1)
      · have hm := Lib.hid (show mapB zs p q r s = false by unfold mapB; rw [h5]; simp)
        have h5' : (absI (p * s - q * r) != 1) = true := by simpa using h5
        generalize absI (p * s - q * r) = A at *
        clear h5
        go_enter Try.func22, Try.ntmps22
        go_wp2_with fail
        refine (stGood_any _ _ _ zs (by omega) _ h).mono ?_
        rw [h1]
        rintro e w1 ⟨rfl, hb1⟩
        go_wp2_with fail
        refine (l1All4_any _ p q r s _ (HR4.out _)).mono ?_
        rw [h4]
        rintro e _ ⟨rfl, rfl⟩
        go_wp2_with fail
        refine (HAb.out _).mono ?_
        rintro e _ ⟨rfl, rfl⟩
        go_wp2
        go_ret2
        exact ⟨none, 0, by rw [HG.out hm.out]; rfl, by rw [HG.out hm.out]; exact own_none _ _ _, Ext.alloc hb1 _⟩
      · have hd : absI (p * s - q * r) = 1 := by simpa using h5
        have HMT := Lib.hid (show mapB zs p q r s = true by unfold mapB; rw [h1, h4, h5]; rfl)
        rw [hd] at HAb
        obtain ⟨l1, s1, b1⟩ := star_rows h1
        have HBZ := Lib.hid b1
        have HPB := Lib.hid (fun k => putAll_bd (a := []) (fun z hz => by simp at hz) ((zs.take k).map (fR p q r s)) (fun z hz => by
          obtain ⟨u, hu, rfl⟩ := List.mem_map.1 hz
          have := b1 u (List.mem_of_mem_take hu)
          unfold fR; simp only; omega))
        have HPL := Lib.hid (fun k => (putAll_spec (a := []) .nil ((zs.take k).map (fR p q r s))).2.2.2)
        clear b1 s1 hd h5
        go_enter Try.func22, Try.ntmps22
        go_wp2_with fail
        refine (stGood_any _ _ _ zs (by omega) _ h).mono ?_
        rw [h1]
        rintro e w1 ⟨rfl, hb1⟩
        go_wp2_with fail
        refine (l1All4_any _ p q r s _ (HR4.out _)).mono ?_
        rw [h4]
        rintro e _ ⟨rfl, rfl⟩
        go_wp2_with fail
        refine (HAb.out _).mono ?_
        rintro e _ ⟨rfl, rfl⟩
        replace hb1 := Ext.alloc hb1 (.cells #[.int .i64 p, .int .i64 q, .int .i64 r, .int .i64 s] 3)
        have HE1 := Lib.hid hb1
        have HX := Lib.hid h
        clear hb1 h HAb HR4 HG
        go_wp2
        go_loopw [12, 40] (fun x t wr => ∃ (k : Nat) (a1 : Option Addr) (c1 : Nat), k ≤ zs.length ∧ t = .int .i64 k ∧ x = .slice a1 (putAll [] ((zs.take k).map (fR p q r s))).length c1 ∧ wr.ownsRow w.heap.size 85 3 (.slice a1 (putAll [] ((zs.take k).map (fR p q r s))).length c1) (putAll [] ((zs.take k).map (fR p q r s))).length (tv (putAll [] ((zs.take k).map (fR p q r s)))) ∧ Ext w wr) (fun _ t _ => zs.length - (intOf t).toNat)
        case atStart => exact ⟨0, none, 0, Nat.zero_le _, rfl, rfl, own_none _ _ _, HE1.out⟩
        case round =>
          clear HE1
          obtain ⟨k, a1, c1, hk, rfl, rfl, hown, hE⟩ := hrel
          have hlp := HPL.out k
          have HBk := Lib.hid (HPB.out k)
          by_cases hlt : k < zs.length
          · obtain ⟨b, off, rfl, hp0, hp1, hp2⟩ := (Reads.ext hE HX.out).tri hlt
            have HC := Lib.hid (show putAll [] ((zs.take (k + 1)).map (fR p q r s)) = putT (putAll [] ((zs.take k).map (fR p q r s))) (fR p q r s (tat zs k)) by rw [List.take_succ_eq_append_getElem hlt, List.map_append, List.map_cons, List.map_nil, putAll_snoc, tat_eq hlt])
            have hbz := HBZ.out (tat zs k) (by rw [tat_eq hlt]; exact List.getElem_mem hlt)
            generalize tat zs k = u at *
            obtain ⟨u1, u2, u3⟩ := u
            simp only [fR] at hp0 hp1 hp2 hbz HC
            have hlp2 : (putAll [] ((zs.take k).map (fR p q r s))).length ≤ 100 := by rw [List.length_map, List.length_take, List.length_nil] at hlp; omega
            have M1 := mul_bd (A := 3) (D := 20) (a := p) (d := u1) (by omega) (by omega) (by omega) (by omega)
            have M2 := mul_bd (A := 3) (D := 20) (a := q) (d := u2) (by omega) (by omega) (by omega) (by omega)
            have M3 := mul_bd (A := 3) (D := 20) (a := r) (d := u1) (by omega) (by omega) (by omega) (by omega)
            have M4 := mul_bd (A := 3) (D := 20) (a := s) (d := u2) (by omega) (by omega) (by omega) (by omega)
            have HP2 := Lib.hid (fun w hw => stPut_any a1 _ c1 w.heap.size (putAll [] ((zs.take k).map (fR p q r s))) (p * u1 + q * u2) (r * u1 + s * u2) u3 hlp2 (fun z hz => by have := HBk.out z hz; simp at this; omega) (by omega) w hw)
            have HP3 := Lib.hid (fun B w hw => stPut_any a1 _ c1 B (putAll [] ((zs.take k).map (fR p q r s))) (p * u1 + q * u2) (r * u1 + s * u2) u3 hlp2 (fun z hz => by have := HBk.out z hz; simp at this; omega) (by omega) w hw)
            generalize putAll [] ((zs.take k).map (fR p q r s)) = P at *
            have hown1 := own_ext (show Ext wr (wr.alloc (.cells #[.int .i64 u1, .int .i64 u2, .int .i64 u3] 85)) from (by repeat (first | exact Ext.refl _ | assumption | apply Ext.alloc | apply Ext.drew | apply Ext.drewN | (refine Ext.trans ?_ (by assumption)) | (refine Ext.setCell ?_ (by (try simp) <;> omega) _)))) hown
            clear hown hlp HP2
            go_wp2_with fail
            refine (HP3.out _ _ hown1).mono ?_
            rintro e w4 ⟨a4, c4, rfl, hown4, hE4⟩
            have hEa := Ext.alloc hE (.cells #[.int .i64 u1, .int .i64 u2, .int .i64 u3] 85)
            go_wp2
            go_roundw
            case rel => exact ⟨k + 1, a4, c4, by omega, by go_num, by rw [HC.out], by rw [HC.out]; exact own_mono hEa.size hown4, hEa.trans hE4⟩
            case measure => simp [intOf]; omega
          · obtain rfl : k = zs.length := by omega
            rw [List.take_length] at hown hlp ⊢
            have hlp2 : (putAll [] (zs.map (fR p q r s))).length ≤ 1000 := by simp at hlp; omega
            generalize putAll [] (zs.map (fR p q r s)) = P at *
            clear HPB HPL HBk hlp
            cases h3 : starB P
            · go_wp2_with fail
              refine (stIf_any _ _ _ P (by omega) _ (own_reads hown)).mono ?_
              rw [h3]
              rintro e w5 ⟨rfl, hb5⟩
              go_wp2
              go_ret2
              rw [HMT.out, h3]
              exact ⟨none, 0, rfl, own_none _ _ _, hE.trans hb5⟩
            · go_wp2_with fail
              refine (stIf_any _ _ _ P (by omega) _ (own_reads hown)).mono ?_
              rw [h3]
              rintro e w5 ⟨rfl, hb5⟩
              go_wp2
              go_ret2
              rw [HMT.out, h3]
              exact ⟨a1, c1, rfl, own_ext hb5 hown, hE.trans hb5⟩

set_option maxHeartbeats 4000000 in
set_option maxRecDepth 100000 in
theorem impl_MapStar_any (a : Option Addr) (n c : Nat) (zs : List (Int × Int × Int)) (p q r s : Int) (hn : n ≤ 1048576) (w : World) (h : Reads w a 3 n (tv zs)) :
    Calls Try.prog 24 #[.slice a n c, .int .i64 p, .int .i64 q, .int .i64 r, .int .i64 s] w (OwnsRaysB w.heap.size (gT (mapB zs p q r s && starB (putAll [] (zs.map (fR p q r s)))) (putAll [] (zs.map (fR p q r s)))) (mapB zs p q r s && starB (putAll [] (zs.map (fR p q r s)))) w) := by
  have hl : zs.length = n := by have := h.1; rw [tv_len] at this; omega
  subst hl
  have HG := Lib.hid (fun e : mapB zs p q r s = false => show (mapB zs p q r s && starB (putAll [] (zs.map (fR p q r s)))) = false by rw [e]; rfl)
  have C4 : ∀ (w1 : World) (k : Nat), k < 4 → (w1.alloc (.cells #[.int .i64 p, .int .i64 q, .int .i64 r, .int .i64 s] 3)).cell? ⟨w1.heap.size, k, none⟩ = some (.int .i64 ([p, q, r, s].getD k 0)) := fun w1 k hk => by
    match k, hk with
    | 0, _ => simp
    | 1, _ => simp
    | 2, _ => simp
    | 3, _ => simp
  cases h1 : starB zs
  · go_enter Try.func24, Try.ntmps24
    go_wp2_with fail
    refine (isStar_any _ _ _ zs (by omega) _ h).mono ?_
    rw [h1]
    rintro e w1 ⟨rfl, hb1⟩
    go_wp2
    go_ret2
    exact ⟨none, 0, by rw [HG.out (by unfold mapB; rw [h1]; rfl)]; rfl, by rw [HG.out (by unfold mapB; rw [h1]; rfl)]; exact own_none _ _ _, hb1⟩
  · obtain ⟨xs, hxs⟩ : ∃ xs, xs = [p, q, r, s] := ⟨_, rfl⟩
    rw [← hxs] at C4
    have HC := Lib.hid C4
    clear C4
    have HL := Lib.hid (show xs.length = 4 by rw [hxs]; rfl)
    cases h4 : allB xs 4
    · have H4 := Lib.hid h4
      have HMB := Lib.hid (show mapB zs p q r s = false by unfold mapB; rw [h1, ← hxs, h4]; rfl)
      clear hxs h4
      go_enter Try.func24, Try.ntmps24
      go_wp2_with fail
      refine (isStar_any _ _ _ zs (by omega) _ h).mono ?_
      rw [h1]
      rintro e w1 ⟨rfl, hb1⟩
      go_wp2
      go_loop [26] (fun t => ∃ k : Nat, k ≤ 4 ∧ t = .int .i64 k ∧ Hid (allB xs k = true)) (fun t => 4 - (intOf t).toNat)
      case atStart => exact ⟨0, by omega, rfl, Lib.hid rfl⟩
      case round =>
        obtain ⟨k, hk, rfl, HA⟩ := hrel
        by_cases hlt : k < 4
        · have hc := HC.out w1 k hlt
          have HS := Lib.hid (allB_succ (xs := xs) (k := k) (by rw [HL.out]; exact hlt))
          have HX := Lib.hid (fun e => allB_bad (xs := xs) (k := k) (by rw [HL.out]; exact hlt) e)
          generalize xs.getD k 0 = n at *
          have hlt4 : (k : Int) < 4 := by omega
          have HI := Lib.hid (fun w => within_any n (-3) 3 w)
          cases hb : inB n (-3) 3
          · have HX2 := Lib.hid (HX.out hb)
            rw [hb] at HI
            clear HX HS hb
            go_wp2_with fail
            refine (HI.out _).mono ?_
            rintro e _ ⟨rfl, rfl⟩
            go_wp2
            go_ret2
            exact ⟨none, 0, by rw [HG.out HMB.out]; rfl, by rw [HG.out HMB.out]; exact own_none _ _ _, Ext.alloc hb1 _⟩
          · have HS2 := Lib.hid (show allB xs (k + 1) = true by rw [HS.out, HA.out, hb]; rfl)
            rw [hb] at HI
            clear HX HS hb
            go_wp2_with fail
            refine (HI.out _).mono ?_
            rintro e _ ⟨rfl, rfl⟩
            go_wp2
            go_round
            case rel => exact ⟨k + 1, by omega, by go_num, HS2⟩
            case measure => simp [intOf]; omega
        · obtain rfl : k = 4 := by omega
          exact absurd (HA.out.symm.trans H4.out) (by simp)
    · have h4b := allB_four (by rw [← hxs]; exact h4)
      have H4 := Lib.hid h4
      have P1 := mul_bd (A := 3) (D := 3) (a := p) (d := s) (by omega) (by omega) (by omega) (by omega)
      have P2 := mul_bd (A := 3) (D := 3) (a := q) (d := r) (by omega) (by omega) (by omega) (by omega)
      have HAb := Lib.hid (fun w => abs_any (p * s - q * r) (by omega) (by omega) w)
      cases h5 : decide (absI (p * s - q * r) = 1)
      · have hm := Lib.hid (show mapB zs p q r s = false by unfold mapB; rw [h5]; simp)
        have h5' : (absI (p * s - q * r) != 1) = true := by simpa using h5
        generalize absI (p * s - q * r) = A at *
        clear h5 hxs h4
        go_enter Try.func24, Try.ntmps24
        go_wp2_with fail
        refine (isStar_any _ _ _ zs (by omega) _ h).mono ?_
        rw [h1]
        rintro e w1 ⟨rfl, hb1⟩
        go_wp2
        go_loop [26] (fun t => ∃ k : Nat, k ≤ 4 ∧ t = .int .i64 k ∧ Hid (allB xs k = true)) (fun t => 4 - (intOf t).toNat)
        case atStart => exact ⟨0, by omega, rfl, Lib.hid rfl⟩
        case round =>
          obtain ⟨k, hk, rfl, HA⟩ := hrel
          by_cases hlt : k < 4
          · have hc := HC.out w1 k hlt
            have HS := Lib.hid (allB_succ (xs := xs) (k := k) (by rw [HL.out]; exact hlt))
            have HX := Lib.hid (fun e => allB_bad (xs := xs) (k := k) (by rw [HL.out]; exact hlt) e)
            generalize xs.getD k 0 = n at *
            have hlt4 : (k : Int) < 4 := by omega
            have HI := Lib.hid (fun w => within_any n (-3) 3 w)
            cases hb : inB n (-3) 3
            · have HX2 := Lib.hid (HX.out hb)
              rw [hb] at HI
              clear HX HS hb
              exact absurd (HX2.out.symm.trans (by rw [HL.out, H4.out])) (by simp)
            · have HS2 := Lib.hid (show allB xs (k + 1) = true by rw [HS.out, HA.out, hb]; rfl)
              rw [hb] at HI
              clear HX HS hb
              go_wp2_with fail
              refine (HI.out _).mono ?_
              rintro e _ ⟨rfl, rfl⟩
              go_wp2
              go_round
              case rel => exact ⟨k + 1, by omega, by go_num, HS2⟩
              case measure => simp [intOf]; omega
          · obtain rfl : k = 4 := by omega
            go_wp2_with fail
            refine (HAb.out _).mono ?_
            rintro e _ ⟨rfl, rfl⟩
            go_wp2
            go_ret2
            exact ⟨none, 0, by rw [HG.out hm.out]; rfl, by rw [HG.out hm.out]; exact own_none _ _ _, Ext.alloc hb1 _⟩
      · have hd : absI (p * s - q * r) = 1 := by simpa using h5
        have HMT := Lib.hid (show mapB zs p q r s = true by unfold mapB; rw [h1, ← hxs, h4, h5]; rfl)
        obtain ⟨l1, s1, b1⟩ := star_rows h1
        have HBZ := Lib.hid b1
        have HQR := Lib.hid (fun z (hz : z ∈ zs.map (fR p q r s)) => show QR z by
          obtain ⟨u, hu, rfl⟩ := List.mem_map.1 hz
          have hu := b1 u hu
          have M1 := mul_bd (A := 3) (D := 20) (a := p) (d := u.1) (by omega) (by omega) (by omega) (by omega)
          have M2 := mul_bd (A := 3) (D := 20) (a := q) (d := u.2.1) (by omega) (by omega) (by omega) (by omega)
          have M3 := mul_bd (A := 3) (D := 20) (a := r) (d := u.1) (by omega) (by omega) (by omega) (by omega)
          have M4 := mul_bd (A := 3) (D := 20) (a := s) (d := u.2.1) (by omega) (by omega) (by omega) (by omega)
          unfold QR PB kR fR; simp only; omega)
        have HPS := Lib.hid (fun S hp hs => show S = putAll [] (zs.map (fR p q r s)) from sort_put hp (fR_keys s1 hd) hs)
        have HX := Lib.hid h
        obtain ⟨i0, hz1, hz2, hz3, hz4⟩ := info_parts ray_info
        have HZI := Lib.hid (And.intro hz1 (And.intro hz2 (And.intro hz3 hz4)))
        clear hz1 hz2 hz3 hz4
        rw [hd] at HAb
        clear b1 s1 hd h5 hxs h4
        go_enter Try.func24, Try.ntmps24
        go_wp2_with fail
        refine (isStar_any _ _ _ zs (by omega) _ h).mono ?_
        rw [h1]
        rintro e w1 ⟨rfl, hb1⟩
        go_wp2
        go_loop [26] (fun t => ∃ k : Nat, k ≤ 4 ∧ t = .int .i64 k ∧ Hid (allB xs k = true)) (fun t => 4 - (intOf t).toNat)
        case atStart => exact ⟨0, by omega, rfl, Lib.hid rfl⟩
        case round =>
          obtain ⟨k, hk, rfl, HA⟩ := hrel
          by_cases hlt : k < 4
          · have hc := HC.out w1 k hlt
            have HS := Lib.hid (allB_succ (xs := xs) (k := k) (by rw [HL.out]; exact hlt))
            have HX := Lib.hid (fun e => allB_bad (xs := xs) (k := k) (by rw [HL.out]; exact hlt) e)
            generalize xs.getD k 0 = n at *
            have hlt4 : (k : Int) < 4 := by omega
            have HI := Lib.hid (fun w => within_any n (-3) 3 w)
            cases hb : inB n (-3) 3
            · have HX2 := Lib.hid (HX.out hb)
              rw [hb] at HI
              clear HX HS hb
              exact absurd (HX2.out.symm.trans (by rw [HL.out, H4.out])) (by simp)
            · have HS2 := Lib.hid (show allB xs (k + 1) = true by rw [HS.out, HA.out, hb]; rfl)
              rw [hb] at HI
              clear HX HS hb
              go_wp2_with fail
              refine (HI.out _).mono ?_
              rintro e _ ⟨rfl, rfl⟩
              go_wp2
              go_round
              case rel => exact ⟨k + 1, by omega, by go_num, HS2⟩
              case measure => simp [intOf]; omega
          · obtain rfl : k = 4 := by omega
            go_wp2_with fail
            refine (HAb.out _).mono ?_
            rintro e _ ⟨rfl, rfl⟩
            replace hb1 := Ext.alloc hb1 (.cells #[.int .i64 p, .int .i64 q, .int .i64 r, .int .i64 s] 3)
            have HE1 := Lib.hid hb1
            clear hb1 h HAb HG HC HA
            go_wp2
            go_loopw [14, 46] (fun x t wr => ∃ (k : Nat) (a1 : Option Addr) (c1 : Nat), k ≤ zs.length ∧ t = .int .i64 k ∧ x = .slice a1 k c1 ∧ wr.ownsRow w.heap.size 85 3 (.slice a1 k c1) k (tv ((zs.take k).map (fR p q r s))) ∧ Ext w wr) (fun _ t _ => zs.length - (intOf t).toNat)
            case atStart => exact ⟨0, _, 0, Nat.zero_le _, rfl, rfl, own_emptyH (w1.alloc (.cells #[.int .i64 p, .int .i64 q, .int .i64 r, .int .i64 s] 3)) rfl rfl (by simp) HE1.out.size, Ext.alloc HE1.out _⟩
            case round =>
              clear HE1
              obtain ⟨k, a1, c1, hk, rfl, rfl, hown, hE⟩ := hrel
              by_cases hlt : k < zs.length
              · obtain ⟨b, off, rfl, hp0, hp1, hp2⟩ := (Reads.ext hE HX.out).tri hlt
                have HCT := Lib.hid (show tv ((zs.take (k + 1)).map (fR p q r s)) = tv ((zs.take k).map (fR p q r s)) ++ [.int .i64 (p * (tat zs k).1 + q * (tat zs k).2.1), .int .i64 (r * (tat zs k).1 + s * (tat zs k).2.1), .int .i64 (tat zs k).2.2] by rw [List.take_succ_eq_append_getElem hlt, List.map_append, List.map_cons, List.map_nil, tv_append, tat_eq hlt]; rfl)
                have hbz := HBZ.out (tat zs k) (by rw [tat_eq hlt]; exact List.getElem_mem hlt)
                generalize tat zs k = u at *
                obtain ⟨u1, u2, u3⟩ := u
                simp only at hp0 hp1 hp2 hbz HCT
                have M1 := mul_bd (A := 3) (D := 20) (a := p) (d := u1) (by omega) (by omega) (by omega) (by omega)
                have M2 := mul_bd (A := 3) (D := 20) (a := q) (d := u2) (by omega) (by omega) (by omega) (by omega)
                have M3 := mul_bd (A := 3) (D := 20) (a := r) (d := u1) (by omega) (by omega) (by omega) (by omega)
                have M4 := mul_bd (A := 3) (D := 20) (a := s) (d := u2) (by omega) (by omega) (by omega) (by omega)
                generalize tv ((zs.take k).map (fR p q r s)) = T at *
                have HO := Lib.hid (own_ext (show Ext wr (wr.alloc (.cells #[.int .i64 u1, .int .i64 u2, .int .i64 u3] 85)) from Ext.alloc (Ext.refl _) _) hown)
                have HEv := Lib.hid (show Ext w (wr.alloc (.cells #[.int .i64 u1, .int .i64 u2, .int .i64 u3] 85)) from Ext.alloc hE _)
                clear hown hE
                go_wp2_with (at_builtin; go_must (refine wpList_app_any _ rfl _ _ 47 rfl w.heap.size 85 i0 _ 3 24 Try.underlying47 HZI.out.1 HZI.out.2.1 HZI.out.2.2.1 HZI.out.2.2.2 rfl (by decide) _ k T rfl (own_ext (Ext.alloc (Ext.refl _) _) HO.out) _ _ _ _ rfl (ones_reads3 (x := .int .i64 (p * u1 + q * u2)) (y := .int .i64 (r * u1 + s * u2)) (z := .int .i64 u3) (by simp) (by simp) (by simp)) (by simp [Value.oneCell']) (by unfold maxLen; omega) (by omega) (by have := HEv.out.size; simp at this ⊢; omega) ?_))
                intro a5 c5 w5 hown5 hgr5 _
                have hE5 := Ext.grown (Ext.alloc HEv.out _) hgr5 (fun k hk => (HO.out.lt k hk).1)
                go_wp2
                go_roundw
                case rel => exact ⟨k + 1, a5, c5, by omega, by go_num, rfl, by rw [HCT.out]; exact hown5, hE5⟩
                case measure => simp [intOf]; omega
              · obtain rfl : k = zs.length := by omega
                rw [List.take_length] at hown
                go_wp2_with fail
                refine (sortRays_any w.heap.size _ c1 a1 (zs.map (fR p q r s)) HQR.out (by omega) _ hown).mono ?_
                rintro e w4 ⟨rfl, S, hp, hs, hown4, hgr4⟩
                have hE4 := Ext.grown hE hgr4 (fun k hk => (hown.lt k hk).1)
                have hSl : S.length = zs.length := by rw [hp.length_eq, List.length_map]
                have HSP := Lib.hid (show S = putAll [] (zs.map (fR p q r s)) from HPS.out S hp hs)
                rw [HSP.out] at hSl hown4
                rw [← hSl] at hown4 ⊢
                clear hown hgr4 hp hs
                have hlp : (putAll [] (zs.map (fR p q r s))).length ≤ 1000 := by omega
                generalize putAll [] (zs.map (fR p q r s)) = P at *
                clear HSP HPS HQR hSl
                cases h3 : starB P
                · go_wp2_with fail
                  refine (toldStar_any _ _ _ P (by omega) _ (own_reads hown4)).mono ?_
                  rw [h3]
                  rintro e w5 ⟨rfl, hb5⟩
                  go_wp2
                  go_ret2
                  rw [HMT.out, h3]
                  exact ⟨none, 0, rfl, own_none _ _ _, hE4.trans hb5⟩
                · go_wp2_with fail
                  refine (toldStar_any _ _ _ P (by omega) _ (own_reads hown4)).mono ?_
                  rw [h3]
                  rintro e w5 ⟨rfl, hb5⟩
                  go_wp2
                  go_ret2
                  rw [HMT.out, h3]
                  exact ⟨a1, c1, rfl, own_ext hb5 hown4, hE4.trans hb5⟩

end Go.Proofs.Ytogbfhhioicbmaa
