/-
  The roots of a polynomial: both sides' walks.
-/
import Derived.Test.YtjaaohgknakpnaaSameFn
import Derived.Test.YtjaaohgknakpnaaFrac
import Derived.Test.YtjaaohgknakpnaaScale
import Derived.Deep.AppendLies
import Derived.BigQuiet
namespace Go.Proofs.Ytjaaohgknakpnaa
open Go.RowKit

theorem cell_at_new {w : World} {cs : Array Value} {t : TypeId} {n i : Nat} {v : Value} (h : n = w.heap.size) (hi : cs[i]? = some v) : (w.alloc (.cells cs t)).cell? ⟨n, i, none⟩ = some v := by
  subst h
  exact Has.new w cs t i v (by simpa using hi)
/-- A cell of a block that was new ahead of a call. -/
theorem Ext.newCell {w w' : World} {cs : Array Value} {t : TypeId} (h : Ext (w.alloc (.cells cs t)) w') {i : Nat} {v : Value} (hi : cs[i]? = some v) : w'.cell? ⟨w.heap.size, i, none⟩ = some v ∧ w'.frozen? ⟨w.heap.size, i, none⟩ = false :=
  ⟨h.keep (Has.new w cs t i v (by simpa using hi)), by rw [h.frozen _ _ (by simp)]; simp⟩

/-- The root between the corners m - 1 and m. -/
def rootAt (zs C : List Int) (m : Nat) : Int × Int × Int := (lowN (cf zs (C.getD (m - 1) 0) - cf zs (C.getD m 0)) (C.getD m 0 - C.getD (m - 1) 0), lowD (cf zs (C.getD (m - 1) 0) - cf zs (C.getD m 0)) (C.getD m 0 - C.getD (m - 1) 0), C.getD m 0 - C.getD (m - 1) 0)
def rtsTo (zs C : List Int) (j : Nat) : List (Int × Int × Int) := (List.range j).map fun q => rootAt zs C (C.length - 1 - q)
def rts (zs : List Int) : List (Int × Int × Int) := rtsTo zs (cornR zs zs.length).reverse ((cornR zs zs.length).reverse.length - 1)
theorem rtsTo_len (zs C : List Int) (j : Nat) : (rtsTo zs C j).length = j := by simp [rtsTo]
theorem rtsTo_succ (zs C : List Int) (j : Nat) : rtsTo zs C (j + 1) = rtsTo zs C j ++ [rootAt zs C (C.length - 1 - j)] := by simp [rtsTo, List.range_succ]
/-- What is known of the corners, in their order. -/
structure IsCorn (zs C : List Int) : Prop where
  len : C.length ≤ zs.length
  get : ∀ m : Nat, m < C.length → ∃ x : Nat, C[m]? = some (x : Int)
  mem : ∀ m x : Nat, C[m]? = some (x : Int) → x < zs.length ∧ cf zs x ≠ 1000000000
  lt : ∀ m x y : Nat, C[m]? = some (x : Int) → C[m + 1]? = some (y : Int) → x < y
theorem isCorn (zs : List Int) : IsCorn zs (cornR zs zs.length).reverse := by
  refine ⟨by have := cornR_len zs zs.length; simpa using this, fun m hm => ?_, fun m x hx => ?_, fun m x y h0 h1 => ?_⟩
  · have h1 := List.getElem_mem hm
    have := cornR_mem zs zs.length _ (List.mem_reverse.1 h1)
    obtain ⟨x, hx⟩ := Int.eq_ofNat_of_zero_le this.1
    exact ⟨x, by rw [List.getElem?_eq_getElem hm, hx]⟩
  · have := cornR_mem zs zs.length _ (List.mem_reverse.1 (List.mem_of_getElem? hx))
    omega
  · have hp : (cornR zs zs.length).reverse.Pairwise (· < ·) := by rw [List.pairwise_reverse]; exact corn_rise
    obtain ⟨a0, b0⟩ := List.getElem?_eq_some_iff.1 h0
    obtain ⟨a1, b1⟩ := List.getElem?_eq_some_iff.1 h1
    have := (List.pairwise_iff_getElem.1 hp) m (m + 1) a0 a1 (by omega)
    omega
theorem rootAt_eq {zs C : List Int} {m x y : Nat} (h0 : C[m]? = some (x : Int)) (h1 : C[m + 1]? = some (y : Int)) : rootAt zs C (m + 1) = (lowN (cf zs x - cf zs y) ((y : Int) - x), lowD (cf zs x - cf zs y) ((y : Int) - x), (y : Int) - x) := by
  have e0 : C.getD m 0 = x := by simp [List.getD, h0]
  have e1 : C.getD (m + 1) 0 = y := by simp [List.getD, h1]
  unfold rootAt
  rw [Nat.add_sub_cancel, e0, e1]

theorem root_info : (Try.prog.info? 87).map (fun i => (i.zero, i.size, i.bytes)) = some (some (.agg #[.int .i64 0, .int .i64 0, .int .i64 0]), 3, 24) := by kernel_rfl

set_option maxHeartbeats 4000000 in
set_option maxRecDepth 100000 in
theorem roots_any (a : Option Addr) (n c : Nat) (zs : List Int) (hn : n ≤ 13) (hp : IsPol zs) (w : World) (h : Reads w a 1 n (iv zs)) :
    Calls Try.prog 73 #[.slice a n c] w fun r w' => ∃ a1 c1, r = .returned (.slice a1 (rts zs).length c1) ∧ w'.ownsRow w.heap.size 87 3 (.slice a1 (rts zs).length c1) (rts zs).length (tv (rts zs)) ∧ Ext w w' := by
  have hl : zs.length = n := by have := h.1; rw [iv_len] at this; omega
  subst hl
  obtain ⟨i0, hi, hz0, hz1, hz2⟩ := info_parts root_info
  have HZ := Lib.hid (And.intro hi (And.intro hz0 (And.intro hz1 hz2)))
  clear hi hz0 hz1 hz2
  obtain ⟨C, hC⟩ : ∃ C, C = (cornR zs zs.length).reverse := ⟨_, rfl⟩
  have HI := Lib.hid (show IsCorn zs C by rw [hC]; exact isCorn zs)
  have HR := Lib.hid (show rtsTo zs C (C.length - 1) = rts zs by rw [hC]; rfl)
  have hpos : 1 ≤ C.length := by
    obtain ⟨t, ht⟩ := corn_head hp
    rw [hC, ht]; simp
  have hlen := HI.out.len
  have HCon := Lib.hid (fun w h => corners_any a zs.length c zs hn hp.num w h)
  rw [← hC] at HCon
  have Hn := Lib.hid hp.num
  clear hC hp
  go_enter Try.func73, Try.ntmps73
  go_wp2_with fail
  refine (HCon.out _ h).mono ?_
  rintro e w1 ⟨ca, cc, rfl, hC1, hE1⟩
  clear HCon
  go_wp2
  go_loopw [4, 5] (fun s t wr => ∃ (j m : Nat) (a1 : Option Addr) (c1 : Nat), m + j + 1 = C.length ∧ t = .int .i64 m ∧ s = .slice a1 j c1 ∧ wr.ownsRow w1.heap.size 87 3 (.slice a1 j c1) j (tv (rtsTo zs C j)) ∧ Ext w1 wr) (fun _ t _ => (intOf t).toNat)
  case atStart => exact ⟨0, C.length - 1, some ⟨w1.heap.size, 0, none⟩, 0, by omega, by simp; omega, rfl, World.ownsRow_lit w1 #[] 0 (Nat.le_refl _) (by unfold maxLen; omega) rfl, (Ext.refl _).alloc _⟩
  case round =>
    obtain ⟨j, m, a1, c1, hjm, rfl, rfl, hown, hEr⟩ := hrel
    by_cases hm : m = 0
    · have HM := Lib.hid (show rtsTo zs C j = rts zs by rw [← HR.out]; congr 1; omega)
      have HL := Lib.hid (show j = (rts zs).length by rw [← HM.out, rtsTo_len])
      rw [HM.out] at hown
      subst hm
      go_wp2
      go_ret
      exact ⟨a1, c1, by rw [← HL.out]; rfl, by rw [← HL.out]; exact own_mono hE1.size hown, hE1.trans hEr⟩
    · obtain ⟨q, rfl⟩ : ∃ q, m = q + 1 := ⟨m - 1, by omega⟩
      obtain ⟨x, hx⟩ := HI.out.get q (by omega)
      obtain ⟨y, hy⟩ := HI.out.get (q + 1) (by omega)
      have hxm := HI.out.mem _ _ hx
      have hym := HI.out.mem _ _ hy
      have hxy := HI.out.lt _ _ _ hx hy
      have bx := num_bd (Hn.out x hxm.1) hxm.2
      have by' := num_bd (Hn.out y hym.1) hym.2
      have HS := Lib.hid (show rtsTo zs C (j + 1) = rtsTo zs C j ++ [(lowN (cf zs x - cf zs y) ((y : Int) - x), lowD (cf zs x - cf zs y) ((y : Int) - x), (y : Int) - x)] by
        rw [rtsTo_succ, show C.length - 1 - j = q + 1 by omega, rootAt_eq hx hy])
      have hCr := own_ext hEr hC1
      obtain ⟨cb, rfl, _, _⟩ := own_head hCr (by omega)
      have hcx : wr.cell? ⟨cb, q, none⟩ = some (.int .i64 x) := by rw [hCr.cellAt q (by omega)]; simp [iv, hx]
      have hcy : wr.cell? ⟨cb, q + 1, none⟩ = some (.int .i64 y) := by rw [hCr.cellAt (q + 1) (by omega)]; simp [iv, hy]
      have hcell := (h.ext hE1)
      obtain ⟨b, off, rfl, _⟩ := hcell.2 (by omega)
      have Pc0 := Ext.keeps (hcell.cells x _ (cf_at hxm.1))
      have Pc1 := Ext.keeps (hcell.cells y _ (cf_at hym.1))
      have hxl : x < zs.length := hxm.1
      have hyl : y < zs.length := hym.1
      have hok := Lib.hid (okM_of (n := cf zs x - cf zs y) (d := (y : Int) - x) (by omega) (by omega) (by omega))
      have HO := Lib.hid hown
      clear hcell h hxm hym hx hy hown hCr
      generalize cf zs x = zx at *
      generalize cf zs y = zy at *
      go_wp2
      go_quiet (fail)
      go_wp2
      have hbase : ∀ k, (Value.slice a1 j c1).ownBlock = some k → w1.heap.size ≤ k := fun k hk => (HO.out.lt k hk).1
      have HB := Lib.hid hbase
      clear hbase
      have e1 : IntKind.i64.wrap (zx - zy) = zx - zy := wrap_i64 (by omega) (by omega)
      have e2 : IntKind.i64.wrap ((y : Int) - x) = (y : Int) - x := wrap_i64 (by omega) (by omega)
      go_region_held3 (fun w' => Ext w1 w') (first | (repeat (first | exact Ext.refl _ | assumption | apply Ext.alloc | apply Ext.drew | apply Ext.drewN | (refine Ext.trans ?_ (by assumption)) | (refine Ext.setCell ?_ (by (try simp) <;> omega) _))) | exact HE2.out) (first | (go_at_call 137; refine (lowest_any _ _ (by omega) (by omega) (by omega) (by omega) (by omega) _).mono ?_; rintro e w' ⟨rfl, hb⟩) | (refine step_append_lies _ (by rfl) _ _ _ (by rfl) w1.heap.size 87 i0 _ 3 24 Try.underlying38 HZ.out.1 HZ.out.2.1 HZ.out.2.2.1 HZ.out.2.2.2 rfl (by omega) _ j (tv (rtsTo zs C j)) (by rfl) (own_ext (by repeat (first | exact Ext.refl _ | assumption | apply Ext.alloc | apply Ext.drew | apply Ext.drewN | (refine Ext.trans ?_ (by assumption)) | (refine Ext.setCell ?_ (by (try simp) <;> omega) _))) HO.out) ⟨_, 0, none⟩ 1 1 [.int .i64 (lowN (zx - zy) ((y : Int) - x)), .int .i64 (lowD (zx - zy) ((y : Int) - x)), .int .i64 ((y : Int) - x)] (by rfl) (by rfl) (World.news_of_block (cs := #[.int .i64 (lowN (zx - zy) ((y : Int) - x)), .int .i64 (lowD (zx - zy) ((y : Int) - x)), .int .i64 ((y : Int) - x)]) (t := 87) (fr := (0, 0)) (heap_alloc_new _ _)) (by simp [Value.oneCell']) (by omega) (by unfold maxLen; omega) (by omega) (Ext.size (w := w1) (by repeat (first | exact Ext.refl _ | assumption | apply Ext.alloc | apply Ext.drew | apply Ext.drewN | (refine Ext.trans ?_ (by assumption)) | (refine Ext.setCell ?_ (by (try simp) <;> omega) _)))) _ rfl ?_; intro gg cap w2 hown2 hgrow hat hlt2; have HE2 := Lib.hid (Ext.grown (a := w1) (by repeat (first | exact Ext.refl _ | assumption | apply Ext.alloc | apply Ext.drew | apply Ext.drewN | (refine Ext.trans ?_ (by assumption)) | (refine Ext.setCell ?_ (by (try simp) <;> omega) _))) hgrow HB.out)))
      go_wp2
      go_roundw
      case rel => exact ⟨j + 1, q, some ⟨gg, 0, none⟩, cap, by omega, congrArg (Value.int .i64) (by omega), rfl, by rw [HS.out, tv_append]; exact own_ext (by repeat (first | exact Ext.refl _ | assumption | apply Ext.alloc | apply Ext.drew | apply Ext.drewN | (refine Ext.trans ?_ (by assumption)) | (refine Ext.setCell ?_ (by (try simp) <;> omega) _))) hown2, Ext.trans HE2.out (by repeat (first | exact Ext.refl _ | assumption | apply Ext.alloc | apply Ext.drew | apply Ext.drewN | (refine Ext.trans ?_ (by assumption)) | (refine Ext.setCell ?_ (by (try simp) <;> omega) _)))⟩
      case measure => first | (simp [intOf]; done) | (simp [intOf]; omega)

set_option maxHeartbeats 4000000 in
set_option maxRecDepth 100000 in
theorem rtRoots_any (a : Option Addr) (n c : Nat) (zs : List Int) (hn : n ≤ 13) (hp : IsPol zs) (w : World) (h : Reads w a 1 n (iv zs)) :
    Calls Try.prog 71 #[.slice a n c] w fun r w' => ∃ a1 c1, r = .returned (.slice a1 (rts zs).length c1) ∧ w'.ownsRow w.heap.size 87 3 (.slice a1 (rts zs).length c1) (rts zs).length (tv (rts zs)) ∧ Ext w w' := by
  have hl : zs.length = n := by have := h.1; rw [iv_len] at this; omega
  subst hl
  obtain ⟨i0, hi, hz0, hz1, hz2⟩ := info_parts root_info
  have HZ := Lib.hid (And.intro hi (And.intro hz0 (And.intro hz1 hz2)))
  clear hi hz0 hz1 hz2
  obtain ⟨C, hC⟩ : ∃ C, C = (cornR zs zs.length).reverse := ⟨_, rfl⟩
  have HI := Lib.hid (show IsCorn zs C by rw [hC]; exact isCorn zs)
  have HR := Lib.hid (show rtsTo zs C (C.length - 1) = rts zs by rw [hC]; rfl)
  have hpos : 1 ≤ C.length := by
    obtain ⟨t, ht⟩ := corn_head hp
    rw [hC, ht]; simp
  have hlen := HI.out.len
  have HCon := Lib.hid (fun w h => rtCorners_any a zs.length c zs hn hp.num w h)
  rw [← hC] at HCon
  have Hn := Lib.hid hp.num
  clear hC hp
  go_enter Try.func71, Try.ntmps71
  go_wp2_with fail
  refine (HCon.out _ h).mono ?_
  rintro e w1 ⟨ca, cc, rfl, hC1, hE1⟩
  clear HCon
  go_wp2
  go_loopw [3, 5] (fun s t wr => ∃ (j m : Nat) (a1 : Option Addr) (c1 : Nat), m + j + 1 = C.length ∧ t = .int .i64 m ∧ s = .slice a1 j c1 ∧ wr.ownsRow w1.heap.size 87 3 (.slice a1 j c1) j (tv (rtsTo zs C j)) ∧ Ext w1 wr) (fun _ t _ => (intOf t).toNat)
  case atStart => exact ⟨0, C.length - 1, none, 0, by omega, by simp; omega, rfl, World.ownsRow_nil _ _ _ _, Ext.refl _⟩
  case round =>
    obtain ⟨j, m, a1, c1, hjm, rfl, rfl, hown, hEr⟩ := hrel
    by_cases hm : m = 0
    · have HM := Lib.hid (show rtsTo zs C j = rts zs by rw [← HR.out]; congr 1; omega)
      have HL := Lib.hid (show j = (rts zs).length by rw [← HM.out, rtsTo_len])
      rw [HM.out] at hown
      subst hm
      go_wp2
      go_ret
      exact ⟨a1, c1, by rw [← HL.out]; rfl, by rw [← HL.out]; exact own_mono hE1.size hown, hE1.trans hEr⟩
    · obtain ⟨q, rfl⟩ : ∃ q, m = q + 1 := ⟨m - 1, by omega⟩
      obtain ⟨x, hx⟩ := HI.out.get q (by omega)
      obtain ⟨y, hy⟩ := HI.out.get (q + 1) (by omega)
      have hxm := HI.out.mem _ _ hx
      have hym := HI.out.mem _ _ hy
      have hxy := HI.out.lt _ _ _ hx hy
      have bx := num_bd (Hn.out x hxm.1) hxm.2
      have by' := num_bd (Hn.out y hym.1) hym.2
      have HS := Lib.hid (show rtsTo zs C (j + 1) = rtsTo zs C j ++ [(lowN (cf zs x - cf zs y) ((y : Int) - x), lowD (cf zs x - cf zs y) ((y : Int) - x), (y : Int) - x)] by
        rw [rtsTo_succ, show C.length - 1 - j = q + 1 by omega, rootAt_eq hx hy])
      have hCr := own_ext hEr hC1
      obtain ⟨cb, rfl, _, _⟩ := own_head hCr (by omega)
      have hcx : wr.cell? ⟨cb, q, none⟩ = some (.int .i64 x) := by rw [hCr.cellAt q (by omega)]; simp [iv, hx]
      have hcy : wr.cell? ⟨cb, q + 1, none⟩ = some (.int .i64 y) := by rw [hCr.cellAt (q + 1) (by omega)]; simp [iv, hy]
      have hcell := (h.ext hE1)
      obtain ⟨b, off, rfl, _⟩ := hcell.2 (by omega)
      have Pc0 := Ext.keeps (hcell.cells x _ (cf_at hxm.1))
      have Pc1 := Ext.keeps (hcell.cells y _ (cf_at hym.1))
      have hxl : x < zs.length := hxm.1
      have hyl : y < zs.length := hym.1
      have hok := Lib.hid (okM_of (n := cf zs x - cf zs y) (d := (y : Int) - x) (by omega) (by omega) (by omega))
      have HO := Lib.hid hown
      clear hcell h hxm hym hx hy hown hCr
      generalize cf zs x = zx at *
      generalize cf zs y = zy at *
      go_wp2
      go_quiet (fail)
      go_wp2
      have HM := Lib.hid (fun w => show Calls Try.prog 135 #[.int .i64 (zx - zy), .int .i64 ((y : Int) - x)] w fun r w' => r = .returned (.tuple #[.agg #[.int .i64 (lowN (zx - zy) ((y : Int) - x)), .int .i64 (lowD (zx - zy) ((y : Int) - x))], .bool true]) ∧ Ext w w' from by
        have := frMake_any (zx - zy) ((y : Int) - x) (by omega) (by omega) (by omega) (by omega) w
        rw [hok.out] at this
        exact this)
      generalize lowN (zx - zy) ((y : Int) - x) = N at *
      generalize lowD (zx - zy) ((y : Int) - x) = D at *
      have e1 : IntKind.i64.wrap (zx - zy) = zx - zy := wrap_i64 (by omega) (by omega)
      have e2 : IntKind.i64.wrap ((y : Int) - x) = (y : Int) - x := wrap_i64 (by omega) (by omega)
      have hsz := hEr.size
      go_region_held3 (fun w' => Ext w1 w') ((repeat (first | exact Ext.refl _ | assumption | apply Ext.alloc | apply Ext.drew | apply Ext.drewN | (refine Ext.trans ?_ (by assumption)) | (refine Ext.setCell ?_ (by (try simp) <;> omega) _)))) (first | (go_at_call 135; refine (HM.out _).mono ?_; rintro e w' ⟨rfl, hb⟩; have hbw : Ext wr w' := Ext.trans (by repeat (first | exact Ext.refl _ | assumption | apply Ext.alloc | apply Ext.drew | apply Ext.drewN | (refine Ext.trans ?_ (by assumption)) | (refine Ext.setCell ?_ (by (try simp) <;> omega) _))) hb; have hsz2 := hb.size; simp at hsz2; (try have hk0 : w'.cell? ⟨wr.heap.size, 0, none⟩ = some (.int .i64 0) := (Ext.newCell (cs := #[.int .i64 0, .int .i64 0]) hb (i := 0) (v := .int .i64 0) rfl).1); (try have hk1 : w'.cell? ⟨wr.heap.size, 1, none⟩ = some (.int .i64 0) := (Ext.newCell (cs := #[.int .i64 0, .int .i64 0]) hb (i := 1) (v := .int .i64 0) rfl).1); (try have hf0 : w'.frozen? ⟨wr.heap.size, 0, none⟩ = false := (Ext.newCell (cs := #[.int .i64 0, .int .i64 0]) hb (i := 0) (v := .int .i64 0) rfl).2); (try have hf1 : w'.frozen? ⟨wr.heap.size, 1, none⟩ = false := (Ext.newCell (cs := #[.int .i64 0, .int .i64 0]) hb (i := 1) (v := .int .i64 0) rfl).2)))
      all_goals (
        go_wp2_with (at_builtin; go_must (first | (refine wpList_appT Try.underlying38 root_info rfl _ _ rfl w1 w1.heap.size _ _ _ (rtsTo zs C j) rfl ?_ ⟨w'.heap.size, 0, none⟩ 1 1 [(N, D, (y : Int) - x)] rfl rfl ?_ (by omega) (by omega) ?_ ?_ (Nat.le_refl _) ?_) | (refine wpList_appT Try.underlying38 root_info rfl _ _ rfl w1 w1.heap.size _ _ _ (rtsTo zs C j) rfl ?_ ⟨w'.heap.size + 1, 0, none⟩ 1 1 [(N, D, (y : Int) - x)] rfl rfl ?_ (by omega) (by omega) ?_ ?_ (Nat.le_refl _) ?_)))
        · exact own_ext (by first | exact Ext.alloc (Ext.setCell (Ext.setCell hbw (Nat.le_refl _) _) (Nat.le_refl _) _) _ | exact Ext.alloc (Ext.alloc hbw _) _ | exact Ext.alloc hbw _) HO.out
        · intro q u hq
          match q, hq with
          | 0, hq => obtain rfl : Value.int .i64 N = u := by simpa [tv] using hq
                     exact cell_at_new (by simp) rfl
          | 1, hq => obtain rfl : Value.int .i64 D = u := by simpa [tv] using hq
                     exact cell_at_new (by simp) rfl
          | 2, hq => obtain rfl : Value.int .i64 ((y : Int) - x) = u := by simpa [tv] using hq
                     exact cell_at_new (by simp) rfl
          | q + 3, hq => simp [tv] at hq
        · first | (simp; done) | (simp; omega)
        · exact Ext.trans hEr (by first | exact Ext.alloc (Ext.setCell (Ext.setCell hbw (Nat.le_refl _) _) (Nat.le_refl _) _) _ | exact Ext.alloc (Ext.alloc hbw _) _ | exact Ext.alloc hbw _)
        · intro a2 c2 w3 hown2 hE2
          go_wp2
          go_roundw
          case rel => exact ⟨j + 1, q, a2, c2, by omega, congrArg (Value.int .i64) (by omega), rfl, by rw [HS.out]; exact hown2, hE2⟩
          case measure => first | (simp [intOf]; done) | (simp [intOf]; omega))


theorem rts_len (zs : List Int) : (rts zs).length ≤ zs.length := by
  unfold rts
  rw [rtsTo_len]
  have := cornR_len zs zs.length
  simp; omega
/-- How often (x, y) is a root. -/
def timesOf (x y : Int) : List (Int × Int × Int) → Int
  | [] => 0
  | r :: rs => if r.1 = x ∧ r.2.1 = y then r.2.2 else timesOf x y rs
theorem timesOf_drop {x y : Int} : ∀ (l : List (Int × Int × Int)) (k : Nat), k ≤ l.length → (∀ i, i < k → ¬ ((tat l i).1 = x ∧ (tat l i).2.1 = y)) → timesOf x y l = timesOf x y (l.drop k)
  | _, 0, _, _ => by simp
  | [], k + 1, h, _ => by simp at h
  | r :: rs, k + 1, h, hn => by
    have h0 := hn 0 (by omega)
    simp only [timesOf]
    rw [if_neg (by simpa [tat] using h0)]
    rw [timesOf_drop rs k (by simpa using h) (fun i hi => by have := hn (i + 1) (by omega); simpa [tat, List.getD] using this)]
    rfl
theorem timesOf_at {x y : Int} {l : List (Int × Int × Int)} {k : Nat} (h : k < l.length) (hn : ∀ i, i < k → ¬ ((tat l i).1 = x ∧ (tat l i).2.1 = y)) (hy : (tat l k).1 = x ∧ (tat l k).2.1 = y) : timesOf x y l = (tat l k).2.2 := by
  rw [timesOf_drop l k (by omega) hn, List.drop_eq_getElem_cons h]
  have e : tat l k = l[k] := by simp [tat, List.getD, h]
  rw [e] at hy ⊢
  simp only [timesOf]
  rw [if_pos hy]
theorem timesOf_none {x y : Int} {l : List (Int × Int × Int)} (hn : ∀ i, i < l.length → ¬ ((tat l i).1 = x ∧ (tat l i).2.1 = y)) : timesOf x y l = 0 := by
  rw [timesOf_drop l l.length (Nat.le_refl _) hn]
  simp [timesOf]

set_option maxHeartbeats 2000000 in
theorem spec_TimesOfRoot_any (a : Option Addr) (n c : Nat) (zs : List Int) (x y : Int) (hn : n ≤ 1073741824) (w : World) (h : Reads w a 1 n (iv zs)) :
    Calls Try.prog 22 #[.slice a n c, .agg #[.int .i64 x, .int .i64 y]] w fun r w' => r = .returned (.tuple #[.int .i64 (gI (polyB zs && fracB x y) (timesOf x y (rts zs))), .bool (polyB zs && fracB x y)]) ∧ Ext w w' := by
  have hl : zs.length = n := by have := h.1; rw [iv_len] at this; omega
  have hE0 : Ext w (w.alloc (.cells #[.int .i64 x, .int .i64 y] 35)) := (Ext.refl w).alloc _
  have Fc := Has.new w #[.int .i64 x, .int .i64 y] 35
  have Fc0 := Ext.keeps (Fc 0 _ rfl)
  have Fc1 := Ext.keeps (Fc 1 _ rfl)
  clear Fc
  cases hz : polyB zs
  · go_enter Try.func22, Try.ntmps22
    go_wp2_with fail
    refine (poGood_any _ _ _ zs hn _ (h.ext hE0)).mono ?_
    rw [hz]
    rintro e _ ⟨rfl, rfl⟩
    go_wp2
    go_ret2
    exact ⟨by simp [gI], hE0⟩
  · cases hf : fracB x y
    · go_enter Try.func22, Try.ntmps22
      go_wp2_with fail
      refine (poGood_any _ _ _ zs hn _ (h.ext hE0)).mono ?_
      rw [hz]
      rintro e _ ⟨rfl, rfl⟩
      go_wp2_with fail
      refine (frGood_any _ _ _).mono ?_
      rw [hf]
      rintro e w1 ⟨rfl, hb⟩
      go_wp2
      go_ret2
      exact ⟨by simp [gI], hE0.trans hb⟩
    · have pz := polyB_pol hz
      obtain ⟨L, hLd⟩ : ∃ L, L = rts zs := ⟨_, rfl⟩
      rw [← hLd]
      have hL := rts_len zs
      have HRt := Lib.hid (fun w h => rtRoots_any a n c zs (by omega) pz.1 w h)
      rw [← hLd] at HRt hL
      clear hLd
      go_enter Try.func22, Try.ntmps22
      go_wp2_with fail
      refine (poGood_any _ _ _ zs hn _ (h.ext hE0)).mono ?_
      rw [hz]
      rintro e _ ⟨rfl, rfl⟩
      go_wp2_with fail
      refine (frGood_any _ _ _).mono ?_
      rw [hf]
      rintro e w1 ⟨rfl, hb⟩
      go_wp2_with fail
      refine (HRt.out _ (h.ext (hE0.trans hb))).mono ?_
      rintro e w2 ⟨ra, rc, rfl, hr, hb2⟩
      have hR := own_reads hr
      have hEw := hb.trans hb2
      have hL2 : L.length ≤ 1073741824 := by omega
      clear hr h pz hb hb2 hL HRt
      go_wp2
      go_loopw [19] (fun t wr => ∃ k : Nat, k ≤ L.length ∧ t = .int .i64 k ∧ Hid (∀ i, i < k → ¬ ((tat L i).1 = x ∧ (tat L i).2.1 = y)) ∧ Ext w2 wr) (fun t _ => L.length - (intOf t).toNat)
      case atStart => exact ⟨0, Nat.zero_le _, rfl, Lib.hid (fun i hi => by omega), Ext.refl _⟩
      case round =>
        obtain ⟨k, hk, rfl, HN, hE⟩ := hrel
        by_cases hlt : k < L.length
        · obtain ⟨b, off, rfl, hp0, hp1, hp2⟩ := (Reads.ext hE hR).tri hlt
          have hEE := hEw.trans hE
          have Fk0 := Fc0 _ hEE
          have Fk1 := Fc1 _ hEE
          have HA := Lib.hid (fun hy => timesOf_at (x := x) (y := y) hlt HN.out hy)
          have HE := Lib.hid hEE
          generalize hu : (tat L k).1 = u at *
          generalize hv : (tat L k).2.1 = v at *
          generalize (tat L k).2.2 = q at *
          have HU := Lib.hid (And.intro hu hv)
          have hlt3 : w.heap.size < wr.heap.size := by have := hEE.size; simp at this; omega
          clear hu hv hR Fc0 Fc1 hEE
          by_cases hy : u = x ∧ v = y
          · have HT := Lib.hid (HA.out hy)
            obtain ⟨rfl, rfl⟩ := hy
            go_wp2
            go_ret2
            exact ⟨by rw [HT.out]; rfl, hE0.trans (Ext.alloc HE.out _)⟩
          · have HY := Lib.hid hy
            have HNk := Lib.hid (show ∀ i, i < k + 1 → ¬ ((tat L i).1 = x ∧ (tat L i).2.1 = y) from fun i hi => by
              rcases (show i < k ∨ i = k by omega) with h1 | rfl
              · exact HN.out i h1
              · rw [HU.out.1, HU.out.2]; exact HY.out)
            clear HN HA HY HU
            by_cases hux : u = x
            · subst hux
              have hvy : (v == y) = false := by simp at hy; simpa using hy
              have hvy2 : decide (v = y) = false := by simpa using hvy
              clear hy
              go_wp2
              go_roundw
              case rel => exact ⟨k + 1, by omega, by go_num, HNk, hE.alloc _⟩
              case measure => simp [intOf]; omega
            · have hu2 : (u == x) = false := by simpa using hux
              have hu3 : decide (u = x) = false := by simpa using hux
              clear hy hux
              go_wp2
              go_roundw
              case rel => exact ⟨k + 1, by omega, by go_num, HNk, hE.alloc _⟩
              case measure => simp [intOf]; omega
        · have HZ := Lib.hid (show timesOf x y L = 0 from timesOf_none (fun i hi => HN.out i (by omega)))
          go_wp2
          go_ret2
          exact ⟨by rw [HZ.out]; rfl, hE0.trans (hEw.trans hE)⟩

set_option maxHeartbeats 2000000 in
theorem impl_TimesOfRoot_any (a : Option Addr) (n c : Nat) (zs : List Int) (x y : Int) (hn : n ≤ 1073741824) (w : World) (h : Reads w a 1 n (iv zs)) :
    Calls Try.prog 24 #[.slice a n c, .agg #[.int .i64 x, .int .i64 y]] w fun r w' => r = .returned (.tuple #[.int .i64 (gI (polyB zs && fracB x y) (timesOf x y (rts zs))), .bool (polyB zs && fracB x y)]) ∧ Ext w w' := by
  have hl : zs.length = n := by have := h.1; rw [iv_len] at this; omega
  have hE0 : Ext w (w.alloc (.cells #[.int .i64 x, .int .i64 y] 35)) := (Ext.refl w).alloc _
  have Fc := Has.new w #[.int .i64 x, .int .i64 y] 35
  have Fc0 := Ext.keeps (Fc 0 _ rfl)
  have Fc1 := Ext.keeps (Fc 1 _ rfl)
  clear Fc
  cases hz : polyB zs
  · go_enter Try.func24, Try.ntmps24
    go_wp2_with fail
    refine (isPoly_any _ _ _ zs hn _ (h.ext hE0)).mono ?_
    rw [hz]
    rintro e _ ⟨rfl, rfl⟩
    go_wp2
    go_ret2
    exact ⟨by simp [gI], hE0⟩
  · cases hf : fracB x y
    · go_enter Try.func24, Try.ntmps24
      go_wp2_with fail
      refine (isPoly_any _ _ _ zs hn _ (h.ext hE0)).mono ?_
      rw [hz]
      rintro e _ ⟨rfl, rfl⟩
      go_wp2_with fail
      refine (isFrac_any _ _ _).mono ?_
      rw [hf]
      rintro e w1 ⟨rfl, hb⟩
      go_wp2
      go_ret2
      exact ⟨by simp [gI], hE0.trans hb⟩
    · have pz := polyB_pol hz
      obtain ⟨L, hLd⟩ : ∃ L, L = rts zs := ⟨_, rfl⟩
      rw [← hLd]
      have hL := rts_len zs
      have HRt := Lib.hid (fun w h => roots_any a n c zs (by omega) pz.1 w h)
      rw [← hLd] at HRt hL
      clear hLd
      go_enter Try.func24, Try.ntmps24
      go_wp2_with fail
      refine (isPoly_any _ _ _ zs hn _ (h.ext hE0)).mono ?_
      rw [hz]
      rintro e _ ⟨rfl, rfl⟩
      go_wp2_with fail
      refine (isFrac_any _ _ _).mono ?_
      rw [hf]
      rintro e w1 ⟨rfl, hb⟩
      go_wp2_with fail
      refine (HRt.out _ (h.ext (hE0.trans hb))).mono ?_
      rintro e w2 ⟨ra, rc, rfl, hr, hb2⟩
      have hR := own_reads hr
      have hEw := hb.trans hb2
      have hL2 : L.length ≤ 1073741824 := by omega
      clear hr h pz hb hb2 hL HRt
      go_wp2
      go_loopw [19] (fun t wr => ∃ k : Nat, k ≤ L.length ∧ t = .int .i64 k ∧ Hid (∀ i, i < k → ¬ ((tat L i).1 = x ∧ (tat L i).2.1 = y)) ∧ Ext w2 wr) (fun t _ => L.length - (intOf t).toNat)
      case atStart => exact ⟨0, Nat.zero_le _, rfl, Lib.hid (fun i hi => by omega), Ext.refl _⟩
      case round =>
        obtain ⟨k, hk, rfl, HN, hE⟩ := hrel
        by_cases hlt : k < L.length
        · obtain ⟨b, off, rfl, hp0, hp1, hp2⟩ := (Reads.ext hE hR).tri hlt
          have hEE := hEw.trans hE
          have Fk0 := Fc0 _ hEE
          have Fk1 := Fc1 _ hEE
          have HA := Lib.hid (fun hy => timesOf_at (x := x) (y := y) hlt HN.out hy)
          have HE := Lib.hid hEE
          generalize hu : (tat L k).1 = u at *
          generalize hv : (tat L k).2.1 = v at *
          generalize (tat L k).2.2 = q at *
          have HU := Lib.hid (And.intro hu hv)
          have hlt3 : w.heap.size < wr.heap.size := by have := hEE.size; simp at this; omega
          clear hu hv hR Fc0 Fc1 hEE
          by_cases hy : u = x ∧ v = y
          · have HT := Lib.hid (HA.out hy)
            obtain ⟨rfl, rfl⟩ := hy
            go_wp2
            go_ret2
            exact ⟨by rw [HT.out]; rfl, hE0.trans (Ext.alloc HE.out _)⟩
          · have HY := Lib.hid hy
            have HNk := Lib.hid (show ∀ i, i < k + 1 → ¬ ((tat L i).1 = x ∧ (tat L i).2.1 = y) from fun i hi => by
              rcases (show i < k ∨ i = k by omega) with h1 | rfl
              · exact HN.out i h1
              · rw [HU.out.1, HU.out.2]; exact HY.out)
            clear HN HA HY HU
            by_cases hux : u = x
            · subst hux
              have hvy : (v == y) = false := by simp at hy; simpa using hy
              have hvy2 : decide (v = y) = false := by simpa using hvy
              clear hy
              go_wp2
              go_roundw
              case rel => exact ⟨k + 1, by omega, by go_num, HNk, hE.alloc _⟩
              case measure => simp [intOf]; omega
            · have hu2 : (u == x) = false := by simpa using hux
              have hu3 : decide (u = x) = false := by simpa using hux
              clear hy hux
              go_wp2
              go_roundw
              case rel => exact ⟨k + 1, by omega, by go_num, HNk, hE.alloc _⟩
              case measure => simp [intOf]; omega
        · have HZ := Lib.hid (show timesOf x y L = 0 from timesOf_none (fun i hi => HN.out i (by omega)))
          go_wp2
          go_ret2
          exact ⟨by rw [HZ.out]; rfl, hE0.trans (hEw.trans hE)⟩

theorem spec_RootsOf_any (a : Option Addr) (n c : Nat) (zs : List Int) (hn : n ≤ 1073741824) (w : World) (h : Reads w a 1 n (iv zs)) :
    Calls Try.prog 27 #[.slice a n c] w (OwnsTriB 87 w.heap.size (gT (polyB zs) (rts zs)) (polyB zs) w) := by
  have hl : zs.length = n := by have := h.1; rw [iv_len] at this; omega
  cases hz : polyB zs
  · go_enter Try.func27, Try.ntmps27
    go_wp2_with fail
    refine (poGood_any _ _ _ zs hn _ h).mono ?_
    rw [hz]
    rintro e _ ⟨rfl, rfl⟩
    go_wp2
    go_ret2
    exact ⟨none, 0, rfl, own_none _ _ _, Ext.refl _⟩
  · have pz := polyB_pol hz
    go_enter Try.func27, Try.ntmps27
    go_wp2_with fail
    refine (poGood_any _ _ _ zs hn _ h).mono ?_
    rw [hz]
    rintro e _ ⟨rfl, rfl⟩
    go_wp2_with fail
    refine (rtRoots_any _ _ _ zs (by omega) pz.1 _ h).mono ?_
    rintro e w2 ⟨ra, rc, rfl, hr, hb2⟩
    go_wp2
    go_ret2
    exact ⟨ra, rc, rfl, hr, hb2⟩

theorem impl_RootsOf_any (a : Option Addr) (n c : Nat) (zs : List Int) (hn : n ≤ 1073741824) (w : World) (h : Reads w a 1 n (iv zs)) :
    Calls Try.prog 28 #[.slice a n c] w (OwnsTriB 87 w.heap.size (gT (polyB zs) (rts zs)) (polyB zs) w) := by
  have hl : zs.length = n := by have := h.1; rw [iv_len] at this; omega
  cases hz : polyB zs
  · go_enter Try.func28, Try.ntmps28
    go_wp2_with fail
    refine (isPoly_any _ _ _ zs hn _ h).mono ?_
    rw [hz]
    rintro e _ ⟨rfl, rfl⟩
    go_wp2
    go_ret2
    exact ⟨none, 0, rfl, own_none _ _ _, Ext.refl _⟩
  · have pz := polyB_pol hz
    go_enter Try.func28, Try.ntmps28
    go_wp2_with fail
    refine (isPoly_any _ _ _ zs hn _ h).mono ?_
    rw [hz]
    rintro e _ ⟨rfl, rfl⟩
    go_wp2_with fail
    refine (roots_any _ _ _ zs (by omega) pz.1 _ h).mono ?_
    rintro e w2 ⟨ra, rc, rfl, hr, hb2⟩
    go_wp2
    go_ret2
    exact ⟨ra, rc, rfl, hr, hb2⟩

set_option maxHeartbeats 2000000 in
set_option maxRecDepth 100000 in
theorem law_TimesOfRoot (a0 : Option Addr) (n0 c0 : Nat) (zs : List Int) (x y : Int) (w : World) (hr0 : IsRow w a0 n0 c0 zs) :
    Calls Try.prog 5 #[.slice a0 n0 c0, .agg #[.int .i64 x, .int .i64 y]] w fun r w' => r = .returned (.bool true) ∧ Ext w w' := by
  have h0 : Reads w a0 1 n0 (iv zs) := hr0.1
  have hc01 := hr0.2.1
  have hc02 := hr0.2.2.1
  unfold maxLen at hc02
  clear hr0
  have hl0 : zs.length = n0 := by have := h0.1; rw [iv_len] at this; omega
  by_cases hg0 : n0 ≤ 1048576
  rotate_left
  · go_enter Try.func5, Try.ntmps5
    go_wp2
    go_ret
    exact ⟨rfl, (by repeat (first | exact Ext.refl _ | assumption | apply Ext.alloc | apply Ext.drew | apply Ext.drewN | (refine Ext.trans ?_ (by assumption)) | (refine Ext.setCell ?_ (by (try simp) <;> omega) _)))⟩
  have hm0 : n0 ≤ 1048576 := by omega
  obtain ⟨T, eT⟩ : ∃ z0 : Int, z0 = (gI (polyB zs && fracB x y) (timesOf x y (rts zs))) := ⟨_, rfl⟩
  obtain ⟨ok, eok⟩ : ∃ z0 : Bool, z0 = (polyB zs && fracB x y) := ⟨_, rfl⟩
  have HS := Lib.hid (show ∀ (b0 : Nat) w,Reads w (some ⟨b0, 0, none⟩) 1 n0 (iv zs) → Calls Try.prog 22 #[.slice (some ⟨b0, 0, none⟩) n0 n0, .agg #[.int .i64 x, .int .i64 y]] w (fun r w' => r = .returned (.tuple #[.int .i64 T, .bool ok]) ∧ Ext w w') by rw [eT, eok]; intro b0 w h0; exact spec_TimesOfRoot_any _ _ _ zs x y (by omega) _ h0)
  have HI := Lib.hid (show ∀ (b0 : Nat) w,Reads w (some ⟨b0, 0, none⟩) 1 n0 (iv zs) → Calls Try.prog 24 #[.slice (some ⟨b0, 0, none⟩) n0 n0, .agg #[.int .i64 x, .int .i64 y]] w (fun r w' => r = .returned (.tuple #[.int .i64 T, .bool ok]) ∧ Ext w w') by rw [eT, eok]; intro b0 w h0; exact impl_TimesOfRoot_any _ _ _ zs x y (by omega) _ h0)
  clear eT eok
  go_enter Try.func5, Try.ntmps5
  have hE : Ext w (w.alloc (.cells #[.int .i64 x, .int .i64 y] 32)) := (by repeat (first | exact Ext.refl _ | assumption | apply Ext.alloc | apply Ext.drew | apply Ext.drewN | (refine Ext.trans ?_ (by assumption)) | (refine Ext.setCell ?_ (by (try simp) <;> omega) _)))
  have B1 := Has.new w #[.int .i64 x, .int .i64 y] 32
  have B1c0 := Ext.keeps (B1 0 _ rfl)
  have B1c1 := Ext.keeps (B1 1 _ rfl)
  clear B1
  have R0 := Lib.hid (fun w' (z : Ext (w.alloc (.cells #[.int .i64 x, .int .i64 y] 32)) w') => h0.ext (hE.trans z))
  go_wp2
  go_region_held3 (fun w' => Ext (w.alloc (.cells #[.int .i64 x, .int .i64 y] 32)) w') ((repeat (first | exact Ext.refl _ | assumption | apply Ext.alloc | apply Ext.drew | apply Ext.drewN | (refine Ext.trans ?_ (by assumption)) | (refine Ext.setCell ?_ (by (try simp) <;> omega) _)))) (first | (go_at_call 15; refine (toIntS_any _ _ _ zs hm0 _ (R0.out _ (by repeat (first | exact Ext.refl _ | assumption | apply Ext.alloc | apply Ext.drew | apply Ext.drewN | (refine Ext.trans ?_ (by assumption)) | (refine Ext.setCell ?_ (by (try simp) <;> omega) _))))).mono ?_; rintro e wa10 ⟨gs0, rfl, xs0, hb0⟩; have hbE0 := Ext.size hb0; have xs00 := xs0) | (go_at_call 23; refine (toFrac_any x y _).mono ?_; rintro e wb11 ⟨rfl, hb1⟩; have hbE1 := Ext.size hb1) | (go_at_call 22; refine (HS.out _ _ (Reads.ext (by repeat (first | exact Ext.refl _ | assumption | apply Ext.alloc | apply Ext.drew | apply Ext.drewN | (refine Ext.trans ?_ (by assumption)) | (refine Ext.setCell ?_ (by (try simp) <;> omega) _))) (own_reads xs0))).mono ?_; rintro e w1 ⟨rfl, hb⟩))
  have hz1 : (World.heap (w.alloc (.cells #[.int .i64 x, .int .i64 y] 32))).size ≤ w1.heap.size := Ext.size (by repeat (first | exact Ext.refl _ | assumption | apply Ext.alloc | apply Ext.drew | apply Ext.drewN | (refine Ext.trans ?_ (by assumption)) | (refine Ext.setCell ?_ (by (try simp) <;> omega) _)))
  have hF : Ext (w.alloc (.cells #[.int .i64 x, .int .i64 y] 32)) w1 := (by repeat (first | exact Ext.refl _ | assumption | apply Ext.alloc | apply Ext.drew | apply Ext.drewN | (refine Ext.trans ?_ (by assumption)) | (refine Ext.setCell ?_ (by (try simp) <;> omega) _)))
  replace hE : Ext w w1 := hE.trans hF
  replace B1c0 := Ext.rebase hF B1c0
  replace B1c1 := Ext.rebase hF B1c1
  clear hb hF hb0 hb1 xs0 xs00 R0
  go_wp2_with fail
  refine (toIntS_any _ _ _ zs hm0 _ (h0.ext hE)).mono ?_
  rintro e w2 ⟨gp0, rfl, xp0, hb⟩
  have hz2 := hb.size
  replace hE := Ext.trans hE hb
  have hk2 := hb
  clear hb
  have xp00 := xp0
  have hF : Ext w1 w2 := (by repeat (first | exact Ext.refl _ | assumption | apply Ext.alloc | apply Ext.drew | apply Ext.drewN | (refine Ext.trans ?_ (by assumption)) | (refine Ext.setCell ?_ (by (try simp) <;> omega) _)))
  replace B1c0 := Ext.rebase hF B1c0
  replace B1c1 := Ext.rebase hF B1c1
  clear hF
  have B1v0 := B1c0 _ (Ext.refl _)
  have B1v1 := B1c1 _ (Ext.refl _)
  go_wp2_with fail
  refine (toFrac_any x y _).mono ?_
  rintro e w3 ⟨rfl, hb⟩
  have hz3 := hb.size
  replace hE := Ext.trans hE hb
  replace xp0 := own_ext hb xp0
  clear hb
  go_wp2_with fail
  refine (HI.out _ _ (own_reads xp0)).mono ?_
  rintro e w4 ⟨rfl, hb⟩
  have hz4 := hb.size
  replace hE := Ext.trans hE hb
  replace xp0 := own_ext hb xp0
  clear hb
  go_wp2_with fail
  refine (toIntS_any _ _ _ zs hm0 _ (h0.ext hE)).mono ?_
  rintro e w5 ⟨gq0, rfl, xq0, hb⟩
  have hz5 := hb.size
  replace hE := Ext.trans hE hb
  replace xp0 := own_ext hb xp0
  clear hb
  have xq00 := xq0
  go_wp2_with fail
  refine (eqIntS_same _ _ _ _ _ zs (by omega) _ (own_reads xp0) (own_reads xq0)).mono ?_
  rintro e w6 ⟨rfl, hb⟩
  have hz6 := hb.size
  replace hE := Ext.trans hE hb
  replace xp0 := own_ext hb xp0
  replace xq0 := own_ext hb xq0
  clear hb
  clear xq0
  go_wp2
  go_ret
  exact ⟨rfl, hE⟩

theorem eqRoot_same (a b c : Int) (w : World) :
    Calls Try.prog 76 #[.agg #[.int .i64 a, .int .i64 b, .int .i64 c], .agg #[.int .i64 a, .int .i64 b, .int .i64 c]] w fun r w' => r = .returned (.bool true) ∧ Ext w w' := by
  have HA := (Has.alloc (Has.new w #[.int .i64 a, .int .i64 b, .int .i64 c] 87) (.cells #[.int .i64 a, .int .i64 b, .int .i64 c] 87))
  have Ac0 := Ext.keeps (HA 0 _ rfl)
  have Ac1 := Ext.keeps (HA 1 _ rfl)
  have Ac2 := Ext.keeps (HA 2 _ rfl)
  clear HA
  have HB := (Has.new2 w (.cells #[.int .i64 a, .int .i64 b, .int .i64 c] 87) #[.int .i64 a, .int .i64 b, .int .i64 c] 87)
  have Bc0 := Ext.keeps (HB 0 _ rfl)
  have Bc1 := Ext.keeps (HB 1 _ rfl)
  have Bc2 := Ext.keeps (HB 2 _ rfl)
  clear HB
  have hE : Ext ((w.alloc (.cells #[.int .i64 a, .int .i64 b, .int .i64 c] 87)).alloc (.cells #[.int .i64 a, .int .i64 b, .int .i64 c] 87)) ((w.alloc (.cells #[.int .i64 a, .int .i64 b, .int .i64 c] 87)).alloc (.cells #[.int .i64 a, .int .i64 b, .int .i64 c] 87)) := Ext.refl _
  go_enter Try.func76, Try.ntmps76
  go_wp2_with fail
  refine (eqFrac_same _ _ _).mono ?_
  rintro e w1 ⟨rfl, hb⟩
  replace hE := Ext.trans hE hb
  go_wp2
  go_ret
  exact ⟨rfl, (by repeat (first | exact Ext.refl _ | assumption | apply Ext.alloc | apply Ext.drew | apply Ext.drewN | (refine Ext.trans ?_ (by assumption)) | (refine Ext.setCell ?_ (by (try simp) <;> omega) _)))⟩

theorem eqRootS_same (a a' : Option Addr) (n c c' : Nat) (zs : List (Int × Int × Int)) (hn : n ≤ 1073741824) (w : World) (h : Reads w a 3 n (tv zs)) (h' : Reads w a' 3 n (tv zs)) :
    Calls Try.prog 29 #[.slice a n c, .slice a' n c'] w fun r w' => r = .returned (.bool true) ∧ Ext w w' := by
  go_enter Try.func29, Try.ntmps29
  go_wp2
  go_loopw [5] (fun s wr => ∃ k : Nat, k ≤ n ∧ s = .int .i64 k ∧ Ext w wr) (fun s _ => n - (intOf s).toNat)
  case atStart => exact ⟨0, Nat.zero_le _, rfl, Ext.refl _⟩
  case round =>
    obtain ⟨k, hk, rfl, hbr⟩ := hrel
    by_cases hlt : k < n
    · obtain ⟨b, off, rfl, hp0, hp1, hp2⟩ := (Reads.ext hbr h).tri hlt
      obtain ⟨b', off', rfl, hq0, hq1, hq2⟩ := (Reads.ext hbr h').tri hlt
      generalize (tat zs k).1 = x at hp0 hq0
      generalize (tat zs k).2.1 = y at hp1 hq1
      generalize (tat zs k).2.2 = z at hp2 hq2
      have Pc0 := Ext.keeps hp0
      have Pc1 := Ext.keeps hp1
      have Pc2 := Ext.keeps hp2
      have Qc0 := Ext.keeps hq0
      have Qc1 := Ext.keeps hq1
      have Qc2 := Ext.keeps hq2
      clear h h'
      have hE : Ext wr wr := Ext.refl _
      go_wp2
      have qP0 := fun s : Past wr => Pc0 s.w s.ext
      have qP1 := fun s : Past wr => Pc1 s.w s.ext
      have qP2 := fun s : Past wr => Pc2 s.w s.ext
      have qQ0 := fun s : Past wr => Qc0 s.w s.ext
      have qQ1 := fun s : Past wr => Qc1 s.w s.ext
      have qQ2 := fun s : Past wr => Qc2 s.w s.ext
      refine wp_region_past wr (by first | exact hE | exact Ext.alloc hE _ | exact Ext.drew hE | exact Ext.drewN hE _) (by kernel_rfl) (by kernel_rfl) ?_
      repeat (go_big_quiet_step (((go_at_call 76; exact past_ext (eqRoot_same _ _ _ _)))))
      refine wpQuiet_nil ?_
      intro _ hw'
      obtain ⟨⟨w2, hE⟩, hw''⟩ := hw'
      subst hw''
      clear qP0 qP1 qP2 qQ0 qQ1 qQ2
      go_wp2
      go_roundw
      case rel => exact ⟨k + 1, by omega, by go_num, hbr.trans hE⟩
      case measure => simp [intOf]; omega
    · go_wp2
      go_ret
      exact ⟨rfl, hbr⟩

set_option maxHeartbeats 1000000 in
theorem markRootS_any (a : Option Addr) (n c : Nat) (k : Int) (xs : List (Int × Int × Int)) (B : Nat) (hn : n ≤ 1073741824) (hk0 : 0 ≤ k) (hk1 : k ≤ 1073741824) (w : World) (h : w.ownsRow B 87 3 (.slice a n c) n (tv xs)) :
    Calls Try.prog 30 #[.slice a n c, .int .i64 k] w fun r w' => r = .returned (.int .i64 (k + 3 * n)) ∧ w'.ownsRow B 87 3 (.slice a n c) n (tv (tmarks k n)) ∧ w.grownBy w' (Value.slice a n c).ownBlock := by
  have hl : xs.length = n := by have := h.1; rw [tv_len] at this; omega
  by_cases hz : n = 0
  · subst hz
    have hx : xs = [] := List.eq_nil_of_length_eq_zero hl
    subst hx
    go_enter Try.func30, Try.ntmps30
    go_wp2
    go_loop [1, 5] (fun t s => s = .int .i64 0 ∧ t = .int .i64 k) (fun _ _ => 0)
    case atStart => exact ⟨rfl, rfl⟩
    case round =>
      obtain ⟨rfl, rfl⟩ := hrel
      go_wp2
      go_ret
      exact ⟨ret_int (by simp), h, World.grownBy.refl _ _⟩
  · obtain ⟨g, rfl, hgB, hgw⟩ := own_head h (by omega)
    go_enter Try.func30, Try.ntmps30
    go_wp2
    go_loopw [1, 5] (fun t s wr => ∃ i : Nat, i ≤ n ∧ s = .int .i64 i ∧ t = .int .i64 (k + 3 * i) ∧ wr.ownsRow B 87 3 (.slice (some ⟨g, 0, none⟩) n c) n (tv (tmarks k i ++ xs.drop i)) ∧ w.grownBy wr (some g)) (fun _ s _ => n - (intOf s).toNat)
    case atStart => exact ⟨0, Nat.zero_le _, rfl, by simp, by simpa [tmarks] using h, World.grownBy.refl _ _⟩
    case round =>
      obtain ⟨i, hi, rfl, rfl, hown, hgr⟩ := hrel
      by_cases hlt : i < n
      · have hyl := hown.1
        obtain ⟨o0, ho0⟩ : ∃ o, wr.cell? ⟨g, i * 3, none⟩ = some o := ⟨_, by rw [hown.cellAt _ (by omega)]; exact List.getElem?_eq_getElem (by omega)⟩
        obtain ⟨o1, ho1⟩ : ∃ o, wr.cell? ⟨g, i * 3 + 1, none⟩ = some o := ⟨_, by rw [hown.cellAt _ (by omega)]; exact List.getElem?_eq_getElem (by omega)⟩
        obtain ⟨o2, ho2⟩ : ∃ o, wr.cell? ⟨g, i * 3 + 2, none⟩ = some o := ⟨_, by rw [hown.cellAt _ (by omega)]; exact List.getElem?_eq_getElem (by omega)⟩
        have f0 := hown.frozenAt (i * 3)
        have f1 := hown.frozenAt (i * 3 + 1)
        have f2 := hown.frozenAt (i * 3 + 2)
        have s0 := hown.stored (i * 3) (.int .i64 (k + 3 * i))
        have s1 := s0.1.stored (i * 3 + 1) (.int .i64 (k + 3 * i + 1))
        have s2 := s1.1.stored (i * 3 + 2) (.int .i64 (k + 3 * i + 1 + 1))
        have e := Lib.hid (tmarks_step (zs := xs) (k := k) (i := i) (by omega))
        have e3 := Lib.hid (tv_set3 (tmarks k i ++ xs.drop i) i (k + 3 * i) (k + 3 * i + 1) (k + 3 * i + 1 + 1) (by simp [tmarks_len]; omega))
        clear hown h hl hyl
        go_wp2
        go_roundw
        case rel =>
          refine ⟨i + 1, by omega, by go_num, congrArg (Value.int .i64) (by omega), ?_, grown_trans hgr (grown_trans s0.2 (grown_trans s1.2 s2.2))⟩
          have h1 := s2.1
          rw [e3.out, e.out] at h1
          exact h1
        case measure => simp [intOf]; omega
      · have hin : i = n := by omega
        have e : tmarks k i ++ xs.drop i = tmarks k n := by rw [hin, List.drop_of_length_le (by omega), List.append_nil]
        have E := Lib.hid e
        have HN := Lib.hid hin
        clear e hin
        go_wp2
        go_ret
        exact ⟨ret_int (by rw [HN.out]), by rw [← E.out]; exact hown, hgr⟩

theorem heldRootS_any (a : Option Addr) (n c : Nat) (k : Int) (hn : n ≤ 1073741824) (hk0 : 0 ≤ k) (hk1 : k ≤ 1073741824) (w : World) (h : Reads w a 3 n (tv (tmarks k n))) :
    Calls Try.prog 31 #[.slice a n c, .int .i64 k] w fun r w' => r = .returned (.int .i64 (k + 3 * n)) ∧ w = w' := by
  go_enter Try.func31, Try.ntmps31
  go_wp2
  go_loop [1, 5] (fun t s => ∃ i : Nat, i ≤ n ∧ s = .int .i64 i ∧ t = .int .i64 (k + 3 * i)) (fun _ s => n - (intOf s).toNat)
  case atStart => exact ⟨0, Nat.zero_le _, rfl, by simp⟩
  case round =>
    obtain ⟨i, hi, rfl, rfl⟩ := hrel
    by_cases hlt : i < n
    · obtain ⟨b, off, rfl, hp0, hp1, hp2⟩ := h.tri hlt
      rw [tmarks_at hlt] at hp0 hp1 hp2
      clear h
      go_wp2
      go_round
      case rel => exact ⟨i + 1, by omega, by go_num, congrArg (Value.int .i64) (by omega)⟩
      case measure => simp [intOf]; omega
    · have hin := Lib.hid (show i = n by omega)
      go_wp2
      go_ret
      exact ⟨ret_int (by rw [hin.out]), rfl⟩

set_option maxHeartbeats 2000000 in
set_option maxRecDepth 100000 in
theorem law_RootsOf (a0 : Option Addr) (n0 c0 : Nat) (zs : List Int) (w : World) (hr0 : IsRow w a0 n0 c0 zs) :
    Calls Try.prog 7 #[.slice a0 n0 c0] w fun r w' => r = .returned (.bool true) ∧ Ext w w' := by
  have h0 : Reads w a0 1 n0 (iv zs) := hr0.1
  have hc01 := hr0.2.1
  have hc02 := hr0.2.2.1
  unfold maxLen at hc02
  clear hr0
  have hl0 : zs.length = n0 := by have := h0.1; rw [iv_len] at this; omega
  by_cases hg0 : n0 ≤ 1048576
  rotate_left
  · go_enter Try.func7, Try.ntmps7
    go_wp2
    go_ret
    exact ⟨rfl, (by repeat (first | exact Ext.refl _ | assumption | apply Ext.alloc | apply Ext.drew | apply Ext.drewN | (refine Ext.trans ?_ (by assumption)) | (refine Ext.setCell ?_ (by (try simp) <;> omega) _)))⟩
  have hm0 : n0 ≤ 1048576 := by omega
  obtain ⟨L, eL⟩ : ∃ L : List (Int × Int × Int), L = (gT (polyB zs) (rts zs)) := ⟨_, rfl⟩
  obtain ⟨ok, eok⟩ : ∃ ok : Bool, ok = (polyB zs) := ⟨_, rfl⟩
  have hlen : L.length ≤ 1048576 := by rw [eL]; exact gT_le (by have := rts_len zs; omega)
  have HS := Lib.hid (show ∀ (b0 : Nat) w,Reads w (some ⟨b0, 0, none⟩) 1 n0 (iv zs) → Calls Try.prog 27 #[.slice (some ⟨b0, 0, none⟩) n0 n0] w (OwnsTriB 87 w.heap.size L ok w) by rw [eL, eok]; intro b0 w h0; exact spec_RootsOf_any _ _ _ zs (by omega) _ h0)
  have HI := Lib.hid (show ∀ (b0 : Nat) w,Reads w (some ⟨b0, 0, none⟩) 1 n0 (iv zs) → Calls Try.prog 28 #[.slice (some ⟨b0, 0, none⟩) n0 n0] w (OwnsTriB 87 w.heap.size L ok w) by rw [eL, eok]; intro b0 w h0; exact impl_RootsOf_any _ _ _ zs (by omega) _ h0)
  clear eL eok
  go_enter Try.func7, Try.ntmps7
  have hE : Ext w w := (by repeat (first | exact Ext.refl _ | assumption | apply Ext.alloc | apply Ext.drew | apply Ext.drewN | (refine Ext.trans ?_ (by assumption)) | (refine Ext.setCell ?_ (by (try simp) <;> omega) _)))
  go_wp2_with fail
  refine (toIntS_any _ _ _ zs hm0 _ (h0.ext hE)).mono ?_
  rintro e w1 ⟨gs0, rfl, xs0, hb⟩
  have hz1 := hb.size
  replace hE := Ext.trans hE hb
  clear hb
  have xs00 := xs0
  go_wp2_with fail
  refine (HS.out _ _ (own_reads xs0)).mono ?_
  rintro e w2 ⟨sa, sc, rfl, hs, hb⟩
  have hz2 := hb.size
  replace hE := Ext.trans hE hb
  replace xs0 := own_ext hb xs0
  clear hb
  have hs0 := hs
  clear xs0
  go_wp2_with fail
  refine (toIntS_any _ _ _ zs hm0 _ (h0.ext hE)).mono ?_
  rintro e w3 ⟨gp0, rfl, xp0, hb⟩
  have hz3 := hb.size
  replace hE := Ext.trans hE hb
  replace hs := own_ext hb hs
  clear hb
  have xp00 := xp0
  go_wp2_with fail
  refine (HI.out _ _ (own_reads xp0)).mono ?_
  rintro e w4 ⟨ga, gc, rfl, hg, hb⟩
  have hz4 := hb.size
  replace hE := Ext.trans hE hb
  replace hs := own_ext hb hs
  replace xp0 := own_ext hb xp0
  clear hb
  have hg0 := hg
  go_wp2_with fail
  refine (eqRootS_same _ _ _ _ _ L (by omega) _ (own_reads hg) (own_reads hs)).mono ?_
  rintro e w5 ⟨rfl, hb⟩
  have hz5 := hb.size
  replace hE := Ext.trans hE hb
  replace hs := own_ext hb hs
  replace xp0 := own_ext hb xp0
  replace hg := own_ext hb hg
  clear hb
  go_wp2_with fail
  refine (toIntS_any _ _ _ zs hm0 _ (h0.ext hE)).mono ?_
  rintro e w6 ⟨gq0, rfl, xq0, hb⟩
  have hz6 := hb.size
  replace hE := Ext.trans hE hb
  replace hs := own_ext hb hs
  replace xp0 := own_ext hb xp0
  replace hg := own_ext hb hg
  clear hb
  have xq00 := xq0
  go_wp2_with fail
  refine (eqIntS_same _ _ _ _ _ zs (by omega) _ (own_reads xp0) (own_reads xq0)).mono ?_
  rintro e w7 ⟨rfl, hb⟩
  have hz7 := hb.size
  replace hE := Ext.trans hE hb
  replace hs := own_ext hb hs
  replace xp0 := own_ext hb xp0
  replace hg := own_ext hb hg
  replace xq0 := own_ext hb xq0
  clear hb
  clear xq0
  go_wp2_with fail
  refine (markIntS_any _ _ _ _ zs _ (by omega) (by omega) (by omega) _ xp0).mono ?_
  rintro e w8 ⟨rfl, hm, hgr⟩
  have hz8 := hgr.size
  replace hE := Ext.grown hE hgr (fun k hk => by have := (xp00.lt k hk).1; omega)
  replace hs := own_apart hs hgr (fun q hq e => by have h1 := (hs0.lt q hq); have h2 := (xp00.lt q e); omega)
  replace hg := own_apart hg hgr (fun q hq e => by have h1 := (hg0.lt q hq); have h2 := (xp00.lt q e); omega)
  clear hm hgr
  clear xp0
  go_wp2_with fail
  refine (eqRootS_same _ _ _ _ _ L (by omega) _ (own_reads hg) (own_reads hs)).mono ?_
  rintro e w9 ⟨rfl, hb⟩
  have hz9 := hb.size
  replace hE := Ext.trans hE hb
  replace hs := own_ext hb hs
  replace hg := own_ext hb hg
  clear hb
  go_wp2_with fail
  refine (markRootS_any _ _ _ _ L _ (by omega) (by omega) (by omega) _ hg).mono ?_
  rintro e w10 ⟨rfl, hm, hgr⟩
  have hz10 := hgr.size
  replace hE := Ext.grown hE hgr (fun k hk => by have := (hg0.lt k hk).1; omega)
  replace hs := own_apart hs hgr (fun q hq e => by have h1 := (hs0.lt q hq); have h2 := (hg0.lt q e); omega)
  clear hgr hg
  go_wp2_with fail
  refine (heldRootS_any _ _ _ _ (by omega) (by omega) (by omega) _ (own_reads hm)).mono ?_
  rintro e _ ⟨rfl, rfl⟩
  go_wp2_with fail
  refine (toIntS_any _ _ _ zs hm0 _ (h0.ext hE)).mono ?_
  rintro e w11 ⟨gr0, rfl, xr0, hb⟩
  have hz11 := hb.size
  replace hE := Ext.trans hE hb
  replace hs := own_ext hb hs
  replace hm := own_ext hb hm
  clear hb
  have xr00 := xr0
  go_wp2_with fail
  refine (HI.out _ _ (own_reads xr0)).mono ?_
  rintro e w12 ⟨ha, hc, rfl, hh, hb⟩
  have hz12 := hb.size
  replace hE := Ext.trans hE hb
  replace hs := own_ext hb hs
  replace hm := own_ext hb hm
  replace xr0 := own_ext hb xr0
  clear hb
  clear xr0
  go_wp2_with fail
  refine (eqRootS_same _ _ _ _ _ L (by omega) _ (own_reads hh) (own_reads hs)).mono ?_
  rintro e w13 ⟨rfl, hb⟩
  have hz13 := hb.size
  replace hE := Ext.trans hE hb
  replace hs := own_ext hb hs
  replace hm := own_ext hb hm
  replace hh := own_ext hb hh
  clear hb
  go_wp2_with fail
  refine (heldRootS_any _ _ _ _ (by omega) (by omega) (by omega) _ (own_reads hm)).mono ?_
  rintro e _ ⟨rfl, rfl⟩
  go_wp2
  go_ret
  exact ⟨rfl, hE⟩

end Go.Proofs.Ytjaaohgknakpnaa
