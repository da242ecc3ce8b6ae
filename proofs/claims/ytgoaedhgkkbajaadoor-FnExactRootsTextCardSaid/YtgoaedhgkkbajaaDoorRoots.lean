/-
  The roots of a polynomial: both sides' walks.
-/
import Derived.Test.YtgoaedhgkkbajaaDoorSameFn
import Derived.Test.YtgoaedhgkkbajaaDoorFrac
import Derived.Test.YtgoaedhgkkbajaaDoorScale
import Derived.Deep.AppendLies
import Derived.BigQuiet
namespace Go.Proofs.YtgoaedhgkkbajaaDoor
open Go.RowKit

theorem cell_at_new {w : World} {cs : Array Value} {t : TypeId} {n i : Nat} {v : Value} (h : n = w.heap.size) (hi : cs[i]? = some v) : (w.alloc (.cells cs t)).cell? ⟨n, i, none⟩ = some v := by
  subst h
  exact Has.new w cs t i v (by simpa using hi)
/-- A cell of a block that was new ahead of a call. -/
theorem Ext.newCell {w w' : World} {cs : Array Value} {t : TypeId} (h : Ext (w.alloc (.cells cs t)) w') {i : Nat} {v : Value} (hi : cs[i]? = some v) : w'.cell? ⟨w.heap.size, i, none⟩ = some v ∧ w'.frozen? ⟨w.heap.size, i, none⟩ = false :=
  ⟨h.keep (Has.new w cs t i v (by simpa using hi)), by rw [h.frozen _ _ (by simp)]; simp⟩

/-- The root between the corners m - 1 and m. -/
def rootAt (zs C : List Int) (m : Nat) : Int × Int × Int := (lowN (cf zs (C.getD (m - 1) 0) - cf zs (C.getD m 0)) (C.getD m 0 - C.getD (m - 1) 0), lowD (cf zs (C.getD (m - 1) 0) - cf zs (C.getD m 0)) (C.getD m 0 - C.getD (m - 1) 0), C.getD m 0 - C.getD (m - 1) 0)
def rtsTo (zs C : List Int) (j : Nat) : List (Int × Int × Int) := (List.range j).map fun q => rootAt zs C (C.length - 1 - q)
def rts (zs : List Int) : List (Int × Int × Int) := rtsTo zs (cornR zs zs.length).reverse ((cornR zs zs.length).reverse.length - 1)
theorem rtsTo_len (zs C : List Int) (j : Nat) : (rtsTo zs C j).length = j := by simp [rtsTo]
theorem rtsTo_succ (zs C : List Int) (j : Nat) : rtsTo zs C (j + 1) = rtsTo zs C j ++ [rootAt zs C (C.length - 1 - j)] := by simp [rtsTo, List.range_succ]
/-- What is known of the corners, in their order. -/
structure IsCorn (zs C : List Int) : Prop where
  len : C.length ≤ zs.length
  get : ∀ m : Nat, m < C.length → ∃ x : Nat, C[m]? = some (x : Int)
  mem : ∀ m x : Nat, C[m]? = some (x : Int) → x < zs.length ∧ cf zs x ≠ 1000000000
  lt : ∀ m x y : Nat, C[m]? = some (x : Int) → C[m + 1]? = some (y : Int) → x < y
theorem isCorn (zs : List Int) : IsCorn zs (cornR zs zs.length).reverse := by
  refine ⟨by have := cornR_len zs zs.length; simpa using this, fun m hm => ?_, fun m x hx => ?_, fun m x y h0 h1 => ?_⟩
  · have h1 := List.getElem_mem hm
    have := cornR_mem zs zs.length _ (List.mem_reverse.1 h1)
    obtain ⟨x, hx⟩ := Int.eq_ofNat_of_zero_le this.1
    exact ⟨x, by rw [List.getElem?_eq_getElem hm, hx]⟩
  · have := cornR_mem zs zs.length _ (List.mem_reverse.1 (List.mem_of_getElem? hx))
    omega
  · have hp : (cornR zs zs.length).reverse.Pairwise (· < ·) := by rw [List.pairwise_reverse]; exact corn_rise
    obtain ⟨a0, b0⟩ := List.getElem?_eq_some_iff.1 h0
    obtain ⟨a1, b1⟩ := List.getElem?_eq_some_iff.1 h1
    have := (List.pairwise_iff_getElem.1 hp) m (m + 1) a0 a1 (by omega)
    omega
theorem rootAt_eq {zs C : List Int} {m x y : Nat} (h0 : C[m]? = some (x : Int)) (h1 : C[m + 1]? = some (y : Int)) : rootAt zs C (m + 1) = (lowN (cf zs x - cf zs y) ((y : Int) - x), lowD (cf zs x - cf zs y) ((y : Int) - x), (y : Int) - x) := by
  have e0 : C.getD m 0 = x := by simp [List.getD, h0]
  have e1 : C.getD (m + 1) 0 = y := by simp [List.getD, h1]
  unfold rootAt
  rw [Nat.add_sub_cancel, e0, e1]

theorem root_info : (Tryd.prog.info? 65).map (fun i => (i.zero, i.size, i.bytes)) = some (some (.agg #[.int .i64 0, .int .i64 0, .int .i64 0]), 3, 24) := by kernel_rfl

set_option maxHeartbeats 4000000 in
set_option maxRecDepth 100000 in
theorem roots_any (a : Option Addr) (n c : Nat) (zs : List Int) (hn : n ≤ 13) (hp : IsPol zs) (w : World) (h : Reads w a 1 n (iv zs)) :
    Calls Tryd.prog 47 #[.slice a n c] w fun r w' => ∃ a1 c1, r = .returned (.slice a1 (rts zs).length c1) ∧ w'.ownsRow w.heap.size 65 3 (.slice a1 (rts zs).length c1) (rts zs).length (tv (rts zs)) ∧ Ext w w' := by
  have hl : zs.length = n := by have := h.1; rw [iv_len] at this; omega
  subst hl
  obtain ⟨i0, hi, hz0, hz1, hz2⟩ := info_parts root_info
  have HZ := Lib.hid (And.intro hi (And.intro hz0 (And.intro hz1 hz2)))
  clear hi hz0 hz1 hz2
  obtain ⟨C, hC⟩ : ∃ C, C = (cornR zs zs.length).reverse := ⟨_, rfl⟩
  have HI := Lib.hid (show IsCorn zs C by rw [hC]; exact isCorn zs)
  have HR := Lib.hid (show rtsTo zs C (C.length - 1) = rts zs by rw [hC]; rfl)
  have hpos : 1 ≤ C.length := by
    obtain ⟨t, ht⟩ := corn_head hp
    rw [hC, ht]; simp
  have hlen := HI.out.len
  have HCon := Lib.hid (fun w h => corners_any a zs.length c zs hn hp.num w h)
  rw [← hC] at HCon
  have Hn := Lib.hid hp.num
  clear hC hp
  go_enter Tryd.func47, Tryd.ntmps47
  go_wp2_with fail
  refine (HCon.out _ h).mono ?_
  rintro e w1 ⟨ca, cc, rfl, hC1, hE1⟩
  clear HCon
  go_wp2
  go_loopw [4, 5] (fun s t wr => ∃ (j m : Nat) (a1 : Option Addr) (c1 : Nat), m + j + 1 = C.length ∧ t = .int .i64 m ∧ s = .slice a1 j c1 ∧ wr.ownsRow w1.heap.size 65 3 (.slice a1 j c1) j (tv (rtsTo zs C j)) ∧ Ext w1 wr) (fun _ t _ => (intOf t).toNat)
  case atStart => exact ⟨0, C.length - 1, some ⟨w1.heap.size, 0, none⟩, 0, by omega, by simp; omega, rfl, World.ownsRow_lit w1 #[] 0 (Nat.le_refl _) (by unfold maxLen; omega) rfl, (Ext.refl _).alloc _⟩
  case round =>
    obtain ⟨j, m, a1, c1, hjm, rfl, rfl, hown, hEr⟩ := hrel
    by_cases hm : m = 0
    · have HM := Lib.hid (show rtsTo zs C j = rts zs by rw [← HR.out]; congr 1; omega)
      have HL := Lib.hid (show j = (rts zs).length by rw [← HM.out, rtsTo_len])
      rw [HM.out] at hown
      subst hm
      go_wp2
      go_ret
      exact ⟨a1, c1, by rw [← HL.out]; rfl, by rw [← HL.out]; exact own_mono hE1.size hown, hE1.trans hEr⟩
    · obtain ⟨q, rfl⟩ : ∃ q, m = q + 1 := ⟨m - 1, by omega⟩
      obtain ⟨x, hx⟩ := HI.out.get q (by omega)
      obtain ⟨y, hy⟩ := HI.out.get (q + 1) (by omega)
      have hxm := HI.out.mem _ _ hx
      have hym := HI.out.mem _ _ hy
      have hxy := HI.out.lt _ _ _ hx hy
      have bx := num_bd (Hn.out x hxm.1) hxm.2
      have by' := num_bd (Hn.out y hym.1) hym.2
      have HS := Lib.hid (show rtsTo zs C (j + 1) = rtsTo zs C j ++ [(lowN (cf zs x - cf zs y) ((y : Int) - x), lowD (cf zs x - cf zs y) ((y : Int) - x), (y : Int) - x)] by
        rw [rtsTo_succ, show C.length - 1 - j = q + 1 by omega, rootAt_eq hx hy])
      have hCr := own_ext hEr hC1
      obtain ⟨cb, rfl, _, _⟩ := own_head hCr (by omega)
      have hcx : wr.cell? ⟨cb, q, none⟩ = some (.int .i64 x) := by rw [hCr.cellAt q (by omega)]; simp [iv, hx]
      have hcy : wr.cell? ⟨cb, q + 1, none⟩ = some (.int .i64 y) := by rw [hCr.cellAt (q + 1) (by omega)]; simp [iv, hy]
      have hcell := (h.ext hE1)
      obtain ⟨b, off, rfl, _⟩ := hcell.2 (by omega)
      have Pc0 := Ext.keeps (hcell.cells x _ (cf_at hxm.1))
      have Pc1 := Ext.keeps (hcell.cells y _ (cf_at hym.1))
      have hxl : x < zs.length := hxm.1
      have hyl : y < zs.length := hym.1
      have hok := Lib.hid (okM_of (n := cf zs x - cf zs y) (d := (y : Int) - x) (by omega) (by omega) (by omega))
      have HO := Lib.hid hown
      clear hcell h hxm hym hx hy hown hCr
      generalize cf zs x = zx at *
      generalize cf zs y = zy at *
      go_wp2
      go_quiet (fail)
      go_wp2
      have hbase : ∀ k, (Value.slice a1 j c1).ownBlock = some k → w1.heap.size ≤ k := fun k hk => (HO.out.lt k hk).1
      have HB := Lib.hid hbase
      clear hbase
      have e1 : IntKind.i64.wrap (zx - zy) = zx - zy := wrap_i64 (by omega) (by omega)
      have e2 : IntKind.i64.wrap ((y : Int) - x) = (y : Int) - x := wrap_i64 (by omega) (by omega)
      go_region_held3 (fun w' => Ext w1 w') (first | (repeat (first | exact Ext.refl _ | assumption | apply Ext.alloc | apply Ext.drew | apply Ext.drewN | (refine Ext.trans ?_ (by assumption)) | (refine Ext.setCell ?_ (by (try simp) <;> omega) _))) | exact HE2.out) (first | (go_at_call 75; refine (lowest_any _ _ (by omega) (by omega) (by omega) (by omega) (by omega) _).mono ?_; rintro e w' ⟨rfl, hb⟩) | (refine step_append_lies _ (by rfl) _ _ _ (by rfl) w1.heap.size 65 i0 _ 3 24 Tryd.underlying62 HZ.out.1 HZ.out.2.1 HZ.out.2.2.1 HZ.out.2.2.2 rfl (by omega) _ j (tv (rtsTo zs C j)) (by rfl) (own_ext (by repeat (first | exact Ext.refl _ | assumption | apply Ext.alloc | apply Ext.drew | apply Ext.drewN | (refine Ext.trans ?_ (by assumption)) | (refine Ext.setCell ?_ (by (try simp) <;> omega) _))) HO.out) ⟨_, 0, none⟩ 1 1 [.int .i64 (lowN (zx - zy) ((y : Int) - x)), .int .i64 (lowD (zx - zy) ((y : Int) - x)), .int .i64 ((y : Int) - x)] (by rfl) (by rfl) (World.news_of_block (cs := #[.int .i64 (lowN (zx - zy) ((y : Int) - x)), .int .i64 (lowD (zx - zy) ((y : Int) - x)), .int .i64 ((y : Int) - x)]) (t := 65) (fr := (0, 0)) (heap_alloc_new _ _)) (by simp [Value.oneCell']) (by omega) (by unfold maxLen; omega) (by omega) (Ext.size (w := w1) (by repeat (first | exact Ext.refl _ | assumption | apply Ext.alloc | apply Ext.drew | apply Ext.drewN | (refine Ext.trans ?_ (by assumption)) | (refine Ext.setCell ?_ (by (try simp) <;> omega) _)))) _ rfl ?_; intro gg cap w2 hown2 hgrow hat hlt2; have HE2 := Lib.hid (Ext.grown (a := w1) (by repeat (first | exact Ext.refl _ | assumption | apply Ext.alloc | apply Ext.drew | apply Ext.drewN | (refine Ext.trans ?_ (by assumption)) | (refine Ext.setCell ?_ (by (try simp) <;> omega) _))) hgrow HB.out)))
      go_wp2
      go_roundw
      case rel => exact ⟨j + 1, q, some ⟨gg, 0, none⟩, cap, by omega, congrArg (Value.int .i64) (by omega), rfl, by rw [HS.out, tv_append]; exact own_ext (by repeat (first | exact Ext.refl _ | assumption | apply Ext.alloc | apply Ext.drew | apply Ext.drewN | (refine Ext.trans ?_ (by assumption)) | (refine Ext.setCell ?_ (by (try simp) <;> omega) _))) hown2, Ext.trans HE2.out (by repeat (first | exact Ext.refl _ | assumption | apply Ext.alloc | apply Ext.drew | apply Ext.drewN | (refine Ext.trans ?_ (by assumption)) | (refine Ext.setCell ?_ (by (try simp) <;> omega) _)))⟩
      case measure => first | (simp [intOf]; done) | (simp [intOf]; omega)

set_option maxHeartbeats 4000000 in
set_option maxRecDepth 100000 in
theorem rtRoots_any (a : Option Addr) (n c : Nat) (zs : List Int) (hn : n ≤ 13) (hp : IsPol zs) (w : World) (h : Reads w a 1 n (iv zs)) :
    Calls Tryd.prog 44 #[.slice a n c] w fun r w' => ∃ a1 c1, r = .returned (.slice a1 (rts zs).length c1) ∧ w'.ownsRow w.heap.size 65 3 (.slice a1 (rts zs).length c1) (rts zs).length (tv (rts zs)) ∧ Ext w w' := by
  have hl : zs.length = n := by have := h.1; rw [iv_len] at this; omega
  subst hl
  obtain ⟨i0, hi, hz0, hz1, hz2⟩ := info_parts root_info
  have HZ := Lib.hid (And.intro hi (And.intro hz0 (And.intro hz1 hz2)))
  clear hi hz0 hz1 hz2
  obtain ⟨C, hC⟩ : ∃ C, C = (cornR zs zs.length).reverse := ⟨_, rfl⟩
  have HI := Lib.hid (show IsCorn zs C by rw [hC]; exact isCorn zs)
  have HR := Lib.hid (show rtsTo zs C (C.length - 1) = rts zs by rw [hC]; rfl)
  have hpos : 1 ≤ C.length := by
    obtain ⟨t, ht⟩ := corn_head hp
    rw [hC, ht]; simp
  have hlen := HI.out.len
  have HCon := Lib.hid (fun w h => rtCorners_any a zs.length c zs hn hp.num w h)
  rw [← hC] at HCon
  have Hn := Lib.hid hp.num
  clear hC hp
  go_enter Tryd.func44, Tryd.ntmps44
  go_wp2_with fail
  refine (HCon.out _ h).mono ?_
  rintro e w1 ⟨ca, cc, rfl, hC1, hE1⟩
  clear HCon
  go_wp2
  go_loopw [3, 5] (fun s t wr => ∃ (j m : Nat) (a1 : Option Addr) (c1 : Nat), m + j + 1 = C.length ∧ t = .int .i64 m ∧ s = .slice a1 j c1 ∧ wr.ownsRow w1.heap.size 65 3 (.slice a1 j c1) j (tv (rtsTo zs C j)) ∧ Ext w1 wr) (fun _ t _ => (intOf t).toNat)
  case atStart => exact ⟨0, C.length - 1, none, 0, by omega, by simp; omega, rfl, World.ownsRow_nil _ _ _ _, Ext.refl _⟩
  case round =>
    obtain ⟨j, m, a1, c1, hjm, rfl, rfl, hown, hEr⟩ := hrel
    by_cases hm : m = 0
    · have HM := Lib.hid (show rtsTo zs C j = rts zs by rw [← HR.out]; congr 1; omega)
      have HL := Lib.hid (show j = (rts zs).length by rw [← HM.out, rtsTo_len])
      rw [HM.out] at hown
      subst hm
      go_wp2
      go_ret
      exact ⟨a1, c1, by rw [← HL.out]; rfl, by rw [← HL.out]; exact own_mono hE1.size hown, hE1.trans hEr⟩
    · obtain ⟨q, rfl⟩ : ∃ q, m = q + 1 := ⟨m - 1, by omega⟩
      obtain ⟨x, hx⟩ := HI.out.get q (by omega)
      obtain ⟨y, hy⟩ := HI.out.get (q + 1) (by omega)
      have hxm := HI.out.mem _ _ hx
      have hym := HI.out.mem _ _ hy
      have hxy := HI.out.lt _ _ _ hx hy
      have bx := num_bd (Hn.out x hxm.1) hxm.2
      have by' := num_bd (Hn.out y hym.1) hym.2
      have HS := Lib.hid (show rtsTo zs C (j + 1) = rtsTo zs C j ++ [(lowN (cf zs x - cf zs y) ((y : Int) - x), lowD (cf zs x - cf zs y) ((y : Int) - x), (y : Int) - x)] by
        rw [rtsTo_succ, show C.length - 1 - j = q + 1 by omega, rootAt_eq hx hy])
      have hCr := own_ext hEr hC1
      obtain ⟨cb, rfl, _, _⟩ := own_head hCr (by omega)
      have hcx : wr.cell? ⟨cb, q, none⟩ = some (.int .i64 x) := by rw [hCr.cellAt q (by omega)]; simp [iv, hx]
      have hcy : wr.cell? ⟨cb, q + 1, none⟩ = some (.int .i64 y) := by rw [hCr.cellAt (q + 1) (by omega)]; simp [iv, hy]
      have hcell := (h.ext hE1)
      obtain ⟨b, off, rfl, _⟩ := hcell.2 (by omega)
      have Pc0 := Ext.keeps (hcell.cells x _ (cf_at hxm.1))
      have Pc1 := Ext.keeps (hcell.cells y _ (cf_at hym.1))
      have hxl : x < zs.length := hxm.1
      have hyl : y < zs.length := hym.1
      have hok := Lib.hid (okM_of (n := cf zs x - cf zs y) (d := (y : Int) - x) (by omega) (by omega) (by omega))
      have HO := Lib.hid hown
      clear hcell h hxm hym hx hy hown hCr
      generalize cf zs x = zx at *
      generalize cf zs y = zy at *
      go_wp2
      go_quiet (fail)
      go_wp2
      have HM := Lib.hid (fun w => show Calls Tryd.prog 72 #[.int .i64 (zx - zy), .int .i64 ((y : Int) - x)] w fun r w' => r = .returned (.tuple #[.agg #[.int .i64 (lowN (zx - zy) ((y : Int) - x)), .int .i64 (lowD (zx - zy) ((y : Int) - x))], .bool true]) ∧ Ext w w' from by
        have := frMake_any (zx - zy) ((y : Int) - x) (by omega) (by omega) (by omega) (by omega) w
        rw [hok.out] at this
        exact this)
      generalize lowN (zx - zy) ((y : Int) - x) = N at *
      generalize lowD (zx - zy) ((y : Int) - x) = D at *
      have e1 : IntKind.i64.wrap (zx - zy) = zx - zy := wrap_i64 (by omega) (by omega)
      have e2 : IntKind.i64.wrap ((y : Int) - x) = (y : Int) - x := wrap_i64 (by omega) (by omega)
      have hsz := hEr.size
      go_region_held3 (fun w' => Ext w1 w') ((repeat (first | exact Ext.refl _ | assumption | apply Ext.alloc | apply Ext.drew | apply Ext.drewN | (refine Ext.trans ?_ (by assumption)) | (refine Ext.setCell ?_ (by (try simp) <;> omega) _)))) (first | (go_at_call 72; refine (HM.out _).mono ?_; rintro e w' ⟨rfl, hb⟩; have hbw : Ext wr w' := Ext.trans (by repeat (first | exact Ext.refl _ | assumption | apply Ext.alloc | apply Ext.drew | apply Ext.drewN | (refine Ext.trans ?_ (by assumption)) | (refine Ext.setCell ?_ (by (try simp) <;> omega) _))) hb; have hsz2 := hb.size; simp at hsz2; (try have hk0 : w'.cell? ⟨wr.heap.size, 0, none⟩ = some (.int .i64 0) := (Ext.newCell (cs := #[.int .i64 0, .int .i64 0]) hb (i := 0) (v := .int .i64 0) rfl).1); (try have hk1 : w'.cell? ⟨wr.heap.size, 1, none⟩ = some (.int .i64 0) := (Ext.newCell (cs := #[.int .i64 0, .int .i64 0]) hb (i := 1) (v := .int .i64 0) rfl).1); (try have hf0 : w'.frozen? ⟨wr.heap.size, 0, none⟩ = false := (Ext.newCell (cs := #[.int .i64 0, .int .i64 0]) hb (i := 0) (v := .int .i64 0) rfl).2); (try have hf1 : w'.frozen? ⟨wr.heap.size, 1, none⟩ = false := (Ext.newCell (cs := #[.int .i64 0, .int .i64 0]) hb (i := 1) (v := .int .i64 0) rfl).2)))
      all_goals (
        go_wp2_with (at_builtin; go_must (first | (refine wpList_appT Tryd.underlying62 root_info rfl _ _ rfl w1 w1.heap.size _ _ _ (rtsTo zs C j) rfl ?_ ⟨w'.heap.size, 0, none⟩ 1 1 [(N, D, (y : Int) - x)] rfl rfl ?_ (by omega) (by omega) ?_ ?_ (Nat.le_refl _) ?_) | (refine wpList_appT Tryd.underlying62 root_info rfl _ _ rfl w1 w1.heap.size _ _ _ (rtsTo zs C j) rfl ?_ ⟨w'.heap.size + 1, 0, none⟩ 1 1 [(N, D, (y : Int) - x)] rfl rfl ?_ (by omega) (by omega) ?_ ?_ (Nat.le_refl _) ?_)))
        · exact own_ext (by first | exact Ext.alloc (Ext.setCell (Ext.setCell hbw (Nat.le_refl _) _) (Nat.le_refl _) _) _ | exact Ext.alloc (Ext.alloc hbw _) _ | exact Ext.alloc hbw _) HO.out
        · intro q u hq
          match q, hq with
          | 0, hq => obtain rfl : Value.int .i64 N = u := by simpa [tv] using hq
                     exact cell_at_new (by simp) rfl
          | 1, hq => obtain rfl : Value.int .i64 D = u := by simpa [tv] using hq
                     exact cell_at_new (by simp) rfl
          | 2, hq => obtain rfl : Value.int .i64 ((y : Int) - x) = u := by simpa [tv] using hq
                     exact cell_at_new (by simp) rfl
          | q + 3, hq => simp [tv] at hq
        · first | (simp; done) | (simp; omega)
        · exact Ext.trans hEr (by first | exact Ext.alloc (Ext.setCell (Ext.setCell hbw (Nat.le_refl _) _) (Nat.le_refl _) _) _ | exact Ext.alloc (Ext.alloc hbw _) _ | exact Ext.alloc hbw _)
        · intro a2 c2 w3 hown2 hE2
          go_wp2
          go_roundw
          case rel => exact ⟨j + 1, q, a2, c2, by omega, congrArg (Value.int .i64) (by omega), rfl, by rw [HS.out]; exact hown2, hE2⟩
          case measure => first | (simp [intOf]; done) | (simp [intOf]; omega))


theorem rts_len (zs : List Int) : (rts zs).length ≤ zs.length := by
  unfold rts
  rw [rtsTo_len]
  have := cornR_len zs zs.length
  simp; omega
/-- How often (x, y) is a root. -/
def timesOf (x y : Int) : List (Int × Int × Int) → Int
  | [] => 0
  | r :: rs => if r.1 = x ∧ r.2.1 = y then r.2.2 else timesOf x y rs
theorem timesOf_drop {x y : Int} : ∀ (l : List (Int × Int × Int)) (k : Nat), k ≤ l.length → (∀ i, i < k → ¬ ((tat l i).1 = x ∧ (tat l i).2.1 = y)) → timesOf x y l = timesOf x y (l.drop k)
  | _, 0, _, _ => by simp
  | [], k + 1, h, _ => by simp at h
  | r :: rs, k + 1, h, hn => by
    have h0 := hn 0 (by omega)
    simp only [timesOf]
    rw [if_neg (by simpa [tat] using h0)]
    rw [timesOf_drop rs k (by simpa using h) (fun i hi => by have := hn (i + 1) (by omega); simpa [tat, List.getD] using this)]
    rfl
theorem timesOf_at {x y : Int} {l : List (Int × Int × Int)} {k : Nat} (h : k < l.length) (hn : ∀ i, i < k → ¬ ((tat l i).1 = x ∧ (tat l i).2.1 = y)) (hy : (tat l k).1 = x ∧ (tat l k).2.1 = y) : timesOf x y l = (tat l k).2.2 := by
  rw [timesOf_drop l k (by omega) hn, List.drop_eq_getElem_cons h]
  have e : tat l k = l[k] := by simp [tat, List.getD, h]
  rw [e] at hy ⊢
  simp only [timesOf]
  rw [if_pos hy]
theorem timesOf_none {x y : Int} {l : List (Int × Int × Int)} (hn : ∀ i, i < l.length → ¬ ((tat l i).1 = x ∧ (tat l i).2.1 = y)) : timesOf x y l = 0 := by
  rw [timesOf_drop l l.length (Nat.le_refl _) hn]
  simp [timesOf]

end Go.Proofs.YtgoaedhgkkbajaaDoor
