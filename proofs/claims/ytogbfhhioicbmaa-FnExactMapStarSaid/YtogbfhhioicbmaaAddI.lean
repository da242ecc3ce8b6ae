/-
  Stars added: the program's walk.
-/
import Derived.Test.YtogbfhhioicbmaaAddS
import Derived.Test.YtogbfhhioicbmaaCat
import Derived.Shelf.SlSortCmp.NoneTotal
import Derived.Shelf.SlSortCmp.QuietGrown
import Derived.BigRegion
namespace Go.Proofs.Ytogbfhhioicbmaa
open Go.RowKit

theorem mergeT_bd (ys : List (Int × Int × Int)) : (∀ z ∈ ys, 0 ≤ z.2.2 ∧ z.2.2 ≤ 20) → ∀ z ∈ mergeT ys, 0 ≤ z.2.2 ∧ z.2.2 ≤ 20 * ys.length := by
  refine raySnoc (P := fun ys => (∀ z ∈ ys, 0 ≤ z.2.2 ∧ z.2.2 ≤ 20) → ∀ z ∈ mergeT ys, 0 ≤ z.2.2 ∧ z.2.2 ≤ 20 * ys.length) (fun _ z hz => by simp [mergeT] at hz) ?_ ys
  intro l r ih hb z hz
  rw [mergeT_snoc] at hz
  have h1 := ih fun z hz => hb z (by simp [hz])
  have h2 := hb r (by simp)
  simp only [List.length_append, List.length_cons, List.length_nil]
  generalize mergeT l = M at *
  rcases List.eq_nil_or_concat M with rfl | ⟨M', u, rfl⟩
  · rw [mstep_nil] at hz
    obtain rfl : z = r := by simpa using hz
    omega
  · rw [List.concat_eq_append] at *
    rw [mstep_snoc] at hz
    have h3 := h1 u (by simp)
    split at hz
    · rcases List.mem_append.1 hz with hz | hz
      · have := h1 z (by simp [hz]); omega
      · obtain rfl : z = _ := by simpa using hz
        simp only; omega
    · rcases List.mem_append.1 hz with hz | hz
      · have := h1 z hz; omega
      · obtain rfl : z = r := by simpa using hz
        omega
/-- Rays that can be compared. -/
def QR (r : Int × Int × Int) : Prop := PB (kR r)
instance : Inhabited {p // QR p} := ⟨⟨(0, 0, 0), by unfold QR PB kR; simp⟩⟩
theorem swoR : Sort.SWO (Go.Proofs.ltOf fun x y : {p : Int × Int × Int // QR p} => cmpI x.1.1 x.1.2.1 y.1.1 y.1.2.1) where
  irrefl x := by unfold Go.Proofs.ltOf; rw [decide_eq_false_iff_not, cmpI_lex (x.1.1, x.1.2.1) (x.1.1, x.1.2.1)]; exact lexP_irrefl _
  trans x y z := by
    unfold Go.Proofs.ltOf
    simp only [decide_eq_true_eq]
    rw [cmpI_lex (x.1.1, x.1.2.1) (y.1.1, y.1.2.1), cmpI_lex (y.1.1, y.1.2.1) (z.1.1, z.1.2.1), cmpI_lex (x.1.1, x.1.2.1) (z.1.1, z.1.2.1)]
    exact lexP_trans
  ntrans x y z := by
    unfold Go.Proofs.ltOf
    simp only [decide_eq_false_iff_not]
    rw [cmpI_lex (x.1.1, x.1.2.1) (y.1.1, y.1.2.1), cmpI_lex (y.1.1, y.1.2.1) (z.1.1, z.1.2.1), cmpI_lex (x.1.1, x.1.2.1) (z.1.1, z.1.2.1)]
    intro h1 h2 h3
    rcases leP_of_not h1 with e | e
    · exact h2 (e ▸ h3)
    · exact h2 (lexP_trans e h3)
theorem steps_grown (a b c : Int) (w : World) :
    Calls Try.prog 114 #[.agg #[.int .i64 a, .int .i64 b, .int .i64 c]] w fun e w' => e = .returned (.agg #[.int .i64 a, .int .i64 b]) ∧ ∃ q os, w' = Sort.grow (w.drewN q) os := by
  go_enter Try.func114, Try.ntmps114
  go_wp2
  refine bodyPost_ret (v := .agg #[.int .i64 a, .int .i64 b]) (by simp [results, Try.results114, go_sem]) rfl ⟨rfl, 0, _, by rw [Sort.alloc_eq_grow, Sort.alloc_eq_grow, Sort.grow_grow]; rfl⟩
theorem compareRays_grown (x y : Int × Int × Int) (hx : QR x) (hy : QR y) (w : World) :
    Calls Try.prog 65 #[.agg #[.int .i64 x.1, .int .i64 x.2.1, .int .i64 x.2.2], .agg #[.int .i64 y.1, .int .i64 y.2.1, .int .i64 y.2.2]] w fun e w' => e = .returned (.int .i64 (cmpI x.1 x.2.1 y.1 y.2.1)) ∧ ∃ q os, w' = Sort.grow (w.drewN q) os := by
  obtain ⟨a, b, n⟩ := x
  obtain ⟨c, d, m⟩ := y
  have HC := Lib.hid (fun w => comparePoints_grown (a, b) (c, d) hx hy w)
  simp only at HC ⊢
  clear hx hy
  go_enter Try.func65, Try.ntmps65
  go_wp2
  obtain ⟨V, hV⟩ : ∃ V, V = (w.alloc (.cells #[.int .i64 a, .int .i64 b, .int .i64 n] 85)).alloc (.cells #[.int .i64 c, .int .i64 d, .int .i64 m] 85) := ⟨_, rfl⟩
  have A0 := fun (k : Nat) (os : Array Obj) => cell_grown (w := V) (a := ⟨w.heap.size, 0, none⟩) (v := .int .i64 a) (by rw [hV]; simp; omega) (by rw [hV]; simp) k os
  have A1 := fun (k : Nat) (os : Array Obj) => cell_grown (w := V) (a := ⟨w.heap.size, 1, none⟩) (v := .int .i64 b) (by rw [hV]; simp; omega) (by rw [hV]; simp) k os
  have A2 := fun (k : Nat) (os : Array Obj) => cell_grown (w := V) (a := ⟨w.heap.size, 2, none⟩) (v := .int .i64 n) (by rw [hV]; simp; omega) (by rw [hV]; simp) k os
  have B0 := fun (k : Nat) (os : Array Obj) => cell_grown (w := V) (a := ⟨w.heap.size + 1, 0, none⟩) (v := .int .i64 c) (by rw [hV]; simp) (by rw [hV]; simp) k os
  have B1 := fun (k : Nat) (os : Array Obj) => cell_grown (w := V) (a := ⟨w.heap.size + 1, 1, none⟩) (v := .int .i64 d) (by rw [hV]; simp) (by rw [hV]; simp) k os
  have B2 := fun (k : Nat) (os : Array Obj) => cell_grown (w := V) (a := ⟨w.heap.size + 1, 2, none⟩) (v := .int .i64 m) (by rw [hV]; simp) (by rw [hV]; simp) k os
  rw [← hV]
  have HVV := Lib.hid hV
  clear hV
  have hmx : Try.prog.follows .mixedOrders = true := by kernel_rfl
  go_quiet_grown ((first | (go_at_call 114; exact Calls.grown_of (steps_grown _ _ _ _)) | (go_at_call 85; exact Calls.grown_of (HC.out _))))
  clear A0 A1 A2 B0 B1 B2
  go_wp2
  go_ret
  refine ⟨rfl, nq, #[.cells #[.int .i64 a, .int .i64 b, .int .i64 n] 85, .cells #[.int .i64 c, .int .i64 d, .int .i64 m] 85] ++ osq, ?_⟩
  rw [HVV.out, Sort.alloc_eq_grow, Sort.alloc_eq_grow, Sort.grow_grow]
  show Sort.grow (Sort.grow (w.drewN nq) _) osq = _
  rw [Sort.grow_grow]
  rfl
/-- Behind the sort of rays, whatever slice of the call's own. -/
def SortedRays (B : Nat) (a : Option Addr) (n c : Nat) (zs : List (Int × Int × Int)) (w : World) (e : Ending) (w' : World) : Prop :=
  e = .returned (.tuple #[]) ∧ ∃ ys, ys.Perm zs ∧ (ys.Pairwise fun a b => ¬ lexP (kR b) (kR a)) ∧ w'.ownsRow B 85 3 (.slice a n c) n (tv ys) ∧ w.grownBy w' (Value.slice a n c).ownBlock
theorem sortRays_any (B n c : Nat) (a : Option Addr) (zs : List (Int × Int × Int)) (hz : ∀ z ∈ zs, QR z) (hn : n ≤ 1000) (w : World) (h : w.ownsRow B 85 3 (.slice a n c) n (tv zs)) :
    Calls Try.prog 64 #[.slice a n c, .func (.func 65) #[] #[]] w (SortedRays B a n c zs w) := by
  have hl : zs.length = n := by have := h.1; rw [tv_len] at this; omega
  rcases own_two h with ⟨rfl, rfl, rfl⟩ | ⟨g, rfl⟩
  · have hcon := AnyF.slices_SortFunc_none layRay none 0 (.func (.func 65) #[] #[]) w
    change Calls Try.prog 64 _ _ _ at hcon
    refine hcon.mono fun e w' ⟨he, hw⟩ => ?_
    have hz0 : zs = [] := List.eq_nil_of_length_eq_zero hl
    subst hz0
    rw [hw]
    exact ⟨he, [], List.Perm.refl _, .nil, h, World.grownBy.refl _ _⟩
  · have eg : ∀ args w, (callFunc 65 args).run Try.prog w = .ok (.enter 65 args) w := enters_of Try.func65 (by kernel_rfl) rfl
    refine (sortR_any (Q := QR) (fun x y => cmpI x.1 x.2.1 y.1 y.2.1) swoR 65 eg (fun x y w hx hy => compareRays_grown x y hx hy w) zs hz B n c g w (by omega) h).mono ?_
    rintro e w' ⟨he, ys, h1, h2, h3, h4⟩
    exact ⟨he, ys, h1, h2.imp fun {a b} q r => q ((cmpI_lex (b.1, b.2.1) (a.1, a.2.1)).2 r), h3, h4⟩
set_option maxHeartbeats 4000000 in
theorem impl_AddStars_any (a a' : Option Addr) (n n' c c' : Nat) (zs ys : List (Int × Int × Int)) (hn : n ≤ 1048576) (hn' : n' ≤ 1048576) (w : World) (h : Reads w a 3 n (tv zs)) (h' : Reads w a' 3 n' (tv ys)) :
    Calls Try.prog 29 #[.slice a n c, .slice a' n' c'] w (OwnsRaysB w.heap.size (gT (starB zs && starB ys && starB (putAll zs ys)) (putAll zs ys)) (starB zs && starB ys && starB (putAll zs ys)) w) := by
  have hl : zs.length = n := by have := h.1; rw [tv_len] at this; omega
  have hl' : ys.length = n' := by have := h'.1; rw [tv_len] at this; omega
  subst hl hl'
  cases h1 : starB zs
  · go_enter Try.func29, Try.ntmps29
    go_wp2_with fail
    refine (isStar_any _ _ _ zs (by omega) _ h).mono ?_
    rw [h1]
    rintro e w1 ⟨rfl, hb1⟩
    go_wp2
    go_ret2
    exact ⟨none, 0, rfl, own_none _ _ _, hb1⟩
  · cases h2 : starB ys
    · go_enter Try.func29, Try.ntmps29
      go_wp2_with fail
      refine (isStar_any _ _ _ zs (by omega) _ h).mono ?_
      rw [h1]
      rintro e w1 ⟨rfl, hb1⟩
      go_wp2_with fail
      refine (isStar_any _ _ _ ys (by omega) _ (h'.ext hb1)).mono ?_
      rw [h2]
      rintro e w2 ⟨rfl, hb2⟩
      go_wp2
      go_ret2
      exact ⟨none, 0, rfl, own_none _ _ _, hb1.trans hb2⟩
    · obtain ⟨l1, s1, b1⟩ := star_rows h1
      obtain ⟨l2, s2, b2⟩ := star_rows h2
      have HB := Lib.hid (fun z (hz : z ∈ zs ++ ys) => show (-20 ≤ z.1 ∧ z.1 ≤ 20) ∧ (-20 ≤ z.2.1 ∧ z.2.1 ≤ 20) ∧ (1 ≤ z.2.2 ∧ z.2.2 ≤ 20) by
        rcases List.mem_append.1 hz with hz | hz
        · exact b1 z hz
        · exact b2 z hz)
      have HS := Lib.hid s1
      clear s1 s2 b1 b2
      go_enter Try.func29, Try.ntmps29
      go_wp2_with fail
      refine (isStar_any _ _ _ zs (by omega) _ h).mono ?_
      rw [h1]
      rintro e w1 ⟨rfl, hb1⟩
      go_wp2_with fail
      refine (isStar_any _ _ _ ys (by omega) _ (h'.ext hb1)).mono ?_
      rw [h2]
      rintro e w2 ⟨rfl, hb2⟩
      have hE2 := hb1.trans hb2
      clear hb1 hb2
      go_wp2_with fail
      refine (concatRay_any a a' zs.length ys.length c c' w2.heap.size zs ys (by omega) (by omega) _ ((h.ext hE2).alloc _) ((h'.ext hE2).alloc _) (by simp) (by simp)).mono ?_
      rintro e w3 ⟨a3, c3, rfl, hown3, hE3⟩
      replace hE3 := Ext.trans (Ext.alloc hE2 _) hE3
      replace hown3 := own_mono (show w.heap.size ≤ _ from by have := hE2.size; simp; omega) hown3
      clear hE2 h h'
      go_wp2_with fail
      refine (sortRays_any w.heap.size _ c3 a3 (zs ++ ys) (fun z hz => by have := HB.out z hz; unfold QR PB kR; simp only; omega) (by omega) _ hown3).mono ?_
      rintro e w4 ⟨rfl, S, hp, hs, hown4, hgr4⟩
      have hE4 := Ext.grown hE3 hgr4 (fun k hk => (hown3.lt k hk).1)
      have hSl : S.length = zs.length + ys.length := by rw [hp.length_eq, List.length_append]
      rw [← hSl] at hown4 ⊢
      have HPA := Lib.hid (show mergeT S = putAll zs ys from merge_put HS.out hp hs)
      have HBS := Lib.hid (fun z (hz : z ∈ S) => HB.out z (hp.mem_iff.1 hz))
      have HML := Lib.hid (fun k => (mergeT_spec (S.take k) (hs.sublist (List.take_sublist _ _))).2.2.2)
      have HMB := Lib.hid (fun k => mergeT_bd (S.take k) (fun z hz => by have := HBS.out z (List.mem_of_mem_take hz); omega))
      have HMK := Lib.hid (fun k z (hz : z ∈ mergeT (S.take k)) => show PB (kR z) by
        have hk := ((mergeT_spec (S.take k) (hs.sublist (List.take_sublist _ _))).2.1 (kR z)).1 (List.mem_map.2 ⟨z, hz, rfl⟩)
        obtain ⟨u, hu, e⟩ := List.mem_map.1 hk
        have := HBS.out u (List.mem_of_mem_take hu)
        rw [← e]; unfold PB kR; simp only; omega)
      have hS20 : S.length ≤ 20 := by omega
      have HO4 := Lib.hid hown4
      have hE4' := Lib.hid hE4
      clear hown3 hgr4 hp hs HB HS hSl hown4 hE3 hE4 l1 l2
      obtain ⟨i0, hz1, hz2, hz3, hz4⟩ := info_parts ray_info
      have HZI := Lib.hid (And.intro hz1 (And.intro hz2 (And.intro hz3 hz4)))
      clear hz1 hz2 hz3 hz4
      go_wp2
      go_loopw [7, 28] (fun s t wr => ∃ (k : Nat) (a1 : Option Addr) (c1 : Nat), k ≤ S.length ∧ t = .int .i64 k ∧ s = .slice a1 (mergeT (S.take k)).length c1 ∧ wr.ownsRow w4.heap.size 85 3 (.slice a1 (mergeT (S.take k)).length c1) (mergeT (S.take k)).length (tv (mergeT (S.take k))) ∧ Ext w4 wr) (fun _ t _ => S.length - (intOf t).toNat)
      case atStart => exact ⟨0, some ⟨w4.heap.size, 0, none⟩, 0, Nat.zero_le _, rfl, rfl, World.ownsRow_lit w4 #[] 0 (Nat.le_refl _) (by unfold maxLen; omega) rfl, (by repeat (first | exact Ext.refl _ | assumption | apply Ext.alloc | apply Ext.drew | apply Ext.drewN | (refine Ext.trans ?_ (by assumption)) | (refine Ext.setCell ?_ (by (try simp) <;> omega) _)))⟩
      case round =>
        obtain ⟨k, a1, c1, hk, rfl, rfl, hown, hE⟩ := hrel
        have hml := HML.out k
        have HMBk := Lib.hid (HMB.out k)
        have HMKk := Lib.hid (HMK.out k)
        by_cases hlt : k < S.length
        · obtain ⟨b, off, rfl, hp0, hp1, hp2⟩ := (Reads.ext hE (own_reads HO4.out)).tri hlt
          have HC0 := Lib.hid (show mergeT (S.take (k + 1)) = mstep (mergeT (S.take k)) (tat S k) by rw [List.take_succ_eq_append_getElem hlt, mergeT_snoc, tat_eq hlt])
          have hbr := HBS.out (tat S k) (by rw [tat_eq hlt]; exact List.getElem_mem hlt)
          generalize tat S k = r at *
          obtain ⟨r1, r2, r3⟩ := r
          simp only at hp0 hp1 hp2 hbr
          have hlen2 : (mergeT (S.take k)).length ≤ 20 := by simp at hml; omega
          have hHB := HMBk
          generalize mergeT (S.take k) = M at *
          clear hml HMB HMK HMBk
          obtain ⟨wo, hwo⟩ : ∃ wo, wo = wr := ⟨_, rfl⟩
          subst hwo
          have HOo := Lib.hid hown
          have HEo := Lib.hid hE
          clear hown hE
          rcases List.eq_nil_or_concat M with rfl | ⟨M', z, rfl⟩
          · have HC := Lib.hid (show mergeT (S.take (k + 1)) = [(r1, r2, r3)] by rw [HC0.out, mstep_nil])
            clear HC0
            go_wp2
            obtain ⟨V, hV0⟩ : ∃ V, V = wo.alloc (.cells #[.int .i64 r1, .int .i64 r2, .int .i64 r3] 85) := ⟨_, rfl⟩
            obtain ⟨bb, hbb⟩ : ∃ bb, bb = wo.heap.size := ⟨_, rfl⟩
            have Rc0 : ∀ w', Ext V w' → w'.cell? ⟨bb, 0, none⟩ = some (.int .i64 r1) := Ext.keeps (by rw [hV0, hbb]; exact cell_at_newQ rfl rfl)
            have Rc1 : ∀ w', Ext V w' → w'.cell? ⟨bb, 1, none⟩ = some (.int .i64 r2) := Ext.keeps (by rw [hV0, hbb]; exact cell_at_newQ rfl rfl)
            have Rc2 : ∀ w', Ext V w' → w'.cell? ⟨bb, 2, none⟩ = some (.int .i64 r3) := Ext.keeps (by rw [hV0, hbb]; exact cell_at_newQ rfl rfl)
            have HOV := Lib.hid (own_ext (show Ext wo V by rw [hV0]; exact Ext.alloc (Ext.refl _) _) HOo.out)
            have HEV := Lib.hid (show Ext w4 V by rw [hV0]; exact Ext.alloc HEo.out _)
            rw [← hV0, ← hbb]
            clear hV0 hbb hp0 hp1 hp2 HOo HEo
            have hE : Ext V V := Ext.refl _
            have qR0 := fun s : Past V => Rc0 s.w s.ext
            have qR1 := fun s : Past V => Rc1 s.w s.ext
            have qR2 := fun s : Past V => Rc2 s.w s.ext
            refine wp_region_past V (by first | exact hE | exact Ext.alloc hE _ | exact Ext.drew hE | exact Ext.drewN hE _) (by kernel_rfl) (by kernel_rfl) ?_
            repeat (go_big_quiet_step ((fail)))
            refine wpQuiet_nil ?_
            intro w6 hw'
            obtain ⟨⟨_, hE⟩, hw''⟩ := hw'
            subst hw''
            clear qR0 qR1 qR2
            have HO := Lib.hid (own_ext hE HOV.out)
            have hEw := Lib.hid (HEV.out.trans hE)
            have q0 := Rc0 _ hE
            have q1 := Rc1 _ hE
            have q2 := Rc2 _ hE
            clear hE HOV HEV Rc0 Rc1 Rc2
            go_wp2_with (at_builtin; go_must (refine wpList_app_any _ rfl _ _ 47 rfl w4.heap.size 85 i0 _ 3 24 Try.underlying47 HZI.out.1 HZI.out.2.1 HZI.out.2.2.1 HZI.out.2.2.2 rfl (by decide) _ _ (tv []) rfl (own_ext (Ext.alloc (Ext.refl _) _) HO.out) _ _ _ _ rfl (ones_reads3 (x := .int .i64 r1) (y := .int .i64 r2) (z := .int .i64 r3) (by simp) (by simp) (by simp)) (by simp [Value.oneCell']) (by unfold maxLen; omega) (by omega) (by have := hEw.out.size; simp <;> omega) ?_))
            intro a5 c5 w5 hown5 hgr5 _
            have hE5 := Ext.grown (Ext.alloc hEw.out _) hgr5 (fun k hk => (HO.out.lt k hk).1)
            go_wp2
            go_roundw
            case rel => exact ⟨k + 1, a5, c5, by omega, by go_num, by rw [HC.out]; simp, by rw [HC.out]; simpa [tv_append, tv] using hown5, hE5⟩
            case measure => simp [intOf]; omega
          · rw [List.concat_eq_append] at *
            have hbz := hHB.out z (by simp)
            have hzP := HMKk.out z (by simp)
            have HC1 := Lib.hid (show mergeT (S.take (k + 1)) = if kR z = kR (r1, r2, r3) then M' ++ [(z.1, z.2.1, z.2.2 + r3)] else M' ++ [z] ++ [(r1, r2, r3)] by rw [HC0.out, mstep_snoc])
            have hlz : M'.length + 1 ≤ 20 := by simpa using hlen2
            have HO1 := Lib.hid (show wo.ownsRow w4.heap.size 85 3 (.slice a1 (M'.length + 1) c1) (M'.length + 1) (tv (M' ++ [z])) by simpa using HOo.out)
            obtain ⟨zx, zy, zw⟩ := z
            have hbk : 0 ≤ zw ∧ zw ≤ 1000 := by simp at hbz; omega
            have hzb : (-500000 ≤ zx ∧ zx ≤ 500000) ∧ (-500000 ≤ zy ∧ zy ≤ 500000) := hzP
            obtain ⟨g, rfl, hg1, hg2⟩ := own_head HO1.out (by omega)
            simp only [List.length_append, List.length_cons, List.length_nil, Nat.zero_add]
            obtain ⟨V, hV0⟩ : ∃ V, V = wo.alloc (.cells #[.int .i64 r1, .int .i64 r2, .int .i64 r3] 85) := ⟨_, rfl⟩
            obtain ⟨bb, hbb⟩ : ∃ bb, bb = wo.heap.size := ⟨_, rfl⟩
            have Rc0 : ∀ w', Ext V w' → w'.cell? ⟨bb, 0, none⟩ = some (.int .i64 r1) := Ext.keeps (by rw [hV0, hbb]; exact cell_at_newQ rfl rfl)
            have Rc1 : ∀ w', Ext V w' → w'.cell? ⟨bb, 1, none⟩ = some (.int .i64 r2) := Ext.keeps (by rw [hV0, hbb]; exact cell_at_newQ rfl rfl)
            have Rc2 : ∀ w', Ext V w' → w'.cell? ⟨bb, 2, none⟩ = some (.int .i64 r3) := Ext.keeps (by rw [hV0, hbb]; exact cell_at_newQ rfl rfl)
            have HOV := Lib.hid (own_ext (show Ext wo V by rw [hV0]; exact Ext.alloc (Ext.refl _) _) HO1.out)
            have HEV := Lib.hid (show Ext w4 V by rw [hV0]; exact Ext.alloc HEo.out _)
            have hgb : g < bb := by rw [hbb]; exact hg2
            obtain ⟨_, _, e1, z0, z1, z2⟩ := (own_reads HOV.out).tri (k := M'.length) (by omega)
            simp only [Option.some.injEq, Addr.mk.injEq, and_true] at e1
            obtain ⟨rfl, rfl⟩ := e1
            rw [show tat (M' ++ [(zx, zy, zw)]) M'.length = (zx, zy, zw) by simp [tat, List.getD]] at z0 z1 z2
            simp only [Nat.zero_add] at z0 z1 z2
            have Zc0 := Ext.keeps z0
            have Zc1 := Ext.keeps z1
            have Zc2 := Ext.keeps z2
            have wl : IntKind.i64.wrap (M'.length : Int) = (M'.length : Int) := by rw [wrap_i64] <;> omega
            have zl : (0 : Int) ≤ (M'.length : Int) := by omega
            have ll : (M'.length : Int) < (M'.length : Int) + 1 := by omega
            clear z0 z1 z2 hHB hzP HC0 HOo HO1 hbz hlen2 HMKk
            by_cases hkk : zx = r1 ∧ zy = r2
            · obtain ⟨rfl, rfl⟩ := hkk
              have HC := Lib.hid (show mergeT (S.take (k + 1)) = M' ++ [(zx, zy, zw + r3)] by rw [HC1.out, if_pos (show kR (zx, zy, zw) = kR (zx, zy, r3) from rfl)] <;> rfl)
              have HCmp := Lib.hid (fun w => show Calls Try.prog 65 #[.agg #[.int .i64 zx, .int .i64 zy, .int .i64 zw], .agg #[.int .i64 zx, .int .i64 zy, .int .i64 r3]] w fun r w' => r = .returned (.int .i64 0) ∧ Ext w w' by
                have := compareRays_any zx zy zw zx zy r3 (by omega) (by omega) (by omega) (by omega) (by omega) (by omega) (by omega) (by omega) w
                rwa [show cmpI zx zy zx zy = 0 by simp [cmpI]] at this)
              clear HC1
              go_wp2
              rw [← hV0, ← hbb]
              clear hV0 hbb hp0 hp1 hp2 HEo
              have hE : Ext V V := Ext.refl _
              have qR0 := fun s : Past V => Rc0 s.w s.ext
              have qR1 := fun s : Past V => Rc1 s.w s.ext
              have qR2 := fun s : Past V => Rc2 s.w s.ext
              have qZ0 := fun s : Past V => Zc0 s.w s.ext
              have qZ1 := fun s : Past V => Zc1 s.w s.ext
              have qZ2 := fun s : Past V => Zc2 s.w s.ext
              refine wp_region_past V (by first | exact hE | exact Ext.alloc hE _ | exact Ext.drew hE | exact Ext.drewN hE _) (by kernel_rfl) (by kernel_rfl) ?_
              repeat (go_big_quiet_step (((go_at_call 65; exact past_ext (HCmp.out _)))))
              refine wpQuiet_nil ?_
              intro w6 hw'
              obtain ⟨⟨_, hE⟩, hw''⟩ := hw'
              subst hw''
              clear qR0 qR1 qR2 qZ0 qZ1 qZ2
              have HO := Lib.hid (own_ext hE HOV.out)
              have hEw := Lib.hid (HEV.out.trans hE)
              have q2 := Rc2 _ hE
              have z2 := Zc2 _ hE
              have f2 := HO.out.frozenAt (M'.length * 3 + 2)
              have HST := Lib.hid (HO.out.stored (M'.length * 3 + 2) (.int .i64 (zw + r3)))
              have HTS := Lib.hid (tv_set_n (M' ++ [(zx, zy, zw)]) M'.length (zw + r3) (by simp))
              have wsum : IntKind.i64.wrap (zw + r3) = zw + r3 := by rw [wrap_i64] <;> omega
              clear hE HOV HEV Rc0 Rc1 Rc2 Zc0 Zc1 Zc2 HCmp
              go_wp2
              go_region
              go_wp2
              go_roundw
              case rel =>
                refine ⟨k + 1, some ⟨g, 0, none⟩, c1, by omega, by go_num, by rw [HC.out]; simp, ?_, Ext.drew (Ext.grown hEw.out HST.out.2 (fun k hk => by cases hk; exact hg1))⟩
                rw [HC.out]
                have h1 := HST.out.1
                rw [HTS.out, show tat (M' ++ [(zx, zy, zw)]) M'.length = (zx, zy, zw) by simp [tat, List.getD], List.set_append_right _ _ (Nat.le_refl _)] at h1
                exact own_ext (Ext.drew (Ext.refl _)) (by simpa using h1)
              case measure => simp [intOf]; omega
            · have HC := Lib.hid (show mergeT (S.take (k + 1)) = M' ++ [(zx, zy, zw)] ++ [(r1, r2, r3)] by rw [HC1.out, if_neg (fun e => hkk (by unfold kR at e; simpa using e))])
              have HCmp0 := Lib.hid (fun w => compareRays_any zx zy zw r1 r2 r3 (by omega) (by omega) (by omega) (by omega) (by omega) (by omega) (by omega) (by omega) w)
              obtain ⟨Q, hQ⟩ : ∃ Q, Q = cmpI zx zy r1 r2 := ⟨_, rfl⟩
              rw [← hQ] at HCmp0
              have hq0 : (Q == 0) = false := by
                simp only [beq_eq_false_iff_ne]
                rw [hQ]; unfold cmpI; split <;> omega
              have HCmp := HCmp0
              clear HC1 hQ HCmp0 hkk
              go_wp2
              rw [← hV0, ← hbb]
              clear hV0 hbb hp0 hp1 hp2 HEo
              have hE : Ext V V := Ext.refl _
              have qR0 := fun s : Past V => Rc0 s.w s.ext
              have qR1 := fun s : Past V => Rc1 s.w s.ext
              have qR2 := fun s : Past V => Rc2 s.w s.ext
              have qZ0 := fun s : Past V => Zc0 s.w s.ext
              have qZ1 := fun s : Past V => Zc1 s.w s.ext
              have qZ2 := fun s : Past V => Zc2 s.w s.ext
              refine wp_region_past V (by first | exact hE | exact Ext.alloc hE _ | exact Ext.drew hE | exact Ext.drewN hE _) (by kernel_rfl) (by kernel_rfl) ?_
              repeat (go_big_quiet_step (((go_at_call 65; exact past_ext (HCmp.out _)))))
              refine wpQuiet_nil ?_
              intro w6 hw'
              obtain ⟨⟨_, hE⟩, hw''⟩ := hw'
              subst hw''
              clear qR0 qR1 qR2 qZ0 qZ1 qZ2
              have HO := Lib.hid (own_ext hE HOV.out)
              have hEw := Lib.hid (HEV.out.trans hE)
              have q0 := Rc0 _ hE
              have q1 := Rc1 _ hE
              have q2 := Rc2 _ hE
              clear hE HOV HEV Rc0 Rc1 Rc2 Zc0 Zc1 Zc2 HCmp
              go_wp2_with (at_builtin; go_must (refine wpList_app_any _ rfl _ _ 47 rfl w4.heap.size 85 i0 _ 3 24 Try.underlying47 HZI.out.1 HZI.out.2.1 HZI.out.2.2.1 HZI.out.2.2.2 rfl (by decide) _ _ (tv (M' ++ [(zx, zy, zw)])) rfl (own_ext (Ext.alloc (Ext.refl _) _) HO.out) _ _ _ _ rfl (ones_reads3 (x := .int .i64 r1) (y := .int .i64 r2) (z := .int .i64 r3) (by simp) (by simp) (by simp)) (by simp [Value.oneCell']) (by unfold maxLen; omega) (by omega) (by have := hEw.out.size; simp <;> omega) ?_))
              intro a5 c5 w5 hown5 hgr5 _
              have hE5 := Ext.grown (Ext.alloc hEw.out _) hgr5 (fun k hk => (HO.out.lt k hk).1)
              go_wp2
              go_roundw
              case rel => exact ⟨k + 1, a5, c5, by omega, by go_num, by rw [HC.out]; simp, by rw [HC.out]; simpa [tv_append, tv] using hown5, hE5⟩
              case measure => simp [intOf]; omega
        · obtain rfl : k = S.length := by omega
          rw [List.take_length, HPA.out] at hown ⊢
          have hlp : (putAll zs ys).length ≤ 1000 := by rw [List.take_length, HPA.out] at hml; omega
          have hEw := hE4'.out.trans hE
          have hsz4 := hE4'.out.size
          generalize putAll zs ys = P at *
          clear HML HMB HMK HMBk HMKk HPA hml
          cases h3 : starB P
          · go_wp2_with fail
            refine (toldStar_any _ _ _ P (by omega) _ (own_reads hown)).mono ?_
            rw [h3]
            rintro e w5 ⟨rfl, hb5⟩
            go_wp2
            go_ret2
            rw [h3]
            exact ⟨none, 0, rfl, own_none _ _ _, hEw.trans hb5⟩
          · go_wp2_with fail
            refine (toldStar_any _ _ _ P (by omega) _ (own_reads hown)).mono ?_
            rw [h3]
            rintro e w5 ⟨rfl, hb5⟩
            go_wp2
            go_ret2
            rw [h3]
            exact ⟨a1, c1, rfl, own_mono hsz4 (own_ext hb5 hown), hEw.trans hb5⟩

end Go.Proofs.Ytogbfhhioicbmaa
