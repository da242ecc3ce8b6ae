/-
  One more ray: the reference's walk.
-/
import Derived.Test.YtogbfhhioicbmaaPutP
import Derived.Test.YtogbfhhioicbmaaStar
import Derived.Test.YtogbfhhioicbmaaScale
import Derived.Test.YtogbfhhioicbmaaHullS
import Derived.Test.YtogbfhhioicbmaaHullI
import Derived.Deep.RegionHeld3
import Derived.BigRegion
namespace Go.Proofs.Ytogbfhhioicbmaa
open Go.RowKit

theorem befB_lex {a b c d : Int} : befB a b c d = true ↔ lexP (a, b) (c, d) := by
  unfold befB lexP lexV
  simp only [Bool.or_eq_true, Bool.and_eq_true, decide_eq_true_eq]
  omega
theorem tv_drop (zs : List (Int × Int × Int)) (k : Nat) : (tv zs).drop (k * 3) = tv (zs.drop k) := by
  rcases Nat.lt_or_ge k zs.length with h | h
  · have h1 : tv zs = tv (zs.take k) ++ tv (zs.drop k) := by rw [← tv_append, List.take_append_drop]
    rw [h1, List.drop_append_of_le_length (by rw [tv_len]; simp; omega), List.drop_of_length_le (by rw [tv_len]; simp; omega), List.nil_append]
  · rw [List.drop_of_length_le (by rw [tv_len]; omega), List.drop_of_length_le h]; rfl
theorem ones_reads3 {w : World} {g : Nat} {x y z : Value} (h0 : w.cell? ⟨g, 0, none⟩ = some x) (h1 : w.cell? ⟨g, 1, none⟩ = some y) (h2 : w.cell? ⟨g, 2, none⟩ = some z) : Reads w (some ⟨g, 0, none⟩) 3 1 [x, y, z] :=
  ⟨rfl, fun _ => ⟨g, 0, rfl, fun j u hj => by
    match j, hj with
    | 0, hj => simp at hj; subst hj; simpa using h0
    | 1, hj => simp at hj; subst hj; simpa using h1
    | 2, hj => simp at hj; subst hj; simpa using h2⟩⟩
theorem own_two {w : World} {B : Nat} {E : TypeId} {size : Nat} {a : Option Addr} {n c : Nat} {xs : List Value} (k : w.ownsRow B E size (.slice a n c) n xs) : (a = none ∧ n = 0 ∧ c = 0) ∨ ∃ g, a = some ⟨g, 0, none⟩ := by
  rcases k.2 with ⟨h, h0⟩ | ⟨g, cap, cur, hv, _⟩
  · simp only [Value.slice.injEq] at h; exact .inl h
  · simp only [Value.slice.injEq] at hv; exact .inr ⟨g, hv.1⟩
theorem grown_setQ (w : World) (b o : Nat) (v : Value) : w.grownBy (w.setCell ⟨b, o, none⟩ v) (some b) :=
  ⟨rfl, rfl, rfl, by simp, fun k _ hk => Go.Deep.blk_setCell_other w ⟨b, o, none⟩ v k (fun e => hk (by rw [e]))⟩
/-- A slice of rays of the call's own. -/
def OwnsRays (B : Nat) (zs : List (Int × Int × Int)) (w : World) (r : Ending) (w' : World) : Prop :=
  ∃ a c, r = .returned (.slice a zs.length c) ∧ w'.ownsRow B 85 3 (.slice a zs.length c) zs.length (tv zs) ∧ Ext w w'
set_option maxHeartbeats 8000000 in
theorem stPut_any (a : Option Addr) (n c B : Nat) (zs : List (Int × Int × Int)) (x y v : Int) (hn : n ≤ 100) (hb : ∀ z ∈ zs, 0 ≤ z.2.2 ∧ z.2.2 ≤ 10000) (hv : 0 ≤ v ∧ v ≤ 10000) (w : World) (h : w.ownsRow B 85 3 (.slice a n c) n (tv zs)) :
    Calls Try.prog 58 #[.slice a n c, .agg #[.int .i64 x, .int .i64 y, .int .i64 v]] w (OwnsRays w.heap.size (putT zs (x, y, v)) w) := by
  have HLZ : Hid (zs.length = n) := by show zs.length = n; have := h.1; rw [tv_len] at this; omega
  have HBD := Lib.hid hb
  clear hb
  obtain ⟨i0, hz1, hz2, hz3, hz4⟩ := info_parts ray_info
  have HZI := Lib.hid (And.intro hz1 (And.intro hz2 (And.intro hz3 hz4)))
  clear hz1 hz2 hz3 hz4
  have HR := (Has.new w #[.int .i64 x, .int .i64 y, .int .i64 v] 85)
  have Rc0 := Ext.keeps (HR 0 _ rfl)
  have Rc1 := Ext.keeps (HR 1 _ rfl)
  have Rc2 := Ext.keeps (HR 2 _ rfl)
  have Rf0 := Ext.thaws (w := (w.alloc (.cells #[.int .i64 x, .int .i64 y, .int .i64 v] 85))) (HR 0 _ rfl) (by simp)
  have Rf1 := Ext.thaws (w := (w.alloc (.cells #[.int .i64 x, .int .i64 y, .int .i64 v] 85))) (HR 1 _ rfl) (by simp)
  have Rf2 := Ext.thaws (w := (w.alloc (.cells #[.int .i64 x, .int .i64 y, .int .i64 v] 85))) (HR 2 _ rfl) (by simp)
  clear HR
  have hE : Ext (w.alloc (.cells #[.int .i64 x, .int .i64 y, .int .i64 v] 85)) (w.alloc (.cells #[.int .i64 x, .int .i64 y, .int .i64 v] 85)) := Ext.refl _
  have HOV := Lib.hid (own_ext (show Ext w (w.alloc (.cells #[.int .i64 x, .int .i64 y, .int .i64 v] 85)) from (by repeat (first | exact Ext.refl _ | assumption | apply Ext.alloc | apply Ext.drew | apply Ext.drewN | (refine Ext.trans ?_ (by assumption)) | (refine Ext.setCell ?_ (by (try simp) <;> omega) _)))) h)
  have HEV := Lib.hid (show Ext w (w.alloc (.cells #[.int .i64 x, .int .i64 y, .int .i64 v] 85)) from (by repeat (first | exact Ext.refl _ | assumption | apply Ext.alloc | apply Ext.drew | apply Ext.drewN | (refine Ext.trans ?_ (by assumption)) | (refine Ext.setCell ?_ (by (try simp) <;> omega) _))))
  go_enter Try.func58, Try.ntmps58
  go_wp2
  obtain ⟨V, hV0⟩ : ∃ V, V = w.alloc (.cells #[.int .i64 x, .int .i64 y, .int .i64 v] 85) := ⟨_, rfl⟩
  obtain ⟨bb, hbb⟩ : ∃ bb, bb = w.heap.size := ⟨_, rfl⟩
  have hgb : ∀ q, (Value.slice a n c).ownBlock = some q → q < bb := fun q hq => by rw [hbb]; exact (h.lt q hq).2
  have HGB := Lib.hid hgb
  clear hgb h
  rw [← hV0] at Rc0 Rc1 Rc2 Rf0 Rf1 Rf2 HOV HEV ⊢
  rw [← hbb] at Rc0 Rc1 Rc2 Rf0 Rf1 Rf2 ⊢
  have HBB := Lib.hid hbb
  clear hV0 hbb
  clear hE
  go_loopw [5] (fun s wr => ∃ (i : Nat), i ≤ n ∧ s = .int .i64 i ∧ Hid (∀ q, q < i → lexP (kR (zs.getD q (0, 0, 0))) (x, y)) ∧ Ext V wr) (fun s _ => n - (intOf s).toNat)
  case atStart => exact ⟨0, Nat.zero_le _, rfl, Lib.hid (fun q hq => by omega), Ext.refl _⟩
  case round =>
    obtain ⟨i, hi, rfl, HQ, hE⟩ := hrel
    replace Rc0 := Ext.rebase hE Rc0
    replace Rc1 := Ext.rebase hE Rc1
    replace Rc2 := Ext.rebase hE Rc2
    have r2f := Rf2 _ hE
    clear Rf0 Rf1 Rf2
    have HO := Lib.hid (own_ext hE HOV.out)
    have hEw0 := Lib.hid (HEV.out.trans hE)
    have HE0 := Lib.hid hE
    clear HOV HEV hE
    by_cases hin : i < n
    · obtain ⟨m, rfl⟩ : ∃ m, n = i + 1 + m := ⟨n - i - 1, by omega⟩
      have hgt : decide ((i : Int) < (i : Int) + 1 + (m : Int)) = true := decide_eq_true (by omega)
      obtain ⟨g, rfl, hg1, hg2⟩ := own_head HO.out (by omega)
      have hcap := (own_capQ HO.out).1
      have hgb : g < bb := HGB.out g rfl
      obtain ⟨_, _, e1, z0, z1, z2⟩ := (own_reads HO.out).tri hin
      simp only [Option.some.injEq, Addr.mk.injEq, and_true] at e1
      obtain ⟨rfl, rfl⟩ := e1
      have hzw := HBD.out (zs.getD i (0, 0, 0)) (by have := HLZ.out; rw [show zs.getD i (0, 0, 0) = zs[i]'(by omega) by simp [List.getD, show i < zs.length by omega]]; exact List.getElem_mem _)
      have HK := Lib.hid (putT_at (r := (x, y, v)) (l := zs) i (by have := HLZ.out; omega) HQ.out)
      have HQ1 := Lib.hid (fun (e : lexP (kR (zs.getD i (0, 0, 0))) (x, y)) q (hq : q < i + 1) => show lexP (kR (zs.getD q (0, 0, 0))) (x, y) by
        rcases (show q < i ∨ q = i by omega) with h | h
        · exact HQ.out q h
        · subst h; exact e)
      have ez : tat zs i = zs.getD i (0, 0, 0) := rfl
      rw [ez] at z0 z1 z2
      generalize zs.getD i (0, 0, 0) = z at *
      obtain ⟨zx, zy, zw⟩ := z
      simp only [Nat.zero_add] at z0 z1 z2 hzw HK HQ1
      clear ez
      have Zc0 := Ext.keeps z0
      have Zc1 := Ext.keeps z1
      have Zc2 := Ext.keeps z2
      clear z0 z1 z2
      have e1 : i + 1 + m - i = m + 1 := by omega
      have e2 : ((i + 1 + m - i : Nat) : Int) = (m : Int) + 1 := by omega
      cases hbf : befB zx zy x y
      · have hnl : ¬ lexP (kR (zx, zy, zw)) (x, y) := fun e => by have := befB_lex.2 e; rw [hbf] at this; cases this
        have HS1 := Lib.hid (fun w => stBefore_any zx zy zw x y v w)
        have HS2 := Lib.hid (fun w => stBefore_any x y v zx zy zw w)
        rw [hbf] at HS1
        clear HQ1 hbf
        have hE : Ext wr wr := Ext.refl _
        go_wp2
        have qR0 := fun s : Past wr => Rc0 s.w s.ext
        have qR1 := fun s : Past wr => Rc1 s.w s.ext
        have qR2 := fun s : Past wr => Rc2 s.w s.ext
        have qZ0 := fun s : Past wr => Zc0 s.w s.ext
        have qZ1 := fun s : Past wr => Zc1 s.w s.ext
        have qZ2 := fun s : Past wr => Zc2 s.w s.ext
        refine wp_region_past wr (by first | exact hE | exact Ext.alloc hE _ | exact Ext.drew hE | exact Ext.drewN hE _) (by kernel_rfl) (by kernel_rfl) ?_
        repeat (go_big_quiet_step (((go_at_call 109; exact past_ext (HS1.out _)))))
        refine wpQuiet_nil ?_
        intro w1 hw'
        obtain ⟨⟨_, hE⟩, hw''⟩ := hw'
        subst hw''
        clear qR0 qR1 qR2 qZ0 qZ1 qZ2
        have HO1 := Lib.hid (own_ext hE HO.out)
        have hEw1 := Lib.hid (hEw0.out.trans hE)
        have r2f1 := Ext.thaws (Rc2 _ (Ext.refl _)) r2f _ hE
        replace Rc0 := Ext.rebase hE Rc0
        replace Rc1 := Ext.rebase hE Rc1
        replace Rc2 := Ext.rebase hE Rc2
        replace Zc0 := Ext.rebase hE Zc0
        replace Zc1 := Ext.rebase hE Zc1
        replace Zc2 := Ext.rebase hE Zc2
        clear hE HO hEw0 r2f HS1
        have hic : ¬ c = i := by omega
        have hic2 : i ≤ c := by omega
        cases hcf : befB x y zx zy
        · have HP := Lib.hid (show putT zs (x, y, v) = zs.take i ++ ([(x, y, v + zw)] ++ zs.drop (i + 1)) by
            rw [HK.out (fun _ => hnl), if_pos ⟨by have := HLZ.out; omega, fun e => by have := befB_lex.2 e; rw [hcf] at this; cases this⟩])
          rw [hcf] at HS2
          have HL := Lib.hid (show (putT zs (x, y, v)).length = i + 1 + m by rw [HP.out]; have := HLZ.out; simp; omega)
          have HTV := Lib.hid (show tv (putT zs (x, y, v)) = tv (zs.take i) ++ [.int .i64 x, .int .i64 y, .int .i64 (v + zw)] ++ tv (zs.drop (i + 1)) by rw [HP.out, tv_append, tv_append, List.append_assoc]; rfl)
          clear HP HK hnl hcf HQ
          have hE : Ext w1 w1 := Ext.refl _
          go_wp2
          have qR0 := fun s : Past w1 => Rc0 s.w s.ext
          have qR1 := fun s : Past w1 => Rc1 s.w s.ext
          have qR2 := fun s : Past w1 => Rc2 s.w s.ext
          have qZ0 := fun s : Past w1 => Zc0 s.w s.ext
          have qZ1 := fun s : Past w1 => Zc1 s.w s.ext
          have qZ2 := fun s : Past w1 => Zc2 s.w s.ext
          refine wp_region_past w1 (by first | exact hE | exact Ext.alloc hE _ | exact Ext.drew hE | exact Ext.drewN hE _) (by kernel_rfl) (by kernel_rfl) ?_
          repeat (go_big_quiet_step (((go_at_call 109; exact past_ext (HS2.out _)))))
          refine wpQuiet_nil ?_
          intro w2 hw'
          obtain ⟨⟨_, hE⟩, hw''⟩ := hw'
          subst hw''
          clear qR0 qR1 qR2 qZ0 qZ1 qZ2
          have HO2 := Lib.hid (own_ext hE HO1.out)
          have hEw2 := Lib.hid (hEw1.out.trans hE)
          have r2 := Rc2 _ hE
          have r1 := Rc1 _ hE
          have r0 := Rc0 _ hE
          have z2 := Zc2 _ hE
          have r2f2 := Ext.thaws (Rc2 _ (Ext.refl _)) r2f1 _ hE
          clear hE HO1 hEw1 Rc0 Rc1 Rc2 Zc0 Zc1 Zc2 r2f1 HS2
          have hbw : Hid (w.heap.size ≤ bb) := by rw [← HBB.out]; exact Lib.hid (Nat.le_refl _)
          have wsum : IntKind.i64.wrap (v + zw) = v + zw := by rw [wrap_i64] <;> omega
          go_wp2
          go_region
          obtain ⟨wr, hwr⟩ : ∃ wr, wr = (w2.setCell ⟨bb, 2, none⟩ (.int .i64 (v + zw))).drew := ⟨_, rfl⟩
          rw [← hwr]
          have HO3 := Lib.hid (show wr.ownsRow B 85 3 (.slice (some ⟨g, 0, none⟩) (i + 1 + m) c) (i + 1 + m) (tv zs) by
            rw [hwr]
            exact own_ext (Ext.drew (Ext.refl _)) (own_apartQ HO2.out (grown_setQ _ _ _ _) (fun q hq => by simp [Value.ownBlock] at hq; subst hq; simp; omega)))
          have hEw := Lib.hid (show Ext w wr by rw [hwr]; exact Ext.drew (Ext.setCell hEw2.out hbw.out _))
          have c0 : wr.cell? ⟨bb, 0, none⟩ = some (.int .i64 x) := by rw [hwr]; simp [go_sem, r0]
          have c1' : wr.cell? ⟨bb, 1, none⟩ = some (.int .i64 y) := by rw [hwr]; simp [go_sem, r1]
          have c2' : wr.cell? ⟨bb, 2, none⟩ = some (.int .i64 (v + zw)) := by rw [hwr]; simp [go_sem, r2]
          have Rc0 := Ext.keeps c0
          have Rc1 := Ext.keeps c1'
          have Rc2 := Ext.keeps c2'
          have HRA := Lib.hid (fun w' (e : Ext wr w') => show Reads w' (some ⟨g, 0, none⟩) 3 i (tv (zs.take i)) by
            have := (own_reads (own_ext e HO3.out)).take (k := i) (by omega)
            rwa [tv_take] at this)
          clear hwr hEw2 HO2 r0 r1 r2 r2f2 z2 c0 c1' c2'
          by_cases hcc : c = i + 1
          · obtain rfl : m = 0 := by omega
            have hJ1 : (i : Int) ≤ (i : Int) + 1 := by omega
            have hJ2 : (0 : Int) ≤ (i : Int) := by omega
            have hJ3 : ¬ ((i : Int) + 1 < (i : Int)) := by omega
            have HRC := Lib.hid (fun w' (_ : Ext wr w') (q : Option Addr) => show Reads w' q 3 0 (tv (zs.drop (i + 1))) by
              rw [List.drop_of_length_le (by have := HLZ.out; omega)]; exact Reads.zero)
            go_wp2
            go_region_held3 (fun w' => Ext wr w') (first | exact HE4.out | exact HE3.out | exact Ext.alloc HE2.out _ | exact HE2.out | (repeat (first | exact Ext.refl _ | assumption | apply Ext.alloc | apply Ext.drew | apply Ext.drewN | (refine Ext.trans ?_ (by assumption)) | (refine Ext.setCell ?_ (by (try simp) <;> omega) _)))) (first | (have t3 := H3; clear t3; refine step_app_N _ (by rfl) _ _ 47 (by rfl) wr.heap.size 85 i0 _ 3 24 Try.underlying47 HZI.out.1 HZI.out.2.1 HZI.out.2.2.1 HZI.out.2.2.2 rfl (by omega) (i + 1 + 0) (.slice _ _ _) _ _ (by rfl) H3.out _ _ _ (tv (zs.drop (i + 1))) (by rfl) (HRC.out _ HE3.out _) (tv_one _) (by omega) (by unfold maxLen; omega) (by omega) (Ext.size HE3.out) ?_; intro a4 c4 w4 hown4 hg4; have H4 := Lib.hid hown4; have HE4 := Lib.hid (Ext.grown (a := wr) HE3.out hg4 (fun k hk => (H3.out.lt k hk).1)); clear hown4 hg4) | (have t2 := H2; clear t2; refine step_app_N _ (by rfl) _ _ 47 (by rfl) wr.heap.size 85 i0 _ 3 24 Try.underlying47 HZI.out.1 HZI.out.2.1 HZI.out.2.2.1 HZI.out.2.2.2 rfl (by omega) (i + 1) (.slice _ _ _) _ _ (by rfl) (by first | (with_reducible exact H2.out) | exact own_ext (Ext.alloc (Ext.refl _) _) H2.out) _ 1 _ [.int .i64 x, .int .i64 y, .int .i64 (v + zw)] (by rfl) (ones_reads3 (by first | (with_reducible assumption) | (simp; done)) (by first | (with_reducible assumption) | (simp; done)) (by first | (with_reducible assumption) | (simp; done))) (by simp [Value.oneCell']) (by omega) (by unfold maxLen; omega) (by omega) (Ext.size (w := wr) (by first | (with_reducible exact HE2.out) | exact Ext.alloc HE2.out _)) ?_; intro a3 c3 w3 hown3 hg3; have H3 := Lib.hid hown3; have HE3 := Lib.hid (Ext.grown (a := wr) (by first | (with_reducible exact HE2.out) | exact Ext.alloc HE2.out _) hg3 (fun k hk => (H2.out.lt k hk).1)); clear hown3 hg3) | (refine step_app_N _ (by rfl) _ _ 47 (by rfl) wr.heap.size 85 i0 _ 3 24 Try.underlying47 HZI.out.1 HZI.out.2.1 HZI.out.2.2.1 HZI.out.2.2.2 rfl (by omega) (i) (.slice (some ⟨_, 0, none⟩) 0 0) 0 [] (by rfl) (by first | exact own_emptyH wr rfl rfl rfl (Nat.le_refl _) | exact own_emptyH (wr.alloc (.cells #[.int .i64 x, .int .i64 y, .int .i64 (v + zw)] 85)) rfl rfl (by simp) (by simp) | exact own_ext (show Ext (wr.alloc (.cells #[] 85)) _ from (by repeat (first | exact Ext.refl _ | assumption | apply Ext.alloc | apply Ext.drew | apply Ext.drewN | (refine Ext.trans ?_ (by assumption)) | (refine Ext.setCell ?_ (by (try simp) <;> omega) _)))) (own_emptyH wr rfl rfl rfl (Nat.le_refl _))) _ i _ (tv (zs.take i)) (by rfl) (HRA.out _ (by repeat (first | exact Ext.refl _ | assumption | apply Ext.alloc | apply Ext.drew | apply Ext.drewN | (refine Ext.trans ?_ (by assumption)) | (refine Ext.setCell ?_ (by (try simp) <;> omega) _)))) (tv_one _) (by omega) (by unfold maxLen; omega) (by omega) (Ext.size (w := wr) (by repeat (first | exact Ext.refl _ | assumption | apply Ext.alloc | apply Ext.drew | apply Ext.drewN | (refine Ext.trans ?_ (by assumption)) | (refine Ext.setCell ?_ (by (try simp) <;> omega) _)))) ?_; intro a2 c2 w2 hown2 hg2; simp only [List.nil_append] at hown2; have H2 := Lib.hid hown2; have HE2 := Lib.hid (Ext.grown (a := wr) (by repeat (first | exact Ext.refl _ | assumption | apply Ext.alloc | apply Ext.drew | apply Ext.drewN | (refine Ext.trans ?_ (by assumption)) | (refine Ext.setCell ?_ (by (try simp) <;> omega) _))) hg2 (fun k hk => by simp [Value.ownBlock] at hk; omega)); (try (have j0_0 := grown_keep (b := wr.heap.size) (o := 0) (v := .int .i64 x) hg2; simp [Value.ownBlock] at j0_0)); (try (have j0_1 := grown_keep (b := wr.heap.size) (o := 1) (v := .int .i64 y) hg2; simp [Value.ownBlock] at j0_1)); (try (have j0_2 := grown_keep (b := wr.heap.size) (o := 2) (v := .int .i64 (v + zw)) hg2; simp [Value.ownBlock] at j0_2)); (try (have j1_0 := grown_keep (b := wr.heap.size + 1) (o := 0) (v := .int .i64 x) hg2; simp [Value.ownBlock] at j1_0)); (try (have j1_1 := grown_keep (b := wr.heap.size + 1) (o := 1) (v := .int .i64 y) hg2; simp [Value.ownBlock] at j1_1)); (try (have j1_2 := grown_keep (b := wr.heap.size + 1) (o := 2) (v := .int .i64 (v + zw)) hg2; simp [Value.ownBlock] at j1_2)); clear hown2 hg2))
            all_goals (
              go_wp2
              go_ret
              exact ⟨a4, c4, (by rw [HL.out] <;> rfl), by rw [HL.out, HTV.out]; simpa using own_mono (Ext.size hEw.out) H4.out, hEw.out.trans HE4.out⟩)
          · have HRC := Lib.hid (fun w' (e : Ext wr w') => show Reads w' (some ⟨g, i * 3 + 3, none⟩) 3 m (tv (zs.drop (i + 1))) by
              have := (own_reads (own_ext e HO3.out)).drop (k := i + 1) (by omega)
              rw [tv_drop, Nat.zero_add] at this
              rwa [show i + 1 + m - (i + 1) = m by omega, show (i + 1) * 3 = i * 3 + 3 by omega] at this)
            go_wp2
            go_region_held3 (fun w' => Ext wr w') (first | exact HE4.out | exact HE3.out | exact Ext.alloc HE2.out _ | exact HE2.out | (repeat (first | exact Ext.refl _ | assumption | apply Ext.alloc | apply Ext.drew | apply Ext.drewN | (refine Ext.trans ?_ (by assumption)) | (refine Ext.setCell ?_ (by (try simp) <;> omega) _)))) (first | (have t3 := H3; clear t3; refine step_app_N _ (by rfl) _ _ 47 (by rfl) wr.heap.size 85 i0 _ 3 24 Try.underlying47 HZI.out.1 HZI.out.2.1 HZI.out.2.2.1 HZI.out.2.2.2 rfl (by omega) (i + 1 + m) (.slice _ _ _) _ _ (by rfl) H3.out _ _ _ (tv (zs.drop (i + 1))) (by rfl) (HRC.out _ HE3.out) (tv_one _) (by omega) (by unfold maxLen; omega) (by omega) (Ext.size HE3.out) ?_; intro a4 c4 w4 hown4 hg4; have H4 := Lib.hid hown4; have HE4 := Lib.hid (Ext.grown (a := wr) HE3.out hg4 (fun k hk => (H3.out.lt k hk).1)); clear hown4 hg4) | (have t2 := H2; clear t2; refine step_app_N _ (by rfl) _ _ 47 (by rfl) wr.heap.size 85 i0 _ 3 24 Try.underlying47 HZI.out.1 HZI.out.2.1 HZI.out.2.2.1 HZI.out.2.2.2 rfl (by omega) (i + 1) (.slice _ _ _) _ _ (by rfl) (by first | (with_reducible exact H2.out) | exact own_ext (Ext.alloc (Ext.refl _) _) H2.out) _ 1 _ [.int .i64 x, .int .i64 y, .int .i64 (v + zw)] (by rfl) (ones_reads3 (by first | (with_reducible assumption) | (simp; done)) (by first | (with_reducible assumption) | (simp; done)) (by first | (with_reducible assumption) | (simp; done))) (by simp [Value.oneCell']) (by omega) (by unfold maxLen; omega) (by omega) (Ext.size (w := wr) (by first | (with_reducible exact HE2.out) | exact Ext.alloc HE2.out _)) ?_; intro a3 c3 w3 hown3 hg3; have H3 := Lib.hid hown3; have HE3 := Lib.hid (Ext.grown (a := wr) (by first | (with_reducible exact HE2.out) | exact Ext.alloc HE2.out _) hg3 (fun k hk => (H2.out.lt k hk).1)); clear hown3 hg3) | (refine step_app_N _ (by rfl) _ _ 47 (by rfl) wr.heap.size 85 i0 _ 3 24 Try.underlying47 HZI.out.1 HZI.out.2.1 HZI.out.2.2.1 HZI.out.2.2.2 rfl (by omega) (i) (.slice (some ⟨_, 0, none⟩) 0 0) 0 [] (by rfl) (by first | exact own_emptyH wr rfl rfl rfl (Nat.le_refl _) | exact own_emptyH (wr.alloc (.cells #[.int .i64 x, .int .i64 y, .int .i64 (v + zw)] 85)) rfl rfl (by simp) (by simp) | exact own_ext (show Ext (wr.alloc (.cells #[] 85)) _ from (by repeat (first | exact Ext.refl _ | assumption | apply Ext.alloc | apply Ext.drew | apply Ext.drewN | (refine Ext.trans ?_ (by assumption)) | (refine Ext.setCell ?_ (by (try simp) <;> omega) _)))) (own_emptyH wr rfl rfl rfl (Nat.le_refl _))) _ i _ (tv (zs.take i)) (by rfl) (HRA.out _ (by repeat (first | exact Ext.refl _ | assumption | apply Ext.alloc | apply Ext.drew | apply Ext.drewN | (refine Ext.trans ?_ (by assumption)) | (refine Ext.setCell ?_ (by (try simp) <;> omega) _)))) (tv_one _) (by omega) (by unfold maxLen; omega) (by omega) (Ext.size (w := wr) (by repeat (first | exact Ext.refl _ | assumption | apply Ext.alloc | apply Ext.drew | apply Ext.drewN | (refine Ext.trans ?_ (by assumption)) | (refine Ext.setCell ?_ (by (try simp) <;> omega) _)))) ?_; intro a2 c2 w2 hown2 hg2; simp only [List.nil_append] at hown2; have H2 := Lib.hid hown2; have HE2 := Lib.hid (Ext.grown (a := wr) (by repeat (first | exact Ext.refl _ | assumption | apply Ext.alloc | apply Ext.drew | apply Ext.drewN | (refine Ext.trans ?_ (by assumption)) | (refine Ext.setCell ?_ (by (try simp) <;> omega) _))) hg2 (fun k hk => by simp [Value.ownBlock] at hk; omega)); (try (have j0_0 := grown_keep (b := wr.heap.size) (o := 0) (v := .int .i64 x) hg2; simp [Value.ownBlock] at j0_0)); (try (have j0_1 := grown_keep (b := wr.heap.size) (o := 1) (v := .int .i64 y) hg2; simp [Value.ownBlock] at j0_1)); (try (have j0_2 := grown_keep (b := wr.heap.size) (o := 2) (v := .int .i64 (v + zw)) hg2; simp [Value.ownBlock] at j0_2)); (try (have j1_0 := grown_keep (b := wr.heap.size + 1) (o := 0) (v := .int .i64 x) hg2; simp [Value.ownBlock] at j1_0)); (try (have j1_1 := grown_keep (b := wr.heap.size + 1) (o := 1) (v := .int .i64 y) hg2; simp [Value.ownBlock] at j1_1)); (try (have j1_2 := grown_keep (b := wr.heap.size + 1) (o := 2) (v := .int .i64 (v + zw)) hg2; simp [Value.ownBlock] at j1_2)); clear hown2 hg2))
            all_goals (
              go_wp2
              go_ret
              exact ⟨a4, c4, (by rw [HL.out] <;> rfl), by rw [HL.out, HTV.out]; simpa using own_mono (Ext.size hEw.out) H4.out, hEw.out.trans HE4.out⟩)
        · have HP := Lib.hid (show putT zs (x, y, v) = zs.take i ++ ([(x, y, v)] ++ zs.drop i) by
            rw [HK.out (fun _ => hnl), if_neg (fun e => e.2 (befB_lex.1 hcf))])
          rw [hcf] at HS2
          have HL := Lib.hid (show (putT zs (x, y, v)).length = i + 1 + (m + 1) by rw [HP.out]; have := HLZ.out; simp; omega)
          have HTV := Lib.hid (show tv (putT zs (x, y, v)) = tv (zs.take i) ++ [.int .i64 x, .int .i64 y, .int .i64 v] ++ tv (zs.drop i) by rw [HP.out, tv_append, tv_append, List.append_assoc]; rfl)
          clear HP HK hnl hcf HQ
          have hE : Ext w1 w1 := Ext.refl _
          go_wp2
          have qR0 := fun s : Past w1 => Rc0 s.w s.ext
          have qR1 := fun s : Past w1 => Rc1 s.w s.ext
          have qR2 := fun s : Past w1 => Rc2 s.w s.ext
          have qZ0 := fun s : Past w1 => Zc0 s.w s.ext
          have qZ1 := fun s : Past w1 => Zc1 s.w s.ext
          have qZ2 := fun s : Past w1 => Zc2 s.w s.ext
          refine wp_region_past w1 (by first | exact hE | exact Ext.alloc hE _ | exact Ext.drew hE | exact Ext.drewN hE _) (by kernel_rfl) (by kernel_rfl) ?_
          repeat (go_big_quiet_step (((go_at_call 109; exact past_ext (HS2.out _)))))
          refine wpQuiet_nil ?_
          intro w2 hw'
          obtain ⟨⟨_, hE⟩, hw''⟩ := hw'
          subst hw''
          clear qR0 qR1 qR2 qZ0 qZ1 qZ2
          have HO3 := Lib.hid (own_ext hE HO1.out)
          have hEw := Lib.hid (hEw1.out.trans hE)
          replace Rc0 := Ext.rebase hE Rc0
          replace Rc1 := Ext.rebase hE Rc1
          replace Rc2 := Ext.rebase hE Rc2
          clear hE HO1 hEw1 Zc0 Zc1 Zc2 r2f1 HS2
          obtain ⟨wr, hwr⟩ : ∃ wr, wr = w2 := ⟨_, rfl⟩
          subst hwr
          have HRA := Lib.hid (fun w' (e : Ext wr w') => show Reads w' (some ⟨g, 0, none⟩) 3 i (tv (zs.take i)) by
            have := (own_reads (own_ext e HO3.out)).take (k := i) (by omega)
            rwa [tv_take] at this)
          have HRC := Lib.hid (fun w' (e : Ext wr w') => show Reads w' (some ⟨g, i * 3, none⟩) 3 (m + 1) (tv (zs.drop i)) by
            have := (own_reads (own_ext e HO3.out)).drop (k := i) (by omega)
            rw [tv_drop, Nat.zero_add] at this
            rwa [show i + 1 + m - i = m + 1 by omega] at this)
          go_wp2
          go_region_held3 (fun w' => Ext wr w') (first | exact HE4.out | exact HE3.out | exact Ext.alloc HE2.out _ | exact HE2.out | (repeat (first | exact Ext.refl _ | assumption | apply Ext.alloc | apply Ext.drew | apply Ext.drewN | (refine Ext.trans ?_ (by assumption)) | (refine Ext.setCell ?_ (by (try simp) <;> omega) _)))) (first | (have t3 := H3; clear t3; refine step_app_N _ (by rfl) _ _ 47 (by rfl) wr.heap.size 85 i0 _ 3 24 Try.underlying47 HZI.out.1 HZI.out.2.1 HZI.out.2.2.1 HZI.out.2.2.2 rfl (by omega) (i + 1 + (m + 1)) (.slice _ _ _) _ _ (by rfl) H3.out _ _ _ (tv (zs.drop i)) (by rfl) (HRC.out _ HE3.out) (tv_one _) (by omega) (by unfold maxLen; omega) (by omega) (Ext.size HE3.out) ?_; intro a4 c4 w4 hown4 hg4; have H4 := Lib.hid hown4; have HE4 := Lib.hid (Ext.grown (a := wr) HE3.out hg4 (fun k hk => (H3.out.lt k hk).1)); clear hown4 hg4) | (have t2 := H2; clear t2; refine step_app_N _ (by rfl) _ _ 47 (by rfl) wr.heap.size 85 i0 _ 3 24 Try.underlying47 HZI.out.1 HZI.out.2.1 HZI.out.2.2.1 HZI.out.2.2.2 rfl (by omega) (i + 1) (.slice _ _ _) _ _ (by rfl) (by first | (with_reducible exact H2.out) | exact own_ext (Ext.alloc (Ext.refl _) _) H2.out) _ 1 _ [.int .i64 x, .int .i64 y, .int .i64 v] (by rfl) (ones_reads3 (by first | (with_reducible assumption) | (simp; done)) (by first | (with_reducible assumption) | (simp; done)) (by first | (with_reducible assumption) | (simp; done))) (by simp [Value.oneCell']) (by omega) (by unfold maxLen; omega) (by omega) (Ext.size (w := wr) (by first | (with_reducible exact HE2.out) | exact Ext.alloc HE2.out _)) ?_; intro a3 c3 w3 hown3 hg3; have H3 := Lib.hid hown3; have HE3 := Lib.hid (Ext.grown (a := wr) (by first | (with_reducible exact HE2.out) | exact Ext.alloc HE2.out _) hg3 (fun k hk => (H2.out.lt k hk).1)); clear hown3 hg3) | (refine step_app_N _ (by rfl) _ _ 47 (by rfl) wr.heap.size 85 i0 _ 3 24 Try.underlying47 HZI.out.1 HZI.out.2.1 HZI.out.2.2.1 HZI.out.2.2.2 rfl (by omega) (i) (.slice (some ⟨_, 0, none⟩) 0 0) 0 [] (by rfl) (by first | exact own_emptyH wr rfl rfl rfl (Nat.le_refl _) | exact own_emptyH (wr.alloc (.cells #[.int .i64 x, .int .i64 y, .int .i64 v] 85)) rfl rfl (by simp) (by simp) | exact own_ext (show Ext (wr.alloc (.cells #[] 85)) _ from (by repeat (first | exact Ext.refl _ | assumption | apply Ext.alloc | apply Ext.drew | apply Ext.drewN | (refine Ext.trans ?_ (by assumption)) | (refine Ext.setCell ?_ (by (try simp) <;> omega) _)))) (own_emptyH wr rfl rfl rfl (Nat.le_refl _))) _ i _ (tv (zs.take i)) (by rfl) (HRA.out _ (by repeat (first | exact Ext.refl _ | assumption | apply Ext.alloc | apply Ext.drew | apply Ext.drewN | (refine Ext.trans ?_ (by assumption)) | (refine Ext.setCell ?_ (by (try simp) <;> omega) _)))) (tv_one _) (by omega) (by unfold maxLen; omega) (by omega) (Ext.size (w := wr) (by repeat (first | exact Ext.refl _ | assumption | apply Ext.alloc | apply Ext.drew | apply Ext.drewN | (refine Ext.trans ?_ (by assumption)) | (refine Ext.setCell ?_ (by (try simp) <;> omega) _)))) ?_; intro a2 c2 w2 hown2 hg2; simp only [List.nil_append] at hown2; have H2 := Lib.hid hown2; have HE2 := Lib.hid (Ext.grown (a := wr) (by repeat (first | exact Ext.refl _ | assumption | apply Ext.alloc | apply Ext.drew | apply Ext.drewN | (refine Ext.trans ?_ (by assumption)) | (refine Ext.setCell ?_ (by (try simp) <;> omega) _))) hg2 (fun k hk => by simp [Value.ownBlock] at hk; omega)); (try (have j0_0 := grown_keep (b := wr.heap.size) (o := 0) (v := .int .i64 x) hg2; simp [Value.ownBlock] at j0_0)); (try (have j0_1 := grown_keep (b := wr.heap.size) (o := 1) (v := .int .i64 y) hg2; simp [Value.ownBlock] at j0_1)); (try (have j0_2 := grown_keep (b := wr.heap.size) (o := 2) (v := .int .i64 v) hg2; simp [Value.ownBlock] at j0_2)); (try (have j1_0 := grown_keep (b := wr.heap.size + 1) (o := 0) (v := .int .i64 x) hg2; simp [Value.ownBlock] at j1_0)); (try (have j1_1 := grown_keep (b := wr.heap.size + 1) (o := 1) (v := .int .i64 y) hg2; simp [Value.ownBlock] at j1_1)); (try (have j1_2 := grown_keep (b := wr.heap.size + 1) (o := 2) (v := .int .i64 v) hg2; simp [Value.ownBlock] at j1_2)); clear hown2 hg2))
          all_goals (
            go_wp2
            go_ret
            exact ⟨a4, c4, (by rw [HL.out] <;> rfl), by rw [HL.out, HTV.out]; simpa using own_mono (Ext.size hEw.out) H4.out, hEw.out.trans HE4.out⟩)
      · have HS1 := Lib.hid (fun w => stBefore_any zx zy zw x y v w)
        rw [hbf] at HS1
        have HQ2 := Lib.hid (HQ1.out (befB_lex.1 hbf))
        clear HQ1 HQ HK hbf
        have hE : Ext wr wr := Ext.refl _
        go_wp2
        have qR0 := fun s : Past wr => Rc0 s.w s.ext
        have qR1 := fun s : Past wr => Rc1 s.w s.ext
        have qR2 := fun s : Past wr => Rc2 s.w s.ext
        have qZ0 := fun s : Past wr => Zc0 s.w s.ext
        have qZ1 := fun s : Past wr => Zc1 s.w s.ext
        have qZ2 := fun s : Past wr => Zc2 s.w s.ext
        refine wp_region_past wr (by first | exact hE | exact Ext.alloc hE _ | exact Ext.drew hE | exact Ext.drewN hE _) (by kernel_rfl) (by kernel_rfl) ?_
        repeat (go_big_quiet_step (((go_at_call 109; exact past_ext (HS1.out _)))))
        refine wpQuiet_nil ?_
        intro w1 hw'
        obtain ⟨⟨_, hE⟩, hw''⟩ := hw'
        subst hw''
        clear qR0 qR1 qR2 qZ0 qZ1 qZ2
        go_wp2
        go_roundw
        case rel => exact ⟨i + 1, by omega, by go_num, HQ2, HE0.out.trans hE⟩
        case measure => simp [intOf]; omega
    · obtain rfl : i = n := by omega
      have HP := Lib.hid (show putT zs (x, y, v) = zs.take i ++ [(x, y, v)] by
        have := HLZ.out
        rw [putT_at (r := (x, y, v)) (l := zs) i (by omega) HQ.out (fun h => by omega), if_neg (by omega), List.drop_of_length_le (by omega)]; rfl)
      have HL := Lib.hid (show (putT zs (x, y, v)).length = i + 1 by rw [HP.out]; have := HLZ.out; simp; omega)
      have HTV := Lib.hid (show tv (putT zs (x, y, v)) = tv (zs.take i) ++ [.int .i64 x, .int .i64 y, .int .i64 v] ++ [] by rw [HP.out, tv_append]; simp [tv])
      clear HP HQ
      have hg1 : decide ((i : Int) < (i : Int)) = false := by simp
      have hE : Ext wr wr := Ext.refl _
      go_wp2
      have qR0 := fun s : Past wr => Rc0 s.w s.ext
      have qR1 := fun s : Past wr => Rc1 s.w s.ext
      have qR2 := fun s : Past wr => Rc2 s.w s.ext
      refine wp_region_past wr (by first | exact hE | exact Ext.alloc hE _ | exact Ext.drew hE | exact Ext.drewN hE _) (by kernel_rfl) (by kernel_rfl) ?_
      repeat (go_big_quiet_step ((fail)))
      refine wpQuiet_nil ?_
      intro w1 hw'
      obtain ⟨⟨_, hE⟩, hw''⟩ := hw'
      subst hw''
      clear qR0 qR1 qR2
      have HO1 := Lib.hid (own_ext hE HO.out)
      have hEw1 := Lib.hid (hEw0.out.trans hE)
      replace Rc0 := Ext.rebase hE Rc0
      replace Rc1 := Ext.rebase hE Rc1
      replace Rc2 := Ext.rebase hE Rc2
      clear hE HO hEw0 r2f hg1
      have hcap := (own_capQ HO1.out).1
      rcases own_two HO1.out with ⟨rfl, rfl, rfl⟩ | ⟨g, rfl⟩
      · skip
        have hE : Ext w1 w1 := Ext.refl _
        go_wp2
        have qR0 := fun s : Past w1 => Rc0 s.w s.ext
        have qR1 := fun s : Past w1 => Rc1 s.w s.ext
        have qR2 := fun s : Past w1 => Rc2 s.w s.ext
        refine wp_region_past w1 (by first | exact hE | exact Ext.alloc hE _ | exact Ext.drew hE | exact Ext.drewN hE _) (by kernel_rfl) (by kernel_rfl) ?_
        repeat (go_big_quiet_step ((fail)))
        refine wpQuiet_nil ?_
        intro wr hw'
        obtain ⟨⟨_, hE⟩, hw''⟩ := hw'
        subst hw''
        clear qR0 qR1 qR2
        have hEw := Lib.hid (hEw1.out.trans hE)
        replace Rc0 := Ext.rebase hE Rc0
        replace Rc1 := Ext.rebase hE Rc1
        replace Rc2 := Ext.rebase hE Rc2
        clear hE hEw1
        have HRA := Lib.hid (fun w' (_ : Ext wr w') => show Reads w' none 3 0 (tv (zs.take 0)) from Reads.zero)
        go_wp2
        go_region_held3 (fun w' => Ext wr w') (first | exact HE4.out | exact HE3.out | exact Ext.alloc HE2.out _ | exact HE2.out | (repeat (first | exact Ext.refl _ | assumption | apply Ext.alloc | apply Ext.drew | apply Ext.drewN | (refine Ext.trans ?_ (by assumption)) | (refine Ext.setCell ?_ (by (try simp) <;> omega) _)))) (first | (have t3 := H3; clear t3; refine step_app_N _ (by rfl) _ _ 47 (by rfl) wr.heap.size 85 i0 _ 3 24 Try.underlying47 HZI.out.1 HZI.out.2.1 HZI.out.2.2.1 HZI.out.2.2.2 rfl (by omega) (1) (.slice _ _ _) _ _ (by rfl) H3.out _ _ _ ([]) (by rfl) (Reads.zero) (by simp) (by omega) (by unfold maxLen; omega) (by omega) (Ext.size HE3.out) ?_; intro a4 c4 w4 hown4 hg4; have H4 := Lib.hid hown4; have HE4 := Lib.hid (Ext.grown (a := wr) HE3.out hg4 (fun k hk => (H3.out.lt k hk).1)); clear hown4 hg4) | (have t2 := H2; clear t2; refine step_app_N _ (by rfl) _ _ 47 (by rfl) wr.heap.size 85 i0 _ 3 24 Try.underlying47 HZI.out.1 HZI.out.2.1 HZI.out.2.2.1 HZI.out.2.2.2 rfl (by omega) (1) (.slice _ _ _) _ _ (by rfl) (by first | (with_reducible exact H2.out) | exact own_ext (Ext.alloc (Ext.refl _) _) H2.out) _ 1 _ [.int .i64 x, .int .i64 y, .int .i64 v] (by rfl) (ones_reads3 (by first | (with_reducible assumption) | (simp; done)) (by first | (with_reducible assumption) | (simp; done)) (by first | (with_reducible assumption) | (simp; done))) (by simp [Value.oneCell']) (by omega) (by unfold maxLen; omega) (by omega) (Ext.size (w := wr) (by first | (with_reducible exact HE2.out) | exact Ext.alloc HE2.out _)) ?_; intro a3 c3 w3 hown3 hg3; have H3 := Lib.hid hown3; have HE3 := Lib.hid (Ext.grown (a := wr) (by first | (with_reducible exact HE2.out) | exact Ext.alloc HE2.out _) hg3 (fun k hk => (H2.out.lt k hk).1)); clear hown3 hg3) | (refine step_app_N _ (by rfl) _ _ 47 (by rfl) wr.heap.size 85 i0 _ 3 24 Try.underlying47 HZI.out.1 HZI.out.2.1 HZI.out.2.2.1 HZI.out.2.2.2 rfl (by omega) (0) (.slice (some ⟨_, 0, none⟩) 0 0) 0 [] (by rfl) (by first | exact own_emptyH wr rfl rfl rfl (Nat.le_refl _) | exact own_emptyH (wr.alloc (.cells #[.int .i64 x, .int .i64 y, .int .i64 v] 85)) rfl rfl (by simp) (by simp) | exact own_ext (show Ext (wr.alloc (.cells #[] 85)) _ from (by repeat (first | exact Ext.refl _ | assumption | apply Ext.alloc | apply Ext.drew | apply Ext.drewN | (refine Ext.trans ?_ (by assumption)) | (refine Ext.setCell ?_ (by (try simp) <;> omega) _)))) (own_emptyH wr rfl rfl rfl (Nat.le_refl _))) _ 0 _ (tv (zs.take 0)) (by rfl) (HRA.out _ (by repeat (first | exact Ext.refl _ | assumption | apply Ext.alloc | apply Ext.drew | apply Ext.drewN | (refine Ext.trans ?_ (by assumption)) | (refine Ext.setCell ?_ (by (try simp) <;> omega) _)))) (tv_one _) (by omega) (by unfold maxLen; omega) (by omega) (Ext.size (w := wr) (by repeat (first | exact Ext.refl _ | assumption | apply Ext.alloc | apply Ext.drew | apply Ext.drewN | (refine Ext.trans ?_ (by assumption)) | (refine Ext.setCell ?_ (by (try simp) <;> omega) _)))) ?_; intro a2 c2 w2 hown2 hg2; simp only [List.nil_append] at hown2; have H2 := Lib.hid hown2; have HE2 := Lib.hid (Ext.grown (a := wr) (by repeat (first | exact Ext.refl _ | assumption | apply Ext.alloc | apply Ext.drew | apply Ext.drewN | (refine Ext.trans ?_ (by assumption)) | (refine Ext.setCell ?_ (by (try simp) <;> omega) _))) hg2 (fun k hk => by simp [Value.ownBlock] at hk; omega)); (try (have j0_0 := grown_keep (b := wr.heap.size) (o := 0) (v := .int .i64 x) hg2; simp [Value.ownBlock] at j0_0)); (try (have j0_1 := grown_keep (b := wr.heap.size) (o := 1) (v := .int .i64 y) hg2; simp [Value.ownBlock] at j0_1)); (try (have j0_2 := grown_keep (b := wr.heap.size) (o := 2) (v := .int .i64 v) hg2; simp [Value.ownBlock] at j0_2)); (try (have j1_0 := grown_keep (b := wr.heap.size + 1) (o := 0) (v := .int .i64 x) hg2; simp [Value.ownBlock] at j1_0)); (try (have j1_1 := grown_keep (b := wr.heap.size + 1) (o := 1) (v := .int .i64 y) hg2; simp [Value.ownBlock] at j1_1)); (try (have j1_2 := grown_keep (b := wr.heap.size + 1) (o := 2) (v := .int .i64 v) hg2; simp [Value.ownBlock] at j1_2)); clear hown2 hg2))
        all_goals (
          go_wp2
          go_ret
          exact ⟨a4, c4, (by rw [HL.out] <;> rfl), by rw [HL.out, HTV.out]; simpa using own_mono (Ext.size hEw.out) H4.out, hEw.out.trans HE4.out⟩)
      · by_cases hcc : c = i
        · subst hcc
          have hE : Ext w1 w1 := Ext.refl _
          go_wp2
          have qR0 := fun s : Past w1 => Rc0 s.w s.ext
          have qR1 := fun s : Past w1 => Rc1 s.w s.ext
          have qR2 := fun s : Past w1 => Rc2 s.w s.ext
          refine wp_region_past w1 (by first | exact hE | exact Ext.alloc hE _ | exact Ext.drew hE | exact Ext.drewN hE _) (by kernel_rfl) (by kernel_rfl) ?_
          repeat (go_big_quiet_step ((fail)))
          refine wpQuiet_nil ?_
          intro wr hw'
          obtain ⟨⟨_, hE⟩, hw''⟩ := hw'
          subst hw''
          clear qR0 qR1 qR2
          have hEw := Lib.hid (hEw1.out.trans hE)
          have HO3 := Lib.hid (own_ext hE HO1.out)
          replace Rc0 := Ext.rebase hE Rc0
          replace Rc1 := Ext.rebase hE Rc1
          replace Rc2 := Ext.rebase hE Rc2
          clear hE hEw1 HO1
          have HRA := Lib.hid (fun w' (e : Ext wr w') => show Reads w' (some ⟨g, 0, none⟩) 3 c (tv (zs.take c)) by
            have := (own_reads (own_ext e HO3.out)).take (k := c) (by omega)
            rwa [tv_take] at this)
          go_wp2
          go_region_held3 (fun w' => Ext wr w') (first | exact HE4.out | exact HE3.out | exact Ext.alloc HE2.out _ | exact HE2.out | (repeat (first | exact Ext.refl _ | assumption | apply Ext.alloc | apply Ext.drew | apply Ext.drewN | (refine Ext.trans ?_ (by assumption)) | (refine Ext.setCell ?_ (by (try simp) <;> omega) _)))) (first | (have t3 := H3; clear t3; refine step_app_N _ (by rfl) _ _ 47 (by rfl) wr.heap.size 85 i0 _ 3 24 Try.underlying47 HZI.out.1 HZI.out.2.1 HZI.out.2.2.1 HZI.out.2.2.2 rfl (by omega) (c + 1) (.slice _ _ _) _ _ (by rfl) H3.out _ _ _ ([]) (by rfl) (Reads.zero) (by simp) (by omega) (by unfold maxLen; omega) (by omega) (Ext.size HE3.out) ?_; intro a4 c4 w4 hown4 hg4; have H4 := Lib.hid hown4; have HE4 := Lib.hid (Ext.grown (a := wr) HE3.out hg4 (fun k hk => (H3.out.lt k hk).1)); clear hown4 hg4) | (have t2 := H2; clear t2; refine step_app_N _ (by rfl) _ _ 47 (by rfl) wr.heap.size 85 i0 _ 3 24 Try.underlying47 HZI.out.1 HZI.out.2.1 HZI.out.2.2.1 HZI.out.2.2.2 rfl (by omega) (c + 1) (.slice _ _ _) _ _ (by rfl) (by first | (with_reducible exact H2.out) | exact own_ext (Ext.alloc (Ext.refl _) _) H2.out) _ 1 _ [.int .i64 x, .int .i64 y, .int .i64 v] (by rfl) (ones_reads3 (by first | (with_reducible assumption) | (simp; done)) (by first | (with_reducible assumption) | (simp; done)) (by first | (with_reducible assumption) | (simp; done))) (by simp [Value.oneCell']) (by omega) (by unfold maxLen; omega) (by omega) (Ext.size (w := wr) (by first | (with_reducible exact HE2.out) | exact Ext.alloc HE2.out _)) ?_; intro a3 c3 w3 hown3 hg3; have H3 := Lib.hid hown3; have HE3 := Lib.hid (Ext.grown (a := wr) (by first | (with_reducible exact HE2.out) | exact Ext.alloc HE2.out _) hg3 (fun k hk => (H2.out.lt k hk).1)); clear hown3 hg3) | (refine step_app_N _ (by rfl) _ _ 47 (by rfl) wr.heap.size 85 i0 _ 3 24 Try.underlying47 HZI.out.1 HZI.out.2.1 HZI.out.2.2.1 HZI.out.2.2.2 rfl (by omega) (c) (.slice (some ⟨_, 0, none⟩) 0 0) 0 [] (by rfl) (by first | exact own_emptyH wr rfl rfl rfl (Nat.le_refl _) | exact own_emptyH (wr.alloc (.cells #[.int .i64 x, .int .i64 y, .int .i64 v] 85)) rfl rfl (by simp) (by simp) | exact own_ext (show Ext (wr.alloc (.cells #[] 85)) _ from (by repeat (first | exact Ext.refl _ | assumption | apply Ext.alloc | apply Ext.drew | apply Ext.drewN | (refine Ext.trans ?_ (by assumption)) | (refine Ext.setCell ?_ (by (try simp) <;> omega) _)))) (own_emptyH wr rfl rfl rfl (Nat.le_refl _))) _ c _ (tv (zs.take c)) (by rfl) (HRA.out _ (by repeat (first | exact Ext.refl _ | assumption | apply Ext.alloc | apply Ext.drew | apply Ext.drewN | (refine Ext.trans ?_ (by assumption)) | (refine Ext.setCell ?_ (by (try simp) <;> omega) _)))) (tv_one _) (by omega) (by unfold maxLen; omega) (by omega) (Ext.size (w := wr) (by repeat (first | exact Ext.refl _ | assumption | apply Ext.alloc | apply Ext.drew | apply Ext.drewN | (refine Ext.trans ?_ (by assumption)) | (refine Ext.setCell ?_ (by (try simp) <;> omega) _)))) ?_; intro a2 c2 w2 hown2 hg2; simp only [List.nil_append] at hown2; have H2 := Lib.hid hown2; have HE2 := Lib.hid (Ext.grown (a := wr) (by repeat (first | exact Ext.refl _ | assumption | apply Ext.alloc | apply Ext.drew | apply Ext.drewN | (refine Ext.trans ?_ (by assumption)) | (refine Ext.setCell ?_ (by (try simp) <;> omega) _))) hg2 (fun k hk => by simp [Value.ownBlock] at hk; omega)); (try (have j0_0 := grown_keep (b := wr.heap.size) (o := 0) (v := .int .i64 x) hg2; simp [Value.ownBlock] at j0_0)); (try (have j0_1 := grown_keep (b := wr.heap.size) (o := 1) (v := .int .i64 y) hg2; simp [Value.ownBlock] at j0_1)); (try (have j0_2 := grown_keep (b := wr.heap.size) (o := 2) (v := .int .i64 v) hg2; simp [Value.ownBlock] at j0_2)); (try (have j1_0 := grown_keep (b := wr.heap.size + 1) (o := 0) (v := .int .i64 x) hg2; simp [Value.ownBlock] at j1_0)); (try (have j1_1 := grown_keep (b := wr.heap.size + 1) (o := 1) (v := .int .i64 y) hg2; simp [Value.ownBlock] at j1_1)); (try (have j1_2 := grown_keep (b := wr.heap.size + 1) (o := 2) (v := .int .i64 v) hg2; simp [Value.ownBlock] at j1_2)); clear hown2 hg2))
          all_goals (
            go_wp2
            go_ret
            exact ⟨a4, c4, (by rw [HL.out] <;> rfl), by rw [HL.out, HTV.out]; simpa using own_mono (Ext.size hEw.out) H4.out, hEw.out.trans HE4.out⟩)
        · have hic : i < c := by omega
          have hE : Ext w1 w1 := Ext.refl _
          go_wp2
          have qR0 := fun s : Past w1 => Rc0 s.w s.ext
          have qR1 := fun s : Past w1 => Rc1 s.w s.ext
          have qR2 := fun s : Past w1 => Rc2 s.w s.ext
          refine wp_region_past w1 (by first | exact hE | exact Ext.alloc hE _ | exact Ext.drew hE | exact Ext.drewN hE _) (by kernel_rfl) (by kernel_rfl) ?_
          repeat (go_big_quiet_step ((fail)))
          refine wpQuiet_nil ?_
          intro wr hw'
          obtain ⟨⟨_, hE⟩, hw''⟩ := hw'
          subst hw''
          clear qR0 qR1 qR2
          have hEw := Lib.hid (hEw1.out.trans hE)
          have HO3 := Lib.hid (own_ext hE HO1.out)
          replace Rc0 := Ext.rebase hE Rc0
          replace Rc1 := Ext.rebase hE Rc1
          replace Rc2 := Ext.rebase hE Rc2
          clear hE hEw1 HO1
          have HRA := Lib.hid (fun w' (e : Ext wr w') => show Reads w' (some ⟨g, 0, none⟩) 3 i (tv (zs.take i)) by
            have := (own_reads (own_ext e HO3.out)).take (k := i) (by omega)
            rwa [tv_take] at this)
          go_wp2
          go_region_held3 (fun w' => Ext wr w') (first | exact HE4.out | exact HE3.out | exact Ext.alloc HE2.out _ | exact HE2.out | (repeat (first | exact Ext.refl _ | assumption | apply Ext.alloc | apply Ext.drew | apply Ext.drewN | (refine Ext.trans ?_ (by assumption)) | (refine Ext.setCell ?_ (by (try simp) <;> omega) _)))) (first | (have t3 := H3; clear t3; refine step_app_N _ (by rfl) _ _ 47 (by rfl) wr.heap.size 85 i0 _ 3 24 Try.underlying47 HZI.out.1 HZI.out.2.1 HZI.out.2.2.1 HZI.out.2.2.2 rfl (by omega) (i + 1) (.slice _ _ _) _ _ (by rfl) H3.out _ _ _ ([]) (by rfl) (Reads.zero) (by simp) (by omega) (by unfold maxLen; omega) (by omega) (Ext.size HE3.out) ?_; intro a4 c4 w4 hown4 hg4; have H4 := Lib.hid hown4; have HE4 := Lib.hid (Ext.grown (a := wr) HE3.out hg4 (fun k hk => (H3.out.lt k hk).1)); clear hown4 hg4) | (have t2 := H2; clear t2; refine step_app_N _ (by rfl) _ _ 47 (by rfl) wr.heap.size 85 i0 _ 3 24 Try.underlying47 HZI.out.1 HZI.out.2.1 HZI.out.2.2.1 HZI.out.2.2.2 rfl (by omega) (i + 1) (.slice _ _ _) _ _ (by rfl) (by first | (with_reducible exact H2.out) | exact own_ext (Ext.alloc (Ext.refl _) _) H2.out) _ 1 _ [.int .i64 x, .int .i64 y, .int .i64 v] (by rfl) (ones_reads3 (by first | (with_reducible assumption) | (simp; done)) (by first | (with_reducible assumption) | (simp; done)) (by first | (with_reducible assumption) | (simp; done))) (by simp [Value.oneCell']) (by omega) (by unfold maxLen; omega) (by omega) (Ext.size (w := wr) (by first | (with_reducible exact HE2.out) | exact Ext.alloc HE2.out _)) ?_; intro a3 c3 w3 hown3 hg3; have H3 := Lib.hid hown3; have HE3 := Lib.hid (Ext.grown (a := wr) (by first | (with_reducible exact HE2.out) | exact Ext.alloc HE2.out _) hg3 (fun k hk => (H2.out.lt k hk).1)); clear hown3 hg3) | (refine step_app_N _ (by rfl) _ _ 47 (by rfl) wr.heap.size 85 i0 _ 3 24 Try.underlying47 HZI.out.1 HZI.out.2.1 HZI.out.2.2.1 HZI.out.2.2.2 rfl (by omega) (i) (.slice (some ⟨_, 0, none⟩) 0 0) 0 [] (by rfl) (by first | exact own_emptyH wr rfl rfl rfl (Nat.le_refl _) | exact own_emptyH (wr.alloc (.cells #[.int .i64 x, .int .i64 y, .int .i64 v] 85)) rfl rfl (by simp) (by simp) | exact own_ext (show Ext (wr.alloc (.cells #[] 85)) _ from (by repeat (first | exact Ext.refl _ | assumption | apply Ext.alloc | apply Ext.drew | apply Ext.drewN | (refine Ext.trans ?_ (by assumption)) | (refine Ext.setCell ?_ (by (try simp) <;> omega) _)))) (own_emptyH wr rfl rfl rfl (Nat.le_refl _))) _ i _ (tv (zs.take i)) (by rfl) (HRA.out _ (by repeat (first | exact Ext.refl _ | assumption | apply Ext.alloc | apply Ext.drew | apply Ext.drewN | (refine Ext.trans ?_ (by assumption)) | (refine Ext.setCell ?_ (by (try simp) <;> omega) _)))) (tv_one _) (by omega) (by unfold maxLen; omega) (by omega) (Ext.size (w := wr) (by repeat (first | exact Ext.refl _ | assumption | apply Ext.alloc | apply Ext.drew | apply Ext.drewN | (refine Ext.trans ?_ (by assumption)) | (refine Ext.setCell ?_ (by (try simp) <;> omega) _)))) ?_; intro a2 c2 w2 hown2 hg2; simp only [List.nil_append] at hown2; have H2 := Lib.hid hown2; have HE2 := Lib.hid (Ext.grown (a := wr) (by repeat (first | exact Ext.refl _ | assumption | apply Ext.alloc | apply Ext.drew | apply Ext.drewN | (refine Ext.trans ?_ (by assumption)) | (refine Ext.setCell ?_ (by (try simp) <;> omega) _))) hg2 (fun k hk => by simp [Value.ownBlock] at hk; omega)); (try (have j0_0 := grown_keep (b := wr.heap.size) (o := 0) (v := .int .i64 x) hg2; simp [Value.ownBlock] at j0_0)); (try (have j0_1 := grown_keep (b := wr.heap.size) (o := 1) (v := .int .i64 y) hg2; simp [Value.ownBlock] at j0_1)); (try (have j0_2 := grown_keep (b := wr.heap.size) (o := 2) (v := .int .i64 v) hg2; simp [Value.ownBlock] at j0_2)); (try (have j1_0 := grown_keep (b := wr.heap.size + 1) (o := 0) (v := .int .i64 x) hg2; simp [Value.ownBlock] at j1_0)); (try (have j1_1 := grown_keep (b := wr.heap.size + 1) (o := 1) (v := .int .i64 y) hg2; simp [Value.ownBlock] at j1_1)); (try (have j1_2 := grown_keep (b := wr.heap.size + 1) (o := 2) (v := .int .i64 v) hg2; simp [Value.ownBlock] at j1_2)); clear hown2 hg2))
          all_goals (
            go_wp2
            go_ret
            exact ⟨a4, c4, (by rw [HL.out] <;> rfl), by rw [HL.out, HTV.out]; simpa using own_mono (Ext.size hEw.out) H4.out, hEw.out.trans HE4.out⟩)

end Go.Proofs.Ytogbfhhioicbmaa
