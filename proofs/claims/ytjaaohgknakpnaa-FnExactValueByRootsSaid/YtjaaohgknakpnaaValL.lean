/-
  ValueByRoots: the law's walk.
-/
import Derived.Test.YtjaaohgknakpnaaValI
namespace Go.Proofs.Ytjaaohgknakpnaa
open Go.RowKit

set_option maxHeartbeats 2000000 in
set_option maxRecDepth 100000 in
theorem law_ValueByRoots (a0 : Option Addr) (n0 c0 : Nat) (zs : List Int) (x : Int) (w : World) (hr0 : IsRow w a0 n0 c0 zs) :
    Calls Try.prog 8 #[.slice a0 n0 c0, .int .i64 x] w fun r w' => r = .returned (.bool true) ∧ Ext w w' := by
  have h0 : Reads w a0 1 n0 (iv zs) := hr0.1
  have hc01 := hr0.2.1
  have hc02 := hr0.2.2.1
  unfold maxLen at hc02
  clear hr0
  have hl0 : zs.length = n0 := by have := h0.1; rw [iv_len] at this; omega
  by_cases hg0 : n0 ≤ 1048576
  rotate_left
  · go_enter Try.func8, Try.ntmps8
    go_wp2
    go_ret
    exact ⟨rfl, (by repeat (first | exact Ext.refl _ | assumption | apply Ext.alloc | apply Ext.drew | apply Ext.drewN | (refine Ext.trans ?_ (by assumption)) | (refine Ext.setCell ?_ (by (try simp) <;> omega) _)))⟩
  have hm0 : n0 ≤ 1048576 := by omega
  obtain ⟨V, eV⟩ : ∃ z0 : Int, z0 = (gI (polyB zs && finB x) (valR zs x)) := ⟨_, rfl⟩
  obtain ⟨D, eD⟩ : ∃ z0 : Int, z0 = (gI (polyB zs && finB x) 1) := ⟨_, rfl⟩
  obtain ⟨ok, eok⟩ : ∃ z0 : Bool, z0 = (polyB zs && finB x) := ⟨_, rfl⟩
  have HS := Lib.hid (show ∀ (b0 : Nat) w,Reads w (some ⟨b0, 0, none⟩) 1 n0 (iv zs) → Calls Try.prog 32 #[.slice (some ⟨b0, 0, none⟩) n0 n0, .int .i64 x] w (fun r w' => r = .returned (.tuple #[.agg #[.int .i64 V, .int .i64 D], .bool ok]) ∧ Ext w w') by rw [eV, eD, eok]; intro b0 w h0; exact spec_ValueByRoots_any _ _ _ zs x (by omega) _ h0)
  have HI := Lib.hid (show ∀ (b0 : Nat) w,Reads w (some ⟨b0, 0, none⟩) 1 n0 (iv zs) → Calls Try.prog 33 #[.slice (some ⟨b0, 0, none⟩) n0 n0, .int .i64 x] w (fun r w' => r = .returned (.tuple #[.agg #[.int .i64 V, .int .i64 D], .bool ok]) ∧ Ext w w') by rw [eV, eD, eok]; intro b0 w h0; exact impl_ValueByRoots_any _ _ _ zs x (by omega) _ h0)
  clear eV eD eok
  go_enter Try.func8, Try.ntmps8
  have hE : Ext w w := (by repeat (first | exact Ext.refl _ | assumption | apply Ext.alloc | apply Ext.drew | apply Ext.drewN | (refine Ext.trans ?_ (by assumption)) | (refine Ext.setCell ?_ (by (try simp) <;> omega) _)))
  go_wp2_with fail
  refine (toIntS_any _ _ _ zs hm0 _ (h0.ext hE)).mono ?_
  rintro e w1 ⟨gs0, rfl, xs0, hb⟩
  have hz1 := hb.size
  replace hE := Ext.trans hE hb
  have hk1 := hb
  clear hb
  have xs00 := xs0
  go_wp2_with fail
  refine (HS.out _ _ (own_reads xs0)).mono ?_
  rintro e w2 ⟨rfl, hb⟩
  have hz2 := hb.size
  replace hE := Ext.trans hE hb
  replace xs0 := own_ext hb xs0
  have hk2 := hb
  clear hb
  clear xs0
  replace hE := Ext.alloc hE (.cells #[.int .i64 V, .int .i64 D] 35)
  have Bw0 := Ext.keeps (Has.new w2 #[.int .i64 V, .int .i64 D] 35 0 _ rfl)
  have Bw1 := Ext.keeps (Has.new w2 #[.int .i64 V, .int .i64 D] 35 1 _ rfl)
  go_wp2_with fail
  refine (toIntS_any _ _ _ zs hm0 _ (h0.ext hE)).mono ?_
  rintro e w3 ⟨gp0, rfl, xp0, hb⟩
  have hz3 := hb.size
  replace hE := Ext.trans hE hb
  have hk3 := hb
  clear hb
  have xp00 := xp0
  go_wp2_with fail
  refine (HI.out _ _ (own_reads xp0)).mono ?_
  rintro e w4 ⟨rfl, hb⟩
  have hz4 := hb.size
  replace hE := Ext.trans hE hb
  replace xp0 := own_ext hb xp0
  have hk4 := hb
  clear hb
  have hW := hk3.trans (Ext.alloc hk4 (.cells #[.int .i64 V, .int .i64 D] 35))
  have bw0 := Bw0 _ hW
  have bw1 := Bw1 _ hW
  clear Bw0 Bw1 hW
  replace hE := Ext.alloc hE (.cells #[.int .i64 V, .int .i64 D] 35)
  replace xp0 := own_ext (Ext.alloc (Ext.refl _) (.cells #[.int .i64 V, .int .i64 D] 35)) xp0
  go_wp2_with fail
  refine (eqFrac_same _ _ _).mono ?_
  rintro e w5 ⟨rfl, hb⟩
  have hz5 := hb.size
  replace hE := Ext.trans hE hb
  replace xp0 := own_ext hb xp0
  have hk5 := hb
  clear hb
  go_wp2_with fail
  refine (toIntS_any _ _ _ zs hm0 _ (h0.ext hE)).mono ?_
  rintro e w6 ⟨gq0, rfl, xq0, hb⟩
  have hz6 := hb.size
  replace hE := Ext.trans hE hb
  replace xp0 := own_ext hb xp0
  have hk6 := hb
  clear hb
  have xq00 := xq0
  go_wp2_with fail
  refine (eqIntS_same _ _ _ _ _ zs (by omega) _ (own_reads xp0) (own_reads xq0)).mono ?_
  rintro e w7 ⟨rfl, hb⟩
  have hz7 := hb.size
  replace hE := Ext.trans hE hb
  replace xp0 := own_ext hb xp0
  replace xq0 := own_ext hb xq0
  have hk7 := hb
  clear hb
  clear xq0
  go_wp2
  go_ret
  exact ⟨rfl, hE⟩

end Go.Proofs.Ytjaaohgknakpnaa
