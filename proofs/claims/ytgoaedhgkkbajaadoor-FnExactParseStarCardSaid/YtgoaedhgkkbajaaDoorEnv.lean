/-
  What the library's variables hold; strings.Cut and strconv.Atoi at every text.
-/
import Derived.Test.YtgoaedhgkkbajaaDoorDigits
import Derived.Test.YtgoaedhgkkbajaaDoorShelfC
import Derived.Test.YtgoaedhgkkbajaaDoorParseFL
import Derived.Test.YtgoaedhgkkbajaaDoorParseFW
import Derived.Lib.AtoiErrMem
import Derived.Shelf.Strconv.ErrVarAll
import Derived.WideLaws
namespace Go.Proofs.YtgoaedhgkkbajaaDoor
open Go.RowKit

/-- What the library's variables hold, as the row says it and as a world's shape gives it. -/
structure Env (w : World) : Prop where
  tab : Tab w
  syn : ∃ tp p, w.cell? ⟨1, 0, none⟩ = some (.iface tp p)
  rng : ∃ tp p, w.cell? ⟨2, 0, none⟩ = some (.iface tp p)
  max : ∃ m, w.cell? ⟨0, 0, none⟩ = some (.int .i64 m)
theorem Env.ext {{w w' : World}} (h : Env w) (e : Ext w w') : Env w' :=
  ⟨h.tab.ext e, let ⟨a, b, c⟩ := h.syn; ⟨a, b, e.keep c⟩, let ⟨a, b, c⟩ := h.rng; ⟨a, b, e.keep c⟩, let ⟨a, c⟩ := h.max; ⟨a, e.keep c⟩⟩
theorem txt_data (l : List UInt8) : (txt l).data.toList = l := by simp [txt]
theorem atoi_yes (l : List UInt8) (v : Int) (h : atV l = some v) (hl : l.length ≤ 1048576) (w : World) :
    Calls Tryd.prog 57 #[.string (txt l)] w fun r w' => r = .returned (.tuple #[.int .i64 v, .nilIface]) ∧ Ext w w' := by
  have hs := txt_size l
  have h' : Lib.atoiAll (txt l).data.toList = .ok v := by
    rw [txt_data]
    unfold atV at h
    split at h
    · rename_i u hu
      rw [hu, Option.some.inj h]
    · cases h
  have := Any.strconv_Atoi_ok layAtoi (txt l) (by omega) v h' w
  refine this.mono fun e w' ⟨he, hw⟩ => ⟨he, ?_⟩
  rcases hw with rfl | ⟨x, rfl⟩
  · exact Ext.refl _
  · exact Lib.bytesWorld_below _ _ _
theorem atV_bd {{l : List UInt8}} {{v : Int}} (h : atV l = some v) : -9223372036854775808 ≤ v ∧ v ≤ 9223372036854775807 := by
  unfold atV at h
  split at h
  · rename_i u hu
    obtain rfl := Option.some.inj h
    exact Lib.atoiAll_bounds hu
  · cases h
theorem atoi_no (l : List UInt8) (h : atV l = none) (hl : l.length ≤ 1048576) (w : World) (he : Env w) :
    Calls Tryd.prog 57 #[.string (txt l)] w fun r w' => ∃ v N, r = .returned (.tuple #[.int .i64 v, .iface 117 (.pointer (some ⟨N, 0, none⟩))]) ∧ Ext w w' := by
  have hs := txt_size l
  obtain ⟨t1, p1, c1⟩ := he.syn
  obtain ⟨t2, p2, c2⟩ := he.rng
  cases ha : Lib.atoiAll l
  · unfold atV at h; rw [ha] at h; cases h
  · refine (Any.strconv_Atoi_syntax layAtoi (txt l) (by omega) (by rw [txt_data]; exact ha) (.iface t1 p1) w c1 (.inr ⟨_, _, rfl⟩)).mono fun e w' ⟨N, he, _, _, hb⟩ => ⟨_, _, he, hb⟩
  · refine (Any.strconv_Atoi_range layAtoi (txt l) (by omega) (by rw [txt_data]; exact ha) (.iface t2 p2) w c2 (.inr ⟨_, _, rfl⟩)).mono fun e w' ⟨N, he, _, _, hb⟩ => ⟨_, _, he, hb⟩
theorem cut_any (l : List UInt8) (b : UInt8) (hl : l.length ≤ 1048576) (w : World) (he : Env w) :
    Calls Tryd.prog 56 #[.string (txt l), .string ⟨#[b]⟩] w fun r w' => r = .returned (.tuple #[.string (txt (Lib.cut l [b]).1), .string (txt (Lib.cut l [b]).2.1), .bool (Lib.cut l [b]).2.2]) ∧ Ext w w' := by
  have hs := txt_size l
  obtain ⟨m, hm⟩ := he.max
  have := Any.strings_Cut layCut (txt l) ⟨#[b]⟩ m w (by omega) hm
  rw [txt_data, show (⟨#[b]⟩ : ByteArray).data.toList = [b] from rfl] at this
  refine this.mono fun e w' ⟨h1, n, h2⟩ => ⟨h1, ?_⟩
  subst h2
  exact (Ext.refl w).drewN n
end Go.Proofs.YtgoaedhgkkbajaaDoor
