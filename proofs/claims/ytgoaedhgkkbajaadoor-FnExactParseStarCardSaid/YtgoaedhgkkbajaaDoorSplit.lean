/-
  The reference's split of a text at a byte.
-/
import Derived.Test.YtgoaedhgkkbajaaDoorDigits
import Derived.Test.YtgoaedhgkkbajaaDoorParseP
import Derived.Test.YtgoaedhgkkbajaaDoorApp
namespace Go.Proofs.YtgoaedhgkkbajaaDoor
open Go.RowKit

/-- The parts of a text between the bytes b. -/
def splitGo (b : UInt8) : List UInt8 → List UInt8 → List (List UInt8)
  | cur, [] => [cur]
  | cur, c :: r => if c = b then cur :: splitGo b [] r else splitGo b (cur ++ [c]) r
def splitL (b : UInt8) (l : List UInt8) : List (List UInt8) := splitGo b [] l
/-- Strings as they lie in a row. -/
def sv (xs : List (List UInt8)) : List Value := xs.map fun x => .string (txt x)
theorem sv_app (a b : List (List UInt8)) : sv (a ++ b) = sv a ++ sv b := by simp [sv]
theorem str_info : (Tryd.prog.info? 9).map (fun i => (i.zero, i.size, i.bytes)) = some (some (.string ⟨#[]⟩), 1, 16) := by kernel_rfl
theorem txt_cut (l : List UInt8) (f i : Nat) : (txt l).extract f i = txt ((l.take i).drop f) := by
  apply ByteArray.ext
  simp [txt, ByteArray.data_extract, List.drop_take]
theorem ones_reads1 (w : World) (gb : Nat) (x : Value) (h0 : w.cell? ⟨gb, 0, none⟩ = some x) : Reads w (some ⟨gb, 0, none⟩) 1 1 [x] :=
  ⟨rfl, fun _ => ⟨gb, 0, rfl, fun j u hj => by
    match j, hj with
    | 0, hj => simp at hj; subst hj; simpa using h0⟩⟩
/-- A slice of strings of the call's own. -/
def OwnsStrs (B : Nat) (xs : List (List UInt8)) (w : World) (r : Ending) (w' : World) : Prop :=
  ∃ a c, r = .returned (.slice a xs.length c) ∧ w'.ownsRow B 9 1 (.slice a xs.length c) xs.length (sv xs) ∧ Ext w w'
set_option maxHeartbeats 2000000 in
set_option maxRecDepth 100000 in
theorem l1Split_any (l : List UInt8) (b : UInt8) (hn : l.length ≤ 1048576) (w : World) :
    Calls Tryd.prog 58 #[.string (txt l), .int .u8 (b.toNat : Int)] w (OwnsStrs w.heap.size (splitL b l) w) := by
  have hsz : (txt l).size = l.length := txt_size l
  obtain ⟨i0, hz1, hz2, hz3, hz4⟩ := info_parts str_info
  have HZI := Lib.hid (And.intro hz1 (And.intro hz2 (And.intro hz3 hz4)))
  clear hz1 hz2 hz3 hz4
  go_enter Tryd.func58, Tryd.ntmps58
  go_wp2
  go_loopw [5, 6, 7] (fun s u t wr => ∃ (i f : Nat) (xs : List (List UInt8)) (a c : _), f ≤ i ∧ i ≤ l.length ∧ xs.length ≤ i ∧ t = .int .i64 i ∧ u = .int .i64 f ∧ s = .slice a xs.length c ∧ wr.ownsRow w.heap.size 9 1 (.slice a xs.length c) xs.length (sv xs) ∧ Hid (xs ++ splitGo b ((l.take i).drop f) (l.drop i) = splitL b l) ∧ Ext w wr) (fun _ _ t _ => l.length - (intOf t).toNat)
  case atStart => exact ⟨0, 0, [], none, 0, Nat.le_refl _, Nat.zero_le _, Nat.le_refl _, rfl, rfl, rfl, World.ownsRow_nil _ _ _ _, Lib.hid rfl, Ext.refl _⟩
  case round =>
    obtain ⟨i, f, xs, a, c, hf, hi, hx, rfl, rfl, rfl, hown, HS, hE⟩ := hrel
    by_cases hlt : i < l.length
    · have p : i < (txt l).size := by rw [hsz]; exact hlt
      obtain ⟨ch, hch⟩ : ∃ ch, ch = l[i]'hlt := ⟨_, rfl⟩
      have HC := Lib.hid (show ((txt l)[i]'p) = ch by rw [hch]; rfl)
      have hdr : l.drop i = ch :: l.drop (i + 1) := by rw [hch]; exact List.drop_eq_getElem_cons hlt
      have htk : (l.take (i + 1)).drop f = (l.take i).drop f ++ [ch] := by
        rw [hch, List.take_succ_eq_append_getElem hlt, List.drop_append_of_le_length (by rw [List.length_take]; omega)]
      by_cases hb : ch = b
      · have HS2 := Lib.hid (show (xs ++ [(l.take i).drop f]) ++ splitGo b ((l.take (i + 1)).drop (i + 1)) (l.drop (i + 1)) = splitL b l by
          rw [← HS.out, hdr, splitGo, if_pos hb, List.append_assoc]
          rw [show (l.take (i + 1)).drop (i + 1) = [] by simp]
          rfl)
        have HT := Lib.hid (txt_cut l f i)
        have he : decide ((((txt l)[i]'p).toNat : Int) = (b.toNat : Int)) = true := by rw [HC.out, hb]; simp
        have he2 : ((((txt l)[i]'p).toNat : Int) == (b.toNat : Int)) = true := by rw [HC.out, hb]; simp
        have he3 : (((txt l)[i]'p).toNat : Int) = (b.toNat : Int) := by rw [HC.out, hb]
        clear hch hdr htk hb HS
        have HO := Lib.hid hown
        have HE := Lib.hid hE
        clear hown hE
        go_wp2_with (at_builtin; go_must (refine wpList_app_any _ rfl _ _ 80 rfl w.heap.size 9 i0 _ 1 16 Tryd.underlying80 HZI.out.1 HZI.out.2.1 HZI.out.2.2.1 HZI.out.2.2.2 rfl (by decide) _ xs.length (sv xs) rfl (own_ext (Ext.alloc (Ext.refl _) _) HO.out) _ _ _ _ rfl (ones_reads1 _ _ (.string ((txt l).extract f i)) (by simp)) (by simp [Value.oneCell']) (by unfold maxLen; omega) (by omega) (by have := HE.out.size; simp <;> omega) ?_))
        intro a4 c4 w4 hown4 hgr4 _
        have hE4 := Ext.grown (Ext.alloc HE.out _) hgr4 (fun k hk => (HO.out.lt k hk).1)
        go_wp2
        go_roundw
        case rel => exact ⟨i + 1, i + 1, xs ++ [(l.take i).drop f], a4, c4, Nat.le_refl _, by omega, by simp; omega, by go_num, by go_num, by simp, by rw [HT.out] at hown4; simpa [sv] using hown4, HS2, hE4⟩
        case measure => simp [intOf]; omega
      · have HS2 := Lib.hid (show xs ++ splitGo b ((l.take (i + 1)).drop f) (l.drop (i + 1)) = splitL b l by
          rw [← HS.out, hdr, splitGo, if_neg hb, htk])
        have hbn : ¬ (ch.toNat : Int) = (b.toNat : Int) := fun e => hb (UInt8.toNat_inj.1 (by omega))
        have he : decide ((((txt l)[i]'p).toNat : Int) = (b.toNat : Int)) = false := by rw [HC.out]; exact decide_eq_false hbn
        have he2 : ((((txt l)[i]'p).toNat : Int) == (b.toNat : Int)) = false := by rw [HC.out]; simpa using hbn
        have he3 : ¬ (((txt l)[i]'p).toNat : Int) = (b.toNat : Int) := by rw [HC.out]; exact hbn
        clear hch hdr htk hb HS hbn
        go_wp2
        go_roundw
        case rel => exact ⟨i + 1, f, xs, a, c, by omega, by omega, by omega, by go_num, rfl, rfl, hown, HS2, hE⟩
        case measure => simp [intOf]; omega
    · obtain rfl : i = l.length := by omega
      have HS2 := Lib.hid (show xs ++ [(l.take l.length).drop f] = splitL b l by
        rw [← HS.out, List.drop_of_length_le (Nat.le_refl _), splitGo])
      have HT := Lib.hid (txt_cut l f l.length)
      have HO := Lib.hid hown
      have HE := Lib.hid hE
      clear hown hE HS
      go_wp2_with (at_builtin; go_must (refine wpList_app_any _ rfl _ _ 80 rfl w.heap.size 9 i0 _ 1 16 Tryd.underlying80 HZI.out.1 HZI.out.2.1 HZI.out.2.2.1 HZI.out.2.2.2 rfl (by decide) _ xs.length (sv xs) rfl (own_ext (Ext.alloc (Ext.refl _) _) HO.out) _ _ _ _ rfl (ones_reads1 _ _ (.string ((txt l).extract f l.length)) (by simp)) (by simp [Value.oneCell']) (by unfold maxLen; omega) (by omega) (by have := HE.out.size; simp <;> omega) ?_))
      intro a4 c4 w4 hown4 hgr4 _
      have hE4 := Ext.grown (Ext.alloc HE.out _) hgr4 (fun k hk => (HO.out.lt k hk).1)
      go_wp2
      go_ret
      exact ⟨a4, c4, by rw [← HS2.out]; simp, by rw [← HS2.out]; rw [HT.out] at hown4; simpa [sv] using hown4, hE4⟩
end Go.Proofs.YtgoaedhgkkbajaaDoor
