/-
  The text of spots, in plain words.
-/
import Derived.Test.YtngbdopgdcjdeaaGreatDoorBa4
namespace Go.Proofs.YtngbdopgdcjdeaaGreatDoor
open Go.RowKit

/-- A spot whose parts are valid. -/
def IsSp (r : Int × Int × Int × Int) : Prop := (-1000000000 ≤ r.1 ∧ r.1 ≤ 1000000000) ∧ (1 ≤ r.2.1 ∧ r.2.1 ≤ 1000000000) ∧ (-1000000000 ≤ r.2.2.1 ∧ r.2.2.1 ≤ 1000000000) ∧ (1 ≤ r.2.2.2 ∧ r.2.2.2 ≤ 1000000000)
/-- A spot's text; all spots' text. -/
def spotT (r : Int × Int × Int × Int) : ByteArray := fracT r.1 r.2.1 ++ ⟨#[44]⟩ ++ fracT r.2.2.1 r.2.2.2 ++ ⟨#[59]⟩
def spotsT (l : List (Int × Int × Int × Int)) : ByteArray := l.foldl (fun s r => s ++ spotT r) ⟨#[]⟩
theorem spotsT_succ {l : List (Int × Int × Int × Int)} {k : Nat} (h : k < l.length) : spotsT (l.take (k + 1)) = spotsT (l.take k) ++ spotT (qat l k) := by
  unfold spotsT
  rw [List.take_succ_eq_append_getElem h, List.foldl_append, show qat l k = l[k] by simp [qat, List.getD, h]]
  rfl
theorem fracT_size {x y : Int} (hx : -1000000000 ≤ x ∧ x ≤ 1000000000) (hy : 1 ≤ y ∧ y ≤ 1000000000) : (fracT x y).size ≤ 43 := by
  have la := itoa_len (n := x) (by omega) (by omega)
  have lb := itoa_len (n := y) (by omega) (by omega)
  unfold fracT
  split
  · rw [txt_size]; omega
  · rw [ByteArray.size_append, ByteArray.size_append, txt_size, txt_size]
    show (Lib.itoa x).length + 1 + (Lib.itoa y).length ≤ 43
    omega
theorem spotT_size {r : Int × Int × Int × Int} (h : IsSp r) : (spotT r).size ≤ 88 := by
  have h1 := fracT_size h.1 h.2.1
  have h2 := fracT_size h.2.2.1 h.2.2.2
  unfold spotT
  rw [ByteArray.size_append, ByteArray.size_append, ByteArray.size_append]
  show (fracT r.1 r.2.1).size + 1 + (fracT r.2.2.1 r.2.2.2).size + 1 ≤ 88
  omega
theorem spotsT_size {l : List (Int × Int × Int × Int)} (h : ∀ k, k < l.length → IsSp (qat l k)) : ∀ k, k ≤ l.length → (spotsT (l.take k)).size ≤ 88 * k
  | 0, _ => by simp [spotsT, ByteArray.size]
  | k + 1, hk => by
    have ih := spotsT_size h k (by omega)
    have := spotT_size (h k hk)
    rw [spotsT_succ hk, ByteArray.size_append]
    omega
end Go.Proofs.YtngbdopgdcjdeaaGreatDoor
