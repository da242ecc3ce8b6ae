/-
  MissingRay: the ray that a star lacks.
-/
import Derived.Test.YtlkhjedlokklaaaBal
import Derived.Test.YtlkhjedlokklaaaRay3
namespace Go.Proofs.Ytlkhjedlokklaaa
open Go.RowKit

theorem gcdI_neg (x y : Int) : gcdI (-x) (-y) = gcdI x y := by simp [gcdI]
/-- The ray that sums with (x, y) to zero. -/
def lackB (x y : Int) : Bool := rayB ((-x).tdiv (gcdI (-x) (-y))) ((-y).tdiv (gcdI (-x) (-y))) (gcdI (-x) (-y))
def missOk (zs : List (Int × Int × Int)) : Bool := starB zs && !balB zs && lackB (sX zs zs.length) (sY zs zs.length)
def missX (zs : List (Int × Int × Int)) : Int := gI (missOk zs) ((-(sX zs zs.length)).tdiv (gcdI (-(sX zs zs.length)) (-(sY zs zs.length))))
def missY (zs : List (Int × Int × Int)) : Int := gI (missOk zs) ((-(sY zs zs.length)).tdiv (gcdI (-(sX zs zs.length)) (-(sY zs zs.length))))
def missN (zs : List (Int × Int × Int)) : Int := gI (missOk zs) (gcdI (-(sX zs zs.length)) (-(sY zs zs.length)))
theorem miss_no {zs : List (Int × Int × Int)} (h : missOk zs = false) : missX zs = 0 ∧ missY zs = 0 ∧ missN zs = 0 := by simp [missX, missY, missN, h, gI]
theorem miss_yes {zs : List (Int × Int × Int)} (h : missOk zs = true) : missX zs = (-(sX zs zs.length)).tdiv (gcdI (-(sX zs zs.length)) (-(sY zs zs.length))) ∧ missY zs = (-(sY zs zs.length)).tdiv (gcdI (-(sX zs zs.length)) (-(sY zs zs.length))) ∧ missN zs = gcdI (-(sX zs zs.length)) (-(sY zs zs.length)) := by simp [missX, missY, missN, h, gI]
theorem balB_no {zs : List (Int × Int × Int)} (h : balB zs = false) : sX zs zs.length ≠ 0 ∨ sY zs zs.length ≠ 0 := by
  simp only [balB] at h
  by_cases h1 : sX zs zs.length = 0
  · refine .inr fun h2 => ?_
    rw [h1, h2] at h
    simp at h
  · exact .inl h1

theorem minus_any (a b c d : Int) (ha : -1000000000 ≤ a ∧ a ≤ 1000000000) (hb : -1000000000 ≤ b ∧ b ≤ 1000000000) (hc : -1000000000 ≤ c ∧ c ≤ 1000000000) (hd : -1000000000 ≤ d ∧ d ≤ 1000000000) (w : World) :
    Calls Try.prog 64 #[.agg #[.int .i64 a, .int .i64 b], .agg #[.int .i64 c, .int .i64 d]] w fun r w' => r = .returned (.agg #[.int .i64 (a - c), .int .i64 (b - d)]) ∧ Ext w w' := by
  have HA := (Has.alloc (Has.new w #[.int .i64 a, .int .i64 b] 73) (.cells #[.int .i64 c, .int .i64 d] 73))
  have Ac0 := Ext.keeps (HA 0 _ rfl)
  have Ac1 := Ext.keeps (HA 1 _ rfl)
  clear HA
  have HB := (Has.new2 w (.cells #[.int .i64 a, .int .i64 b] 73) #[.int .i64 c, .int .i64 d] 73)
  have Bc0 := Ext.keeps (HB 0 _ rfl)
  have Bc1 := Ext.keeps (HB 1 _ rfl)
  clear HB
  have hE : Ext ((w.alloc (.cells #[.int .i64 a, .int .i64 b] 73)).alloc (.cells #[.int .i64 c, .int .i64 d] 73)) ((w.alloc (.cells #[.int .i64 a, .int .i64 b] 73)).alloc (.cells #[.int .i64 c, .int .i64 d] 73)) := Ext.refl _
  go_enter Try.func64, Try.ntmps64
  go_wp2
  refine bodyPost_ret (v := .agg #[.int .i64 (a - c), .int .i64 (b - d)]) (by simp [results, Try.results64, go_sem]) rfl ⟨rfl, (by repeat (first | exact Ext.refl _ | assumption | apply Ext.alloc | apply Ext.drew | apply Ext.drewN | (refine Ext.trans ?_ (by assumption)) | (refine Ext.setCell ?_ (by simp; done) _) | (refine Ext.setCell ?_ (by simp; omega) _)))⟩

set_option maxHeartbeats 1000000 in
theorem impl_MissingRay_any (a : Option Addr) (n c : Nat) (zs : List (Int × Int × Int)) (hn : n ≤ 1073741824) (w : World) (h : Reads w a 3 n (tv zs)) :
    Calls Try.prog 25 #[.slice a n c] w fun r w' => r = .returned (.tuple #[.agg #[.int .i64 (missX zs), .int .i64 (missY zs), .int .i64 (missN zs)], .bool (missOk zs)]) ∧ Ext w w' := by
  have hl : zs.length = n := by have := h.1; rw [tv_len] at this; omega
  have HR := (Has.new w #[.int .i64 0, .int .i64 0, .int .i64 0] 34)
  have Rc0 := Ext.keeps (HR 0 _ rfl)
  have Rc1 := Ext.keeps (HR 1 _ rfl)
  have Rc2 := Ext.keeps (HR 2 _ rfl)
  have Rf0 := Ext.thaws (w := (w.alloc (.cells #[.int .i64 0, .int .i64 0, .int .i64 0] 34))) (HR 0 _ rfl) (by simp)
  have Rf1 := Ext.thaws (w := (w.alloc (.cells #[.int .i64 0, .int .i64 0, .int .i64 0] 34))) (HR 1 _ rfl) (by simp)
  have Rf2 := Ext.thaws (w := (w.alloc (.cells #[.int .i64 0, .int .i64 0, .int .i64 0] 34))) (HR 2 _ rfl) (by simp)
  clear HR
  have hE : Ext (w.alloc (.cells #[.int .i64 0, .int .i64 0, .int .i64 0] 34)) (w.alloc (.cells #[.int .i64 0, .int .i64 0, .int .i64 0] 34)) := Ext.refl _
  replace h : Reads (w.alloc (.cells #[.int .i64 0, .int .i64 0, .int .i64 0] 34)) a 3 n (tv zs) := Reads.alloc h _
  rcases small_of (zs := zs) with hs1 | ⟨hs1, hs⟩
  · have hno : missOk zs = false := by simp [missOk, hs1]
    go_enter Try.func25, Try.ntmps25
    go_wp2_with fail
    refine (isStar_any _ _ _ zs hn _ (h.ext hE)).mono ?_
    rw [hs1]
    rintro e w1 ⟨rfl, hb⟩
    replace hE := Ext.trans hE hb
    go_wp2
    refine bodyPost_ret (v := .tuple #[.agg #[.int .i64 0, .int .i64 0, .int .i64 0], .bool false]) (by simp [results, Try.results25, go_sem, hE, Rc0, Rc1, Rc2]) rfl ⟨(by rw [(miss_no hno).1, (miss_no hno).2.1, (miss_no hno).2.2, hno]), (by repeat (first | exact Ext.refl _ | assumption | apply Ext.alloc | apply Ext.drew | apply Ext.drewN | (refine Ext.trans ?_ (by assumption)) | (refine Ext.setCell ?_ (by simp; done) _) | (refine Ext.setCell ?_ (by simp; omega) _)))⟩
  · cases hbal : balB zs
    rotate_left
    · have hno : missOk zs = false := by simp [missOk, hbal]
      go_enter Try.func25, Try.ntmps25
      go_wp2_with fail
      refine (isStar_any _ _ _ zs hn _ (h.ext hE)).mono ?_
      rw [hs1]
      rintro e w1 ⟨rfl, hb⟩
      replace hE := Ext.trans hE hb
      go_wp2_with fail
      refine (isBalanced_any _ _ _ zs hs1 hs _ (h.ext hE)).mono ?_
      rw [hbal]
      rintro e w2 ⟨rfl, hb⟩
      replace hE := Ext.trans hE hb
      go_wp2
      refine bodyPost_ret (v := .tuple #[.agg #[.int .i64 0, .int .i64 0, .int .i64 0], .bool false]) (by simp [results, Try.results25, go_sem, hE, Rc0, Rc1, Rc2]) rfl ⟨(by rw [(miss_no hno).1, (miss_no hno).2.1, (miss_no hno).2.2, hno]), (by repeat (first | exact Ext.refl _ | assumption | apply Ext.alloc | apply Ext.drew | apply Ext.drewN | (refine Ext.trans ?_ (by assumption)) | (refine Ext.setCell ?_ (by simp; done) _) | (refine Ext.setCell ?_ (by simp; omega) _)))⟩
    · have hnz := balB_no hbal
      have hX := sX_bd hs zs.length (Nat.le_refl _)
      have hY := sY_bd hs zs.length (Nat.le_refl _)
      have hn10 := hs.1
      have HO := Lib.hid (show missOk zs = lackB (sX zs zs.length) (sY zs zs.length) by simp [missOk, hs1, hbal])
      have HY := Lib.hid (@miss_yes zs)
      go_enter Try.func25, Try.ntmps25
      go_wp2_with fail
      refine (isStar_any _ _ _ zs hn _ (h.ext hE)).mono ?_
      rw [hs1]
      rintro e w1 ⟨rfl, hb⟩
      replace hE := Ext.trans hE hb
      go_wp2_with fail
      refine (isBalanced_any _ _ _ zs hs1 hs _ (h.ext hE)).mono ?_
      rw [hbal]
      rintro e w2 ⟨rfl, hb⟩
      replace hE := Ext.trans hE hb
      go_wp2_with fail
      refine (starSum_any _ _ _ zs hs _ (h.ext hE)).mono ?_
      rintro e w3 ⟨rfl, hb⟩
      replace hE := Ext.trans hE hb
      rw [hl] at *
      generalize sX zs n = x at *
      generalize sY zs n = y at *
      clear h hs hbal hs1
      obtain ⟨p, rfl⟩ : ∃ p, x = -p := ⟨-x, by omega⟩
      obtain ⟨q, rfl⟩ : ∃ q, y = -q := ⟨-y, by omega⟩
      go_wp2_with fail
      refine (minus_any 0 0 (-p) (-q) (by omega) (by omega) (by omega) (by omega) _).mono ?_
      rintro e w4 ⟨rfl, hb⟩
      replace hE := Ext.trans hE hb
      simp only [Int.zero_sub, Int.neg_neg]
      go_wp2_with fail
      refine (primitive_any p q (by omega) (by omega) (by omega) (by omega) (by omega) _).mono ?_
      rintro e w6 ⟨rfl, hb⟩
      replace hE := Ext.trans hE hb
      have HV := Has.new w6 #[.int .i64 (p.tdiv (gcdI p q)), .int .i64 (q.tdiv (gcdI p q)), .int .i64 (gcdI p q)] 34
      have Vc0 := Ext.keeps (HV 0 _ rfl)
      have Vc1 := Ext.keeps (HV 1 _ rfl)
      have Vc2 := Ext.keeps (HV 2 _ rfl)
      clear HV
      have hr := Ext.refl (w6.alloc (.cells #[.int .i64 (p.tdiv (gcdI p q)), .int .i64 (q.tdiv (gcdI p q)), .int .i64 (gcdI p q)] 34))
      cases hk : lackB (-p) (-q)
      · have hno : missOk zs = false := by rw [HO.out, hk]
        simp only [lackB, Int.neg_neg] at hk
        clear HO HY
        go_wp2_with fail
        refine (isRay_any _ _ _ _).mono ?_
        rw [hk]
        rintro e w5 ⟨rfl, hb⟩
        replace hE := Ext.trans (Ext.alloc hE _) hb
        go_wp2
        refine bodyPost_ret (v := .tuple #[.agg #[.int .i64 0, .int .i64 0, .int .i64 0], .bool false]) (by simp [results, Try.results25, go_sem, hE, Rc0, Rc1, Rc2]) rfl ⟨(by rw [(miss_no hno).1, (miss_no hno).2.1, (miss_no hno).2.2, hno]), (by repeat (first | exact Ext.refl _ | assumption | apply Ext.alloc | apply Ext.drew | apply Ext.drewN | (refine Ext.trans ?_ (by assumption)) | (refine Ext.setCell ?_ (by simp; done) _) | (refine Ext.setCell ?_ (by simp; omega) _)))⟩
      · have hyes : missOk zs = true := by rw [HO.out, hk]
        have HQ := Lib.hid (show missX zs = p.tdiv (gcdI p q) ∧ missY zs = q.tdiv (gcdI p q) ∧ missN zs = gcdI p q by simpa only [Int.neg_neg] using HY.out hyes)
        simp only [lackB, Int.neg_neg] at hk
        clear HO HY
        go_wp2_with fail
        refine (isRay_any _ _ _ _).mono ?_
        rw [hk]
        rintro e w5 ⟨rfl, hb⟩
        replace hE := Ext.trans (Ext.alloc hE _) hb
        go_wp2
        refine bodyPost_ret (v := .tuple #[.agg #[.int .i64 (p.tdiv (gcdI p q)), .int .i64 (q.tdiv (gcdI p q)), .int .i64 (gcdI p q)], .bool true]) (by simp [results, Try.results25, go_sem, hE, Rc0, Rc1, Rc2]) rfl ⟨(by rw [HQ.out.1, HQ.out.2.1, HQ.out.2.2, hyes]), (by repeat (first | exact Ext.refl _ | assumption | apply Ext.alloc | apply Ext.drew | apply Ext.drewN | (refine Ext.trans ?_ (by assumption)) | (refine Ext.setCell ?_ (by simp; done) _) | (refine Ext.setCell ?_ (by simp; omega) _)))⟩

set_option maxHeartbeats 1000000 in
theorem spec_MissingRay_any (a : Option Addr) (n c : Nat) (zs : List (Int × Int × Int)) (hn : n ≤ 1073741824) (w : World) (h : Reads w a 3 n (tv zs)) :
    Calls Try.prog 24 #[.slice a n c] w fun r w' => r = .returned (.tuple #[.agg #[.int .i64 (missX zs), .int .i64 (missY zs), .int .i64 (missN zs)], .bool (missOk zs)]) ∧ Ext w w' := by
  have hl : zs.length = n := by have := h.1; rw [tv_len] at this; omega
  have HR := (Has.new w #[.int .i64 0, .int .i64 0, .int .i64 0] 34)
  have Rc0 := Ext.keeps (HR 0 _ rfl)
  have Rc1 := Ext.keeps (HR 1 _ rfl)
  have Rc2 := Ext.keeps (HR 2 _ rfl)
  have Rf0 := Ext.thaws (w := (w.alloc (.cells #[.int .i64 0, .int .i64 0, .int .i64 0] 34))) (HR 0 _ rfl) (by simp)
  have Rf1 := Ext.thaws (w := (w.alloc (.cells #[.int .i64 0, .int .i64 0, .int .i64 0] 34))) (HR 1 _ rfl) (by simp)
  have Rf2 := Ext.thaws (w := (w.alloc (.cells #[.int .i64 0, .int .i64 0, .int .i64 0] 34))) (HR 2 _ rfl) (by simp)
  clear HR
  have hE : Ext (w.alloc (.cells #[.int .i64 0, .int .i64 0, .int .i64 0] 34)) (w.alloc (.cells #[.int .i64 0, .int .i64 0, .int .i64 0] 34)) := Ext.refl _
  replace h : Reads (w.alloc (.cells #[.int .i64 0, .int .i64 0, .int .i64 0] 34)) a 3 n (tv zs) := Reads.alloc h _
  rcases small_of (zs := zs) with hs1 | ⟨hs1, hs⟩
  · have hno : missOk zs = false := by simp [missOk, hs1]
    go_enter Try.func24, Try.ntmps24
    go_wp2_with fail
    refine (stGood_any _ _ _ zs hn _ (h.ext hE)).mono ?_
    rw [hs1]
    rintro e w1 ⟨rfl, hb⟩
    replace hE := Ext.trans hE hb
    go_wp2
    refine bodyPost_ret (v := .tuple #[.agg #[.int .i64 0, .int .i64 0, .int .i64 0], .bool false]) (by simp [results, Try.results24, go_sem, hE, Rc0, Rc1, Rc2]) rfl ⟨(by rw [(miss_no hno).1, (miss_no hno).2.1, (miss_no hno).2.2, hno]), (by repeat (first | exact Ext.refl _ | assumption | apply Ext.alloc | apply Ext.drew | apply Ext.drewN | (refine Ext.trans ?_ (by assumption)) | (refine Ext.setCell ?_ (by simp; done) _) | (refine Ext.setCell ?_ (by simp; omega) _)))⟩
  · cases hbal : balB zs
    rotate_left
    · have hno : missOk zs = false := by simp [missOk, hbal]
      go_enter Try.func24, Try.ntmps24
      go_wp2_with fail
      refine (stGood_any _ _ _ zs hn _ (h.ext hE)).mono ?_
      rw [hs1]
      rintro e w1 ⟨rfl, hb⟩
      replace hE := Ext.trans hE hb
      go_wp2_with fail
      refine (stBalanced_any _ _ _ zs hs _ (h.ext hE)).mono ?_
      rw [hbal]
      rintro e w2 ⟨rfl, hb⟩
      replace hE := Ext.trans hE hb
      go_wp2
      refine bodyPost_ret (v := .tuple #[.agg #[.int .i64 0, .int .i64 0, .int .i64 0], .bool false]) (by simp [results, Try.results24, go_sem, hE, Rc0, Rc1, Rc2]) rfl ⟨(by rw [(miss_no hno).1, (miss_no hno).2.1, (miss_no hno).2.2, hno]), (by repeat (first | exact Ext.refl _ | assumption | apply Ext.alloc | apply Ext.drew | apply Ext.drewN | (refine Ext.trans ?_ (by assumption)) | (refine Ext.setCell ?_ (by simp; done) _) | (refine Ext.setCell ?_ (by simp; omega) _)))⟩
    · have hnz := balB_no hbal
      have hX := sX_bd hs zs.length (Nat.le_refl _)
      have hY := sY_bd hs zs.length (Nat.le_refl _)
      have hn10 := hs.1
      have HO := Lib.hid (show missOk zs = lackB (sX zs zs.length) (sY zs zs.length) by simp [missOk, hs1, hbal])
      have HY := Lib.hid (@miss_yes zs)
      go_enter Try.func24, Try.ntmps24
      go_wp2_with fail
      refine (stGood_any _ _ _ zs hn _ (h.ext hE)).mono ?_
      rw [hs1]
      rintro e w1 ⟨rfl, hb⟩
      replace hE := Ext.trans hE hb
      go_wp2_with fail
      refine (stBalanced_any _ _ _ zs hs _ (h.ext hE)).mono ?_
      rw [hbal]
      rintro e w2 ⟨rfl, hb⟩
      replace hE := Ext.trans hE hb
      go_wp2_with fail
      refine (stSum_any _ _ _ zs hs _ (h.ext hE)).mono ?_
      rintro e w3 ⟨rfl, hb⟩
      replace hE := Ext.trans hE hb
      rw [hl] at *
      generalize sX zs n = x at *
      generalize sY zs n = y at *
      clear h hs hbal hs1
      obtain ⟨p, rfl⟩ : ∃ p, x = -p := ⟨-x, by omega⟩
      obtain ⟨q, rfl⟩ : ∃ q, y = -q := ⟨-y, by omega⟩
      have g1 := gcdI_pos_of (a := p) (b := q) (by omega)
      have g2 := gcdI_le (x := p) (y := q) (k := 1000000) (by omega) (by omega) (by omega) (by omega)
      have k1 := absI_nonneg (-p)
      have k2 := absI_nonneg (-q)
      have k3 := absI_le (n := -p) (k := 4000) (by omega) (by omega)
      have k4 := absI_le (n := -q) (k := 4000) (by omega) (by omega)
      have e : gcdI (absI (-p)) (absI (-q)) = gcdI p q := by rw [gcdI_absI, gcdI_neg]
      go_wp2_with (first | (go_at_call 61; refine (l1Abs_any _ (by omega) (by omega) _).mono ?_; rintro e _ ⟨rfl, rfl⟩) | (go_at_call 60; refine (stCommon_any _ _ (by omega) (by omega) (by omega) (by omega) _).mono ?_; rintro e _ ⟨rfl, rfl⟩))
      go_region
      have HV := Has.new w3 #[.int .i64 (p.tdiv (gcdI p q)), .int .i64 (q.tdiv (gcdI p q)), .int .i64 (gcdI p q)] 34
      have Vc0 := Ext.keeps (w := (w3.alloc (.cells #[.int .i64 (p.tdiv (gcdI p q)), .int .i64 (q.tdiv (gcdI p q)), .int .i64 (gcdI p q)] 34)).drew) (HV 0 _ rfl)
      have Vc1 := Ext.keeps (w := (w3.alloc (.cells #[.int .i64 (p.tdiv (gcdI p q)), .int .i64 (q.tdiv (gcdI p q)), .int .i64 (gcdI p q)] 34)).drew) (HV 1 _ rfl)
      have Vc2 := Ext.keeps (w := (w3.alloc (.cells #[.int .i64 (p.tdiv (gcdI p q)), .int .i64 (q.tdiv (gcdI p q)), .int .i64 (gcdI p q)] 34)).drew) (HV 2 _ rfl)
      clear HV
      cases hk : lackB (-p) (-q)
      · have hno : missOk zs = false := by rw [HO.out, hk]
        simp only [lackB, Int.neg_neg] at hk
        clear HO HY
        go_wp2_with fail
        refine (stRay_any _ _ _ _).mono ?_
        rw [hk]
        rintro e w5 ⟨rfl, hb⟩
        replace hE := Ext.trans (Ext.drew (Ext.alloc hE _)) hb
        go_wp2
        refine bodyPost_ret (v := .tuple #[.agg #[.int .i64 0, .int .i64 0, .int .i64 0], .bool false]) (by simp [results, Try.results24, go_sem, hE, Rc0, Rc1, Rc2]) rfl ⟨(by rw [(miss_no hno).1, (miss_no hno).2.1, (miss_no hno).2.2, hno]), (by repeat (first | exact Ext.refl _ | assumption | apply Ext.alloc | apply Ext.drew | apply Ext.drewN | (refine Ext.trans ?_ (by assumption)) | (refine Ext.setCell ?_ (by simp; done) _) | (refine Ext.setCell ?_ (by simp; omega) _)))⟩
      · have hyes : missOk zs = true := by rw [HO.out, hk]
        have HQ := Lib.hid (show missX zs = p.tdiv (gcdI p q) ∧ missY zs = q.tdiv (gcdI p q) ∧ missN zs = gcdI p q by simpa only [Int.neg_neg] using HY.out hyes)
        simp only [lackB, Int.neg_neg] at hk
        clear HO HY
        go_wp2_with fail
        refine (stRay_any _ _ _ _).mono ?_
        rw [hk]
        rintro e w5 ⟨rfl, hb⟩
        replace hE := Ext.trans (Ext.drew (Ext.alloc hE _)) hb
        go_wp2
        refine bodyPost_ret (v := .tuple #[.agg #[.int .i64 (p.tdiv (gcdI p q)), .int .i64 (q.tdiv (gcdI p q)), .int .i64 (gcdI p q)], .bool true]) (by simp [results, Try.results24, go_sem, hE, Rc0, Rc1, Rc2]) rfl ⟨(by rw [HQ.out.1, HQ.out.2.1, HQ.out.2.2, hyes]), (by repeat (first | exact Ext.refl _ | assumption | apply Ext.alloc | apply Ext.drew | apply Ext.drewN | (refine Ext.trans ?_ (by assumption)) | (refine Ext.setCell ?_ (by simp; done) _) | (refine Ext.setCell ?_ (by simp; omega) _)))⟩

theorem law_MissingRay (a : Option Addr) (n c : Nat) (zs : List (Int × Int × Int)) (w : World) (hr : IsTri w a n c zs) :
    Calls Try.prog 6 #[.slice a n c] w fun r w' => r = .returned (.bool true) ∧ Ext w w' := by
  have h := hr.1
  have hc1 := hr.2.1
  have hc2 := hr.2.2.1
  unfold maxLen at hc2
  clear hr
  by_cases hn : n ≤ 1048576
  · go_enter Try.func6, Try.ntmps6
    go_wp2_with fail
    refine (szRayS_yes _ _ _ _ (by omega) (by omega) _).mono ?_
    rintro e _ ⟨rfl, rfl⟩
    go_wp2_with fail
    refine (toRayS_any _ _ _ zs hn _ h).mono ?_
    rintro e w1 ⟨g1, rfl, ho1, hb1⟩
    have hE : Ext w w := Ext.refl _
    replace hE := Ext.trans hE hb1
    go_wp2_with fail
    refine (spec_MissingRay_any _ _ _ zs (by omega) _ (own_reads ho1)).mono ?_
    rintro e w2 ⟨rfl, hb2⟩
    replace hE := Ext.trans hE hb2
    have h2 := Reads.alloc (Reads.ext hE h) (.cells #[.int .i64 (missX zs), .int .i64 (missY zs), .int .i64 (missN zs)] 34)
    have hW : Ext w w2 := hE
    have hT : Ext w (w2.alloc (.cells #[.int .i64 (missX zs), .int .i64 (missY zs), .int .i64 (missN zs)] 34)) := Ext.alloc hE _
    have HB := Has.new w2 #[.int .i64 (missX zs), .int .i64 (missY zs), .int .i64 (missN zs)] 34
    have Bc0 := Ext.keeps (HB 0 _ rfl)
    have Bc1 := Ext.keeps (HB 1 _ rfl)
    have Bc2 := Ext.keeps (HB 2 _ rfl)
    clear HB
    replace hE : Ext (w2.alloc (.cells #[.int .i64 (missX zs), .int .i64 (missY zs), .int .i64 (missN zs)] 34)) (w2.alloc (.cells #[.int .i64 (missX zs), .int .i64 (missY zs), .int .i64 (missN zs)] 34)) := Ext.refl _
    have hW2 := Ext.alloc hW (.cells #[.int .i64 (missX zs), .int .i64 (missY zs), .int .i64 (missN zs)] 34)
    go_wp2_with fail
    refine (toRayS_any _ _ _ zs hn _ h2).mono ?_
    rintro e w3 ⟨g2, rfl, ho2, hb3⟩
    replace hE := Ext.trans hE hb3
    go_wp2_with fail
    refine (impl_MissingRay_any _ _ _ zs (by omega) _ (own_reads ho2)).mono ?_
    rintro e w4 ⟨rfl, hb4⟩
    replace hE := Ext.trans hE hb4
    have ho4 := own_ext hb4 ho2
    have h4 := Reads.ext hE h2
    have hW4 := Ext.trans hW2 hE
    have hT : Ext (w2.alloc (.cells #[.int .i64 (missX zs), .int .i64 (missY zs), .int .i64 (missN zs)] 34)) (w4.alloc (.cells #[.int .i64 (missX zs), .int .i64 (missY zs), .int .i64 (missN zs)] 34)) := Ext.alloc hE _
    replace Bc0 := Ext.rebase hT Bc0
    replace Bc1 := Ext.rebase hT Bc1
    replace Bc2 := Ext.rebase hT Bc2
    have HC := Has.new w4 #[.int .i64 (missX zs), .int .i64 (missY zs), .int .i64 (missN zs)] 34
    have Cc0 := Ext.keeps (HC 0 _ rfl)
    have Cc1 := Ext.keeps (HC 1 _ rfl)
    have Cc2 := Ext.keeps (HC 2 _ rfl)
    clear HC
    replace hE : Ext (w4.alloc (.cells #[.int .i64 (missX zs), .int .i64 (missY zs), .int .i64 (missN zs)] 34)) (w4.alloc (.cells #[.int .i64 (missX zs), .int .i64 (missY zs), .int .i64 (missN zs)] 34)) := Ext.refl _
    go_wp2_with fail
    refine (eqRay_same _ _ _ _).mono ?_
    rintro e w5 ⟨rfl, hb5⟩
    replace hE := Ext.trans hE hb5
    have ho5 := own_ext hb5 (own_ext (Ext.alloc (Ext.refl w4) _) ho4)
    have h5 := Reads.ext hb5 (Reads.alloc h4 _)
    have hW5 := Ext.trans (Ext.alloc hW4 _) hb5
    go_wp2_with fail
    refine (toRayS_any _ _ _ zs hn _ h5).mono ?_
    rintro e w6 ⟨g3, rfl, ho3, hb6⟩
    go_wp2_with fail
    refine (eqRayS_same _ _ _ _ _ zs (by omega) _ (Reads.ext hb6 (own_reads ho5)) (own_reads ho3)).mono ?_
    rintro e w7 ⟨rfl, hb7⟩
    go_wp2
    go_ret
    exact ⟨rfl, (hW5.trans hb6).trans hb7⟩
  · go_enter Try.func6, Try.ntmps6
    go_wp2_with fail
    refine (szRayS_no _ _ _ _ (by omega) (by omega) (by omega) (by omega) _).mono ?_
    rintro e _ ⟨rfl, rfl⟩
    go_wp2
    go_ret
    exact ⟨rfl, Ext.refl _⟩

end Go.Proofs.Ytlkhjedlokklaaa
