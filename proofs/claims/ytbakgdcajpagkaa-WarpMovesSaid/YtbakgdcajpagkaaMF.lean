/- warp.Check and its reference. -/
import Derived.Test.YtbakgdcajpagkaaME
import Derived.Test.YtbakgdcajpagkaaMB
import Derived.Deep.LoopGhost
namespace Go.Proofs.Ytbakgdcajpagkaa
open Go.RowKit

/-- The head of the loop over the points. -/
def WcRel (ks : List (Int × Int)) (w0 : World) (gh : Nat) (i : Value) (wr : World) : Prop :=
  ∃ j : Nat, j ≤ ks.length ∧ gh = ks.length - j ∧ i = .int .i64 j ∧ Below w0.heap.size w0 wr ∧ ∀ j' : Nat, j' < j → (-1048576 ≤ kx ks j' ∧ kx ks j' ≤ 1048576) ∧ -1048576 ≤ ky ks j' ∧ ky ks j' ≤ 1048576
theorem wErr_15 {C R S : Int} {ks : List (Int × Int)} (h : ¬ ((2 ≤ C ∧ C ≤ 8) ∧ (2 ≤ R ∧ R ≤ 8) ∧ (1 ≤ S ∧ S ≤ 256) ∧ (ks.length : Int) = C * R)) : wErr C R S ks = 15 := by
  unfold wErr; rw [if_neg]; unfold wSz; simpa using h
theorem wErr_sz {C R S : Int} {ks : List (Int × Int)} (h : (2 ≤ C ∧ C ≤ 8) ∧ (2 ≤ R ∧ R ≤ 8) ∧ (1 ≤ S ∧ S ≤ 256) ∧ (ks.length : Int) = C * R) : wErr C R S ks = if wRg ks = true then 0 else 2 := by
  unfold wErr; rw [if_pos (show wSz C R S ks.length = true from decide_eq_true h)]
theorem wRg_no {ks : List (Int × Int)} (j : Nat) (h : j < ks.length) (hn : ¬ ((-1048576 ≤ kx ks j ∧ kx ks j ≤ 1048576) ∧ -1048576 ≤ ky ks j ∧ ky ks j ≤ 1048576)) : wRg ks = false := decide_eq_false fun hh => hn (hh j h)
theorem wRg_yes {ks : List (Int × Int)} (h : ∀ j : Nat, j < ks.length → (-1048576 ≤ kx ks j ∧ kx ks j ≤ 1048576) ∧ -1048576 ≤ ky ks j ∧ ky ks j ≤ 1048576) : wRg ks = true := decide_eq_true h
theorem mul8 {C R : Int} (hC : 2 ≤ C ∧ C ≤ 8) (hR : 2 ≤ R ∧ R ≤ 8) : 0 ≤ C * R ∧ C * R ≤ 64 := ⟨Int.mul_nonneg (by omega) (by omega), by have : C * R ≤ 8 * 8 := Int.mul_le_mul hC.2 hR.2 (by omega) (by omega); omega⟩
set_option maxRecDepth 100000 in
set_option maxHeartbeats 4000000 in
theorem wcheck_sz (C R S : Int) (A : Option Addr) (c : Nat) (ks : List (Int × Int)) (w : World) (hn : ¬ ((2 ≤ C ∧ C ≤ 8) ∧ (2 ≤ R ∧ R ≤ 8) ∧ (1 ≤ S ∧ S ≤ 256) ∧ (ks.length : Int) = C * R)) :
    Calls Try.prog 10 #[.agg #[.int .i64 C, .int .i64 R, .int .i64 S, .slice A ks.length c]] w fun e w' => e = .returned (.int .i64 (wErr C R S ks)) ∧ Below w.heap.size w w' := by
  have E := Lib.hid (wErr_15 hn)
  by_cases c1 : C < 2
  · have dc1 : decide (C < 2) = true := by simp; exact c1
    clear hn c1
    go_enter Try.func10, Try.ntmps10
    go_upto_region 1 with fail
    obtain ⟨hb1, hB, -⟩ := one_box w #[.int .i64 C, .int .i64 R, .int .i64 S, .slice A ks.length c] 24 _ rfl
    generalize World.alloc w _ = w0 at *
    obtain ⟨⟨i1, i2, i3, i4⟩, -⟩ := hb1.four
    clear hb1
    go_wp2_with fail
    go_ret
    exact ⟨ret_int E.out.symm, hB⟩
  have dc1 : decide (C < 2) = false := by simp; omega
  by_cases c2 : 8 < C
  · have dc2 : decide (8 < C) = true := by simp; exact c2
    clear hn c2
    go_enter Try.func10, Try.ntmps10
    go_upto_region 1 with fail
    obtain ⟨hb1, hB, -⟩ := one_box w #[.int .i64 C, .int .i64 R, .int .i64 S, .slice A ks.length c] 24 _ rfl
    generalize World.alloc w _ = w0 at *
    obtain ⟨⟨i1, i2, i3, i4⟩, -⟩ := hb1.four
    clear hb1
    go_wp2_with fail
    go_ret
    exact ⟨ret_int E.out.symm, hB⟩
  have dc2 : decide (8 < C) = false := by simp; omega
  by_cases c3 : R < 2
  · have dc3 : decide (R < 2) = true := by simp; exact c3
    clear hn c3
    go_enter Try.func10, Try.ntmps10
    go_upto_region 1 with fail
    obtain ⟨hb1, hB, -⟩ := one_box w #[.int .i64 C, .int .i64 R, .int .i64 S, .slice A ks.length c] 24 _ rfl
    generalize World.alloc w _ = w0 at *
    obtain ⟨⟨i1, i2, i3, i4⟩, -⟩ := hb1.four
    clear hb1
    go_wp2_with fail
    go_ret
    exact ⟨ret_int E.out.symm, hB⟩
  have dc3 : decide (R < 2) = false := by simp; omega
  by_cases c4 : 8 < R
  · have dc4 : decide (8 < R) = true := by simp; exact c4
    clear hn c4
    go_enter Try.func10, Try.ntmps10
    go_upto_region 1 with fail
    obtain ⟨hb1, hB, -⟩ := one_box w #[.int .i64 C, .int .i64 R, .int .i64 S, .slice A ks.length c] 24 _ rfl
    generalize World.alloc w _ = w0 at *
    obtain ⟨⟨i1, i2, i3, i4⟩, -⟩ := hb1.four
    clear hb1
    go_wp2_with fail
    go_ret
    exact ⟨ret_int E.out.symm, hB⟩
  have dc4 : decide (8 < R) = false := by simp; omega
  by_cases c5 : S < 1
  · have dc5 : decide (S < 1) = true := by simp; exact c5
    clear hn c5
    go_enter Try.func10, Try.ntmps10
    go_upto_region 1 with fail
    obtain ⟨hb1, hB, -⟩ := one_box w #[.int .i64 C, .int .i64 R, .int .i64 S, .slice A ks.length c] 24 _ rfl
    generalize World.alloc w _ = w0 at *
    obtain ⟨⟨i1, i2, i3, i4⟩, -⟩ := hb1.four
    clear hb1
    go_wp2_with fail
    go_ret
    exact ⟨ret_int E.out.symm, hB⟩
  have dc5 : decide (S < 1) = false := by simp; omega
  by_cases c6 : 256 < S
  · have dc6 : decide (256 < S) = true := by simp; exact c6
    clear hn c6
    go_enter Try.func10, Try.ntmps10
    go_upto_region 1 with fail
    obtain ⟨hb1, hB, -⟩ := one_box w #[.int .i64 C, .int .i64 R, .int .i64 S, .slice A ks.length c] 24 _ rfl
    generalize World.alloc w _ = w0 at *
    obtain ⟨⟨i1, i2, i3, i4⟩, -⟩ := hb1.four
    clear hb1
    go_wp2_with fail
    go_ret
    exact ⟨ret_int E.out.symm, hB⟩
  have dc6 : decide (256 < S) = false := by simp; omega
  have hne : ((ks.length : Int) != C * R) = true := by
    simp only [bne_iff_ne]
    intro e
    exact hn ⟨by omega, by omega, by omega, e⟩
  have hp := mul8 (C := C) (R := R) (by omega) (by omega)
  have q := wrap_in (C * R) (by omega)
  clear hn hp
  go_enter Try.func10, Try.ntmps10
  go_upto_region 1 with fail
  obtain ⟨hb1, hB, -⟩ := one_box w #[.int .i64 C, .int .i64 R, .int .i64 S, .slice A ks.length c] 24 _ rfl
  generalize World.alloc w _ = w0 at *
  obtain ⟨⟨i1, i2, i3, i4⟩, -⟩ := hb1.four
  clear hb1
  go_wp2_with fail
  go_ret
  exact ⟨ret_int E.out.symm, hB⟩
set_option maxRecDepth 100000 in
set_option maxHeartbeats 4000000 in
theorem wcheck_any (C R S : Int) (A : Option Addr) (c : Nat) (ks : List (Int × Int)) (w : World) (h : Knots w w.heap.size (.slice A ks.length c) ks) :
    Calls Try.prog 10 #[.agg #[.int .i64 C, .int .i64 R, .int .i64 S, .slice A ks.length c]] w fun e w' => e = .returned (.int .i64 (wErr C R S ks)) ∧ Below w.heap.size w w' := by
  have hm : ks.length ≤ 9223372036854775807 := by obtain ⟨_, _, _, hl, _⟩ := h; exact hl
  by_cases hn : (2 ≤ C ∧ C ≤ 8) ∧ (2 ≤ R ∧ R ≤ 8) ∧ (1 ≤ S ∧ S ≤ 256) ∧ (ks.length : Int) = C * R
  rotate_left
  · exact wcheck_sz C R S A c ks w hn
  have E := wErr_sz hn
  have ER := Lib.hid (show wRg ks = false → wErr C R S ks = 2 from fun h => by rw [E, if_neg (by simp [h])])
  have EY := Lib.hid (show wRg ks = true → wErr C R S ks = 0 from fun h => by rw [E, if_pos h])
  generalize wErr C R S ks = er at *
  have H := Lib.hid h
  have dc1 : decide (C < 2) = false := by simp; omega
  have dc2 : decide (8 < C) = false := by simp; omega
  have dc3 : decide (R < 2) = false := by simp; omega
  have dc4 : decide (8 < R) = false := by simp; omega
  have dc5 : decide (S < 1) = false := by simp; omega
  have dc6 : decide (256 < S) = false := by simp; omega
  have hp := mul8 (C := C) (R := R) (by omega) (by omega)
  have q := wrap_in (C * R) (by omega)
  have hne : ((ks.length : Int) != C * R) = false := by simp only [bne_eq_false_iff_eq]; exact hn.2.2.2
  have hl64 : ks.length ≤ 64 := by omega
  clear h hn hp E
  go_enter Try.func10, Try.ntmps10
  go_upto_region 1 with fail
  obtain ⟨hb1, hB, -⟩ := one_box w #[.int .i64 C, .int .i64 R, .int .i64 S, .slice A ks.length c] 24 _ rfl
  generalize World.alloc w _ = w0 at *
  obtain ⟨⟨i1, i2, i3, i4⟩, -⟩ := hb1.four
  have HB1 := Lib.hid hb1; have HB := Lib.hid hB
  clear hb1 hB
  go_wp2_with fail
  clear i1 i2 i3 i4 dc1 dc2 dc3 dc4 dc5 dc6 q hne
  go_loopg [45] ks.length (WcRel ks w0)
  case atStart => exact ⟨0, Nat.zero_le _, rfl, rfl, Below.refl _ _, fun j' hj' => absurd hj' (by omega)⟩
  case round =>
    obtain ⟨j, hj, rfl, rfl, hbr, hall⟩ := hrel
    have HALL := Lib.hid hall; clear hall
    have hBr := bel_trans HB.out hbr
    by_cases hlt : j < ks.length
    · obtain ⟨A1, c1, ev1, _, hca⟩ := H.out
      injection ev1 with u1 u2 u3
      subst u1 u3
      obtain ⟨b, o, rfl, hb, p1, p2⟩ := hca j hlt
      replace p1 := (hBr.cell (p := ⟨b, _, none⟩) hb).trans p1; replace p2 := (hBr.cell (p := ⟨b, _, none⟩) hb).trans p2
      have hk0 : (0 : Int) ≤ (j : Int) := by omega
      have hk1 : (j : Int) < (ks.length : Int) := by omega
      have EL := Lib.hid (fun h => ER.out (wRg_no (ks := ks) j hlt h))
      have EA := Lib.hid (show ((-1048576 ≤ kx ks j ∧ kx ks j ≤ 1048576) ∧ -1048576 ≤ ky ks j ∧ ky ks j ≤ 1048576) → ∀ j' : Nat, j' < j + 1 → (-1048576 ≤ kx ks j' ∧ kx ks j' ≤ 1048576) ∧ -1048576 ≤ ky ks j' ∧ ky ks j' ≤ 1048576 from fun hh j' hj' => by
        rcases Nat.lt_or_ge j' j with d | d
        · exact HALL.out j' d
        · rw [show j' = j by omega]; exact hh)
      have HBR := Lib.hid hbr; have HBB := Lib.hid hBr
      clear hca u2 hbr hBr hb
      generalize kx ks j = X at *
      generalize ky ks j = Y at *
      by_cases a1 : X < -1048576
      · have da1 : decide (X < -1048576) = true := by simp; exact a1
        have EL2 := Lib.hid (EL.out (by omega)); clear a1
        go_upto_region 8 with fail
        obtain ⟨hb4, hb4b, -⟩ := one_box wr #[.int .i64 X, .int .i64 Y] 28 _ rfl
        generalize World.alloc wr _ = wx at *
        obtain ⟨⟨j1, j2⟩, -⟩ := hb4.two
        have HBX := Lib.hid (bel_trans HBB.out hb4b)
        clear hb4 hb4b p1 p2
        go_wp2_with fail
        go_ret
        exact ⟨ret_int EL2.out.symm, HBX.out⟩
      have da1 : decide (X < -1048576) = false := by simp; omega
      by_cases a2 : 1048576 < X
      · have da2 : decide (1048576 < X) = true := by simp; exact a2
        have EL2 := Lib.hid (EL.out (by omega)); clear a2
        go_upto_region 8 with fail
        obtain ⟨hb4, hb4b, -⟩ := one_box wr #[.int .i64 X, .int .i64 Y] 28 _ rfl
        generalize World.alloc wr _ = wx at *
        obtain ⟨⟨j1, j2⟩, -⟩ := hb4.two
        have HBX := Lib.hid (bel_trans HBB.out hb4b)
        clear hb4 hb4b p1 p2
        go_wp2_with fail
        go_ret
        exact ⟨ret_int EL2.out.symm, HBX.out⟩
      have da2 : decide (1048576 < X) = false := by simp; omega
      by_cases a3 : Y < -1048576
      · have da3 : decide (Y < -1048576) = true := by simp; exact a3
        have EL2 := Lib.hid (EL.out (by omega)); clear a3
        go_upto_region 8 with fail
        obtain ⟨hb4, hb4b, -⟩ := one_box wr #[.int .i64 X, .int .i64 Y] 28 _ rfl
        generalize World.alloc wr _ = wx at *
        obtain ⟨⟨j1, j2⟩, -⟩ := hb4.two
        have HBX := Lib.hid (bel_trans HBB.out hb4b)
        clear hb4 hb4b p1 p2
        go_wp2_with fail
        go_ret
        exact ⟨ret_int EL2.out.symm, HBX.out⟩
      have da3 : decide (Y < -1048576) = false := by simp; omega
      by_cases a4 : 1048576 < Y
      · have da4 : decide (1048576 < Y) = true := by simp; exact a4
        have EL2 := Lib.hid (EL.out (by omega)); clear a4
        go_upto_region 8 with fail
        obtain ⟨hb4, hb4b, -⟩ := one_box wr #[.int .i64 X, .int .i64 Y] 28 _ rfl
        generalize World.alloc wr _ = wx at *
        obtain ⟨⟨j1, j2⟩, -⟩ := hb4.two
        have HBX := Lib.hid (bel_trans HBB.out hb4b)
        clear hb4 hb4b p1 p2
        go_wp2_with fail
        go_ret
        exact ⟨ret_int EL2.out.symm, HBX.out⟩
      have da4 : decide (1048576 < Y) = false := by simp; omega
      have EA2 := Lib.hid (EA.out ⟨by omega, by omega⟩)
      go_upto_region 8 with fail
      obtain ⟨hb4, hb4b, -⟩ := one_box wr #[.int .i64 X, .int .i64 Y] 28 _ rfl
      generalize World.alloc wr _ = wx at *
      obtain ⟨⟨j1, j2⟩, -⟩ := hb4.two
      have HBX := Lib.hid (bel_trans HBR.out hb4b)
      clear hb4 hb4b p1 p2
      go_wp2_with fail
      go_roundg (ks.length - (j + 1))
      case measure => omega
      case rel => exact ⟨j + 1, by omega, rfl, by go_num, HBX.out, EA2.out⟩
    · obtain rfl : j = ks.length := by omega
      have HE := Lib.hid (EY.out (wRg_yes HALL.out))
      have HBB := Lib.hid hBr
      clear hbr hBr
      go_wp2_with fail
      go_ret
      exact ⟨ret_int HE.out.symm, HBB.out⟩

set_option maxRecDepth 100000 in
set_option maxHeartbeats 4000000 in
theorem rwcheck_sz (C R S : Int) (A : Option Addr) (c : Nat) (ks : List (Int × Int)) (w : World) (hn : ¬ ((2 ≤ C ∧ C ≤ 8) ∧ (2 ≤ R ∧ R ≤ 8) ∧ (1 ≤ S ∧ S ≤ 256) ∧ (ks.length : Int) = C * R)) :
    Calls Try.prog 11 #[.agg #[.int .i64 C, .int .i64 R, .int .i64 S, .slice A ks.length c]] w fun e w' => e = .returned (.int .i64 (wErr C R S ks)) ∧ Below w.heap.size w w' := by
  have E := Lib.hid (wErr_15 hn)
  by_cases c1 : C < 2
  · have dc1 : decide (C < 2) = true := by simp; exact c1
    clear hn c1
    go_enter Try.func11, Try.ntmps11
    go_upto_region 1 with fail
    obtain ⟨hb1, hB, -⟩ := one_box w #[.int .i64 C, .int .i64 R, .int .i64 S, .slice A ks.length c] 24 _ rfl
    generalize World.alloc w _ = w0 at *
    obtain ⟨⟨i1, i2, i3, i4⟩, -⟩ := hb1.four
    clear hb1
    go_wp2_with fail
    go_ret
    exact ⟨ret_int E.out.symm, hB⟩
  have dc1 : decide (C < 2) = false := by simp; omega
  by_cases c2 : 8 < C
  · have dc2 : decide (8 < C) = true := by simp; exact c2
    clear hn c2
    go_enter Try.func11, Try.ntmps11
    go_upto_region 1 with fail
    obtain ⟨hb1, hB, -⟩ := one_box w #[.int .i64 C, .int .i64 R, .int .i64 S, .slice A ks.length c] 24 _ rfl
    generalize World.alloc w _ = w0 at *
    obtain ⟨⟨i1, i2, i3, i4⟩, -⟩ := hb1.four
    clear hb1
    go_wp2_with fail
    go_ret
    exact ⟨ret_int E.out.symm, hB⟩
  have dc2 : decide (8 < C) = false := by simp; omega
  by_cases c3 : R < 2
  · have dc3 : decide (R < 2) = true := by simp; exact c3
    clear hn c3
    go_enter Try.func11, Try.ntmps11
    go_upto_region 1 with fail
    obtain ⟨hb1, hB, -⟩ := one_box w #[.int .i64 C, .int .i64 R, .int .i64 S, .slice A ks.length c] 24 _ rfl
    generalize World.alloc w _ = w0 at *
    obtain ⟨⟨i1, i2, i3, i4⟩, -⟩ := hb1.four
    clear hb1
    go_wp2_with fail
    go_ret
    exact ⟨ret_int E.out.symm, hB⟩
  have dc3 : decide (R < 2) = false := by simp; omega
  by_cases c4 : 8 < R
  · have dc4 : decide (8 < R) = true := by simp; exact c4
    clear hn c4
    go_enter Try.func11, Try.ntmps11
    go_upto_region 1 with fail
    obtain ⟨hb1, hB, -⟩ := one_box w #[.int .i64 C, .int .i64 R, .int .i64 S, .slice A ks.length c] 24 _ rfl
    generalize World.alloc w _ = w0 at *
    obtain ⟨⟨i1, i2, i3, i4⟩, -⟩ := hb1.four
    clear hb1
    go_wp2_with fail
    go_ret
    exact ⟨ret_int E.out.symm, hB⟩
  have dc4 : decide (8 < R) = false := by simp; omega
  by_cases c5 : S < 1
  · have dc5 : decide (S < 1) = true := by simp; exact c5
    clear hn c5
    go_enter Try.func11, Try.ntmps11
    go_upto_region 1 with fail
    obtain ⟨hb1, hB, -⟩ := one_box w #[.int .i64 C, .int .i64 R, .int .i64 S, .slice A ks.length c] 24 _ rfl
    generalize World.alloc w _ = w0 at *
    obtain ⟨⟨i1, i2, i3, i4⟩, -⟩ := hb1.four
    clear hb1
    go_wp2_with fail
    go_ret
    exact ⟨ret_int E.out.symm, hB⟩
  have dc5 : decide (S < 1) = false := by simp; omega
  by_cases c6 : 256 < S
  · have dc6 : decide (256 < S) = true := by simp; exact c6
    clear hn c6
    go_enter Try.func11, Try.ntmps11
    go_upto_region 1 with fail
    obtain ⟨hb1, hB, -⟩ := one_box w #[.int .i64 C, .int .i64 R, .int .i64 S, .slice A ks.length c] 24 _ rfl
    generalize World.alloc w _ = w0 at *
    obtain ⟨⟨i1, i2, i3, i4⟩, -⟩ := hb1.four
    clear hb1
    go_wp2_with fail
    go_ret
    exact ⟨ret_int E.out.symm, hB⟩
  have dc6 : decide (256 < S) = false := by simp; omega
  have hne : ((ks.length : Int) != C * R) = true := by
    simp only [bne_iff_ne]
    intro e
    exact hn ⟨by omega, by omega, by omega, e⟩
  have hp := mul8 (C := C) (R := R) (by omega) (by omega)
  have q := wrap_in (C * R) (by omega)
  clear hn hp
  go_enter Try.func11, Try.ntmps11
  go_upto_region 1 with fail
  obtain ⟨hb1, hB, -⟩ := one_box w #[.int .i64 C, .int .i64 R, .int .i64 S, .slice A ks.length c] 24 _ rfl
  generalize World.alloc w _ = w0 at *
  obtain ⟨⟨i1, i2, i3, i4⟩, -⟩ := hb1.four
  clear hb1
  go_wp2_with fail
  go_ret
  exact ⟨ret_int E.out.symm, hB⟩
set_option maxRecDepth 100000 in
set_option maxHeartbeats 4000000 in
theorem rwcheck_any (C R S : Int) (A : Option Addr) (c : Nat) (ks : List (Int × Int)) (w : World) (h : Knots w w.heap.size (.slice A ks.length c) ks) :
    Calls Try.prog 11 #[.agg #[.int .i64 C, .int .i64 R, .int .i64 S, .slice A ks.length c]] w fun e w' => e = .returned (.int .i64 (wErr C R S ks)) ∧ Below w.heap.size w w' := by
  have hm : ks.length ≤ 9223372036854775807 := by obtain ⟨_, _, _, hl, _⟩ := h; exact hl
  by_cases hn : (2 ≤ C ∧ C ≤ 8) ∧ (2 ≤ R ∧ R ≤ 8) ∧ (1 ≤ S ∧ S ≤ 256) ∧ (ks.length : Int) = C * R
  rotate_left
  · exact rwcheck_sz C R S A c ks w hn
  have E := wErr_sz hn
  have ER := Lib.hid (show wRg ks = false → wErr C R S ks = 2 from fun h => by rw [E, if_neg (by simp [h])])
  have EY := Lib.hid (show wRg ks = true → wErr C R S ks = 0 from fun h => by rw [E, if_pos h])
  generalize wErr C R S ks = er at *
  have H := Lib.hid h
  have dc1 : decide (C < 2) = false := by simp; omega
  have dc2 : decide (8 < C) = false := by simp; omega
  have dc3 : decide (R < 2) = false := by simp; omega
  have dc4 : decide (8 < R) = false := by simp; omega
  have dc5 : decide (S < 1) = false := by simp; omega
  have dc6 : decide (256 < S) = false := by simp; omega
  have hp := mul8 (C := C) (R := R) (by omega) (by omega)
  have q := wrap_in (C * R) (by omega)
  have hne : ((ks.length : Int) != C * R) = false := by simp only [bne_eq_false_iff_eq]; exact hn.2.2.2
  have hl64 : ks.length ≤ 64 := by omega
  clear h hn hp E
  go_enter Try.func11, Try.ntmps11
  go_upto_region 1 with fail
  obtain ⟨hb1, hB, -⟩ := one_box w #[.int .i64 C, .int .i64 R, .int .i64 S, .slice A ks.length c] 24 _ rfl
  generalize World.alloc w _ = w0 at *
  obtain ⟨⟨i1, i2, i3, i4⟩, -⟩ := hb1.four
  have HB1 := Lib.hid hb1; have HB := Lib.hid hB
  clear hb1 hB
  go_wp2_with fail
  clear i1 i2 i3 i4 dc1 dc2 dc3 dc4 dc5 dc6 q hne
  go_loopg [46] ks.length (WcRel ks w0)
  case atStart => exact ⟨0, Nat.zero_le _, rfl, rfl, Below.refl _ _, fun j' hj' => absurd hj' (by omega)⟩
  case round =>
    obtain ⟨j, hj, rfl, rfl, hbr, hall⟩ := hrel
    have HALL := Lib.hid hall; clear hall
    have hBr := bel_trans HB.out hbr
    obtain ⟨⟨i1, i2, i3, i4⟩, -⟩ := (HB1.out.below hbr).four
    by_cases hlt : j < ks.length
    · obtain ⟨A1, c1, ev1, _, hca⟩ := H.out
      injection ev1 with u1 u2 u3
      subst u1 u3
      obtain ⟨b, o, rfl, hb, p1, p2⟩ := hca j hlt
      replace p1 := (hBr.cell (p := ⟨b, _, none⟩) hb).trans p1; replace p2 := (hBr.cell (p := ⟨b, _, none⟩) hb).trans p2
      have hk0 : (0 : Int) ≤ (j : Int) := by omega
      have hk1 : (j : Int) < (ks.length : Int) := by omega
      have EL := Lib.hid (fun h => ER.out (wRg_no (ks := ks) j hlt h))
      have EA := Lib.hid (show ((-1048576 ≤ kx ks j ∧ kx ks j ≤ 1048576) ∧ -1048576 ≤ ky ks j ∧ ky ks j ≤ 1048576) → ∀ j' : Nat, j' < j + 1 → (-1048576 ≤ kx ks j' ∧ kx ks j' ≤ 1048576) ∧ -1048576 ≤ ky ks j' ∧ ky ks j' ≤ 1048576 from fun hh j' hj' => by
        rcases Nat.lt_or_ge j' j with d | d
        · exact HALL.out j' d
        · rw [show j' = j by omega]; exact hh)
      have HBR := Lib.hid hbr; have HBB := Lib.hid hBr
      clear hca u2 hbr hBr hb
      generalize kx ks j = X at *
      generalize ky ks j = Y at *
      by_cases a1 : X < -1048576
      · have da1 : decide (X < -1048576) = true := by simp; exact a1
        have EL2 := Lib.hid (EL.out (by omega)); clear a1
        go_wp2_with fail
        go_ret
        exact ⟨ret_int EL2.out.symm, HBB.out⟩
      have da1 : decide (X < -1048576) = false := by simp; omega
      by_cases a2 : 1048576 < X
      · have da2 : decide (1048576 < X) = true := by simp; exact a2
        have EL2 := Lib.hid (EL.out (by omega)); clear a2
        go_wp2_with fail
        go_ret
        exact ⟨ret_int EL2.out.symm, HBB.out⟩
      have da2 : decide (1048576 < X) = false := by simp; omega
      by_cases a3 : Y < -1048576
      · have da3 : decide (Y < -1048576) = true := by simp; exact a3
        have EL2 := Lib.hid (EL.out (by omega)); clear a3
        go_wp2_with fail
        go_ret
        exact ⟨ret_int EL2.out.symm, HBB.out⟩
      have da3 : decide (Y < -1048576) = false := by simp; omega
      by_cases a4 : 1048576 < Y
      · have da4 : decide (1048576 < Y) = true := by simp; exact a4
        have EL2 := Lib.hid (EL.out (by omega)); clear a4
        go_wp2_with fail
        go_ret
        exact ⟨ret_int EL2.out.symm, HBB.out⟩
      have da4 : decide (1048576 < Y) = false := by simp; omega
      have EA2 := Lib.hid (EA.out ⟨by omega, by omega⟩)
      have HBX := HBR
      go_wp2_with fail
      go_roundg (ks.length - (j + 1))
      case measure => omega
      case rel => exact ⟨j + 1, by omega, rfl, by go_num, HBX.out, EA2.out⟩
    · obtain rfl : j = ks.length := by omega
      have HE := Lib.hid (EY.out (wRg_yes HALL.out))
      have HBB := Lib.hid hBr
      clear hbr hBr
      go_wp2_with fail
      go_ret
      exact ⟨ret_int HE.out.symm, HBB.out⟩
end Go.Proofs.Ytbakgdcajpagkaa
