/- Images are compared: the law's same, the reference's Same, slices.Equal, raster.Same. -/
import Derived.Test.YtllmckapiplpcaaRas2
namespace Go.Proofs.Ytllmckapiplpcaa
open Go.RowKit

theorem Px.ext' {a b : Px} (h : a.r = b.r ∧ a.g = b.g ∧ a.b = b.b ∧ a.a = b.a) : a = b := by
  obtain ⟨h1, h2, h3, h4⟩ := h
  cases a; cases b; simp_all
instance : DecidableEq Px := fun a b => decidable_of_iff (a.r = b.r ∧ a.g = b.g ∧ a.b = b.b ∧ a.a = b.a) ⟨Px.ext', fun h => by subst h; exact ⟨rfl, rfl, rfl, rfl⟩⟩
theorem px_ne {a b : Px} (h : a ≠ b) : (a.r == b.r) = false ∨ ((a.r == b.r) = true ∧ (a.g == b.g) = false) ∨ ((a.r == b.r) = true ∧ (a.g == b.g) = true ∧ (a.b == b.b) = false) ∨ ((a.r == b.r) = true ∧ (a.g == b.g) = true ∧ (a.b == b.b) = true ∧ (a.a == b.a) = false) := by
  by_cases h1 : a.r = b.r
  · by_cases h2 : a.g = b.g
    · by_cases h3 : a.b = b.b
      · by_cases h4 : a.a = b.a
        · exact absurd (Px.ext' ⟨h1, h2, h3, h4⟩) h
        · simp [h1, h2, h3, h4]
      · simp [h1, h2, h3]
    · simp [h1, h2]
  · simp [h1]
def ISameRel (xs ys : List Px) (w : World) (g : Nat) (i : Value) (wr : World) : Prop :=
  ∃ k : Nat, k ≤ xs.length ∧ g = xs.length - k ∧ i = .int .i64 k ∧ (∀ j, j < k → pat xs j = pat ys j) ∧ ∃ m, wr = w.drewN m
theorem pxs_eq_of {xs ys : List Px} (hl : xs.length = ys.length) (h : ∀ j, j < xs.length → pat xs j = pat ys j) : xs = ys := by
  apply List.ext_getElem hl
  intro i h1 h2
  have := h i h1
  simpa [pat, h1, h2] using this

set_option maxHeartbeats 4000000 in
theorem isame_any (W H W' H' : Int) (v1 v2 : Value) (xs ys : List Px) (w : World) (h1 : Pixs w w.heap.size v1 xs) (h2 : Pixs w w.heap.size v2 ys) :
    Calls Try.prog 20 #[.agg #[.int .i64 W, .int .i64 H, v1], .agg #[.int .i64 W', .int .i64 H', v2]] w
      fun e w' => e = .returned (.bool (decide (W = W' ∧ H = H' ∧ xs = ys))) ∧ Below w.heap.size w w' := by
  obtain ⟨A1, c1, rfl, l1, r1⟩ := h1
  obtain ⟨A2, c2, rfl, l2, r2⟩ := h2
  have R1 := Lib.hid r1; clear r1
  have R2 := Lib.hid r2; clear r2
  obtain ⟨hb1, hb2, hB⟩ := two_boxes w #[.int .i64 W, .int .i64 H, .slice A1 xs.length c1] #[.int .i64 W', .int .i64 H', .slice A2 ys.length c2] 24 24 _ rfl
  have HB1 := Lib.hid hb1; have HB2 := Lib.hid hb2; have HBW := Lib.hid hB; clear hb1 hb2 hB
  by_cases hne : W = W' ∧ H = H' ∧ xs.length = ys.length
  rotate_left
  · rcases (show (W != W') = true ∨ ((W != W') = false ∧ (H != H') = true) ∨ ((W != W') = false ∧ (H != H') = false ∧ ((xs.length : Int) != ys.length) = true) by
      by_cases e1 : W = W'
      · by_cases e2 : H = H'
        · right; right
          refine ⟨by simp [e1], by simp [e2], ?_⟩
          simp only [bne_iff_ne]
          intro e; exact hne ⟨e1, e2, by omega⟩
        · right; left; simp [e1, e2]
      · left; simp [e1]) with t1 | ⟨t1, t2⟩ | ⟨t1, t2, t3⟩
    all_goals
      have HNE := Lib.hid hne
      clear hne
      go_enter Try.func20, Try.ntmps20
      go_wp2_with fail
      go_ret
      refine ⟨ret_bool ?_, HBW.out⟩
      symm
      rw [decide_eq_false_iff_not]
      intro e
      exact HNE.out ⟨e.1, e.2.1, by rw [e.2.2]⟩
  · obtain ⟨rfl, rfl, hl⟩ := hne
    have t3 : ((xs.length : Int) != ys.length) = false := by simp [hl]
    have HL := Lib.hid hl; clear hl
    go_enter Try.func20, Try.ntmps20
    go_wp2_with fail
    generalize World.alloc (w.alloc _) _ = w0 at *
    go_loopg [30] xs.length (ISameRel xs ys w0)
    case atStart => exact ⟨0, Nat.zero_le _, rfl, rfl, fun j hj => absurd hj (by omega), 0, rfl⟩
    case round =>
      obtain ⟨k, hk, rfl, rfl, hj, m, rfl⟩ := hrel
      have HJ := Lib.hid hj; clear hj
      obtain ⟨⟨b1, b2, b3⟩, _, _, _⟩ := HB1.out.three
      obtain ⟨⟨d1, d2, d3⟩, _, _, _⟩ := HB2.out.three
      by_cases hlt : k < xs.length
      · obtain ⟨b, o, rfl, hb, p1, p2, p3, p4⟩ := R1.out k hlt
        have hlt2 : k < ys.length := by have := HL.out; omega
        obtain ⟨b', o', rfl, hb', q1, q2, q3, q4⟩ := R2.out k hlt2
        replace p1 := (HBW.out.cell (p := ⟨b, o + k * 4, none⟩) hb).trans p1
        replace p2 := (HBW.out.cell (p := ⟨b, o + k * 4 + 1, none⟩) hb).trans p2
        replace p3 := (HBW.out.cell (p := ⟨b, o + k * 4 + 2, none⟩) hb).trans p3
        replace p4 := (HBW.out.cell (p := ⟨b, o + k * 4 + 3, none⟩) hb).trans p4
        replace q1 := (HBW.out.cell (p := ⟨b', o' + k * 4, none⟩) hb').trans q1
        replace q2 := (HBW.out.cell (p := ⟨b', o' + k * 4 + 1, none⟩) hb').trans q2
        replace q3 := (HBW.out.cell (p := ⟨b', o' + k * 4 + 2, none⟩) hb').trans q3
        replace q4 := (HBW.out.cell (p := ⟨b', o' + k * 4 + 3, none⟩) hb').trans q4
        clear hb hb'
        have hk0 : (0 : Int) ≤ (k : Int) := by omega
        have hk1 : (k : Int) < (xs.length : Int) := by omega
        have hk2 : (k : Int) < (ys.length : Int) := by omega
        generalize hx : pat xs k = x at *
        generalize hy : pat ys k = y at *
        have HX := Lib.hid hx; clear hx
        have HY := Lib.hid hy; clear hy
        by_cases hxy : x = y
        · subst hxy
          go_wp2_with fail
          go_quiet (fail)
          go_wp2_with fail
          go_roundg (xs.length - (k + 1))
          case measure => omega
          case rel =>
            refine ⟨k + 1, by omega, rfl, by go_num, fun j hj => ?_, _, rfl⟩
            by_cases e : j = k
            · subst e; rw [HX.out, HY.out]
            · exact HJ.out j (by omega)
        · have HXY := Lib.hid hxy
          rcases px_ne hxy with t1 | ⟨t1, t2⟩ | ⟨t1, t2, t3⟩ | ⟨t1, t2, t3, t4⟩
          all_goals
            clear hxy
            go_wp2_with fail
            go_quiet (fail)
            go_wp2_with fail
            go_ret
            refine ⟨ret_bool ?_, Below.drewN' (Below.drewN' HBW.out _) _⟩
            symm
            rw [decide_eq_false_iff_not]
            intro e
            exact HXY.out (HX.out.symm.trans ((congrArg (fun l => pat l k) e.2.2).trans HY.out))
      · go_wp2_with fail
        go_ret
        refine ⟨ret_bool ?_, Below.drewN' HBW.out _⟩
        symm
        rw [decide_eq_true_eq]
        exact ⟨by trivial, by trivial, pxs_eq_of HL.out fun j hj => HJ.out j (by omega)⟩
set_option maxHeartbeats 4000000 in
theorem rsame_any (W H W' H' : Int) (v1 v2 : Value) (xs ys : List Px) (w : World) (h1 : Pixs w w.heap.size v1 xs) (h2 : Pixs w w.heap.size v2 ys) :
    Calls Try.prog 26 #[.agg #[.int .i64 W, .int .i64 H, v1], .agg #[.int .i64 W', .int .i64 H', v2]] w
      fun e w' => e = .returned (.bool (decide (W = W' ∧ H = H' ∧ xs = ys))) ∧ Below w.heap.size w w' := by
  obtain ⟨A1, c1, rfl, l1, r1⟩ := h1
  obtain ⟨A2, c2, rfl, l2, r2⟩ := h2
  have R1 := Lib.hid r1; clear r1
  have R2 := Lib.hid r2; clear r2
  obtain ⟨hb1, hb2, hB⟩ := two_boxes w #[.int .i64 W, .int .i64 H, .slice A1 xs.length c1] #[.int .i64 W', .int .i64 H', .slice A2 ys.length c2] 24 24 _ rfl
  have HB1 := Lib.hid hb1; have HB2 := Lib.hid hb2; have HBW := Lib.hid hB; clear hb1 hb2 hB
  by_cases hne : W = W' ∧ H = H' ∧ xs.length = ys.length
  rotate_left
  · rcases (show (W != W') = true ∨ ((W != W') = false ∧ (H != H') = true) ∨ ((W != W') = false ∧ (H != H') = false ∧ ((xs.length : Int) != ys.length) = true) by
      by_cases e1 : W = W'
      · by_cases e2 : H = H'
        · right; right
          refine ⟨by simp [e1], by simp [e2], ?_⟩
          simp only [bne_iff_ne]
          intro e; exact hne ⟨e1, e2, by omega⟩
        · right; left; simp [e1, e2]
      · left; simp [e1]) with t1 | ⟨t1, t2⟩ | ⟨t1, t2, t3⟩
    all_goals
      have HNE := Lib.hid hne
      clear hne
      go_enter Try.func26, Try.ntmps26
      go_wp2_with fail
      go_ret
      refine ⟨ret_bool ?_, HBW.out⟩
      symm
      rw [decide_eq_false_iff_not]
      intro e
      exact HNE.out ⟨e.1, e.2.1, by rw [e.2.2]⟩
  · obtain ⟨rfl, rfl, hl⟩ := hne
    have t3 : ((xs.length : Int) != ys.length) = false := by simp [hl]
    have HL := Lib.hid hl; clear hl
    go_enter Try.func26, Try.ntmps26
    go_wp2_with fail
    generalize World.alloc (w.alloc _) _ = w0 at *
    go_loopg [5] xs.length (ISameRel xs ys w0)
    case atStart => exact ⟨0, Nat.zero_le _, rfl, rfl, fun j hj => absurd hj (by omega), 0, rfl⟩
    case round =>
      obtain ⟨k, hk, rfl, rfl, hj, m, rfl⟩ := hrel
      have HJ := Lib.hid hj; clear hj
      obtain ⟨⟨b1, b2, b3⟩, _, _, _⟩ := HB1.out.three
      obtain ⟨⟨d1, d2, d3⟩, _, _, _⟩ := HB2.out.three
      by_cases hlt : k < xs.length
      · obtain ⟨b, o, rfl, hb, p1, p2, p3, p4⟩ := R1.out k hlt
        have hlt2 : k < ys.length := by have := HL.out; omega
        obtain ⟨b', o', rfl, hb', q1, q2, q3, q4⟩ := R2.out k hlt2
        replace p1 := (HBW.out.cell (p := ⟨b, o + k * 4, none⟩) hb).trans p1
        replace p2 := (HBW.out.cell (p := ⟨b, o + k * 4 + 1, none⟩) hb).trans p2
        replace p3 := (HBW.out.cell (p := ⟨b, o + k * 4 + 2, none⟩) hb).trans p3
        replace p4 := (HBW.out.cell (p := ⟨b, o + k * 4 + 3, none⟩) hb).trans p4
        replace q1 := (HBW.out.cell (p := ⟨b', o' + k * 4, none⟩) hb').trans q1
        replace q2 := (HBW.out.cell (p := ⟨b', o' + k * 4 + 1, none⟩) hb').trans q2
        replace q3 := (HBW.out.cell (p := ⟨b', o' + k * 4 + 2, none⟩) hb').trans q3
        replace q4 := (HBW.out.cell (p := ⟨b', o' + k * 4 + 3, none⟩) hb').trans q4
        clear hb hb'
        have hk0 : (0 : Int) ≤ (k : Int) := by omega
        have hk1 : (k : Int) < (xs.length : Int) := by omega
        have hk2 : (k : Int) < (ys.length : Int) := by omega
        generalize hx : pat xs k = x at *
        generalize hy : pat ys k = y at *
        have HX := Lib.hid hx; clear hx
        have HY := Lib.hid hy; clear hy
        by_cases hxy : x = y
        · subst hxy
          go_wp2_with fail
          go_quiet (fail)
          go_wp2_with fail
          go_roundg (xs.length - (k + 1))
          case measure => omega
          case rel =>
            refine ⟨k + 1, by omega, rfl, by go_num, fun j hj => ?_, _, rfl⟩
            by_cases e : j = k
            · subst e; rw [HX.out, HY.out]
            · exact HJ.out j (by omega)
        · have HXY := Lib.hid hxy
          rcases px_ne hxy with t1 | ⟨t1, t2⟩ | ⟨t1, t2, t3⟩ | ⟨t1, t2, t3, t4⟩
          all_goals
            clear hxy
            go_wp2_with fail
            go_quiet (fail)
            go_wp2_with fail
            go_ret
            refine ⟨ret_bool ?_, Below.drewN' (Below.drewN' HBW.out _) _⟩
            symm
            rw [decide_eq_false_iff_not]
            intro e
            exact HXY.out (HX.out.symm.trans ((congrArg (fun l => pat l k) e.2.2).trans HY.out))
      · go_wp2_with fail
        go_ret
        refine ⟨ret_bool ?_, Below.drewN' HBW.out _⟩
        symm
        rw [decide_eq_true_eq]
        exact ⟨by trivial, by trivial, pxs_eq_of HL.out fun j hj => HJ.out j (by omega)⟩
set_option maxHeartbeats 4000000 in
theorem equal_any (v1 v2 : Value) (xs ys : List Px) (w : World) (h1 : Pixs w w.heap.size v1 xs) (h2 : Pixs w w.heap.size v2 ys) :
    Calls Try.prog 44 #[v1, v2] w fun e w' => e = .returned (.bool (decide (xs = ys))) ∧ Below w.heap.size w w' := by
  obtain ⟨A1, c1, rfl, l1, r1⟩ := h1
  obtain ⟨A2, c2, rfl, l2, r2⟩ := h2
  have R1 := Lib.hid r1; clear r1
  have R2 := Lib.hid r2; clear r2
  have HBW := Lib.hid (Below.refl w.heap.size w)
  by_cases hl : xs.length = ys.length
  case neg =>
    have t3 : ((xs.length : Int) != ys.length) = true := by simp only [bne_iff_ne]; omega
    have HNE := Lib.hid hl
    clear hl
    go_enter Try.func44, Try.ntmps44
    go_wp2_with fail
    go_ret
    refine ⟨ret_bool ?_, Below.refl _ _⟩
    symm
    rw [decide_eq_false_iff_not]
    intro e
    exact HNE.out (by rw [e])
  have t3 : ((xs.length : Int) != ys.length) = false := by simp [hl]
  have HL := Lib.hid hl; clear hl
  go_enter Try.func44, Try.ntmps44
  go_wp2_with fail
  go_loopg [13] xs.length (ISameRel xs ys w)
  case atStart => exact ⟨0, Nat.zero_le _, rfl, rfl, fun j hj => absurd hj (by omega), 0, rfl⟩
  case round =>
    obtain ⟨k, hk, rfl, rfl, hj, m, rfl⟩ := hrel
    have HJ := Lib.hid hj; clear hj
    skip
    by_cases hlt : k < xs.length
    · obtain ⟨b, o, rfl, hb, p1, p2, p3, p4⟩ := R1.out k hlt
      have hlt2 : k < ys.length := by have := HL.out; omega
      obtain ⟨b', o', rfl, hb', q1, q2, q3, q4⟩ := R2.out k hlt2
      replace p1 := (HBW.out.cell (p := ⟨b, o + k * 4, none⟩) hb).trans p1
      replace p2 := (HBW.out.cell (p := ⟨b, o + k * 4 + 1, none⟩) hb).trans p2
      replace p3 := (HBW.out.cell (p := ⟨b, o + k * 4 + 2, none⟩) hb).trans p3
      replace p4 := (HBW.out.cell (p := ⟨b, o + k * 4 + 3, none⟩) hb).trans p4
      replace q1 := (HBW.out.cell (p := ⟨b', o' + k * 4, none⟩) hb').trans q1
      replace q2 := (HBW.out.cell (p := ⟨b', o' + k * 4 + 1, none⟩) hb').trans q2
      replace q3 := (HBW.out.cell (p := ⟨b', o' + k * 4 + 2, none⟩) hb').trans q3
      replace q4 := (HBW.out.cell (p := ⟨b', o' + k * 4 + 3, none⟩) hb').trans q4
      clear hb hb'
      have hk0 : (0 : Int) ≤ (k : Int) := by omega
      have hk1 : (k : Int) < (xs.length : Int) := by omega
      have hk2 : (k : Int) < (ys.length : Int) := by omega
      generalize hx : pat xs k = x at *
      generalize hy : pat ys k = y at *
      have HX := Lib.hid hx; clear hx
      have HY := Lib.hid hy; clear hy
      by_cases hxy : x = y
      · subst hxy
        go_wp2_with fail
        go_quiet (fail)
        go_wp2_with fail
        go_roundg (xs.length - (k + 1))
        case measure => omega
        case rel =>
          refine ⟨k + 1, by omega, rfl, by go_num, fun j hj => ?_, _, rfl⟩
          by_cases e : j = k
          · subst e; rw [HX.out, HY.out]
          · exact HJ.out j (by omega)
      · have HXY := Lib.hid hxy
        rcases px_ne hxy with t1 | ⟨t1, t2⟩ | ⟨t1, t2, t3⟩ | ⟨t1, t2, t3, t4⟩
        all_goals
          clear hxy
          go_wp2_with fail
          go_quiet (fail)
          go_wp2_with fail
          go_ret
          refine ⟨ret_bool ?_, Below.drewN' (Below.drewN' HBW.out _) _⟩
          symm
          rw [decide_eq_false_iff_not]
          intro e
          exact HXY.out (HX.out.symm.trans ((congrArg (fun l => pat l k) e).trans HY.out))
    · go_wp2_with fail
      go_ret
      refine ⟨ret_bool ?_, Below.drewN' HBW.out _⟩
      symm
      rw [decide_eq_true_eq]
      exact pxs_eq_of HL.out fun j hj => HJ.out j (by omega)
set_option maxHeartbeats 4000000 in
theorem psame_any (W H W' H' : Int) (v1 v2 : Value) (xs ys : List Px) (w : World) (h1 : Pixs w w.heap.size v1 xs) (h2 : Pixs w w.heap.size v2 ys) :
    Calls Try.prog 25 #[.agg #[.int .i64 W, .int .i64 H, v1], .agg #[.int .i64 W', .int .i64 H', v2]] w
      fun e w' => e = .returned (.bool (decide (W = W' ∧ H = H' ∧ xs = ys))) ∧ Below w.heap.size w w' := by
  obtain ⟨hb1, hb2, hB⟩ := two_boxes w #[.int .i64 W, .int .i64 H, v1] #[.int .i64 W', .int .i64 H', v2] 24 24 _ rfl
  have HB1 := Lib.hid hb1; have HB2 := Lib.hid hb2; have HBW := Lib.hid hB; clear hb1 hb2 hB
  have HP1 := Lib.hid h1; have HP2 := Lib.hid h2; clear h1 h2
  rcases (show (W == W') = false ∨ ((W == W') = true ∧ (H == H') = false) ∨ ((W == W') = true ∧ (H == H') = true) by
      by_cases e1 : W = W'
      · by_cases e2 : H = H'
        · simp [e1, e2]
        · simp [e1, e2]
      · simp [e1]) with t1 | ⟨t1, t2⟩ | ⟨t1, t2⟩
  · go_enter Try.func25, Try.ntmps25
    go_wp2_with fail
    go_ret
    refine ⟨ret_bool ?_, HBW.out⟩
    symm
    rw [decide_eq_false_iff_not]
    intro e
    simp [e.1] at t1
  · go_enter Try.func25, Try.ntmps25
    go_wp2_with fail
    go_ret
    refine ⟨ret_bool ?_, HBW.out⟩
    symm
    rw [decide_eq_false_iff_not]
    intro e
    simp [e.2.1] at t2
  · have HE := Lib.hid (equal_any v1 v2 xs ys)
    obtain ⟨A1, c1, e1, -, -⟩ := HP1.out
    obtain ⟨A2, c2, e2, -, -⟩ := HP2.out
    have HW := Lib.hid (show W = W' by simpa using t1); have HH := Lib.hid (show H = H' by simpa using t2)
    subst e1 e2
    go_enter Try.func25, Try.ntmps25
    go_upto_region 1 with fail
    generalize World.alloc (w.alloc _) _ = w0 at *
    obtain ⟨⟨b1, b2, b3⟩, _, _, _⟩ := HB1.out.three
    obtain ⟨⟨d1, d2, d3⟩, _, _, _⟩ := HB2.out.three
    go_wp2_with fail
    refine (HE.out _ (HP1.out.on HBW.out) (HP2.out.on HBW.out)).mono ?_
    rintro e w4 ⟨rfl, hb⟩
    go_wp2_with fail
    go_ret
    refine ⟨ret_bool ?_, bel_trans HBW.out hb⟩
    rw [decide_eq_decide]
    exact ⟨fun h => ⟨HW.out, HH.out, h⟩, fun h => h.2.2⟩
end Go.Proofs.Ytllmckapiplpcaa
