/- Rectangles: rect.Valid, rect.Empty and their references. -/
import Derived.Test.YtllmckapiplpcaaRas2
namespace Go.Proofs.Ytllmckapiplpcaa
open Go.RowKit

/-- A side of a rectangle. -/
def sideOk (x w : Int) : Bool := decide ((-1048576 ≤ x ∧ x ≤ 1048576) ∧ 0 ≤ w ∧ w ≤ 1048576 - x)
def rvalid (x y w h : Int) : Bool := sideOk x w && sideOk y h
def rempty (x y w h : Int) : Bool := !rvalid x y w h || w == 0 || h == 0
theorem rvalid_iff (x y w h : Int) : rvalid x y w h = true ↔ ((-1048576 ≤ x ∧ x ≤ 1048576) ∧ 0 ≤ w ∧ w ≤ 1048576 - x) ∧ ((-1048576 ≤ y ∧ y ≤ 1048576) ∧ 0 ≤ h ∧ h ≤ 1048576 - y) := by
  unfold rvalid sideOk; simp
theorem rvalid_no {x y w h : Int} (hn : ¬ (((-1048576 ≤ x ∧ x ≤ 1048576) ∧ 0 ≤ w ∧ w ≤ 1048576 - x) ∧ ((-1048576 ≤ y ∧ y ≤ 1048576) ∧ 0 ≤ h ∧ h ≤ 1048576 - y))) : rvalid x y w h = false := by
  rw [Bool.eq_false_iff]; exact fun e => hn ((rvalid_iff x y w h).1 e)
theorem box4 {w w4 : World} {t : TypeId} {x y p q : Value} (hb : Below (w.alloc (.cells #[x, y, p, q] t)).heap.size (w.alloc (.cells #[x, y, p, q] t)) w4) :
    w4.cell? ⟨w.heap.size, 0, none⟩ = some x ∧ w4.cell? ⟨w.heap.size, 1, none⟩ = some y ∧ w4.cell? ⟨w.heap.size, 2, none⟩ = some p ∧ w4.cell? ⟨w.heap.size, 3, none⟩ = some q := (((Bx.new w t #[x, y, p, q]).below hb).four).1
set_option maxHeartbeats 400000 in
theorem span_any (x y : Int) (w : World) : Calls Try.prog 53 #[.int .i64 x, .int .i64 y] w fun e w' => e = .returned (.bool (sideOk x y)) ∧ w = w' := by
  rcases (show x < -1048576 ∨ (-1048576 ≤ x ∧ 1048576 < x) ∨ (-1048576 ≤ x ∧ x ≤ 1048576 ∧ y < 0) ∨ (-1048576 ≤ x ∧ x ≤ 1048576 ∧ 0 ≤ y ∧ 1048576 - x < y) ∨ (-1048576 ≤ x ∧ x ≤ 1048576 ∧ 0 ≤ y ∧ y ≤ 1048576 - x) by omega) with h | h | h | h | h
  · have E := Lib.hid (show sideOk x y = false by unfold sideOk; simp; omega)
    go_enter Try.func53, Try.ntmps53
    go_wp2
    go_ret
    first | exact ⟨ret_bool E.out.symm, rfl⟩ | exact ⟨ret_bool (by rw [E.out]; simp; omega), rfl⟩
  · have E := Lib.hid (show sideOk x y = false by unfold sideOk; simp; omega)
    go_enter Try.func53, Try.ntmps53
    go_wp2
    go_ret
    first | exact ⟨ret_bool E.out.symm, rfl⟩ | exact ⟨ret_bool (by rw [E.out]; simp; omega), rfl⟩
  · have E := Lib.hid (show sideOk x y = false by unfold sideOk; simp; omega)
    go_enter Try.func53, Try.ntmps53
    go_wp2
    go_ret
    first | exact ⟨ret_bool E.out.symm, rfl⟩ | exact ⟨ret_bool (by rw [E.out]; simp; omega), rfl⟩
  · have E := Lib.hid (show sideOk x y = false by unfold sideOk; simp; omega)
    go_enter Try.func53, Try.ntmps53
    go_wp2
    go_ret
    first | exact ⟨ret_bool E.out.symm, rfl⟩ | exact ⟨ret_bool (by rw [E.out]; simp; omega), rfl⟩
  · have E := Lib.hid (show sideOk x y = true by unfold sideOk; simp; omega)
    go_enter Try.func53, Try.ntmps53
    go_wp2
    go_ret
    first | exact ⟨ret_bool E.out.symm, rfl⟩ | exact ⟨ret_bool (by rw [E.out]; simp; omega), rfl⟩
set_option maxHeartbeats 400000 in
theorem valid_any (x y p q : Int) (w : World) : Calls Try.prog 45 #[.agg #[.int .i64 x, .int .i64 y, .int .i64 p, .int .i64 q]] w fun e w' => e = .returned (.bool (rvalid x y p q)) ∧ Below w.heap.size w w' := by
  have S1 := Lib.hid (span_any x p); have S2 := Lib.hid (span_any y q)
  unfold rvalid
  cases h : sideOk x p
  all_goals
    rw [h] at S1
    generalize sideOk y q = B at *
    go_enter Try.func45, Try.ntmps45
    go_wp2_with ((go_at_call 53; (first | with_reducible refine (S1.out _).mono ?_ | with_reducible refine (S2.out _).mono ?_); rintro e w4 ⟨rfl, rfl⟩))
    go_ret
    exact ⟨rfl, bel1 _ _⟩
set_option maxHeartbeats 1000000 in
theorem empty_any (x y p q : Int) (w : World) : Calls Try.prog 46 #[.agg #[.int .i64 x, .int .i64 y, .int .i64 p, .int .i64 q]] w fun e w' => e = .returned (.bool (rempty x y p q)) ∧ Below w.heap.size w w' := by
  have S := Lib.hid (valid_any x y p q)
  unfold rempty
  cases hv : rvalid x y p q
  · rw [hv] at S
    go_enter Try.func46, Try.ntmps46
    go_wp2_with fail
    refine (S.out _).mono ?_
    rintro e w4 ⟨rfl, hb⟩
    go_wp2_with fail
    go_ret
    exact ⟨rfl, bel_trans (bel1 _ _) hb⟩
  · rw [hv] at S
    cases h : (p == 0)
    all_goals
      generalize hq : (q == 0) = B
      have t1 := h; have t2 := hq
      go_enter Try.func46, Try.ntmps46
      go_wp2_with fail
      refine (S.out _).mono ?_
      rintro e w4 ⟨rfl, hb⟩
      have K := Lib.hid (box4 hb)
      obtain ⟨c0, c1, c2, c3⟩ := K.out
      go_wp2_with fail
      go_ret
      exact ⟨rfl, bel_trans (bel1 _ _) hb⟩
set_option maxHeartbeats 1000000 in
theorem rvalid_any (x y p q : Int) (w : World) : Calls Try.prog 47 #[.agg #[.int .i64 x, .int .i64 y, .int .i64 p, .int .i64 q]] w fun e w' => e = .returned (.bool (rvalid x y p q)) ∧ Below w.heap.size w w' := by
  by_cases h0 : -1048576 ≤ x
  case neg =>
    have E := Lib.hid (rvalid_no (x := x) (y := y) (w := p) (h := q) (by omega))
    go_enter Try.func47, Try.ntmps47
    go_wp2_with fail
    go_ret
    first | exact ⟨ret_bool E.out.symm, bel1 _ _⟩ | exact ⟨ret_bool (by rw [E.out]; simp; omega), bel1 _ _⟩
  by_cases h1 : x ≤ 1048576
  case neg =>
    have E := Lib.hid (rvalid_no (x := x) (y := y) (w := p) (h := q) (by omega))
    go_enter Try.func47, Try.ntmps47
    go_wp2_with fail
    go_ret
    first | exact ⟨ret_bool E.out.symm, bel1 _ _⟩ | exact ⟨ret_bool (by rw [E.out]; simp; omega), bel1 _ _⟩
  by_cases h2 : -1048576 ≤ y
  case neg =>
    have E := Lib.hid (rvalid_no (x := x) (y := y) (w := p) (h := q) (by omega))
    go_enter Try.func47, Try.ntmps47
    go_wp2_with fail
    go_ret
    first | exact ⟨ret_bool E.out.symm, bel1 _ _⟩ | exact ⟨ret_bool (by rw [E.out]; simp; omega), bel1 _ _⟩
  by_cases h3 : y ≤ 1048576
  case neg =>
    have E := Lib.hid (rvalid_no (x := x) (y := y) (w := p) (h := q) (by omega))
    go_enter Try.func47, Try.ntmps47
    go_wp2_with fail
    go_ret
    first | exact ⟨ret_bool E.out.symm, bel1 _ _⟩ | exact ⟨ret_bool (by rw [E.out]; simp; omega), bel1 _ _⟩
  by_cases h4 : 0 ≤ p
  case neg =>
    have E := Lib.hid (rvalid_no (x := x) (y := y) (w := p) (h := q) (by omega))
    go_enter Try.func47, Try.ntmps47
    go_wp2_with fail
    go_ret
    first | exact ⟨ret_bool E.out.symm, bel1 _ _⟩ | exact ⟨ret_bool (by rw [E.out]; simp; omega), bel1 _ _⟩
  by_cases h5 : 0 ≤ q
  case neg =>
    have E := Lib.hid (rvalid_no (x := x) (y := y) (w := p) (h := q) (by omega))
    go_enter Try.func47, Try.ntmps47
    go_wp2_with fail
    go_ret
    first | exact ⟨ret_bool E.out.symm, bel1 _ _⟩ | exact ⟨ret_bool (by rw [E.out]; simp; omega), bel1 _ _⟩
  by_cases h6 : p ≤ 1048576 - x
  case neg =>
    have E := Lib.hid (rvalid_no (x := x) (y := y) (w := p) (h := q) (by omega))
    go_enter Try.func47, Try.ntmps47
    go_wp2_with fail
    go_ret
    first | exact ⟨ret_bool E.out.symm, bel1 _ _⟩ | exact ⟨ret_bool (by rw [E.out]; simp; omega), bel1 _ _⟩
  by_cases h7 : q ≤ 1048576 - y
  case neg =>
    have E := Lib.hid (rvalid_no (x := x) (y := y) (w := p) (h := q) (by omega))
    go_enter Try.func47, Try.ntmps47
    go_wp2_with fail
    go_ret
    first | exact ⟨ret_bool E.out.symm, bel1 _ _⟩ | exact ⟨ret_bool (by rw [E.out]; simp; omega), bel1 _ _⟩
  have E := Lib.hid ((rvalid_iff x y p q).2 (by omega))
  go_enter Try.func47, Try.ntmps47
  go_wp2_with fail
  go_ret
  first | exact ⟨ret_bool E.out.symm, bel1 _ _⟩ | exact ⟨ret_bool (by rw [E.out]; simp; omega), bel1 _ _⟩
set_option maxHeartbeats 1000000 in
theorem rempty_any (x y p q : Int) (w : World) : Calls Try.prog 48 #[.agg #[.int .i64 x, .int .i64 y, .int .i64 p, .int .i64 q]] w fun e w' => e = .returned (.bool (rempty x y p q)) ∧ Below w.heap.size w w' := by
  have S := Lib.hid (rvalid_any x y p q)
  unfold rempty
  cases hv : rvalid x y p q
  · rw [hv] at S
    go_enter Try.func48, Try.ntmps48
    go_wp2_with fail
    refine (S.out _).mono ?_
    rintro e w4 ⟨rfl, hb⟩
    go_wp2_with fail
    go_ret
    exact ⟨rfl, bel_trans (bel1 _ _) hb⟩
  · rw [hv] at S
    cases h : (p == 0)
    all_goals
      generalize hq : (q == 0) = B
      have t1 := h; have t2 := hq
      go_enter Try.func48, Try.ntmps48
      go_wp2_with fail
      refine (S.out _).mono ?_
      rintro e w4 ⟨rfl, hb⟩
      have K := Lib.hid (box4 hb)
      obtain ⟨c0, c1, c2, c3⟩ := K.out
      go_wp2_with fail
      go_ret
      exact ⟨rfl, bel_trans (bel1 _ _) hb⟩
end Go.Proofs.Ytllmckapiplpcaa
