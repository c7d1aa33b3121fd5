/- The reference's Valid and Empty. -/
import Derived.Test.YtanlnigebbcajaaDoorAff29
namespace Go.Proofs.YtanlnigebbcajaaDoor
open Go.RowKit
theorem bel1 (w : World) (o : Obj) : Below w.heap.size w (w.alloc o) := bel_alloc (Below.refl _ _) _
def rvalid (x y w h : Int) : Bool := sideOk x w && sideOk y h
def rempty (x y w h : Int) : Bool := !rvalid x y w h || w == 0 || h == 0
theorem rvalid_iff (x y w h : Int) : rvalid x y w h = true ↔ ((-1048576 ≤ x ∧ x ≤ 1048576) ∧ 0 ≤ w ∧ w ≤ 1048576 - x) ∧ ((-1048576 ≤ y ∧ y ≤ 1048576) ∧ 0 ≤ h ∧ h ≤ 1048576 - y) := by
  unfold rvalid sideOk; simp
theorem rvalid_no {x y w h : Int} (hn : ¬ (((-1048576 ≤ x ∧ x ≤ 1048576) ∧ 0 ≤ w ∧ w ≤ 1048576 - x) ∧ ((-1048576 ≤ y ∧ y ≤ 1048576) ∧ 0 ≤ h ∧ h ≤ 1048576 - y))) : rvalid x y w h = false := by
  rw [Bool.eq_false_iff]; exact fun e => hn ((rvalid_iff x y w h).1 e)
theorem box4r {w w4 : World} {t : TypeId} {x y p q : Value} (hb : Below (w.alloc (.cells #[x, y, p, q] t)).heap.size (w.alloc (.cells #[x, y, p, q] t)) w4) :
    w4.cell? ⟨w.heap.size, 0, none⟩ = some x ∧ w4.cell? ⟨w.heap.size, 1, none⟩ = some y ∧ w4.cell? ⟨w.heap.size, 2, none⟩ = some p ∧ w4.cell? ⟨w.heap.size, 3, none⟩ = some q := (((Bx.new w t #[x, y, p, q]).below hb).four).1
set_option maxHeartbeats 1000000 in
theorem rvalid_any (x y p q : Int) (w : World) : Calls Tryd.prog 49 #[.agg #[.int .i64 x, .int .i64 y, .int .i64 p, .int .i64 q]] w fun e w' => e = .returned (.bool (rvalid x y p q)) ∧ Below w.heap.size w w' := by
  by_cases h0 : -1048576 ≤ x
  case neg =>
    have E := Lib.hid (rvalid_no (x := x) (y := y) (w := p) (h := q) (by omega))
    go_enter Tryd.func49, Tryd.ntmps49
    go_wp2_with fail
    go_ret
    first | exact ⟨ret_bool E.out.symm, bel1 _ _⟩ | exact ⟨ret_bool (by rw [E.out]; simp; omega), bel1 _ _⟩
  by_cases h1 : x ≤ 1048576
  case neg =>
    have E := Lib.hid (rvalid_no (x := x) (y := y) (w := p) (h := q) (by omega))
    go_enter Tryd.func49, Tryd.ntmps49
    go_wp2_with fail
    go_ret
    first | exact ⟨ret_bool E.out.symm, bel1 _ _⟩ | exact ⟨ret_bool (by rw [E.out]; simp; omega), bel1 _ _⟩
  by_cases h2 : -1048576 ≤ y
  case neg =>
    have E := Lib.hid (rvalid_no (x := x) (y := y) (w := p) (h := q) (by omega))
    go_enter Tryd.func49, Tryd.ntmps49
    go_wp2_with fail
    go_ret
    first | exact ⟨ret_bool E.out.symm, bel1 _ _⟩ | exact ⟨ret_bool (by rw [E.out]; simp; omega), bel1 _ _⟩
  by_cases h3 : y ≤ 1048576
  case neg =>
    have E := Lib.hid (rvalid_no (x := x) (y := y) (w := p) (h := q) (by omega))
    go_enter Tryd.func49, Tryd.ntmps49
    go_wp2_with fail
    go_ret
    first | exact ⟨ret_bool E.out.symm, bel1 _ _⟩ | exact ⟨ret_bool (by rw [E.out]; simp; omega), bel1 _ _⟩
  by_cases h4 : 0 ≤ p
  case neg =>
    have E := Lib.hid (rvalid_no (x := x) (y := y) (w := p) (h := q) (by omega))
    go_enter Tryd.func49, Tryd.ntmps49
    go_wp2_with fail
    go_ret
    first | exact ⟨ret_bool E.out.symm, bel1 _ _⟩ | exact ⟨ret_bool (by rw [E.out]; simp; omega), bel1 _ _⟩
  by_cases h5 : 0 ≤ q
  case neg =>
    have E := Lib.hid (rvalid_no (x := x) (y := y) (w := p) (h := q) (by omega))
    go_enter Tryd.func49, Tryd.ntmps49
    go_wp2_with fail
    go_ret
    first | exact ⟨ret_bool E.out.symm, bel1 _ _⟩ | exact ⟨ret_bool (by rw [E.out]; simp; omega), bel1 _ _⟩
  by_cases h6 : p ≤ 1048576 - x
  case neg =>
    have E := Lib.hid (rvalid_no (x := x) (y := y) (w := p) (h := q) (by omega))
    go_enter Tryd.func49, Tryd.ntmps49
    go_wp2_with fail
    go_ret
    first | exact ⟨ret_bool E.out.symm, bel1 _ _⟩ | exact ⟨ret_bool (by rw [E.out]; simp; omega), bel1 _ _⟩
  by_cases h7 : q ≤ 1048576 - y
  case neg =>
    have E := Lib.hid (rvalid_no (x := x) (y := y) (w := p) (h := q) (by omega))
    go_enter Tryd.func49, Tryd.ntmps49
    go_wp2_with fail
    go_ret
    first | exact ⟨ret_bool E.out.symm, bel1 _ _⟩ | exact ⟨ret_bool (by rw [E.out]; simp; omega), bel1 _ _⟩
  have E := Lib.hid ((rvalid_iff x y p q).2 (by omega))
  go_enter Tryd.func49, Tryd.ntmps49
  go_wp2_with fail
  go_ret
  first | exact ⟨ret_bool E.out.symm, bel1 _ _⟩ | exact ⟨ret_bool (by rw [E.out]; simp; omega), bel1 _ _⟩
set_option maxHeartbeats 1000000 in
theorem rempty_any (x y p q : Int) (w : World) : Calls Tryd.prog 50 #[.agg #[.int .i64 x, .int .i64 y, .int .i64 p, .int .i64 q]] w fun e w' => e = .returned (.bool (rempty x y p q)) ∧ Below w.heap.size w w' := by
  have S := Lib.hid (rvalid_any x y p q)
  unfold rempty
  cases hv : rvalid x y p q
  · rw [hv] at S
    go_enter Tryd.func50, Tryd.ntmps50
    go_wp2_with fail
    refine (S.out _).mono ?_
    rintro e w4 ⟨rfl, hb⟩
    go_wp2_with fail
    go_ret
    exact ⟨rfl, bel_trans (bel1 _ _) hb⟩
  · rw [hv] at S
    cases h : (p == 0)
    all_goals
      generalize hq : (q == 0) = B
      have t1 := h; have t2 := hq
      go_enter Tryd.func50, Tryd.ntmps50
      go_wp2_with fail
      refine (S.out _).mono ?_
      rintro e w4 ⟨rfl, hb⟩
      have K := Lib.hid (box4r hb)
      obtain ⟨c0, c1, c2, c3⟩ := K.out
      go_wp2_with fail
      go_ret
      exact ⟨rfl, bel_trans (bel1 _ _) hb⟩
end Go.Proofs.YtanlnigebbcajaaDoor
