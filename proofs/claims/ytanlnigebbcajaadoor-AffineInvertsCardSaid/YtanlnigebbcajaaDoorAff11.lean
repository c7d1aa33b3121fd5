/- Contracts: Div with a divisor of either sign; rect.Valid and rect.Empty; affine.within. -/
import Derived.Test.YtanlnigebbcajaaDoorAff1
namespace Go.Proofs.YtanlnigebbcajaaDoor
open Go.RowKit
attribute [local go_sem 2000] run_max2m run_min2m
set_option maxHeartbeats 400000 in
theorem floor_neg (a b : Int) (w : World) (ha : -4611686018427387904 ≤ a) (ha' : a ≤ 4611686018427387904) (hb : b < 0) (hb' : -4611686018427387904 ≤ b) :
    Calls Tryd.prog 52 #[.int .i64 a, .int .i64 b] w fun e w' => e = .returned (.int .i64 (-a / -b)) ∧ w = w' := by
  have hbn := div_bounds (-a) (-b) (by omega) (by omega) (by omega)
  have h0 : (b == 0) = false := by simp; omega
  have hmn : (a == -9223372036854775808) = false := by simp; omega
  have em : a.tmod b = -((-a).tmod (-b)) := by rw [Int.neg_tmod, Int.tmod_neg, Int.neg_neg]
  have ed : a.tdiv b = (-a).tdiv (-b) := by rw [Int.neg_tdiv, Int.tdiv_neg, Int.neg_neg]
  by_cases hz : (-a).tmod (-b) = 0
  · have e := tdiv_eq_zero (-a) (-b) (by omega) hz
    have hz2 : (a.tmod b != 0) = false := by rw [em, hz]; rfl
    rw [← ed] at e
    have E := Lib.hid e
    have hb2 : -4611686018427387905 ≤ a.tdiv b ∧ a.tdiv b ≤ 4611686018427387905 := by omega
    clear e em ed hz hbn
    generalize -a / -b = R at *
    go_enter Tryd.func52, Tryd.ntmps52
    go_wp2
    all_goals (go_ret; first | exact ⟨ret_int E.out, rfl⟩ | exact ⟨rfl, rfl⟩)
  · have hz2 : (a.tmod b != 0) = true := by rw [em]; simp; omega
    have hz3 : ¬ a.tmod b = 0 := by rw [em]; omega
    have hb1 : ¬ b = -1 := by intro e; subst e; exact hz (Int.tmod_one _)
    have hb3 : (b == -1) = false := by rw [beq_eq_false_iff_ne]; exact hb1
    by_cases hn : 0 < a
    · have e := tdiv_eq_neg (-a) (-b) (by omega) (by omega) hz
      rw [← ed] at e
      have hb2 : -4611686018427387903 ≤ a.tdiv b ∧ a.tdiv b ≤ 4611686018427387905 := by omega
      have E := Lib.hid e
      have hd1 : decide (a < 0) = false := by simp; omega
      have hz4 : ¬ a % b = 0 := by rw [← Int.tmod_eq_emod_of_nonneg (by omega)]; exact hz3
      have hz5 : (a % b != 0) = true := by simp [hz4]
      have hd2 : decide (b < 0) = true := by simp; omega
      clear e em ed hz hbn
      generalize -a / -b = R at *
      go_enter Tryd.func52, Tryd.ntmps52
      go_wp2
      all_goals (go_ret; first | exact ⟨ret_int E.out, rfl⟩ | exact ⟨rfl, rfl⟩)
    · have ha0 : a < 0 := by
        rcases Int.lt_or_eq_of_le (show a ≤ 0 by omega) with c | c
        · exact c
        · subst c; exact absurd (by simp) hz
      have e := tdiv_eq_pos (-a) (-b) (by omega)
      rw [← ed] at e
      have E := Lib.hid e
      have hb2 : -4611686018427387905 ≤ a.tdiv b ∧ a.tdiv b ≤ 4611686018427387905 := by omega
      have hd1 : decide (a < 0) = true := by simp; omega
      have hd2 : decide (b < 0) = true := by simp; omega
      clear e em ed hz hbn
      generalize -a / -b = R at *
      go_enter Tryd.func52, Tryd.ntmps52
      go_wp2
      all_goals (go_ret; first | exact ⟨ret_int E.out, rfl⟩ | exact ⟨rfl, rfl⟩)
set_option maxHeartbeats 400000 in
theorem div_neg (a b : Int) (w : World) (ha : -4611686018427387904 ≤ a) (ha' : a ≤ 4611686018427387904) (hb : b < 0) (hb' : -4611686018427387904 ≤ b) :
    Calls Tryd.prog 44 #[.int .i64 a, .int .i64 b] w fun e w' => e = .returned (.int .i64 (rdiv (-a) (-b))) ∧ w = w' := by
  have hbn := div_bounds (-a) (-b) (by omega) (by omega) (by omega)
  have h2 := div_mul (-a) (-b) (by omega)
  have h0 : (b == 0) = false := by simp; omega
  have hmn : (a == -9223372036854775808) = false := by simp; omega
  have en : -b * (-a / -b) = -(b * (-a / -b)) := by grind
  have FL := Lib.hid (fun w => floor_neg a b w ha ha' hb hb')
  by_cases c : -b - (-a - -b * (-a / -b)) ≤ -a - -b * (-a / -b)
  · have E := Lib.hid (rdiv_up (-a) (-b) (by omega) c)
    rw [en] at c h2
    have d1 : decide (b > 0) = false := by simp; omega
    have d2 : decide (b < 0) = true := by simp; omega
    clear en
    generalize rdiv (-a) (-b) = R at *
    generalize -a / -b = Q at *
    have d3 : decide (a - b * Q ≤ b - (a - b * Q)) = true := by simp; omega
    go_enter Tryd.func44, Tryd.ntmps44
    go_wp2_with (go_at_call 52; refine (FL.out _).mono ?_; rintro e w' ⟨rfl, rfl⟩)
    all_goals (go_ret; first | exact ⟨ret_int E.out, rfl⟩ | exact ⟨rfl, rfl⟩)
  · have E := Lib.hid (rdiv_down (-a) (-b) (by omega) (by omega))
    rw [en] at c h2
    have d1 : decide (b > 0) = false := by simp; omega
    have d2 : decide (b < 0) = true := by simp; omega
    clear en
    generalize rdiv (-a) (-b) = R at *
    generalize -a / -b = Q at *
    have d3 : decide (a - b * Q ≤ b - (a - b * Q)) = false := by simp; omega
    go_enter Tryd.func44, Tryd.ntmps44
    go_wp2_with (go_at_call 52; refine (FL.out _).mono ?_; rintro e w' ⟨rfl, rfl⟩)
    all_goals (go_ret; first | exact ⟨ret_int E.out, rfl⟩ | exact ⟨rfl, rfl⟩)
theorem box4_on (w : World) (x y p q : Int) {w4 : World} (hb : Below (w.alloc (.cells #[.int .i64 x, .int .i64 y, .int .i64 p, .int .i64 q] 38)).heap.size (w.alloc (.cells #[.int .i64 x, .int .i64 y, .int .i64 p, .int .i64 q] 38)) w4) : w4.cell? ⟨w.heap.size, 0, none⟩ = some (.int .i64 x) ∧ w4.cell? ⟨w.heap.size, 1, none⟩ = some (.int .i64 y) ∧ w4.cell? ⟨w.heap.size, 2, none⟩ = some (.int .i64 p) ∧ w4.cell? ⟨w.heap.size, 3, none⟩ = some (.int .i64 q) := by
  refine ⟨?_, ?_, ?_, ?_⟩ <;> (rw [hb.cell (by simp)]; simp)
theorem sdiv_any (a b : Int) (w : World) (ha : -4611686018427387904 ≤ a) (ha' : a ≤ 4611686018427387904) (h0 : b ≠ 0) (hb : -4611686018427387904 ≤ b) (hb' : b ≤ 4611686018427387904) :
    Calls Tryd.prog 44 #[.int .i64 a, .int .i64 b] w fun e w' => e = .returned (.int .i64 (sdiv a b)) ∧ w = w' := by
  unfold sdiv
  by_cases h : 0 < b
  · rw [if_pos h]; exact div_any a b w ha ha' h hb'
  · rw [if_neg h]; exact div_neg a b w ha ha' (by omega) hb
/-- A side of a rectangle. -/
def sideOk (x w : Int) : Bool := decide ((-1048576 ≤ x ∧ x ≤ 1048576) ∧ 0 ≤ w ∧ w ≤ 1048576 - x)
set_option maxHeartbeats 400000 in
theorem span_any (x y : Int) (w : World) : Calls Tryd.prog 56 #[.int .i64 x, .int .i64 y] w fun e w' => e = .returned (.bool (sideOk x y)) ∧ w = w' := by
  rcases (show x < -1048576 ∨ (-1048576 ≤ x ∧ 1048576 < x) ∨ (-1048576 ≤ x ∧ x ≤ 1048576 ∧ y < 0) ∨ (-1048576 ≤ x ∧ x ≤ 1048576 ∧ 0 ≤ y ∧ 1048576 - x < y) ∨ (-1048576 ≤ x ∧ x ≤ 1048576 ∧ 0 ≤ y ∧ y ≤ 1048576 - x) by omega) with h | ⟨h1, h⟩ | ⟨h1, h2, h⟩ | ⟨h1, h2, h3, h⟩ | ⟨h1, h2, h3, h⟩
  · have E := Lib.hid (show sideOk x y = false by unfold sideOk; simp; omega)
    go_enter Tryd.func56, Tryd.ntmps56
    go_wp2
    go_ret
    first | exact ⟨ret_bool E.out.symm, rfl⟩ | exact ⟨ret_bool (by rw [E.out]; simp; omega), rfl⟩
  · have E := Lib.hid (show sideOk x y = false by unfold sideOk; simp; omega)
    go_enter Tryd.func56, Tryd.ntmps56
    go_wp2
    go_ret
    first | exact ⟨ret_bool E.out.symm, rfl⟩ | exact ⟨ret_bool (by rw [E.out]; simp; omega), rfl⟩
  · have E := Lib.hid (show sideOk x y = false by unfold sideOk; simp; omega)
    go_enter Tryd.func56, Tryd.ntmps56
    go_wp2
    go_ret
    first | exact ⟨ret_bool E.out.symm, rfl⟩ | exact ⟨ret_bool (by rw [E.out]; simp; omega), rfl⟩
  · have E := Lib.hid (show sideOk x y = false by unfold sideOk; simp; omega)
    go_enter Tryd.func56, Tryd.ntmps56
    go_wp2
    go_ret
    first | exact ⟨ret_bool E.out.symm, rfl⟩ | exact ⟨ret_bool (by rw [E.out]; simp; omega), rfl⟩
  · have E := Lib.hid (show sideOk x y = true by unfold sideOk; simp; omega)
    go_enter Tryd.func56, Tryd.ntmps56
    go_wp2
    go_ret
    first | exact ⟨ret_bool E.out.symm, rfl⟩ | exact ⟨ret_bool (by rw [E.out]; simp; omega), rfl⟩
set_option maxHeartbeats 400000 in
theorem valid_any (x y p q : Int) (w : World) : Calls Tryd.prog 46 #[.agg #[.int .i64 x, .int .i64 y, .int .i64 p, .int .i64 q]] w fun e w' => e = .returned (.bool (sideOk x p && sideOk y q)) ∧ Below w.heap.size w w' := by
  have S1 := Lib.hid (span_any x p); have S2 := Lib.hid (span_any y q)
  cases h : sideOk x p
  all_goals
    rw [h] at S1
    generalize sideOk y q = B at *
    go_enter Tryd.func46, Tryd.ntmps46
    go_wp2_with ((go_at_call 56; (first | with_reducible refine (S1.out _).mono ?_ | with_reducible refine (S2.out _).mono ?_); rintro e w4 ⟨rfl, rfl⟩))
    go_ret
    exact ⟨rfl, bel_alloc (Below.refl _ _) _⟩
set_option maxHeartbeats 400000 in
theorem empty_any (x y p q : Int) (w : World) (hv : (sideOk x p && sideOk y q) = true) : Calls Tryd.prog 47 #[.agg #[.int .i64 x, .int .i64 y, .int .i64 p, .int .i64 q]] w fun e w' => e = .returned (.bool (p == 0 || q == 0)) ∧ Below w.heap.size w w' := by
  have S := Lib.hid (valid_any x y p q)
  rw [hv] at S
  clear hv
  cases h : (p == 0)
  all_goals
    generalize hq : (q == 0) = B
    have t1 := h; have t2 := hq
    go_enter Tryd.func47, Tryd.ntmps47
    go_wp2_with fail
    refine (S.out _).mono ?_
    rintro e w4 ⟨rfl, hb⟩
    have K := Lib.hid (box4_on w x y p q hb)
    obtain ⟨c0, c1, c2, c3⟩ := K.out
    go_wp2_with fail
    go_ret
    exact ⟨rfl, bel_trans (bel_alloc (Below.refl _ _) _) hb⟩
end Go.Proofs.YtanlnigebbcajaaDoor
