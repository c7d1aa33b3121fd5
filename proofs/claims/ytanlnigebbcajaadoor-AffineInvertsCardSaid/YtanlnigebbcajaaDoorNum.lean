/- Contracts of package num and of its reference: Floor, Div, Clamp on int, for a positive divisor up to 2^62. -/
import Derived.Test.YtanlnigebbcajaaDoorRows
import Derived.Test.YtanlnigebbcajaaDoorMath
import Derived.WalkKit
import Derived.WalkSpells
import Derived.WalkLawsBesides
import Derived.Lib.Hide
import Derived.Deep.QuietTactic
import Derived.BigQuiet
namespace Go.Proofs.YtanlnigebbcajaaDoor
open Go.RowKit

set_option maxHeartbeats 400000 in
theorem floor_any (a b : Int) (w : World) (ha : -4611686018427387904 ≤ a) (ha' : a ≤ 4611686018427387904) (hb : 0 < b) (hb' : b ≤ 4611686018427387904) :
    Calls Tryd.prog 52 #[.int .i64 a, .int .i64 b] w fun e w' => e = .returned (.int .i64 (a / b)) ∧ w = w' := by
  have hbn := div_bounds a b hb ha ha'
  have h0 : (b == 0) = false := by simp; omega
  by_cases hz : a.tmod b = 0
  · have e := tdiv_eq_zero a b hb hz
    have hz2 : (a.tmod b != 0) = false := by simp [hz]
    have E := Lib.hid e; clear e
    go_enter Tryd.func52, Tryd.ntmps52
    go_wp2
    all_goals (go_ret; first | exact ⟨ret_int E.out, rfl⟩ | exact ⟨rfl, rfl⟩)
  · have hz2 : (a.tmod b != 0) = true := by simp [hz]
    by_cases hn : a < 0
    · have e := tdiv_eq_neg a b hn hb hz
      have hb2 : -4611686018427387903 ≤ a.tdiv b ∧ a.tdiv b ≤ 4611686018427387905 := by omega
      have E := Lib.hid e; clear e hbn
      have hd1 : decide (a < 0) = true := by simp [hn]
      have hd2 : decide (b < 0) = false := by simp; omega
      go_enter Tryd.func52, Tryd.ntmps52
      go_wp2
      all_goals (go_ret; first | exact ⟨ret_int E.out, rfl⟩ | exact ⟨rfl, rfl⟩)
    · have e := tdiv_eq_pos a b (by omega)
      have E := Lib.hid e; clear e hbn
      go_enter Tryd.func52, Tryd.ntmps52
      go_wp2
      all_goals (go_ret; first | exact ⟨rfl, rfl⟩ | exact ⟨ret_int E.out, rfl⟩)

set_option maxHeartbeats 400000 in
theorem rfloor_any (a b : Int) (w : World) (ha : -4611686018427387904 ≤ a) (ha' : a ≤ 4611686018427387904) (hb : 0 < b) (hb' : b ≤ 4611686018427387904) :
    Calls Tryd.prog 51 #[.int .i64 a, .int .i64 b] w fun e w' => e = .returned (.int .i64 (a / b)) ∧ ∃ n, w' = w.drewN n := by
  have hbn := div_bounds a b hb ha ha'
  have h0 : (b == 0) = false := by simp; omega
  by_cases hz : a.tmod b = 0
  · have e := tdiv_eq_zero a b hb hz
    have hz2 : (a.tmod b != 0) = false := by simp [hz]
    have E := Lib.hid e; clear e
    go_enter Tryd.func51, Tryd.ntmps51
    go_wp2
    go_quiet (fail)
    go_wp2
    all_goals (go_ret; first | exact ⟨ret_int E.out, _, rfl⟩ | exact ⟨rfl, _, rfl⟩)
  · have hz2 : (a.tmod b != 0) = true := by simp [hz]
    by_cases hn : a < 0
    · have e := tdiv_eq_neg a b hn hb hz
      have hb2 : -4611686018427387903 ≤ a.tdiv b ∧ a.tdiv b ≤ 4611686018427387905 := by omega
      have E := Lib.hid e; clear e hbn
      have hd1 : decide (a.tmod b < 0) = true := by
        have := Int.tmod_nonneg (a := -a) b (by omega)
        rw [Int.neg_tmod] at this; simp; omega
      have hd2 : decide (b < 0) = false := by simp; omega
      go_enter Tryd.func51, Tryd.ntmps51
      go_wp2
      go_quiet (fail)
      go_wp2
      all_goals (go_ret; first | exact ⟨ret_int E.out, _, rfl⟩ | exact ⟨rfl, _, rfl⟩)
    · have e := tdiv_eq_pos a b (by omega)
      have E := Lib.hid e; clear e hbn
      have hm := Int.emod_nonneg a (b := b) (by omega)
      have hd1 : decide (a % b < 0) = false := by simp; omega
      have hd2 : decide (b < 0) = false := by simp; omega
      go_enter Tryd.func51, Tryd.ntmps51
      go_wp2
      go_quiet (fail)
      go_wp2
      all_goals (go_ret; first | exact ⟨rfl, _, rfl⟩ | exact ⟨ret_int E.out, _, rfl⟩)

set_option maxHeartbeats 400000 in
theorem div_any (a b : Int) (w : World) (ha : -4611686018427387904 ≤ a) (ha' : a ≤ 4611686018427387904) (hb : 0 < b) (hb' : b ≤ 4611686018427387904) :
    Calls Tryd.prog 44 #[.int .i64 a, .int .i64 b] w fun e w' => e = .returned (.int .i64 (rdiv a b)) ∧ w = w' := by
  have hbn := div_bounds a b hb ha ha'
  have h2 := div_mul a b hb
  have h0 : (b == 0) = false := by simp; omega
  by_cases c : b - (a - b * (a / b)) ≤ a - b * (a / b)
  · have E := Lib.hid (rdiv_up a b hb c)
    go_enter Tryd.func44, Tryd.ntmps44
    go_wp2_with (go_at_call 52; refine (floor_any _ _ _ (by omega) (by omega) (by omega) (by omega)).mono ?_; rintro e w' ⟨rfl, rfl⟩)
    all_goals (go_ret; first | exact ⟨ret_int E.out, rfl⟩ | exact ⟨rfl, rfl⟩)
  · have E := Lib.hid (rdiv_down a b hb (by omega))
    go_enter Tryd.func44, Tryd.ntmps44
    go_wp2_with (go_at_call 52; refine (floor_any _ _ _ (by omega) (by omega) (by omega) (by omega)).mono ?_; rintro e w' ⟨rfl, rfl⟩)
    all_goals (go_ret; first | exact ⟨ret_int E.out, rfl⟩ | exact ⟨rfl, rfl⟩)

set_option maxHeartbeats 400000 in
theorem rabs_any (a : Int) (w : World) (ha : 0 ≤ a) (ha' : a ≤ 4611686018427387904) :
    Calls Tryd.prog 55 #[.int .i64 a] w fun e w' => e = .returned (.int .u64 a) ∧ w = w' := by
  go_enter Tryd.func55, Tryd.ntmps55
  go_wp2
  go_ret
  exact ⟨rfl, rfl⟩

set_option maxHeartbeats 400000 in
theorem rdiv_any (a b : Int) (w : World) (ha : -4611686018427387904 ≤ a) (ha' : a ≤ 4611686018427387904) (hb : 0 < b) (hb' : b ≤ 4611686018427387904) :
    Calls Tryd.prog 45 #[.int .i64 a, .int .i64 b] w fun e w' => e = .returned (.int .i64 (rdiv a b)) ∧ ∃ n, w' = w.drewN n := by
  have hbn := div_bounds a b hb ha ha'
  have h2 := div_mul a b hb
  have h0 : (b == 0) = false := by simp; omega
  by_cases c : b - (a - b * (a / b)) ≤ a - b * (a / b)
  · have E := Lib.hid (rdiv_up a b hb c)
    go_enter Tryd.func45, Tryd.ntmps45
    go_wp2_with (first | (go_at_call 51; refine (rfloor_any _ _ _ (by omega) (by omega) (by omega) (by omega)).mono ?_; rintro e w' ⟨rfl, n, rfl⟩) | (go_at_call 55; refine (rabs_any _ _ (by omega) (by omega)).mono ?_; rintro e w' ⟨rfl, rfl⟩))
    all_goals (go_ret; first | exact ⟨ret_int E.out, _, rfl⟩ | exact ⟨rfl, _, rfl⟩)
  · have E := Lib.hid (rdiv_down a b hb (by omega))
    go_enter Tryd.func45, Tryd.ntmps45
    go_wp2_with (first | (go_at_call 51; refine (rfloor_any _ _ _ (by omega) (by omega) (by omega) (by omega)).mono ?_; rintro e w' ⟨rfl, n, rfl⟩) | (go_at_call 55; refine (rabs_any _ _ (by omega) (by omega)).mono ?_; rintro e w' ⟨rfl, rfl⟩))
    all_goals (go_ret; first | exact ⟨ret_int E.out, _, rfl⟩ | exact ⟨rfl, _, rfl⟩)

set_option maxHeartbeats 400000 in
theorem clamp_any (x lo hi : Int) (w : World) :
    Calls Tryd.prog 38 #[.int .i64 x, .int .i64 lo, .int .i64 hi] w fun e w' => e = .returned (.int .i64 (min hi (max x lo))) ∧ w = w' := by
  go_enter Tryd.func38, Tryd.ntmps38
  go_wp2
  all_goals (go_ret; exact ⟨ret_int (by omega), rfl⟩)
set_option maxHeartbeats 400000 in
theorem rclamp_any (x lo hi : Int) (w : World) :
    Calls Tryd.prog 39 #[.int .i64 x, .int .i64 lo, .int .i64 hi] w fun e w' => e = .returned (.int .i64 (min hi (max x lo))) ∧ w = w' := by
  go_enter Tryd.func39, Tryd.ntmps39
  go_wp2
  all_goals (go_ret; exact ⟨ret_int (by omega), rfl⟩)
end Go.Proofs.YtanlnigebbcajaaDoor
