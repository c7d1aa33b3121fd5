/- counted, span, Default of adjust. -/
import Derived.Test.YtmbglkholoblaaaDoorAdjO
namespace Go.Proofs.YtmbglkholoblaaaDoor
open Go.RowKit

theorem kinds {k : Int} (h1 : 1 ≤ k) (h2 : k ≤ 11) : k = 1 ∨ k = 2 ∨ k = 3 ∨ k = 4 ∨ k = 5 ∨ k = 6 ∨ k = 7 ∨ k = 8 ∨ k = 9 ∨ k = 10 ∨ k = 11 := by omega
theorem beq_nat (n m : Nat) : ((n : Int) == (m : Int)) = decide (n = m) := by
  by_cases h : n = m
  · simp [h]
  · simp [h]; omega
set_option maxHeartbeats 4000000 in
theorem counted_any (k : Int) (h1 : 1 ≤ k) (h2 : k ≤ 11) (n : Nat) (hn : n ≤ 9223372036854775807) (w : World) : Calls Tryd.prog 41 #[.int .i64 k, .int .i64 n] w fun e w' => e = .returned (.bool (cntOk k n)) ∧ w = w' := by
  rcases kinds h1 h2 with rfl | rfl | rfl | rfl | rfl | rfl | rfl | rfl | rfl | rfl | rfl
  case inr.inr.inl =>
    have E := Lib.hid (show cntOk 3 n = decide (4 ≤ n ∧ n ≤ 16 ∧ n % 2 = 0) from rfl)
    have ht : (n : Int).tmod 2 = (n : Int) % 2 := Int.tmod_eq_emod_of_nonneg (by omega)
    by_cases a : 4 ≤ n
    · have d1 : decide ((4 : Int) ≤ (n : Int)) = true := by simp; omega
      by_cases b : n ≤ 16
      · have d2 : decide ((n : Int) ≤ 16) = true := by simp; omega
        by_cases c : n % 2 = 0
        · have d3 : ((n : Int) % 2 == 0) = true := by simp; omega
          go_enter Tryd.func41, Tryd.ntmps41
          go_wp2
          go_ret
          exact ⟨ret_bool (by rw [E.out]; simp; omega), rfl⟩
        · have d3 : ((n : Int) % 2 == 0) = false := by simp; omega
          go_enter Tryd.func41, Tryd.ntmps41
          go_wp2
          go_ret
          exact ⟨ret_bool (by rw [E.out]; simp; omega), rfl⟩
      · have d2 : decide ((n : Int) ≤ 16) = false := by simp; omega
        go_enter Tryd.func41, Tryd.ntmps41
        go_wp2
        go_ret
        exact ⟨ret_bool (by rw [E.out]; simp; omega), rfl⟩
    · have d1 : decide ((4 : Int) ≤ (n : Int)) = false := by simp; omega
      go_enter Tryd.func41, Tryd.ntmps41
      go_wp2
      go_ret
      exact ⟨ret_bool (by rw [E.out]; simp; omega), rfl⟩
  all_goals
    go_enter Tryd.func41, Tryd.ntmps41
    go_wp2
    go_ret
    exact ⟨ret_bool (beq_nat n _), rfl⟩
set_option maxHeartbeats 8000000 in
theorem span_any (k : Int) (h1 : 1 ≤ k) (h2 : k ≤ 11) (n : Nat) (hn : n ≤ 9223372036854775807) (w : World) : Calls Tryd.prog 70 #[.int .i64 k, .int .i64 n] w fun e w' => e = .returned (.tuple #[.int .i64 (spLo k n), .int .i64 (spHi k n)]) ∧ w = w' := by
  have hc : n = 0 ∨ n = 1 ∨ n = 2 ∨ 3 ≤ n := by omega
  have E := Lib.hid (show 3 ≤ n → ∀ k', (1 ≤ k' ∧ k' ≤ 11) → spLo k' n = spLo k' 3 ∧ spHi k' n = spHi k' 3 from fun h k' hk => by
    unfold spLo spHi
    have a1 : ((n : Int) = 2) = False := by simp; omega
    have a2 : ((n : Int) = 1) = False := by simp; omega
    have a3 : (0 < (n : Int)) = True := by simp; omega
    have b1 : ((3 : Int) = 2) = False := by simp
    have b2 : ((3 : Int) = 1) = False := by simp
    have b3 : (0 < (3 : Int)) = True := by simp
    simp only [a1, a2, a3, b1, b2, b3]
    exact ⟨trivial, trivial⟩)
  rcases kinds h1 h2 with rfl | rfl | rfl | rfl | rfl | rfl | rfl | rfl | rfl | rfl | rfl
  all_goals
    rcases hc with rfl | rfl | rfl | hc
    case inr.inr.inr =>
      rw [(E.out hc _ (by omega)).1, (E.out hc _ (by omega)).2]
      have d1 : ((n : Int) == 2) = false := by simp; omega
      have d2 : ((n : Int) == 1) = false := by simp; omega
      have d3 : decide (0 < (n : Int)) = true := by simp; omega
      go_enter Tryd.func70, Tryd.ntmps70
      go_wp2
      go_ret2
      exact ⟨rfl, rfl⟩
    all_goals
      go_enter Tryd.func70, Tryd.ntmps70
      go_wp2
      go_ret2
      exact ⟨rfl, rfl⟩
end Go.Proofs.YtmbglkholoblaaaDoor
