/- Contracts of package kernel and of its reference. -/
import Derived.Test.YtgjhjdmchlecnaaNum
import Derived.Test.YtgjhjdmchlecnaaKernMath
namespace Go.Proofs.Ytgjhjdmchlecnaa
open Go.RowKit

set_option maxHeartbeats 400000 in
theorem cubic_any (a : Int) (w : World) (h0 : 0 ≤ a) (h1 : a ≤ 131072) :
    Calls Try.prog 18 #[.int .i64 a] w fun e w' => e = .returned (.int .i64 (cub a)) ∧ w = w' := by
  obtain ⟨b1, b2, b3, b4⟩ := sq_bounds a h0 h1
  obtain ⟨d1, d2, d3, d4, d5⟩ := cub_bounds a h0 h1
  by_cases hc : a < 65536
  · have E := Lib.hid (cubN_lo a hc)
    go_enter Try.func18, Try.ntmps18
    go_wp2_with (go_at_call 24; refine (div_any _ _ _ (by omega) (by omega) (by omega) (by omega)).mono ?_; rintro e w' ⟨rfl, rfl⟩)
    go_ret
    exact ⟨ret_int (by unfold cub; rw [E.out]), rfl⟩
  · have E := Lib.hid (cubN_hi a hc)
    go_enter Try.func18, Try.ntmps18
    go_wp2_with (go_at_call 24; refine (div_any _ _ _ (by omega) (by omega) (by omega) (by omega)).mono ?_; rintro e w' ⟨rfl, rfl⟩)
    go_ret
    exact ⟨ret_int (by unfold cub; rw [E.out]), rfl⟩

set_option maxHeartbeats 400000 in
theorem mitchell_any (a : Int) (w : World) (h0 : 0 ≤ a) (h1 : a ≤ 131072) :
    Calls Try.prog 19 #[.int .i64 a] w fun e w' => e = .returned (.int .i64 (mit a)) ∧ w = w' := by
  obtain ⟨b1, b2, b3, b4⟩ := sq_bounds a h0 h1
  obtain ⟨d1, d2, d3, d4, d5⟩ := mit_bounds a h0 h1
  by_cases hc : a < 65536
  · have E := Lib.hid (mitN_lo a hc)
    go_enter Try.func19, Try.ntmps19
    go_wp2_with (go_at_call 24; refine (div_any _ _ _ (by omega) (by omega) (by omega) (by omega)).mono ?_; rintro e w' ⟨rfl, rfl⟩)
    go_ret
    exact ⟨ret_int (by unfold mit; rw [E.out]), rfl⟩
  · have E := Lib.hid (mitN_hi a hc)
    go_enter Try.func19, Try.ntmps19
    go_wp2_with (go_at_call 24; refine (div_any _ _ _ (by omega) (by omega) (by omega) (by omega)).mono ?_; rintro e w' ⟨rfl, rfl⟩)
    go_ret
    exact ⟨ret_int (by unfold mit; rw [E.out]), rfl⟩

set_option maxHeartbeats 400000 in
theorem rcubic_any (a : Int) (w : World) (h0 : 0 ≤ a) (h1 : a ≤ 131072) :
    Calls Try.prog 20 #[.int .i64 a] w fun e w' => e = .returned (.int .i64 (cub a)) ∧ ∃ n, w' = w.drewN n := by
  obtain ⟨b1, b2, b3, b4⟩ := sq_bounds a h0 h1
  obtain ⟨d1, d2, d3, d4, d5⟩ := cub_bounds a h0 h1
  by_cases hc : a < 65536
  · have E := Lib.hid (cubN_lo a hc)
    go_enter Try.func20, Try.ntmps20
    go_wp2_with (go_at_call 27; refine (rdiv_any _ _ _ (by omega) (by omega) (by omega) (by omega)).mono ?_; rintro e w' ⟨rfl, n, rfl⟩)
    go_ret
    exact ⟨ret_int (by unfold cub; rw [E.out]), _, rfl⟩
  · have E := Lib.hid (cubN_hi a hc)
    go_enter Try.func20, Try.ntmps20
    go_wp2_with (go_at_call 27; refine (rdiv_any _ _ _ (by omega) (by omega) (by omega) (by omega)).mono ?_; rintro e w' ⟨rfl, n, rfl⟩)
    go_ret
    exact ⟨ret_int (by unfold cub; rw [E.out]; congr 1; omega), _, rfl⟩

set_option maxHeartbeats 400000 in
theorem rmitchell_any (a : Int) (w : World) (h0 : 0 ≤ a) (h1 : a ≤ 131072) :
    Calls Try.prog 21 #[.int .i64 a] w fun e w' => e = .returned (.int .i64 (mit a)) ∧ ∃ n, w' = w.drewN n := by
  obtain ⟨b1, b2, b3, b4⟩ := sq_bounds a h0 h1
  obtain ⟨d1, d2, d3, d4, d5⟩ := mit_bounds a h0 h1
  by_cases hc : a < 65536
  · have E := Lib.hid (mitN_lo a hc)
    go_enter Try.func21, Try.ntmps21
    go_wp2_with (go_at_call 27; refine (rdiv_any _ _ _ (by omega) (by omega) (by omega) (by omega)).mono ?_; rintro e w' ⟨rfl, n, rfl⟩)
    go_ret
    exact ⟨ret_int (by unfold mit; rw [E.out]), _, rfl⟩
  · have E := Lib.hid (mitN_hi a hc)
    go_enter Try.func21, Try.ntmps21
    go_wp2_with (go_at_call 27; refine (rdiv_any _ _ _ (by omega) (by omega) (by omega) (by omega)).mono ?_; rintro e w' ⟨rfl, n, rfl⟩)
    go_ret
    exact ⟨ret_int (by unfold mit; rw [E.out]; congr 1; omega), _, rfl⟩

set_option maxHeartbeats 1000000 in
theorem weight_any (kind t : Int) (w : World) :
    Calls Try.prog 12 #[.int .i64 kind, .int .i64 t] w fun e w' => e = .returned (.int .i64 (wt kind t)) ∧ w = w' := by
  by_cases hf : t ≤ -131072 ∨ 131072 ≤ t
  · have E := Lib.hid (wt_far kind t hf)
    rcases hf with hf | hf
    · go_enter Try.func12, Try.ntmps12
      go_wp2
      all_goals (go_ret; exact ⟨ret_int (by rw [E.out]), rfl⟩)
    · go_enter Try.func12, Try.ntmps12
      go_wp2
      all_goals (go_ret; exact ⟨ret_int (by rw [E.out]), rfl⟩)
  · have hl : -131072 < t := by omega
    have hr : t < 131072 := by omega
    clear hf
    by_cases hk : kind = 0 ∨ kind = 1 ∨ kind = 2 ∨ kind = 3 ∨ kind = 4
    · rcases hk with rfl | rfl | rfl | rfl | rfl
      all_goals
        go_enter Try.func12, Try.ntmps12
        go_wp2_with (first | (go_at_call 18; refine (cubic_any _ _ (by omega) (by omega)).mono ?_; rintro e w' ⟨rfl, rfl⟩) | (go_at_call 19; refine (mitchell_any _ _ (by omega) (by omega)).mono ?_; rintro e w' ⟨rfl, rfl⟩))
        all_goals (go_ret; exact ⟨ret_int (by first | exact (wt_0 t hl hr (by omega)).symm | exact (wt_0' t hl hr (by omega)).symm | (rw [wt_1 t hl hr]; omega) | (rw [wt_3 t hl hr]; split <;> omega) | (simp only [beq_iff_eq, beq_eq_false_iff_ne, ne_eq] at *; rw [wt_3 t hl hr]; split <;> (try split) <;> omega) | (rw [wt_2 t hl hr]; congr 1; omega) | (rw [wt_4 t hl hr]; congr 1; omega)), rfl⟩)
    · have E := Lib.hid (wt_none kind t (by omega) (by omega) (by omega) (by omega) (by omega))
      have k0 : (kind == 0) = false := by simp; omega
      have k1 : (kind == 1) = false := by simp; omega
      have k2 : (kind == 2) = false := by simp; omega
      have k3 : (kind == 3) = false := by simp; omega
      have k4 : (kind == 4) = false := by simp; omega
      clear hk
      go_enter Try.func12, Try.ntmps12
      go_wp2
      all_goals (go_ret; exact ⟨ret_int (by rw [E.out]), rfl⟩)

set_option maxHeartbeats 1000000 in
theorem rweight_any (kind t : Int) (w : World) :
    Calls Try.prog 13 #[.int .i64 kind, .int .i64 t] w fun e w' => e = .returned (.int .i64 (wt kind t)) ∧ ∃ n, w' = w.drewN n := by
  by_cases hf : t ≤ -131072 ∨ 131072 ≤ t
  · have E := Lib.hid (wt_far kind t hf)
    rcases hf with hf | hf
    · go_enter Try.func13, Try.ntmps13
      go_wp2
      all_goals (go_ret; exact ⟨ret_int (by rw [E.out]), by first | exact ⟨_, rfl⟩ | exact ⟨0, rfl⟩⟩)
    · go_enter Try.func13, Try.ntmps13
      go_wp2
      all_goals (go_ret; exact ⟨ret_int (by rw [E.out]), by first | exact ⟨_, rfl⟩ | exact ⟨0, rfl⟩⟩)
  · have hl : -131072 < t := by omega
    have hr : t < 131072 := by omega
    clear hf
    by_cases hk : kind = 0 ∨ kind = 1 ∨ kind = 2 ∨ kind = 3 ∨ kind = 4
    · rcases hk with rfl | rfl | rfl | rfl | rfl
      all_goals
        go_enter Try.func13, Try.ntmps13
        go_wp2_with (first | (go_at_call 20; refine (rcubic_any _ _ (by omega) (by omega)).mono ?_; rintro e w' ⟨rfl, n, rfl⟩) | (go_at_call 21; refine (rmitchell_any _ _ (by omega) (by omega)).mono ?_; rintro e w' ⟨rfl, n, rfl⟩))
        all_goals (go_ret; exact ⟨ret_int (by first | exact (wt_0 t hl hr (by omega)).symm | exact (wt_0' t hl hr (by omega)).symm | (rw [wt_1 t hl hr]; omega) | (rw [wt_3 t hl hr]; split <;> omega) | (simp only [beq_iff_eq, beq_eq_false_iff_ne, ne_eq] at *; rw [wt_3 t hl hr]; split <;> (try split) <;> omega) | (rw [wt_2 t hl hr]; congr 1; omega) | (rw [wt_4 t hl hr]; congr 1; omega)), by first | exact ⟨_, rfl⟩ | exact ⟨0, rfl⟩⟩)
    · have E := Lib.hid (wt_none kind t (by omega) (by omega) (by omega) (by omega) (by omega))
      have k0 : (kind == 0) = false := by simp; omega
      have k1 : (kind == 1) = false := by simp; omega
      have k2 : (kind == 2) = false := by simp; omega
      have k3 : (kind == 3) = false := by simp; omega
      have k4 : (kind == 4) = false := by simp; omega
      clear hk
      go_enter Try.func13, Try.ntmps13
      go_wp2
      all_goals (go_ret; exact ⟨ret_int (by rw [E.out]), by first | exact ⟨_, rfl⟩ | exact ⟨0, rfl⟩⟩)

set_option maxHeartbeats 400000 in
theorem valid_any (kind : Int) (w : World) :
    Calls Try.prog 8 #[.int .i64 kind] w fun e w' => e = .returned (.bool (vld kind)) ∧ w = w' := by
  by_cases hk : kind = 0 ∨ kind = 1 ∨ kind = 2 ∨ kind = 3 ∨ kind = 4
  · rcases hk with rfl | rfl | rfl | rfl | rfl
    all_goals
      go_enter Try.func8, Try.ntmps8
      go_wp2_with go_in
      all_goals (go_ret; exact ⟨rfl, rfl⟩)
  · have E := Lib.hid (vld_none kind (by omega) (by omega) (by omega) (by omega) (by omega))
    have k0 : (kind == 0) = false := by simp; omega
    have k1 : (kind == 1) = false := by simp; omega
    have k2 : (kind == 2) = false := by simp; omega
    have k3 : (kind == 3) = false := by simp; omega
    have k4 : (kind == 4) = false := by simp; omega
    rcases (show kind < 0 ∨ 4 < kind by omega) with hk' | hk'
    all_goals
      clear hk
      go_enter Try.func8, Try.ntmps8
      go_wp2_with go_in
      all_goals (go_ret; exact ⟨by rw [E.out]; first | rfl | exact ret_bool (by simp; omega), rfl⟩)

set_option maxHeartbeats 400000 in
theorem rvalid_any (kind : Int) (w : World) :
    Calls Try.prog 9 #[.int .i64 kind] w fun e w' => e = .returned (.bool (vld kind)) ∧ w = w' := by
  by_cases hk : kind = 0 ∨ kind = 1 ∨ kind = 2 ∨ kind = 3 ∨ kind = 4
  · rcases hk with rfl | rfl | rfl | rfl | rfl
    all_goals
      go_enter Try.func9, Try.ntmps9
      go_wp2_with go_in
      all_goals (go_ret; exact ⟨rfl, rfl⟩)
  · have E := Lib.hid (vld_none kind (by omega) (by omega) (by omega) (by omega) (by omega))
    have k0 : (kind == 0) = false := by simp; omega
    have k1 : (kind == 1) = false := by simp; omega
    have k2 : (kind == 2) = false := by simp; omega
    have k3 : (kind == 3) = false := by simp; omega
    have k4 : (kind == 4) = false := by simp; omega
    rcases (show kind < 0 ∨ 4 < kind by omega) with hk' | hk'
    all_goals
      clear hk
      go_enter Try.func9, Try.ntmps9
      go_wp2_with go_in
      all_goals (go_ret; exact ⟨by rw [E.out]; first | rfl | exact ret_bool (by simp; omega), rfl⟩)

set_option maxHeartbeats 400000 in
theorem support_any (kind : Int) (w : World) :
    Calls Try.prog 10 #[.int .i64 kind] w fun e w' => e = .returned (.int .i64 (spt kind)) ∧ w = w' := by
  by_cases hk : kind = 0 ∨ kind = 1 ∨ kind = 2 ∨ kind = 3 ∨ kind = 4
  · rcases hk with rfl | rfl | rfl | rfl | rfl
    all_goals
      go_enter Try.func10, Try.ntmps10
      go_wp2_with go_in
      all_goals (go_ret; exact ⟨rfl, rfl⟩)
  · have E := Lib.hid (spt_none kind (by omega) (by omega) (by omega) (by omega) (by omega))
    have k0 : (kind == 0) = false := by simp; omega
    have k1 : (kind == 1) = false := by simp; omega
    have k2 : (kind == 2) = false := by simp; omega
    have k3 : (kind == 3) = false := by simp; omega
    have k4 : (kind == 4) = false := by simp; omega
    rcases (show kind < 0 ∨ 4 < kind by omega) with hk' | hk'
    all_goals
      clear hk
      go_enter Try.func10, Try.ntmps10
      go_wp2_with go_in
      all_goals (go_ret; exact ⟨by rw [E.out]; first | rfl | exact ret_bool (by simp; omega), rfl⟩)

set_option maxHeartbeats 400000 in
theorem rsupport_any (kind : Int) (w : World) :
    Calls Try.prog 11 #[.int .i64 kind] w fun e w' => e = .returned (.int .i64 (spt kind)) ∧ w = w' := by
  by_cases hk : kind = 0 ∨ kind = 1 ∨ kind = 2 ∨ kind = 3 ∨ kind = 4
  · rcases hk with rfl | rfl | rfl | rfl | rfl
    all_goals
      go_enter Try.func11, Try.ntmps11
      go_wp2_with go_in
      all_goals (go_ret; exact ⟨rfl, rfl⟩)
  · have E := Lib.hid (spt_none kind (by omega) (by omega) (by omega) (by omega) (by omega))
    have k0 : (kind == 0) = false := by simp; omega
    have k1 : (kind == 1) = false := by simp; omega
    have k2 : (kind == 2) = false := by simp; omega
    have k3 : (kind == 3) = false := by simp; omega
    have k4 : (kind == 4) = false := by simp; omega
    rcases (show kind < 0 ∨ 4 < kind by omega) with hk' | hk'
    all_goals
      clear hk
      go_enter Try.func11, Try.ntmps11
      go_wp2_with go_in
      all_goals (go_ret; exact ⟨by rw [E.out]; first | rfl | exact ret_bool (by simp; omega), rfl⟩)
end Go.Proofs.Ytgjhjdmchlecnaa
