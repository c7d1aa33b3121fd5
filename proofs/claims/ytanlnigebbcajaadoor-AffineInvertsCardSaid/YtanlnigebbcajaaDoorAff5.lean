/- Contracts of package affine and of its reference: Same, Move, Scale. -/
import Derived.Test.YtanlnigebbcajaaDoorAff2
namespace Go.Proofs.YtanlnigebbcajaaDoor
open Go.RowKit
attribute [local go_sem 2000] run_max2m run_min2m
set_option maxHeartbeats 1000000 in
theorem same_any (w : World) : Calls Tryd.prog 16 #[] w fun z w' => z = .returned (.agg #[.int .i64 65536, .int .i64 0, .int .i64 0, .int .i64 65536, .int .i64 0, .int .i64 0]) ∧ w' = w.alloc (.cells #[.int .i64 65536, .int .i64 0, .int .i64 0, .int .i64 65536, .int .i64 0, .int .i64 0] 23) := by
  go_enter Tryd.func16, Tryd.ntmps16
  go_wp2_with fail
  refine bodyPost_ret (v := .agg #[.int .i64 65536, .int .i64 0, .int .i64 0, .int .i64 65536, .int .i64 0, .int .i64 0]) (by simp [results, Tryd.results16, go_sem]) rfl ⟨rfl, rfl⟩
set_option maxHeartbeats 1000000 in
theorem rsame_any (w : World) : Calls Tryd.prog 17 #[] w fun z w' => z = .returned (.agg #[.int .i64 65536, .int .i64 0, .int .i64 0, .int .i64 65536, .int .i64 0, .int .i64 0]) ∧ w' = w.alloc (.cells #[.int .i64 65536, .int .i64 0, .int .i64 0, .int .i64 65536, .int .i64 0, .int .i64 0] 23) := by
  go_enter Tryd.func17, Tryd.ntmps17
  go_wp2_with fail
  refine bodyPost_ret (v := .agg #[.int .i64 65536, .int .i64 0, .int .i64 0, .int .i64 65536, .int .i64 0, .int .i64 0]) (by simp [results, Tryd.results17, go_sem]) rfl ⟨rfl, rfl⟩
set_option maxHeartbeats 1000000 in
theorem scale_any (x y : Int) (w : World) : Calls Tryd.prog 20 #[.int .i64 x, .int .i64 y] w fun z w' => z = .returned (.agg #[.int .i64 (coef x), .int .i64 0, .int .i64 0, .int .i64 (coef y), .int .i64 0, .int .i64 0]) ∧ Below w.heap.size w w' := by
  go_enter Tryd.func20, Tryd.ntmps20
  go_wp2_with ((go_at_call 40; refine (factor_any _ _).mono ?_; rintro e w4 ⟨rfl, rfl⟩))
  refine bodyPost_ret (v := .agg #[.int .i64 (coef x), .int .i64 0, .int .i64 0, .int .i64 (coef y), .int .i64 0, .int .i64 0]) (by simp [results, Tryd.results20, go_sem]) rfl ⟨rfl, ?_⟩
  repeat (first | exact Below.refl _ _ | refine Below.drew ?_ | refine Below.drewN' ?_ _ | refine bel_alloc ?_ _)
set_option maxHeartbeats 1000000 in
theorem rscale_any (x y : Int) (w : World) : Calls Tryd.prog 21 #[.int .i64 x, .int .i64 y] w fun z w' => z = .returned (.agg #[.int .i64 (coef x), .int .i64 0, .int .i64 0, .int .i64 (coef y), .int .i64 0, .int .i64 0]) ∧ Below w.heap.size w w' := by
  go_enter Tryd.func21, Tryd.ntmps21
  go_wp2_with ((go_at_call 41; refine (rcoef_any _ _).mono ?_; rintro e w4 ⟨rfl, rfl⟩))
  refine bodyPost_ret (v := .agg #[.int .i64 (coef x), .int .i64 0, .int .i64 0, .int .i64 (coef y), .int .i64 0, .int .i64 0]) (by simp [results, Tryd.results21, go_sem]) rfl ⟨rfl, ?_⟩
  repeat (first | exact Below.refl _ _ | refine Below.drew ?_ | refine Below.drewN' ?_ _ | refine bel_alloc ?_ _)
theorem cl_bd (x : Int) : -1048576 ≤ min 1048576 (max x (-1048576)) ∧ min 1048576 (max x (-1048576)) ≤ 1048576 := by omega
set_option maxHeartbeats 1000000 in
theorem move_any (x y : Int) (w : World) : Calls Tryd.prog 18 #[.int .i64 x, .int .i64 y] w fun z w' => z = .returned (.agg #[.int .i64 65536, .int .i64 0, .int .i64 0, .int .i64 65536, .int .i64 (cl 1048576 x * 65536), .int .i64 (cl 1048576 y * 65536)]) ∧ Below w.heap.size w w' := by
  unfold cl
  have c1 := cl_bd x; have c2 := cl_bd y
  have C1 := Lib.hid (clamp_any x (-1048576) 1048576); have C2 := Lib.hid (clamp_any y (-1048576) 1048576)
  generalize min 1048576 (max x (-1048576)) = X at *
  generalize min 1048576 (max y (-1048576)) = Y at *
  go_enter Tryd.func18, Tryd.ntmps18
  go_wp2_with (first | (go_at_call 38; (first | with_reducible refine (C1.out _).mono ?_ | with_reducible refine (C2.out _).mono ?_); rintro e w4 ⟨rfl, rfl⟩) | (go_at_call 16; refine (same_any _).mono ?_; rintro e w4 ⟨rfl, rfl⟩))
  refine bodyPost_ret (v := .agg #[.int .i64 65536, .int .i64 0, .int .i64 0, .int .i64 65536, .int .i64 (X * 65536), .int .i64 (Y * 65536)]) (by simp [results, Tryd.results18, go_sem]) rfl ⟨rfl, ?_⟩
  repeat (first | exact Below.refl _ _ | refine Below.drew ?_ | refine Below.drewN' ?_ _ | refine bel_alloc ?_ _)
set_option maxHeartbeats 1000000 in
theorem rmove_any (x y : Int) (w : World) : Calls Tryd.prog 19 #[.int .i64 x, .int .i64 y] w fun z w' => z = .returned (.agg #[.int .i64 65536, .int .i64 0, .int .i64 0, .int .i64 65536, .int .i64 (cl 1048576 x * 65536), .int .i64 (cl 1048576 y * 65536)]) ∧ Below w.heap.size w w' := by
  unfold cl
  have c1 := cl_bd x; have c2 := cl_bd y
  have C1 := Lib.hid (rclamp_any x (-1048576) 1048576); have C2 := Lib.hid (rclamp_any y (-1048576) 1048576)
  generalize min 1048576 (max x (-1048576)) = X at *
  generalize min 1048576 (max y (-1048576)) = Y at *
  go_enter Tryd.func19, Tryd.ntmps19
  go_wp2_with (first | (go_at_call 39; (first | with_reducible refine (C1.out _).mono ?_ | with_reducible refine (C2.out _).mono ?_); rintro e w4 ⟨rfl, rfl⟩) | (go_at_call 17; refine (rsame_any _).mono ?_; rintro e w4 ⟨rfl, rfl⟩))
  refine bodyPost_ret (v := .agg #[.int .i64 65536, .int .i64 0, .int .i64 0, .int .i64 65536, .int .i64 (X * 65536), .int .i64 (Y * 65536)]) (by simp [results, Tryd.results19, go_sem]) rfl ⟨rfl, ?_⟩
  repeat (first | exact Below.refl _ _ | refine Below.drew ?_ | refine Below.drewN' ?_ _ | refine bel_alloc ?_ _)
end Go.Proofs.YtanlnigebbcajaaDoor
