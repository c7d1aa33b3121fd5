/- Contracts: the rotation of the chapter's example. -/
import Derived.Test.YtanlnigebbcajaaDoorAff5
namespace Go.Proofs.YtanlnigebbcajaaDoor
open Go.RowKit
attribute [local go_sem 2000] run_max2m run_min2m
set_option maxHeartbeats 1000000 in
theorem quarter_c (w : World) (h32 : w.cell? ⟨0, 32, none⟩ = some (.int .i64 46341)) (h33 : w.cell? ⟨0, 33, none⟩ = some (.int .i64 47464)) :
    Calls Tryd.prog 57 #[.int .i64 8192] w fun z w' => z = .returned (.int .i64 46341) ∧ ∃ k, w' = w.drewN k := by
  have D := Lib.hid (show ∀ w, Calls Tryd.prog 44 #[.int .i64 0, .int .i64 256] w fun z w' => z = .returned (.int .i64 0) ∧ w = w' from fun w => div_any 0 256 w (by omega) (by omega) (by omega) (by omega))
  go_enter Tryd.func57, Tryd.ntmps57
  go_wp2_with fail
  go_quiet ((go_at_call 44; exact quiet_tol (D.out _) ⟨_, rfl⟩))
  go_wp2_with fail
  go_ret
  exact ⟨rfl, _, rfl⟩
set_option maxHeartbeats 1000000 in
theorem sine_c1 (w : World) (h32 : w.cell? ⟨0, 32, none⟩ = some (.int .i64 46341)) (h33 : w.cell? ⟨0, 33, none⟩ = some (.int .i64 47464)) :
    Calls Tryd.prog 53 #[.int .i64 8192] w fun z w' => z = .returned (.int .i64 46341) ∧ ∃ k, w' = w.drewN k := by
  have D := Lib.hid (quarter_c w h32 h33)
  go_enter Tryd.func53, Tryd.ntmps53
  go_wp2_with ((go_at_call 57; refine D.out.mono ?_; rintro z w4 ⟨rfl, k, rfl⟩))
  go_ret
  exact ⟨rfl, _, rfl⟩
set_option maxHeartbeats 1000000 in
theorem sine_c2 (w : World) (h32 : w.cell? ⟨0, 32, none⟩ = some (.int .i64 46341)) (h33 : w.cell? ⟨0, 33, none⟩ = some (.int .i64 47464)) :
    Calls Tryd.prog 53 #[.int .i64 24576] w fun z w' => z = .returned (.int .i64 46341) ∧ ∃ k, w' = w.drewN k := by
  have D := Lib.hid (quarter_c w h32 h33)
  go_enter Tryd.func53, Tryd.ntmps53
  go_wp2_with ((go_at_call 57; refine D.out.mono ?_; rintro z w4 ⟨rfl, k, rfl⟩))
  go_ret
  exact ⟨rfl, _, rfl⟩
set_option maxHeartbeats 1000000 in
theorem turn_c (w : World) (h32 : w.cell? ⟨0, 32, none⟩ = some (.int .i64 46341)) (h33 : w.cell? ⟨0, 33, none⟩ = some (.int .i64 47464)) :
    Calls Tryd.prog 42 #[.int .i64 8192] w fun z w' => z = .returned (.tuple #[.int .i64 46341, .int .i64 46341]) ∧ ∃ k, w' = w.drewN k := by
  have D1 := Lib.hid (fun k => sine_c1 (w.drewN k) h32 h33)
  have D2 := Lib.hid (fun k => sine_c2 (w.drewN k) h32 h33)
  have D0 := Lib.hid (sine_c1 w h32 h33)
  have eb : bits BinOp.and IntKind.i64 8192 65535 = 8192 := by kernel_rfl
  go_enter Tryd.func42, Tryd.ntmps42
  go_wp2_with ((go_at_call 53; (first | with_reducible refine D0.out.mono ?_ | with_reducible refine (D1.out _).mono ?_ | with_reducible refine (D2.out _).mono ?_); rintro z w4 ⟨rfl, k, rfl⟩))
  refine bodyPost_ret (v := .tuple #[.int .i64 46341, .int .i64 46341]) (by simp [results, Tryd.results42, go_sem]) rfl ⟨rfl, _, rfl⟩
set_option maxHeartbeats 1000000 in
theorem rotate_c (w : World) (h32 : w.cell? ⟨0, 32, none⟩ = some (.int .i64 46341)) (h33 : w.cell? ⟨0, 33, none⟩ = some (.int .i64 47464)) :
    Calls Tryd.prog 22 #[.int .i64 8192] w fun z w' => z = .returned (.agg #[.int .i64 46341, .int .i64 46341, .int .i64 (-46341), .int .i64 46341, .int .i64 0, .int .i64 0]) ∧ Below w.heap.size w w' := by
  go_enter Tryd.func22, Tryd.ntmps22
  go_wp2_with fail
  refine (turn_c _ ((World.cell?_alloc_some _ _ _ (by rw [h32]; rfl)).trans h32) ((World.cell?_alloc_some _ _ _ (by rw [h33]; rfl)).trans h33)).mono ?_
  rintro z w4 ⟨rfl, k, rfl⟩
  have K := Lib.hid ((Bx.new w 23 #[.int .i64 0, .int .i64 0, .int .i64 0, .int .i64 0, .int .i64 0, .int .i64 0]).drewN k)
  have KB := Lib.hid (Below.drewN' (bel_alloc (Below.refl w.heap.size w) (.cells #[.int .i64 0, .int .i64 0, .int .i64 0, .int .i64 0, .int .i64 0, .int .i64 0] 23)) k)
  generalize World.drewN _ k = X at *
  obtain ⟨⟨c0, c1, c2, c3, c4, c5⟩, f0, f1, f2, f3, f4, f5⟩ := K.out.six
  go_wp2_with fail
  refine bodyPost_ret (v := .agg #[.int .i64 46341, .int .i64 46341, .int .i64 (-46341), .int .i64 46341, .int .i64 0, .int .i64 0]) (by simp [results, Tryd.results22, go_sem, *]) rfl ⟨rfl, ?_⟩
  repeat' (first | with_reducible exact KB.out | with_reducible apply Below.drew | with_reducible apply Below.drewN' | with_reducible apply Below.setCell)
  all_goals (exact Nat.le_refl _)
end Go.Proofs.YtanlnigebbcajaaDoor
