/- The builtins min and max on ints, said by Lean's own min and max, so that a walk does not part on them. -/
import Derived.WalkKit
import Derived.WalkLawsBesides
namespace Go.Proofs.YtanlnigebbcajaaDoor
variable (P : Program) (w : World)
theorem ite_gt_max (x y : Int) : (if y > x then y else x) = max x y := by split <;> omega
theorem ite_lt_min (x y : Int) : (if y < x then y else x) = min x y := by split <;> omega
theorem run_max2m (ts : Array TypeId) (t : TypeId) (x y : Int) : (Builtin.max_ ts t #[.int .i64 x, .int .i64 y]).run P w = .ok (.int .i64 (max x y)) w := by
  rw [run_max_int2, ite_gt_max]
theorem run_min2m (ts : Array TypeId) (t : TypeId) (x y : Int) : (Builtin.min_ ts t #[.int .i64 x, .int .i64 y]).run P w = .ok (.int .i64 (min x y)) w := by
  rw [run_min_int2, ite_lt_min]
theorem run_max4m (ts : Array TypeId) (t : TypeId) (x y z u : Int) : (Builtin.max_ ts t #[.int .i64 x, .int .i64 y, .int .i64 z, .int .i64 u]).run P w = .ok (.int .i64 (max (max (max x y) z) u)) w := by
  simp [Builtin.max_, Builtin.max2]
  (repeat' split) <;> omega
end Go.Proofs.YtanlnigebbcajaaDoor
