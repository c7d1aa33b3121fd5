/- Two arrays of three ints are compared. -/
import Derived.Test.YtmbglkholoblaaaDoorAdjU
import Derived.ChangeKeysEq
namespace Go.Proofs.YtmbglkholoblaaaDoor
open Go.RowKit

theorem eq1 (d : Nat) (w : World) (x y : Int) : (Op.equalIn (d + 1) 3 (.int .i64 x) (.int .i64 y)).run Tryd.prog w = .ok (x == y) w := by
  simp [Op.equalIn, go_sem]
theorem eq3 (w : World) (a b c a' b' c' : Int) : (Op.equalIn 10000 31 (.agg #[.int .i64 a, .int .i64 b, .int .i64 c]) (.agg #[.int .i64 a', .int .i64 b', .int .i64 c'])).run Tryd.prog w = .ok (a == a' && (b == b' && c == c')) w := by
  obtain ⟨i0, hi0, hz0, hz1, hz2⟩ := info_parts Tryd.infoInt
  have hc : Tryd.prog.cellsOf 3 = 1 := by kernel_rfl
  rw [show (10000 : Nat) = 9999 + 1 from rfl, run_equalIn_array w 9999 _ _ Tryd.underlying31 hi0, hc]
  show (Op.eqItems 9999 3 1 _ _ [0, 1, 2]).run Tryd.prog w = _
  have hstep : ∀ (x y : Int) (w : World), (Op.equalIn 9999 3 (.int .i64 x) (.int .i64 y)).run Tryd.prog w = .ok (x == y) w := fun x y w => by
    exact eq1 9998 w x y
  generalize (9999 : Nat) = d at *
  simp [Op.eqItems, part, go_sem, hstep]
  by_cases h1 : a = a' <;> by_cases h2 : b = b' <;> by_cases h3 : c = c' <;> simp [h1, h2, h3]
end Go.Proofs.YtmbglkholoblaaaDoor
