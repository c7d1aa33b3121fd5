/- The five laws' own walks: each returns true and writes nothing that was there. -/
import Derived.Test.YtgjhjdmchlecnaaKernEx
namespace Go.Proofs.Ytgjhjdmchlecnaa
open Go.RowKit

set_option maxHeartbeats 1000000 in
theorem walk_weights (kind t : Int) (w : World) (_ : -9223372036854775808 ≤ kind) (_ : kind ≤ 9223372036854775807) (_ : -9223372036854775808 ≤ t) (_ : t ≤ 9223372036854775807) : Calls Try.prog 3 #[.int .i64 kind, .int .i64 t] w fun e w' => e = .returned (.bool true) ∧ Below w.heap.size w w' := by
  go_enter Try.func3, Try.ntmps3
  go_wp2_with fail
  refine (valid_any _ _).mono ?_
  rintro e w1 ⟨rfl, rfl⟩
  go_wp2_with fail
  refine (rvalid_any _ _).mono ?_
  rintro e w1 ⟨rfl, rfl⟩
  go_wp2_with fail
  refine (support_any _ _).mono ?_
  rintro e w1 ⟨rfl, rfl⟩
  go_wp2_with fail
  refine (rsupport_any _ _).mono ?_
  rintro e w1 ⟨rfl, rfl⟩
  go_wp2_with fail
  refine (weight_any _ _ _).mono ?_
  rintro e w1 ⟨rfl, rfl⟩
  go_wp2_with fail
  refine (rweight_any _ _ _).mono ?_
  rintro e w1 ⟨rfl, n, rfl⟩
  go_wp2_with fail
  refine (example_any _).mono ?_
  rintro e w1 ⟨rfl, hb⟩
  go_wp2_with fail
  go_ret
  exact ⟨rfl, bel_trans (Below.drewN' (Below.refl _ _) n) hb⟩

set_option maxHeartbeats 1000000 in
theorem walk_taps (kind x : Int) (w : World) (_ : -9223372036854775808 ≤ kind) (_ : kind ≤ 9223372036854775807) (_ : -9223372036854775808 ≤ x) (_ : x ≤ 9223372036854775807) : Calls Try.prog 4 #[.int .i64 kind, .int .i64 x] w fun e w' => e = .returned (.bool true) ∧ Below w.heap.size w w' := by
  go_enter Try.func4, Try.ntmps4
  go_wp2_with fail
  refine (taps_any _ _ _).mono ?_
  rintro e w1 ⟨v1, rfl, hr1, hb1⟩
  go_wp2_with fail
  refine (rtaps_any _ _ _).mono ?_
  rintro e w2 ⟨v2, rfl, hr2, hb2⟩
  have hr1' := hr1.below hb2
  have hB := bel_trans hb1 hb2
  clear hr1 hb1 hb2
  go_wp2_with fail
  refine (same_any _ _ _ _ _ _ hr1'.ints hr2.ints).mono ?_
  rintro e w3 ⟨rfl, n3, rfl⟩
  go_wp2_with fail
  refine (example_any _).mono ?_
  rintro e w4 ⟨rfl, hb⟩
  go_wp2_with fail
  go_ret
  exact ⟨rfl, bel_trans (Below.drewN' hB n3) hb⟩

end Go.Proofs.Ytgjhjdmchlecnaa
