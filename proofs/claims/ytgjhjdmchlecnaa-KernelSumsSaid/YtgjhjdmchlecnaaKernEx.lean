/- The chapter's examples hold. -/
import Derived.Test.YtgjhjdmchlecnaaKernRTaps
import Derived.Test.YtgjhjdmchlecnaaKernSame
namespace Go.Proofs.Ytgjhjdmchlecnaa
open Go.RowKit

theorem ex_t1 : taps 2 65536 = [-4096, 36864, 36864, -4096] := by decide +kernel
theorem ex_f1 : tapFirst 2 65536 = -1 := by decide +kernel
theorem ex_t2 : taps 0 0 = [0, 65536] := by decide +kernel
theorem ex_f2 : tapFirst 0 0 = -1 := by decide +kernel
theorem ex_w1 : wt 4 0 = 58254 := by decide +kernel
theorem ex_w2 : wt 4 65536 = 3641 := by decide +kernel

/-- The literal slice that is laid in a new block. -/
theorem ints_lit (w : World) (xs : List Int) (hl : xs.length ≤ 1000000) : Ints (w.alloc (.cells (xs.map (Value.int .i64)).toArray 3)) (w.heap.size + 1) (.slice (some ⟨w.heap.size, 0, none⟩) xs.length xs.length) xs := by
  have := (IRow.made w 0 xs (by omega) hl).ints
  simpa using this

set_option maxHeartbeats 1000000 in
theorem example_any (w : World) : Calls Try.prog 14 #[] w fun e w' => e = .returned (.bool true) ∧ Below w.heap.size w w' := by
  go_enter Try.func14, Try.ntmps14
  go_wp2_with fail
  refine (taps_any _ _ _).mono ?_
  rintro e w1 ⟨v1, rfl, hr1, hb1⟩
  rw [ex_t1] at hr1
  rw [ex_f1]
  go_wp2_with fail
  refine (taps_any _ _ _).mono ?_
  rintro e w2 ⟨v2, rfl, hr2, hb2⟩
  rw [ex_t2] at hr2
  rw [ex_f2]
  have hr1' := hr1.below hb2
  have hz1 := hb1.size
  have hz2 := hb2.size
  have hB1 : Below w.heap.size w w2 := hb1.trans (hb2.mono hz1)
  clear hr1 hb1 hb2
  go_wp2_with fail
  refine (same_any _ _ _ _ (w2.heap.size + 1) _ (Ints.more (Ints.below hr1'.ints ((Below.refl _ _).alloc (Nat.le_refl _) _)) (by omega)) (ints_lit w2 [-4096, 36864, 36864, -4096] (by decide))).mono ?_
  rintro e w3 ⟨rfl, n3, rfl⟩
  go_wp2_with fail
  refine (same_any _ _ _ _ (w2.heap.size + 2) _ (Ints.more (Ints.below hr2.ints (Below.drewN' (((Below.refl _ _).alloc (Nat.le_refl _) _).alloc (by simp) _) _)) (by omega)) (Ints.drewN (by simpa using ints_lit (w2.alloc _) [0, 65536] (by decide)) _)).mono ?_
  rintro e w4 ⟨rfl, n4, rfl⟩
  go_wp2_with fail
  refine (weight_any _ _ _).mono ?_
  rintro e w5 ⟨rfl, rfl⟩
  rw [ex_w1]
  go_wp2_with fail
  refine (weight_any _ _ _).mono ?_
  rintro e w5 ⟨rfl, rfl⟩
  rw [ex_w2]
  go_wp2_with fail
  go_ret
  exact ⟨rfl, by repeat (first | exact hB1 | refine Below.drewN' ?_ _ | refine bel_alloc ?_ _)⟩
end Go.Proofs.Ytgjhjdmchlecnaa
