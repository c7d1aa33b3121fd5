/- The walk of the law CurveTables. -/
import Derived.Test.YtccecikaidonhaaCurveEx
import Derived.Test.YtccecikaidonhaaCurveTab
namespace Go.Proofs.Ytccecikaidonhaa
open Go.RowKit

def TabLaw (n : Nat) (w : World) (i : Value) (wr : World) : Prop := ∃ k : Nat, k ≤ n ∧ i = .int .i64 k ∧ ∃ m, wr = w.drewN m

set_option maxHeartbeats 1000000 in
theorem walk_tables (v : Value) (ks : List (Int × Int)) (n : Int) (w : World) (h : Knots w w.heap.size v ks) :
    Calls Try.prog 10 #[v, .int .i64 n] w fun e w' => e = .returned (.bool true) ∧ Below w.heap.size w w' := by
  have H := Lib.hid h; clear h
  go_enter Try.func10, Try.ntmps10
  go_wp2_with fail
  refine (table_any _ ks _ _ H.out).mono ?_
  rintro e w1 ⟨v1, rfl, hr1, hb1⟩
  go_wp2_with fail
  refine (rtable_any _ ks _ _ (H.out.on hb1)).mono ?_
  rintro e w2 ⟨v2, rfl, hr2, hb2⟩
  have hB2 := bel_trans hb1 hb2
  have q1 := (hr1.below hb2).ints
  have q2 := hr2.ints
  clear hr1 hr2 hb1 hb2
  generalize tout ks n = l at *
  obtain ⟨A1, c1, rfl, l1, r1⟩ := q1
  obtain ⟨A2, c2, rfl, l2, r2⟩ := q2
  have R1 := Lib.hid r1; clear r1
  have R2 := Lib.hid r2; clear r2
  go_wp2_with fail
  go_loopw [9] (TabLaw l.length w2) (fun i _ => l.length - (intOf i).toNat)
  case atStart => exact ⟨0, Nat.zero_le _, rfl, 0, rfl⟩
  case round =>
    obtain ⟨k, hk, rfl, m, rfl⟩ := hrel
    by_cases hlt : k < l.length
    · obtain ⟨b, o, rfl, hb, hc⟩ := R1.out k hlt
      obtain ⟨b', o', rfl, hb', hc'⟩ := R2.out k hlt
      generalize l.getD k 0 = x at *
      go_wp2
      go_quiet (fail)
      go_wp2
      go_roundw
      case rel => exact ⟨k + 1, by omega, by go_num, _, rfl⟩
      case measure => simp [intOf]; omega
    · go_wp2_with fail
      refine (example_any _).mono ?_
      rintro e w5 ⟨rfl, hb5⟩
      go_wp2_with fail
      go_ret
      exact ⟨rfl, bel_trans (Below.drewN' hB2 m) hb5⟩
end Go.Proofs.Ytccecikaidonhaa
