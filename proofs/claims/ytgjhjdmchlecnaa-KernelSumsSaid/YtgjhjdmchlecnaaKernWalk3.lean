/- The laws KernelSums and KernelShifts: their walks. -/
import Derived.Test.YtgjhjdmchlecnaaKernEx
import Derived.Test.YtgjhjdmchlecnaaKernFin
namespace Go.Proofs.Ytgjhjdmchlecnaa
open Go.RowKit

set_option maxHeartbeats 2000000 in
theorem walk_shifts (kind x : Int) (w : World) (_ : -9223372036854775808 ≤ kind) (_ : kind ≤ 9223372036854775807) (h0 : -9223372036854775808 ≤ x) (h1 : x ≤ 9223372036854775807) : Calls Try.prog 6 #[.int .i64 kind, .int .i64 x] w fun e w' => e = .returned (.bool true) ∧ Below w.heap.size w w' := by
  by_cases hr : -1099511627776 ≤ x ∧ x ≤ 1099511562240
  · obtain ⟨hr0, hr1⟩ := hr
    by_cases hv : vld kind = true
    · obtain ⟨t1, t2⟩ := taps_shift kind x hv hr0 (by omega)
      have T1 := Lib.hid t1; clear t1
      have T2 := Lib.hid t2; clear t2
      have hf : -16777220 ≤ tapFirst kind x ∧ tapFirst kind x ≤ 16777220 := by unfold tapFirst; rw [hv, cl_id x hr0 (by omega)]; exact k1_bd kind x hr0 (by omega)
      have HV := Lib.hid hv; clear hv
      go_enter Try.func6, Try.ntmps6
      go_wp2_with fail
      refine (rvalid_any _ _).mono ?_
      rintro e w1 ⟨rfl, rfl⟩
      rw [HV.out]
      go_wp2_with fail
      refine (taps_any _ _ _).mono ?_
      rintro e w1 ⟨v1, rfl, hr1, hb1⟩
      go_wp2_with fail
      refine (taps_any _ _ _).mono ?_
      rintro e w2 ⟨v2, rfl, hr2, hb2⟩
      rw [T1.out] at hr2
      rw [T2.out]
      have hr1' := hr1.below hb2
      have hB := bel_trans hb1 hb2
      clear hr1 hb1 hb2
      go_wp2_with fail
      refine (same_any _ _ _ _ _ _ hr1'.ints hr2.ints).mono ?_
      rintro e w3 ⟨rfl, n3, rfl⟩
      go_wp2_with fail
      refine (example_any _).mono ?_
      rintro e w4 ⟨rfl, hb⟩
      go_wp2_with fail
      go_ret
      exact ⟨rfl, bel_trans (Below.drewN' hB n3) hb⟩
    · have hv' : vld kind = false := by simpa using hv
      have HV := Lib.hid hv'; clear hv hv'
      go_enter Try.func6, Try.ntmps6
      go_wp2_with fail
      refine (rvalid_any _ _).mono ?_
      rintro e w1 ⟨rfl, rfl⟩
      rw [HV.out]
      go_wp2_with fail
      refine (example_any _).mono ?_
      rintro e w4 ⟨rfl, hb⟩
      go_wp2_with fail
      go_ret
      exact ⟨rfl, hb⟩
  · rcases (show x < -1099511627776 ∨ 1099511562240 < x by omega) with hr' | hr'
    all_goals
      clear hr
      go_enter Try.func6, Try.ntmps6
      go_wp2_with fail
      refine (example_any _).mono ?_
      rintro e w4 ⟨rfl, hb⟩
      go_wp2_with fail
      go_ret
      exact ⟨rfl, hb⟩

/-- The loop's head. -/
def SumRel (l m : List Int) (w : World) (s r i : Value) (wr : World) : Prop :=
  ∃ k : Nat, k ≤ l.length ∧ i = .int .i64 k ∧ s = .int .i64 (m.take k).sum ∧ r = .int .i64 (l.take k).sum ∧ wr = w

set_option maxHeartbeats 2000000 in
theorem walk_sums (kind x : Int) (w : World) (_ : -9223372036854775808 ≤ kind) (_ : kind ≤ 9223372036854775807) (h0 : -9223372036854775808 ≤ x) (h1 : x ≤ 9223372036854775807) : Calls Try.prog 5 #[.int .i64 kind, .int .i64 x] w fun e w' => e = .returned (.bool true) ∧ Below w.heap.size w w' := by
  by_cases hv : vld kind = true
  · by_cases hr : -1099511627776 ≤ x ∧ x ≤ 1099511627776
    · obtain ⟨hr0, hr1⟩ := hr
      have hcl := cl_id x hr0 hr1
      have HF := Lib.hid (show tapFirst kind x = k1 kind x by unfold tapFirst; rw [hv, hcl]; rfl)
      have HT := Lib.hid (show taps kind x = fin (raw kind x) by unfold taps; rw [hv, hcl]; rfl)
      clear hcl
      have hR := raw_raw kind x hv
      have hkn := kn_le kind x hv
      have hk1 := k1_bd kind x hr0 hr1
      have hat := k1_at kind x hv
      have hsp := spt_le kind
      have hks := Lib.hid (kn_spt kind x hv)
      have HV := Lib.hid hv; clear hv
      have HL := Lib.hid (raw_length kind x)
      have HG := Lib.hid (fun i h => raw_get kind x i h)
      have HS := Lib.hid (fun k h => sum_le kind x k h)
      have hn1 := hkn.1
      have hn2 := hkn.2.1
      clear hkn
      go_enter Try.func5, Try.ntmps5
      go_wp2_with fail
      refine (rvalid_any _ _).mono ?_
      rintro e w1 ⟨rfl, rfl⟩
      rw [HV.out]
      go_wp2_with fail
      refine (taps_any _ _ _).mono ?_
      rintro e w1 ⟨v1, rfl, hr1, hb1⟩
      rw [HF.out]
      rw [HT.out] at hr1
      go_wp2_with fail
      refine (support_any _ _).mono ?_
      rintro e w2 ⟨rfl, rfl⟩
      obtain ⟨g, cap, rfl, hg1, hg2⟩ := hr1.form' (n := kn kind x) (by rw [fin_length, raw_length]) (by omega)
      go_wp2_with fail
      go_loopw [8, 9, 10] (SumRel (raw kind x) (fin (raw kind x)) w1) (fun _ _ i _ => kn kind x - (intOf i).toNat)
      case atStart => exact ⟨0, Nat.zero_le _, rfl, rfl, rfl, rfl⟩
      case round =>
        obtain ⟨k, hk, rfl, rfl, rfl, rfl⟩ := hrel
        rw [HL.out] at hk
        have hs1 := fin_take hR k (by rw [raw_length]; exact hk)
        have hs2 := HS.out k (by omega)
        have hwt := wt_le kind (x - ((k1 kind x + k) * 65536 + 32768))
        by_cases hlt : k < kn kind x
        · have hfe := hR.fel k
          have hc := hr1.cell (i := k) (x := (fin (raw kind x)).getD k 0) (by have : k < (fin (raw kind x)).length := by { rw [fin_length, raw_length]; exact hlt }; simp [this])
          have E1 := Lib.hid (take_snoc_int (fin (raw kind x)) k (by rw [fin_length, raw_length]; exact hlt))
          have E2 := Lib.hid (raw_snoc kind x k hlt)
          generalize (fin (raw kind x)).getD k 0 = fk at *
          go_wp2_with fail
          refine (weight_any _ _ _).mono ?_
          rintro e w2 ⟨rfl, rfl⟩
          go_wp2_with fail
          go_roundw
          case rel => exact ⟨k + 1, by rw [HL.out]; omega, by go_num, by rw [E1.out, sum_snoc], by rw [E2.out, sum_snoc], rfl⟩
          case measure => simp [intOf]; omega
        · obtain rfl : k = kn kind x := by omega
          have E1 : ((fin (raw kind x)).take (kn kind x)).sum = 65536 := by rw [List.take_of_length_le (by rw [fin_length, raw_length]; omega)]; exact fin_sum _ (by rw [raw_length]; omega)
          have E2 : ((raw kind x).take (kn kind x)).sum = (raw kind x).sum := by rw [List.take_of_length_le (by rw [raw_length]; omega)]
          rw [E1, E2]
          clear E1 E2 hs1 hs2 hwt hlt
          have hq1 := hR.s1
          have hq2 := hR.s2
          rcases (show (((kn kind x : Int) == 2 * spt kind) = true) ∨ (((kn kind x : Int) == 2 * spt kind) = false ∧ ((kn kind x : Int) == 2 * spt kind - 1) = true) by
            rcases hks.out with e | e
            · left; rw [beq_iff_eq]; exact e
            · right; rw [beq_iff_eq, beq_eq_false_iff_ne]; exact ⟨by omega, e⟩) with q1 | ⟨q1, q2⟩
          all_goals
            go_wp2_with fail
            refine (example_any _).mono ?_
            rintro e w4 ⟨rfl, hb⟩
            go_wp2_with fail
            go_ret
            exact ⟨rfl, bel_trans hb1 hb⟩
    · rcases (show x < -1099511627776 ∨ 1099511627776 < x by omega) with hr' | hr'
      all_goals
        have HV := Lib.hid hv
        clear hr hv
        go_enter Try.func5, Try.ntmps5
        go_wp2_with fail
        refine (rvalid_any _ _).mono ?_
        rintro e w1 ⟨rfl, rfl⟩
        rw [HV.out]
        go_wp2_with fail
        refine (example_any _).mono ?_
        rintro e w4 ⟨rfl, hb⟩
        go_wp2_with fail
        go_ret
        exact ⟨rfl, hb⟩
  · have hv' : vld kind = false := by simpa using hv
    have HV := Lib.hid hv'; clear hv hv'
    go_enter Try.func5, Try.ntmps5
    go_wp2_with fail
    refine (rvalid_any _ _).mono ?_
    rintro e w1 ⟨rfl, rfl⟩
    rw [HV.out]
    go_wp2_with fail
    refine (example_any _).mono ?_
    rintro e w4 ⟨rfl, hb⟩
    go_wp2_with fail
    go_ret
    exact ⟨rfl, hb⟩
end Go.Proofs.Ytgjhjdmchlecnaa
