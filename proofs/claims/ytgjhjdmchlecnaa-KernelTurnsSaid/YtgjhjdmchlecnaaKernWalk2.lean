/- The law KernelTurns: its walk. -/
import Derived.Test.YtgjhjdmchlecnaaKernEx
namespace Go.Proofs.Ytgjhjdmchlecnaa
open Go.RowKit

theorem wt_neg (kind t : Int) (hk : kind ≠ 0) : wt kind (-t) = wt kind t := by
  unfold wt
  rw [if_neg hk, if_neg hk, Int.neg_neg, Int.max_comm (-t) t]
  by_cases h : t ≤ -131072 ∨ 131072 ≤ t
  · rw [if_pos h, if_pos (by omega)]
  · rw [if_neg h, if_neg (by omega)]
theorem wt_wrap (kind t : Int) (hk : kind ≠ 0) (h0 : -9223372036854775808 ≤ t) (h1 : t ≤ 9223372036854775807) : wt kind (wrap64 (-t)) = wt kind t := by
  by_cases h : t = -9223372036854775808
  · subst h
    rw [wt_far kind _ (by left; unfold wrap64; decide), wt_far kind _ (by left; decide)]
  · rw [IntWalk.wrap64_in (-t) ⟨by omega, by omega⟩]
    exact wt_neg kind t hk
theorem cub_two : cub 131072 = 0 := by decide +kernel
theorem mit_two : mit 131072 = 0 := by decide +kernel
theorem wt_end (kind t : Int) (h : spt kind * 65536 ≤ t ∨ t ≤ -(spt kind * 65536)) : wt kind t = 0 := by
  by_cases hk : kind = 0 ∨ kind = 1 ∨ kind = 2 ∨ kind = 3 ∨ kind = 4
  · by_cases hf : t ≤ -131072 ∨ 131072 ≤ t
    · exact wt_far kind t hf
    · rcases hk with rfl | rfl | rfl | rfl | rfl
      · have e : spt 0 = 1 := rfl
        rw [e] at h
        exact wt_0' t (by omega) (by omega) (by omega)
      · have e : spt 1 = 1 := rfl
        rw [e] at h
        rw [wt_1 t (by omega) (by omega)]; omega
      · have e : spt 2 = 2 := rfl
        rw [e] at h
        omega
      · have e : spt 3 = 1 := rfl
        rw [e] at h
        rw [wt_3 t (by omega) (by omega), if_neg (by omega), if_neg (by omega)]
      · have e : spt 4 = 2 := rfl
        rw [e] at h
        omega
  · exact wt_none kind t (by omega) (by omega) (by omega) (by omega) (by omega)
theorem wt_pos (kind t : Int) (h2 : kind ≠ 2) (h4 : kind ≠ 4) : 0 ≤ wt kind t := by
  unfold wt
  rw [if_neg h2, if_neg h4]
  repeat' split
  all_goals omega

set_option maxHeartbeats 2000000 in
theorem walk_turns (kind t : Int) (w : World) (_ : -9223372036854775808 ≤ kind) (_ : kind ≤ 9223372036854775807) (h0 : -9223372036854775808 ≤ t) (h1 : t ≤ 9223372036854775807) : Calls Try.prog 7 #[.int .i64 kind, .int .i64 t] w fun e w' => e = .returned (.bool true) ∧ Below w.heap.size w w' := by
  have hs := spt_le kind
  have E : Hid (kind ≠ 0 → wt kind (wrap64 (-t)) = wt kind t) := fun h => wt_wrap kind t h h0 h1
  have F : Hid (spt kind * 65536 ≤ t ∨ t ≤ -(spt kind * 65536) → wt kind t = 0) := fun h => wt_end kind t h
  have P : Hid (kind ≠ 2 → kind ≠ 4 → 0 ≤ wt kind t) := fun h h' => wt_pos kind t h h'
  by_cases hk : kind = 0
  · have hk' : (kind != 0) = false := by simp [hk]
    have hk2 : (kind == 2) = false := by simp [hk]
    have hk4 : (kind == 4) = false := by simp [hk]
    have hp := P.out (by omega) (by omega)
    have HK := Lib.hid hk; clear hk
    by_cases hf : spt kind * 65536 ≤ t ∨ t ≤ -(spt kind * 65536)
    · have hz : (wt kind t != 0) = false := by simp [F.out hf]
      rcases (show spt kind * 65536 ≤ t ∨ (t < spt kind * 65536 ∧ t ≤ -(spt kind * 65536)) by omega) with hf' | ⟨hf1, hf2⟩
      all_goals
        go_enter Try.func7, Try.ntmps7
        go_wp2_with (first | (go_at_call 12; refine (weight_any _ _ _).mono ?_; rintro e w1 ⟨rfl, rfl⟩) | (go_at_call 10; refine (support_any _ _).mono ?_; rintro e w1 ⟨rfl, rfl⟩) | (go_at_call 14; refine (example_any _).mono ?_; rintro e w1 ⟨rfl, hb⟩))
        go_ret
        exact ⟨rfl, hb⟩
    · have hf1 : t < spt kind * 65536 := by omega
      have hf2 : -(spt kind * 65536) < t := by omega
      clear hf
      go_enter Try.func7, Try.ntmps7
      go_wp2_with (first | (go_at_call 12; refine (weight_any _ _ _).mono ?_; rintro e w1 ⟨rfl, rfl⟩) | (go_at_call 10; refine (support_any _ _).mono ?_; rintro e w1 ⟨rfl, rfl⟩) | (go_at_call 14; refine (example_any _).mono ?_; rintro e w1 ⟨rfl, hb⟩))
      go_ret
      exact ⟨rfl, hb⟩
  · have hk' : (kind != 0) = true := by simp [hk]
    have hw := E.out hk
    have hw2 := wt_neg kind t hk
    generalize hwn : wt kind t = wv at *
    have HWN := Lib.hid hwn; clear hwn
    have hne : (wv != wv) = false := by simp
    have HW := Lib.hid hw; clear hw
    have HW2 := Lib.hid hw2; clear hw2
    have HK : Hid (kind ≠ 0) := hk
    clear hk
    rcases (show (kind = 2 ∨ kind = 4) ∨ (kind ≠ 2 ∧ kind ≠ 4) by omega) with h24 | ⟨hn2, hn4⟩
    · have h24' : ((kind == 2) = true) ∨ ((kind == 2) = false ∧ (kind == 4) = true) := by
        rcases h24 with rfl | rfl
        · left; rfl
        · right; exact ⟨rfl, rfl⟩
      clear h24
      rcases h24' with hk2 | ⟨hk2, hk4⟩
      all_goals
        by_cases hf : spt kind * 65536 ≤ t ∨ t ≤ -(spt kind * 65536)
        · have hz : (wv != 0) = false := by simp [F.out hf]
          rcases (show spt kind * 65536 ≤ t ∨ (t < spt kind * 65536 ∧ t ≤ -(spt kind * 65536)) by omega) with hf' | ⟨hf1, hf2⟩
          all_goals
            go_enter Try.func7, Try.ntmps7
            go_wp2_with (first | (go_at_call 12; refine (weight_any _ _ _).mono ?_; rintro e w1 ⟨rfl, rfl⟩; (first | rw [HWN.out] | rw [HW.out] | rw [HW2.out])) | (go_at_call 10; refine (support_any _ _).mono ?_; rintro e w1 ⟨rfl, rfl⟩) | (go_at_call 14; refine (example_any _).mono ?_; rintro e w1 ⟨rfl, hb⟩))
            go_ret
            exact ⟨rfl, hb⟩
        · have hf1 : t < spt kind * 65536 := by omega
          have hf2 : -(spt kind * 65536) < t := by omega
          clear hf
          go_enter Try.func7, Try.ntmps7
          go_wp2_with (first | (go_at_call 12; refine (weight_any _ _ _).mono ?_; rintro e w1 ⟨rfl, rfl⟩; (first | rw [HWN.out] | rw [HW.out] | rw [HW2.out])) | (go_at_call 10; refine (support_any _ _).mono ?_; rintro e w1 ⟨rfl, rfl⟩) | (go_at_call 14; refine (example_any _).mono ?_; rintro e w1 ⟨rfl, hb⟩))
          go_ret
          exact ⟨rfl, hb⟩
    · have hk2 : (kind == 2) = false := by simp [hn2]
      have hk4 : (kind == 4) = false := by simp [hn4]
      have hp := P.out hn2 hn4
      clear hn2 hn4
      by_cases hf : spt kind * 65536 ≤ t ∨ t ≤ -(spt kind * 65536)
      · have hz : (wv != 0) = false := by simp [F.out hf]
        rcases (show spt kind * 65536 ≤ t ∨ (t < spt kind * 65536 ∧ t ≤ -(spt kind * 65536)) by omega) with hf' | ⟨hf1, hf2⟩
        all_goals
          go_enter Try.func7, Try.ntmps7
          go_wp2_with (first | (go_at_call 12; refine (weight_any _ _ _).mono ?_; rintro e w1 ⟨rfl, rfl⟩; (first | rw [HWN.out] | rw [HW.out] | rw [HW2.out])) | (go_at_call 10; refine (support_any _ _).mono ?_; rintro e w1 ⟨rfl, rfl⟩) | (go_at_call 14; refine (example_any _).mono ?_; rintro e w1 ⟨rfl, hb⟩))
          go_ret
          exact ⟨rfl, hb⟩
      · have hf1 : t < spt kind * 65536 := by omega
        have hf2 : -(spt kind * 65536) < t := by omega
        clear hf
        go_enter Try.func7, Try.ntmps7
        go_wp2_with (first | (go_at_call 12; refine (weight_any _ _ _).mono ?_; rintro e w1 ⟨rfl, rfl⟩; (first | rw [HWN.out] | rw [HW.out] | rw [HW2.out])) | (go_at_call 10; refine (support_any _ _).mono ?_; rintro e w1 ⟨rfl, rfl⟩) | (go_at_call 14; refine (example_any _).mono ?_; rintro e w1 ⟨rfl, hb⟩))
        go_ret
        exact ⟨rfl, hb⟩
end Go.Proofs.Ytgjhjdmchlecnaa
