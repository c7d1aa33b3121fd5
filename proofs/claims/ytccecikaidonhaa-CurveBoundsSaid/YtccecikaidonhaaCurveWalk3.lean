/- The walk of the law CurveBounds. -/
import Derived.Test.YtccecikaidonhaaCurveEx
import Derived.Deep.RegionHeld3
namespace Go.Proofs.Ytccecikaidonhaa
open Go.RowKit

/-- The loop's head: lo and hi bound the values so far; while 'up' holds they do not decrease. -/
def BdRel (ks : List (Int × Int)) (w : World) (lo hi up i : Value) (wr : World) : Prop :=
  ∃ (k : Nat) (L U : Int) (b : Bool), k ≤ ks.length ∧ i = .int .i64 k ∧ lo = .int .i64 L ∧ hi = .int .i64 U ∧ up = .bool b ∧ (∀ j, j < k → L ≤ ky ks j ∧ ky ks j ≤ U) ∧ (b = true → ∀ j, j + 1 < k → ky ks j ≤ ky ks (j + 1)) ∧ Below w.heap.size w wr

theorem bd_step (ks : List (Int × Int)) (k : Nat) (L U L' U' : Int) (h : ∀ j, j < k → L ≤ ky ks j ∧ ky ks j ≤ U) (a : L' ≤ L) (b : U ≤ U') (c : L' ≤ ky ks k ∧ ky ks k ≤ U') : ∀ j, j < k + 1 → L' ≤ ky ks j ∧ ky ks j ≤ U' := by
  intro j hj
  by_cases e : j = k
  · subst e; exact c
  · have := h j (by omega); omega
theorem up_step (ks : List (Int × Int)) (k : Nat) (h : ∀ j, j + 1 < k + 1 → ky ks j ≤ ky ks (j + 1)) (c : ky ks k ≤ ky ks (k + 1)) : ∀ j, j + 1 < k + 1 + 1 → ky ks j ≤ ky ks (j + 1) := by
  intro j hj
  by_cases e : j = k
  · subst e; exact c
  · exact h j (by omega)

set_option maxHeartbeats 4000000 in
theorem walk_bounds (v : Value) (ks : List (Int × Int)) (x y : Int) (w : World) (h : Knots w w.heap.size v ks) :
    Calls Try.prog 7 #[v, .int .i64 x, .int .i64 y] w fun e w' => e = .returned (.bool true) ∧ Below w.heap.size w w' := by
  have H := Lib.hid h; clear h
  by_cases hc : chk ks = 0
  · have g := (chk_iff ks).1 hc
    have hn2 := g.n2
    have hn16 := g.n16
    have HCAT : Hid (∀ x, cat ks x = val ks x) := fun x => by unfold cat; rw [if_pos hc]
    have HC := Lib.hid hc; clear hc
    obtain ⟨b, o, c, rfl, hb, hcell⟩ := H.out.form (by omega)
    have HK := Lib.hid hcell
    clear hcell
    go_enter Try.func7, Try.ntmps7
    go_wp2_with fail
    refine (rcheck_any _ ks _ H.out).mono ?_
    rintro e w1 ⟨rfl, hb1⟩
    rw [HC.out]
    have d0 := (hb1.cell (p := ⟨b, o + 0 * 2 + 1, none⟩) hb).trans (HK.out 0 (by omega)).2
    simp only [Nat.zero_mul, Nat.add_zero] at d0
    generalize ky ks 0 = Y0 at *
    go_wp2_with fail
    go_quiet (fail)
    go_wp2_with fail
    clear d0
    go_loopw [7, 8, 9, 10] (BdRel ks w) (fun _ _ _ i _ => ks.length - (intOf i).toNat)
    case atStart => exact ⟨0, Y0, Y0, true, Nat.zero_le _, rfl, rfl, rfl, rfl, fun j hj => absurd hj (by omega), fun _ j hj => absurd hj (by omega), Below.drewN' hb1 _⟩
    case round =>
      obtain ⟨k, L, U, bb, hk, rfl, rfl, rfl, rfl, hbd, hup, hbel⟩ := hrel
      have HBD := Lib.hid hbd; clear hbd
      have HUP := Lib.hid hup; clear hup
      have hsz := hbel.size
      by_cases hlt : k < ks.length
      · have c1 := (hbel.cell (p := ⟨b, o + k * 2, none⟩) hb).trans (HK.out k hlt).1
        have c2 := (hbel.cell (p := ⟨b, o + k * 2 + 1, none⟩) hb).trans (HK.out k hlt).2
        have HKN := Lib.hid ((H.out.below hbel).more hsz)
        have HVK := Lib.hid (val_knot ks g k hlt)
        generalize hX : kx ks k = X at *
        generalize hY : ky ks k = Y at *
        have HX := Lib.hid hX; clear hX
        have HY := Lib.hid hY; clear hY
        have hk0 : (0 : Int) ≤ (k : Int) := by omega
        have hk1 : (k : Int) < (ks.length : Int) := by omega
        rcases (show (L ≤ Y ∧ Y ≤ U) ∨ (L ≤ Y ∧ U < Y) ∨ (Y < L ∧ Y ≤ U) ∨ (Y < L ∧ U < Y) by omega) with ⟨a1, a2⟩ | ⟨a1, a2⟩ | ⟨a1, a2⟩ | ⟨a1, a2⟩
        all_goals
          go_wp2_with fail
          go_quiet (fail)
          go_wp2_with fail
          go_region_held3 (fun w' => w'.cell? ⟨b, o + k * 2, none⟩ = some (.int .i64 X) ∧ w'.cell? ⟨b, o + k * 2 + 1, none⟩ = some (.int .i64 Y))
            (first | go_keep | (go_split_ands; refine ⟨?_, ?_⟩ <;> (rw [hbw4.cell (by have := hbel.size; simp; omega)]; assumption)))
            ((go_at_call 16; refine (at_any _ ks _ _ (by exact HKN.out)).mono ?_; rintro e w4 ⟨rfl, hbw4⟩; rw [HCAT.out, HVK.out]))
          go_wp2_with fail
          have hsW : b < wr.heap.size := by omega
          have e2 : w4.cell? ⟨b, o + k * 2 + 1, none⟩ = some (.int .i64 Y) := (hbw4.cell (p := ⟨b, o + k * 2 + 1, none⟩) hsW).trans c2
          have hB4 : Below w.heap.size w w4 := (Below.drewN' hbel _).trans (hbw4.mono hsz)
          clear c1 c2 hbw4 HKN
          by_cases h0 : k = 0
          · subst h0
            simp only [Nat.zero_mul, Nat.add_zero] at e2
            go_quiet (fail)
            go_wp2_with fail
            go_roundw
            case rel => exact ⟨1, _, _, bb, by omega, by go_num, rfl, rfl, rfl, bd_step ks 0 L U _ _ HBD.out (by omega) (by omega) (by rw [HY.out]; omega), fun _ j hj => absurd hj (by omega), Below.drewN' hB4 _⟩
            case measure => simp [intOf]; omega
          · obtain ⟨j, rfl⟩ : ∃ j, k = j + 1 := ⟨k - 1, by omega⟩
            have e3 := (hB4.cell (p := ⟨b, o + j * 2 + 1, none⟩) hb).trans (HK.out j (by omega)).2
            generalize hP : ky ks j = P at *
            have HP := Lib.hid hP; clear hP
            by_cases hq : Y < P
            · go_quiet (fail)
              go_wp2_with fail
              go_roundw
              case rel => exact ⟨j + 1 + 1, _, _, false, by omega, by go_num, rfl, rfl, rfl, bd_step ks (j + 1) L U _ _ HBD.out (by omega) (by omega) (by rw [HY.out]; omega), (fun e => by cases e), Below.drewN' hB4 _⟩
              case measure => simp [intOf]; omega
            · go_quiet (fail)
              go_wp2_with fail
              go_roundw
              case rel => exact ⟨j + 1 + 1, _, _, bb, by omega, by go_num, rfl, rfl, rfl, bd_step ks (j + 1) L U _ _ HBD.out (by omega) (by omega) (by rw [HY.out]; omega), fun e => up_step ks j (HUP.out e) (by rw [HY.out, HP.out]; omega), Below.drewN' hB4 _⟩
              case measure => simp [intOf]; omega
      · obtain rfl : k = ks.length := by omega
        have HKN := Lib.hid ((H.out.below hbel).more hsz)
        rcases (show x < y ∨ x = y ∨ y < x by omega) with hxy | rfl | hxy
        · go_wp2_with fail
          refine (at_any _ ks _ _ HKN.out).mono ?_
          rintro e w4 ⟨rfl, hb4⟩
          go_wp2_with fail
          refine (at_any _ ks _ _ (HKN.out.on hb4)).mono ?_
          rintro e w5 ⟨rfl, hb5⟩
          rw [HCAT.out, HCAT.out]
          have q1 := val_between ks g L U HBD.out x
          have q2 := val_between ks g L U HBD.out y
          have q3 : bb = true → val ks x ≤ val ks y := fun e => val_mono ks g (HUP.out e) x y (by omega)
          have hB5 := bel_trans (bel_trans hbel hb4) hb5
          clear hb4 hb5
          generalize val ks x = vx at *
          generalize val ks y = vy at *
          cases bb with
          | true =>
            have q4 := q3 rfl
            clear q3
            go_wp2_with fail
            refine (example_any _).mono ?_
            rintro e w6 ⟨rfl, hb6⟩
            go_wp2_with fail
            go_ret
            exact ⟨rfl, bel_trans hB5 hb6⟩
          | false =>
            clear q3
            go_wp2_with fail
            refine (example_any _).mono ?_
            rintro e w6 ⟨rfl, hb6⟩
            go_wp2_with fail
            go_ret
            exact ⟨rfl, bel_trans hB5 hb6⟩
        · go_wp2_with fail
          refine (at_any _ ks _ _ HKN.out).mono ?_
          rintro e w4 ⟨rfl, hb4⟩
          go_wp2_with fail
          refine (at_any _ ks _ _ (HKN.out.on hb4)).mono ?_
          rintro e w5 ⟨rfl, hb5⟩
          rw [HCAT.out]
          have q1 := val_between ks g L U HBD.out x
          have q2 := val_between ks g L U HBD.out x
          have q3 : bb = true → val ks x ≤ val ks x := fun e => val_mono ks g (HUP.out e) x x (by omega)
          have hB5 := bel_trans (bel_trans hbel hb4) hb5
          clear hb4 hb5
          generalize val ks x = vx at *
          skip
          cases bb with
          | true =>
            have q4 := q3 rfl
            clear q3
            go_wp2_with fail
            refine (example_any _).mono ?_
            rintro e w6 ⟨rfl, hb6⟩
            go_wp2_with fail
            go_ret
            exact ⟨rfl, bel_trans hB5 hb6⟩
          | false =>
            clear q3
            go_wp2_with fail
            refine (example_any _).mono ?_
            rintro e w6 ⟨rfl, hb6⟩
            go_wp2_with fail
            go_ret
            exact ⟨rfl, bel_trans hB5 hb6⟩
        · go_wp2_with fail
          refine (at_any _ ks _ _ HKN.out).mono ?_
          rintro e w4 ⟨rfl, hb4⟩
          go_wp2_with fail
          refine (at_any _ ks _ _ (HKN.out.on hb4)).mono ?_
          rintro e w5 ⟨rfl, hb5⟩
          rw [HCAT.out, HCAT.out]
          have q1 := val_between ks g L U HBD.out y
          have q2 := val_between ks g L U HBD.out x
          have q3 : bb = true → val ks y ≤ val ks x := fun e => val_mono ks g (HUP.out e) y x (by omega)
          have hB5 := bel_trans (bel_trans hbel hb4) hb5
          clear hb4 hb5
          generalize val ks y = vx at *
          generalize val ks x = vy at *
          cases bb with
          | true =>
            have q4 := q3 rfl
            clear q3
            go_wp2_with fail
            refine (example_any _).mono ?_
            rintro e w6 ⟨rfl, hb6⟩
            go_wp2_with fail
            go_ret
            exact ⟨rfl, bel_trans hB5 hb6⟩
          | false =>
            clear q3
            go_wp2_with fail
            refine (example_any _).mono ?_
            rintro e w6 ⟨rfl, hb6⟩
            go_wp2_with fail
            go_ret
            exact ⟨rfl, bel_trans hB5 hb6⟩
  · have hne : (chk ks != 0) = true := by simp [hc]
    generalize hcc : chk ks = cc at *
    have HCC := Lib.hid hcc; clear hcc hc
    go_enter Try.func7, Try.ntmps7
    go_wp2_with fail
    refine (rcheck_any _ ks _ H.out).mono ?_
    rintro e w1 ⟨rfl, hb1⟩
    rw [HCC.out]
    go_wp2_with fail
    refine (example_any _).mono ?_
    rintro e w6 ⟨rfl, hb6⟩
    go_wp2_with fail
    go_ret
    exact ⟨rfl, bel_trans hb1 hb6⟩
end Go.Proofs.Ytccecikaidonhaa
