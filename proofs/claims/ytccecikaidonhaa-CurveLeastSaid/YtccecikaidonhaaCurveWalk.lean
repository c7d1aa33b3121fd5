/- The walks of the laws CurveChecks, CurveAts, CurveInverts, CurveBacks, CurveReturns, CurveLeast. -/
import Derived.Test.YtccecikaidonhaaCurveEx
import Derived.Test.YtccecikaidonhaaCurveSame
namespace Go.Proofs.Ytccecikaidonhaa
open Go.RowKit

set_option maxHeartbeats 1000000 in
theorem walk_checks (v : Value) (ks : List (Int × Int)) (w : World) (h : Knots w w.heap.size v ks) :
    Calls Try.prog 3 #[v] w fun e w' => e = .returned (.bool true) ∧ Below w.heap.size w w' := by
  have H := Lib.hid h; clear h
  go_enter Try.func3, Try.ntmps3
  go_wp2_with fail
  refine (check_any _ ks _ H.out).mono ?_
  rintro e w1 ⟨rfl, hb1⟩
  go_wp2_with fail
  refine (rcheck_any _ ks _ (H.out.on hb1)).mono ?_
  rintro e w2 ⟨rfl, hb2⟩
  have hB2 := bel_trans hb1 hb2
  clear hb1 hb2
  go_wp2_with fail
  refine (rising_any _ ks _ (H.out.on hB2)).mono ?_
  rintro e w3 ⟨rfl, hb3⟩
  have hB3 := bel_trans hB2 hb3
  go_wp2_with fail
  refine (rrising_any _ ks _ (H.out.on hB3)).mono ?_
  rintro e w4 ⟨rfl, hb4⟩
  have hB4 := bel_trans hB3 hb4
  go_wp2_with fail
  refine (example_any _).mono ?_
  rintro e w5 ⟨rfl, hb5⟩
  go_wp2_with fail
  go_ret
  exact ⟨rfl, bel_trans hB4 hb5⟩

set_option maxHeartbeats 1000000 in
theorem walk_ats (v : Value) (ks : List (Int × Int)) (x : Int) (w : World) (h : Knots w w.heap.size v ks) :
    Calls Try.prog 4 #[v, .int .i64 x] w fun e w' => e = .returned (.bool true) ∧ Below w.heap.size w w' := by
  have H := Lib.hid h; clear h
  go_enter Try.func4, Try.ntmps4
  go_wp2_with fail
  refine (at_any _ ks _ _ H.out).mono ?_
  rintro e w1 ⟨rfl, hb1⟩
  go_wp2_with fail
  refine (rat_any _ ks _ _ (H.out.on hb1)).mono ?_
  rintro e w2 ⟨rfl, hb2⟩
  have hB2 := bel_trans hb1 hb2
  go_wp2_with fail
  refine (example_any _).mono ?_
  rintro e w5 ⟨rfl, hb5⟩
  go_wp2_with fail
  go_ret
  exact ⟨rfl, bel_trans hB2 hb5⟩

theorem iout_le (ks : List (Int × Int)) (h : ks.length ≤ 9223372036854775807) : (iout ks).length ≤ 9223372036854775807 := by
  unfold iout
  split
  · rw [inv_length]; exact h
  · simp
theorem Knots.len {w : World} {B : Nat} {v : Value} {ks : List (Int × Int)} (h : Knots w B v ks) : ks.length ≤ 9223372036854775807 := by obtain ⟨_, _, _, hl, _⟩ := h; exact hl

set_option maxHeartbeats 1000000 in
theorem walk_inverts (v : Value) (ks : List (Int × Int)) (w : World) (h : Knots w w.heap.size v ks) :
    Calls Try.prog 5 #[v] w fun e w' => e = .returned (.bool true) ∧ Below w.heap.size w w' := by
  have H := Lib.hid h; clear h
  have hle := Lib.hid (iout_le ks H.out.len)
  go_enter Try.func5, Try.ntmps5
  go_wp2_with fail
  refine (inverse_any _ ks _ H.out).mono ?_
  rintro e w1 ⟨v1, rfl, hr1, hb1⟩
  go_wp2_with fail
  refine (rinverse_any _ ks _ (H.out.on hb1)).mono ?_
  rintro e w2 ⟨v2, rfl, hr2, hb2⟩
  have hB2 := bel_trans hb1 hb2
  have q1 := (hr1.below hb2).knots hle.out
  have q2 := hr2.knots hle.out
  clear hr1 hr2 hb1 hb2
  go_wp2_with fail
  refine (ksame_any _ _ _ _ _ _ q1 q2).mono ?_
  rintro e w3 ⟨rfl, n3, rfl⟩
  go_wp2_with fail
  refine (example_any _).mono ?_
  rintro e w5 ⟨rfl, hb5⟩
  go_wp2_with fail
  go_ret
  exact ⟨rfl, bel_trans (Below.drewN' hB2 n3) hb5⟩

set_option maxHeartbeats 1000000 in
theorem walk_backs (v : Value) (ks : List (Int × Int)) (y : Int) (w : World) (h : Knots w w.heap.size v ks) :
    Calls Try.prog 6 #[v, .int .i64 y] w fun e w' => e = .returned (.bool true) ∧ Below w.heap.size w w' := by
  have H := Lib.hid h; clear h
  by_cases r : Ris ks
  · have HR := Lib.hid r; clear r
    go_enter Try.func6, Try.ntmps6
    go_wp2_with fail
    refine (back_any _ ks _ _ H.out HR.out).mono ?_
    rintro e w1 ⟨b1, rfl, k1, hb1⟩
    go_wp2_with fail
    refine (rback_any _ ks _ _ (H.out.on hb1) HR.out).mono ?_
    rintro e w2 ⟨b2, rfl, k2, hb2⟩
    obtain rfl := IsBack.unique HR.out k1 k2
    have hB2 := bel_trans hb1 hb2
    clear k1 k2
    go_wp2_with fail
    refine (example_any _).mono ?_
    rintro e w5 ⟨rfl, hb5⟩
    go_wp2_with fail
    go_ret
    exact ⟨rfl, bel_trans hB2 hb5⟩
  · have HR := Lib.hid r; clear r
    go_enter Try.func6, Try.ntmps6
    go_wp2_with fail
    refine (back_any_no _ ks _ _ H.out HR.out).mono ?_
    rintro e w1 ⟨rfl, hb1⟩
    go_wp2_with fail
    refine (rback_any_no _ ks _ _ (H.out.on hb1) HR.out).mono ?_
    rintro e w2 ⟨rfl, hb2⟩
    have hB2 := bel_trans hb1 hb2
    go_wp2_with fail
    refine (example_any _).mono ?_
    rintro e w5 ⟨rfl, hb5⟩
    go_wp2_with fail
    go_ret
    exact ⟨rfl, bel_trans hB2 hb5⟩

theorem inv_kx (ks : List (Int × Int)) (i : Nat) : kx (inv ks) i = ky ks i := by
  unfold kx ky inv
  by_cases h : i < ks.length
  · simp [h]
  · simp at h; simp [h]
theorem inv_ky (ks : List (Int × Int)) (i : Nat) : ky (inv ks) i = kx ks i := by
  unfold kx ky inv
  by_cases h : i < ks.length
  · simp [h]
  · simp at h; simp [h]
theorem inv_inv (ks : List (Int × Int)) : inv (inv ks) = ks := by
  unfold inv
  rw [List.map_map]
  exact (List.map_congr_left (g := id) (fun k _ => rfl)).trans (List.map_id ks)
theorem inv_ris {ks : List (Int × Int)} (r : Ris ks) : Ris (inv ks) := by
  have hl := inv_length ks
  refine ⟨⟨by rw [hl]; exact r.good.n2, by rw [hl]; exact r.good.n16, fun i hi => ?_, fun i hi => ?_⟩, ?_, ?_, ?_, ?_, fun i hi => ?_⟩
  · rw [inv_kx, inv_ky]; have := r.good.rng i (by omega); omega
  · rw [inv_kx, inv_kx]; exact r.up i (by omega)
  · rw [inv_kx]; exact r.y0
  · rw [inv_ky]; exact r.x0
  · rw [inv_kx, hl]; exact r.y1
  · rw [inv_ky, hl]; exact r.x1
  · rw [inv_ky, inv_ky]; exact r.good.ord i (by omega)
theorem ierr_ris {ks : List (Int × Int)} (r : Ris ks) : ierr ks = 0 := by unfold ierr; rw [if_pos ((chk_iff ks).2 r.good), (risB_iff ks).2 r]; rfl
theorem iout_ris {ks : List (Int × Int)} (r : Ris ks) : iout ks = inv ks := by unfold iout; rw [(risB_iff ks).2 r]; rfl

set_option maxHeartbeats 1000000 in
theorem walk_returns (v : Value) (ks : List (Int × Int)) (w : World) (h : Knots w w.heap.size v ks) :
    Calls Try.prog 8 #[v] w fun e w' => e = .returned (.bool true) ∧ Below w.heap.size w w' := by
  have H := Lib.hid h; clear h
  by_cases r : Ris ks
  · have HR := Lib.hid r; clear r
    have HRB := Lib.hid ((risB_iff ks).2 HR.out)
    have hl16 := HR.out.good.n16
    go_enter Try.func8, Try.ntmps8
    go_wp2_with fail
    refine (rrising_any _ ks _ H.out).mono ?_
    rintro e w0 ⟨rfl, hb0⟩
    rw [HRB.out]
    go_wp2_with fail
    refine (inverse_any _ ks _ (H.out.on hb0)).mono ?_
    rintro e w1 ⟨v1, rfl, hr1, hb1⟩
    rw [ierr_ris HR.out]
    rw [iout_ris HR.out] at hr1
    have q1 := hr1.knots (by rw [inv_length]; omega)
    go_wp2_with fail
    refine (inverse_any _ (inv ks) _ q1).mono ?_
    rintro e w2 ⟨v2, rfl, hr2, hb2⟩
    rw [ierr_ris (inv_ris HR.out)]
    rw [iout_ris (inv_ris HR.out), inv_inv] at hr2
    have q1' := q1.on hb2
    have q2 := hr2.knots (by omega)
    have hB2 := bel_trans (bel_trans hb0 hb1) hb2
    clear hr1 hr2 hb0 hb1 hb2 q1
    go_wp2_with fail
    refine (rising_any _ (inv ks) _ q1').mono ?_
    rintro e w3 ⟨rfl, hb3⟩
    rw [(risB_iff _).2 (inv_ris HR.out)]
    have q2' := q2.on hb3
    have hB3 := bel_trans hB2 hb3
    clear hb3 q1' q2
    go_wp2_with fail
    refine (ksame_any _ _ _ _ _ _ q2' (H.out.on hB3)).mono ?_
    rintro e w3 ⟨rfl, n3, rfl⟩
    go_wp2_with fail
    refine (example_any _).mono ?_
    rintro e w5 ⟨rfl, hb5⟩
    go_wp2_with fail
    go_ret
    exact ⟨rfl, bel_trans (Below.drewN' hB3 n3) hb5⟩
  · have HRB := Lib.hid (show risB ks = false by rw [Bool.eq_false_iff]; intro e; exact r ((risB_iff ks).1 e))
    go_enter Try.func8, Try.ntmps8
    go_wp2_with fail
    refine (rrising_any _ ks _ H.out).mono ?_
    rintro e w0 ⟨rfl, hb0⟩
    rw [HRB.out]
    go_wp2_with fail
    refine (example_any _).mono ?_
    rintro e w5 ⟨rfl, hb5⟩
    go_wp2_with fail
    go_ret
    exact ⟨rfl, bel_trans hb0 hb5⟩

theorem cat_ris {ks : List (Int × Int)} (r : Ris ks) (x : Int) : cat ks x = val ks x := by unfold cat; rw [if_pos ((chk_iff ks).2 r.good)]
set_option maxHeartbeats 1000000 in
theorem walk_least (v : Value) (ks : List (Int × Int)) (x y : Int) (w : World) (h : Knots w w.heap.size v ks) :
    Calls Try.prog 9 #[v, .int .i64 x, .int .i64 y] w fun e w' => e = .returned (.bool true) ∧ Below w.heap.size w w' := by
  have H := Lib.hid h; clear h
  by_cases r : Ris ks
  · have HR := Lib.hid r; clear r
    have HRB := Lib.hid ((risB_iff ks).2 HR.out)
    rcases (show y < 0 ∨ (0 ≤ y ∧ y ≤ 65535) ∨ 65535 < y by omega) with hy | hy | hy
    · go_enter Try.func9, Try.ntmps9
      go_wp2_with fail
      refine (rrising_any _ ks _ H.out).mono ?_
      rintro e w0 ⟨rfl, hb0⟩
      rw [HRB.out]
      go_wp2_with fail
      refine (back_any _ ks _ _ (H.out.on hb0) HR.out).mono ?_
      rintro e w1 ⟨b, rfl, kb, hb1⟩
      rw [show min 65535 (max y 0) = 0 by omega] at kb
      have hB1 := bel_trans hb0 hb1
      clear hb0 hb1
      have hbl := kb.lo
      have hbh := kb.hi
      have hge := kb.ge
      have hlt := Lib.hid kb.lt
      clear kb
      go_wp2_with fail
      refine (at_any _ ks _ _ (H.out.on hB1)).mono ?_
      rintro e w2 ⟨rfl, hb2⟩
      have hB2 := bel_trans hB1 hb2
      clear hb2
      rw [cat_ris HR.out]
      generalize val ks b = vb at *
      by_cases hb0 : 0 < b
      · have hlt2 : val ks (b - 1) < 0 := by rcases hlt.out with e | e; omega; exact e
        go_wp2_with fail
        refine (at_any _ ks _ _ (H.out.on hB2)).mono ?_
        rintro e w3 ⟨rfl, hb3⟩
        have hB3 := bel_trans hB2 hb3
        clear hb3
        rw [cat_ris HR.out]
        generalize val ks (b - 1) = vb1 at *
        go_wp2_with fail
        refine (at_any _ ks _ _ (H.out.on hB3)).mono ?_
        rintro e w4 ⟨rfl, hb4⟩
        have hB4 := bel_trans hB3 hb4
        clear hb4
        rw [cat_ris HR.out]
        go_wp2_with fail
        refine (back_any _ ks _ _ (H.out.on hB4) HR.out).mono ?_
        rintro e w5 ⟨c, rfl, kc, hb5⟩
        have hvx := val_unit ks HR.out.good x
        rw [show min 65535 (max (val ks x) 0) = val ks x by omega] at kc
        have hcl := kc.lo
        have hle := kc.least HR.out
        have hB5 := bel_trans hB4 hb5
        clear hb5 kc
        rcases (show x < 0 ∨ (0 ≤ x ∧ x ≤ 65535) ∨ 65535 < x by omega) with hx | hx | hx
        all_goals
          go_wp2_with fail
          refine (example_any _).mono ?_
          rintro e w6 ⟨rfl, hb6⟩
          go_wp2_with fail
          go_ret
          exact ⟨rfl, bel_trans hB5 hb6⟩
      · go_wp2_with fail
        refine (at_any _ ks _ _ (H.out.on hB2)).mono ?_
        rintro e w4 ⟨rfl, hb4⟩
        have hB4 := bel_trans hB2 hb4
        clear hb4
        rw [cat_ris HR.out]
        go_wp2_with fail
        refine (back_any _ ks _ _ (H.out.on hB4) HR.out).mono ?_
        rintro e w5 ⟨c, rfl, kc, hb5⟩
        have hvx := val_unit ks HR.out.good x
        rw [show min 65535 (max (val ks x) 0) = val ks x by omega] at kc
        have hcl := kc.lo
        have hle := kc.least HR.out
        have hB5 := bel_trans hB4 hb5
        clear hb5 kc
        rcases (show x < 0 ∨ (0 ≤ x ∧ x ≤ 65535) ∨ 65535 < x by omega) with hx | hx | hx
        all_goals
          go_wp2_with fail
          refine (example_any _).mono ?_
          rintro e w6 ⟨rfl, hb6⟩
          go_wp2_with fail
          go_ret
          exact ⟨rfl, bel_trans hB5 hb6⟩
    · go_enter Try.func9, Try.ntmps9
      go_wp2_with fail
      refine (rrising_any _ ks _ H.out).mono ?_
      rintro e w0 ⟨rfl, hb0⟩
      rw [HRB.out]
      go_wp2_with fail
      refine (back_any _ ks _ _ (H.out.on hb0) HR.out).mono ?_
      rintro e w1 ⟨b, rfl, kb, hb1⟩
      rw [show min 65535 (max y 0) = y by omega] at kb
      have hB1 := bel_trans hb0 hb1
      clear hb0 hb1
      have hbl := kb.lo
      have hbh := kb.hi
      have hge := kb.ge
      have hlt := Lib.hid kb.lt
      clear kb
      go_wp2_with fail
      refine (at_any _ ks _ _ (H.out.on hB1)).mono ?_
      rintro e w2 ⟨rfl, hb2⟩
      have hB2 := bel_trans hB1 hb2
      clear hb2
      rw [cat_ris HR.out]
      generalize val ks b = vb at *
      by_cases hb0 : 0 < b
      · have hlt2 : val ks (b - 1) < y := by rcases hlt.out with e | e; omega; exact e
        go_wp2_with fail
        refine (at_any _ ks _ _ (H.out.on hB2)).mono ?_
        rintro e w3 ⟨rfl, hb3⟩
        have hB3 := bel_trans hB2 hb3
        clear hb3
        rw [cat_ris HR.out]
        generalize val ks (b - 1) = vb1 at *
        go_wp2_with fail
        refine (at_any _ ks _ _ (H.out.on hB3)).mono ?_
        rintro e w4 ⟨rfl, hb4⟩
        have hB4 := bel_trans hB3 hb4
        clear hb4
        rw [cat_ris HR.out]
        go_wp2_with fail
        refine (back_any _ ks _ _ (H.out.on hB4) HR.out).mono ?_
        rintro e w5 ⟨c, rfl, kc, hb5⟩
        have hvx := val_unit ks HR.out.good x
        rw [show min 65535 (max (val ks x) 0) = val ks x by omega] at kc
        have hcl := kc.lo
        have hle := kc.least HR.out
        have hB5 := bel_trans hB4 hb5
        clear hb5 kc
        rcases (show x < 0 ∨ (0 ≤ x ∧ x ≤ 65535) ∨ 65535 < x by omega) with hx | hx | hx
        all_goals
          go_wp2_with fail
          refine (example_any _).mono ?_
          rintro e w6 ⟨rfl, hb6⟩
          go_wp2_with fail
          go_ret
          exact ⟨rfl, bel_trans hB5 hb6⟩
      · go_wp2_with fail
        refine (at_any _ ks _ _ (H.out.on hB2)).mono ?_
        rintro e w4 ⟨rfl, hb4⟩
        have hB4 := bel_trans hB2 hb4
        clear hb4
        rw [cat_ris HR.out]
        go_wp2_with fail
        refine (back_any _ ks _ _ (H.out.on hB4) HR.out).mono ?_
        rintro e w5 ⟨c, rfl, kc, hb5⟩
        have hvx := val_unit ks HR.out.good x
        rw [show min 65535 (max (val ks x) 0) = val ks x by omega] at kc
        have hcl := kc.lo
        have hle := kc.least HR.out
        have hB5 := bel_trans hB4 hb5
        clear hb5 kc
        rcases (show x < 0 ∨ (0 ≤ x ∧ x ≤ 65535) ∨ 65535 < x by omega) with hx | hx | hx
        all_goals
          go_wp2_with fail
          refine (example_any _).mono ?_
          rintro e w6 ⟨rfl, hb6⟩
          go_wp2_with fail
          go_ret
          exact ⟨rfl, bel_trans hB5 hb6⟩
    · go_enter Try.func9, Try.ntmps9
      go_wp2_with fail
      refine (rrising_any _ ks _ H.out).mono ?_
      rintro e w0 ⟨rfl, hb0⟩
      rw [HRB.out]
      go_wp2_with fail
      refine (back_any _ ks _ _ (H.out.on hb0) HR.out).mono ?_
      rintro e w1 ⟨b, rfl, kb, hb1⟩
      rw [show min 65535 (max y 0) = 65535 by omega] at kb
      have hB1 := bel_trans hb0 hb1
      clear hb0 hb1
      have hbl := kb.lo
      have hbh := kb.hi
      have hge := kb.ge
      have hlt := Lib.hid kb.lt
      clear kb
      go_wp2_with fail
      refine (at_any _ ks _ _ (H.out.on hB1)).mono ?_
      rintro e w2 ⟨rfl, hb2⟩
      have hB2 := bel_trans hB1 hb2
      clear hb2
      rw [cat_ris HR.out]
      generalize val ks b = vb at *
      by_cases hb0 : 0 < b
      · have hlt2 : val ks (b - 1) < 65535 := by rcases hlt.out with e | e; omega; exact e
        go_wp2_with fail
        refine (at_any _ ks _ _ (H.out.on hB2)).mono ?_
        rintro e w3 ⟨rfl, hb3⟩
        have hB3 := bel_trans hB2 hb3
        clear hb3
        rw [cat_ris HR.out]
        generalize val ks (b - 1) = vb1 at *
        go_wp2_with fail
        refine (at_any _ ks _ _ (H.out.on hB3)).mono ?_
        rintro e w4 ⟨rfl, hb4⟩
        have hB4 := bel_trans hB3 hb4
        clear hb4
        rw [cat_ris HR.out]
        go_wp2_with fail
        refine (back_any _ ks _ _ (H.out.on hB4) HR.out).mono ?_
        rintro e w5 ⟨c, rfl, kc, hb5⟩
        have hvx := val_unit ks HR.out.good x
        rw [show min 65535 (max (val ks x) 0) = val ks x by omega] at kc
        have hcl := kc.lo
        have hle := kc.least HR.out
        have hB5 := bel_trans hB4 hb5
        clear hb5 kc
        rcases (show x < 0 ∨ (0 ≤ x ∧ x ≤ 65535) ∨ 65535 < x by omega) with hx | hx | hx
        all_goals
          go_wp2_with fail
          refine (example_any _).mono ?_
          rintro e w6 ⟨rfl, hb6⟩
          go_wp2_with fail
          go_ret
          exact ⟨rfl, bel_trans hB5 hb6⟩
      · go_wp2_with fail
        refine (at_any _ ks _ _ (H.out.on hB2)).mono ?_
        rintro e w4 ⟨rfl, hb4⟩
        have hB4 := bel_trans hB2 hb4
        clear hb4
        rw [cat_ris HR.out]
        go_wp2_with fail
        refine (back_any _ ks _ _ (H.out.on hB4) HR.out).mono ?_
        rintro e w5 ⟨c, rfl, kc, hb5⟩
        have hvx := val_unit ks HR.out.good x
        rw [show min 65535 (max (val ks x) 0) = val ks x by omega] at kc
        have hcl := kc.lo
        have hle := kc.least HR.out
        have hB5 := bel_trans hB4 hb5
        clear hb5 kc
        rcases (show x < 0 ∨ (0 ≤ x ∧ x ≤ 65535) ∨ 65535 < x by omega) with hx | hx | hx
        all_goals
          go_wp2_with fail
          refine (example_any _).mono ?_
          rintro e w6 ⟨rfl, hb6⟩
          go_wp2_with fail
          go_ret
          exact ⟨rfl, bel_trans hB5 hb6⟩
  · have HR := Lib.hid r
    have HRB := Lib.hid (show risB ks = false by rw [Bool.eq_false_iff]; intro e; exact r ((risB_iff ks).1 e))
    clear r
    go_enter Try.func9, Try.ntmps9
    go_wp2_with fail
    refine (rrising_any _ ks _ H.out).mono ?_
    rintro e w0 ⟨rfl, hb0⟩
    rw [HRB.out]
    go_wp2_with fail
    refine (back_any_no _ ks _ _ (H.out.on hb0) HR.out).mono ?_
    rintro e w1 ⟨rfl, hb1⟩
    have hB1 := bel_trans hb0 hb1
    go_wp2_with fail
    refine (example_any _).mono ?_
    rintro e w5 ⟨rfl, hb5⟩
    go_wp2_with fail
    go_ret
    exact ⟨rfl, bel_trans hB1 hb5⟩
end Go.Proofs.Ytccecikaidonhaa
