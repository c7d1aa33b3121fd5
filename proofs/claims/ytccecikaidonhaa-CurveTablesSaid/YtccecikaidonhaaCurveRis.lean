/- Rising, both: whether a curve is strictly increasing from (0, 0) to (Unit, Unit). -/
import Derived.Test.YtccecikaidonhaaCurveAt
namespace Go.Proofs.Ytccecikaidonhaa
open Go.RowKit

def ends (ks : List (Int × Int)) : Bool := decide (kx ks 0 = 0 ∧ ky ks 0 = 0 ∧ kx ks (ks.length - 1) = 65535 ∧ ky ks (ks.length - 1) = 65535)
def rises (ks : List (Int × Int)) : Bool := (List.range (ks.length - 1)).all fun i => decide (ky ks i < ky ks (i + 1))
def risB (ks : List (Int × Int)) : Bool := decide (chk ks = 0) && rises ks && ends ks
theorem rises_iff (ks : List (Int × Int)) : rises ks = true ↔ ∀ i, i + 1 < ks.length → ky ks i < ky ks (i + 1) := by
  unfold rises
  rw [List.all_eq_true]
  constructor
  · intro h i hi
    have := h i (List.mem_range.2 (by omega))
    simpa using this
  · intro h i hi
    have := List.mem_range.1 hi
    simpa using h i (by omega)
theorem risB_iff (ks : List (Int × Int)) : risB ks = true ↔ Ris ks := by
  unfold risB
  rw [Bool.and_eq_true, Bool.and_eq_true, decide_eq_true_eq, rises_iff, chk_iff]
  unfold ends
  rw [decide_eq_true_eq]
  constructor
  · rintro ⟨⟨g, u⟩, h1, h2, h3, h4⟩
    exact ⟨g, h1, h2, h3, h4, u⟩
  · intro r
    exact ⟨⟨r.good, r.up⟩, r.x0, r.y0, r.x1, r.y1⟩
theorem rises_no (ks : List (Int × Int)) (j : Nat) (h : j + 1 < ks.length) (hn : ky ks (j + 1) ≤ ky ks j) : rises ks = false := by
  rw [Bool.eq_false_iff]
  intro e
  have := (rises_iff ks).1 e j h
  omega

/-- The loop's head. -/
def RisRel (ks : List (Int × Int)) (w : World) (i : Value) (wr : World) : Prop :=
  ∃ j : Nat, j + 1 ≤ ks.length ∧ i = .int .i64 ((j : Int) + 1) ∧ (∀ i, i < j → ky ks i < ky ks (i + 1)) ∧ Below w.heap.size w wr

set_option maxHeartbeats 2000000 in
theorem rising_any (v : Value) (ks : List (Int × Int)) (w : World) (h : Knots w w.heap.size v ks) :
    Calls Try.prog 13 #[v] w fun e w' => e = .returned (.bool (risB ks)) ∧ Below w.heap.size w w' := by
  have H := Lib.hid h
  by_cases hc : chk ks = 0
  · have EB := Lib.hid (show risB ks = (rises ks && ends ks) by unfold risB; rw [decide_eq_true hc, Bool.true_and])
    have g := (chk_iff ks).1 hc
    have HC := Lib.hid hc; clear hc h
    have hn2 := g.n2
    have hn16 := g.n16
    go_enter Try.func13, Try.ntmps13
    go_wp2_with fail
    refine (check_any _ ks _ H.out).mono ?_
    rintro e w1 ⟨rfl, hb1⟩
    rw [HC.out]
    have H1 := H.out.on hb1
    obtain ⟨b, o, c, rfl, hb, hcell⟩ := H1.form (by omega)
    have HK := Lib.hid hcell
    clear hcell H1
    go_wp2
    go_loopw [3] (RisRel ks w1) (fun i _ => ks.length - (intOf i).toNat)
    case atStart => exact ⟨0, by omega, by go_num, fun i hi => absurd hi (by omega), Below.refl _ _⟩
    case round =>
      obtain ⟨j, hj, rfl, hup, hbel⟩ := hrel
      have HUP := Lib.hid hup; clear hup
      have hsz := hbel.size
      by_cases hlt : j + 1 < ks.length
      · have c2 := (hbel.cell (p := ⟨b, o + j * 2 + 1, none⟩) hb).trans (HK.out j (by omega)).2
        have c4 := (hbel.cell (p := ⟨b, o + (j + 1) * 2 + 1, none⟩) hb).trans (HK.out (j + 1) hlt).2
        have HNO := Lib.hid (rises_no ks j hlt)
        generalize hpy : ky ks j = py at *
        generalize hqy : ky ks (j + 1) = qy at *
        have HPY := Lib.hid hpy; clear hpy
        have HQY := Lib.hid hqy; clear hqy
        by_cases hq : qy ≤ py
        · go_wp2
          go_quiet (fail)
          go_wp2
          go_ret
          exact ⟨ret_bool (by rw [EB.out, HNO.out hq]; rfl), bel_trans hb1 (Below.drewN' hbel _)⟩
        · go_wp2
          go_quiet (fail)
          go_wp2
          go_roundw
          case rel =>
            refine ⟨j + 1, by omega, by go_num, fun i hi => ?_, Below.drewN' hbel _⟩
            by_cases e : i = j
            · subst e; rw [HPY.out, HQY.out]; omega
            · exact HUP.out i (by omega)
          case measure => simp [intOf]; omega
      · have ER := Lib.hid (show rises ks = true by rw [rises_iff]; intro i hi; exact HUP.out i (by omega))
        have a1 := (hbel.cell (p := ⟨b, o + 0 * 2, none⟩) hb).trans (HK.out 0 (by omega)).1
        have a2 := (hbel.cell (p := ⟨b, o + 0 * 2 + 1, none⟩) hb).trans (HK.out 0 (by omega)).2
        have a3 := (hbel.cell (p := ⟨b, o + (ks.length - 1) * 2, none⟩) hb).trans (HK.out (ks.length - 1) (by omega)).1
        have a4 := (hbel.cell (p := ⟨b, o + (ks.length - 1) * 2 + 1, none⟩) hb).trans (HK.out (ks.length - 1) (by omega)).2
        simp only [Nat.zero_mul, Nat.add_zero] at a1 a2
        have EE : Hid (ends ks = decide (kx ks 0 = 0 ∧ ky ks 0 = 0 ∧ kx ks (ks.length - 1) = 65535 ∧ ky ks (ks.length - 1) = 65535)) := rfl
        generalize kx ks 0 = x0 at *
        generalize ky ks 0 = y0 at *
        generalize kx ks (ks.length - 1) = x1 at *
        generalize ky ks (ks.length - 1) = y1 at *
        by_cases e0 : x0 = 0 ∧ y0 = 0
        · obtain ⟨rfl, rfl⟩ := e0
          by_cases e1 : x1 = 65535 ∧ y1 = 65535
          · obtain ⟨rfl, rfl⟩ := e1
            go_wp2
            go_ret
            exact ⟨ret_bool (by rw [EB.out, ER.out, EE.out]; rfl), bel_trans hb1 hbel⟩
          · go_wp2
            all_goals (go_ret; exact ⟨ret_bool (by rw [EB.out, ER.out, EE.out, Bool.eq_iff_iff]; simp; omega), bel_trans hb1 hbel⟩)
        · have en : (x0 == 0 && y0 == 0) = false := by
            rw [Bool.eq_false_iff]; intro h; rw [Bool.and_eq_true, beq_iff_eq, beq_iff_eq] at h; exact e0 h
          go_wp2
          all_goals (go_ret; exact ⟨ret_bool (by rw [EB.out, ER.out, EE.out, Bool.eq_iff_iff]; simp; omega), bel_trans hb1 hbel⟩)
  · have EB := Lib.hid (show risB ks = false by unfold risB; rw [decide_eq_false hc]; rfl)
    have hne : (chk ks != 0) = true := by simp [hc]
    generalize hcc : chk ks = cc at *
    have HCC := Lib.hid hcc; clear hcc hc h
    go_enter Try.func13, Try.ntmps13
    go_wp2_with fail
    refine (check_any _ ks _ H.out).mono ?_
    rintro e w1 ⟨rfl, hb1⟩
    rw [HCC.out]
    go_wp2_with fail
    go_ret
    exact ⟨ret_bool EB.out.symm, hb1⟩

set_option maxHeartbeats 2000000 in
theorem rrising_any (v : Value) (ks : List (Int × Int)) (w : World) (h : Knots w w.heap.size v ks) :
    Calls Try.prog 14 #[v] w fun e w' => e = .returned (.bool (risB ks)) ∧ Below w.heap.size w w' := by
  have H := Lib.hid h
  by_cases hc : chk ks = 0
  · have EB := Lib.hid (show risB ks = (rises ks && ends ks) by unfold risB; rw [decide_eq_true hc, Bool.true_and])
    have g := (chk_iff ks).1 hc
    have HC := Lib.hid hc; clear hc h
    have hn2 := g.n2
    have hn16 := g.n16
    go_enter Try.func14, Try.ntmps14
    go_wp2_with fail
    refine (rcheck_any _ ks _ H.out).mono ?_
    rintro e w1 ⟨rfl, hb1⟩
    rw [HC.out]
    have H1 := H.out.on hb1
    obtain ⟨b, o, c, rfl, hb, hcell⟩ := H1.form (by omega)
    have HK := Lib.hid hcell
    clear hcell H1
    have a1 := (HK.out 0 (by omega)).1
    have a2 := (HK.out 0 (by omega)).2
    have a3 := (HK.out (ks.length - 1) (by omega)).1
    have a4 := (HK.out (ks.length - 1) (by omega)).2
    simp only [Nat.zero_mul, Nat.add_zero] at a1 a2
    have EE : Hid (ends ks = decide (kx ks 0 = 0 ∧ ky ks 0 = 0 ∧ kx ks (ks.length - 1) = 65535 ∧ ky ks (ks.length - 1) = 65535)) := rfl
    generalize kx ks 0 = x0 at *
    generalize ky ks 0 = y0 at *
    generalize kx ks (ks.length - 1) = x1 at *
    generalize ky ks (ks.length - 1) = y1 at *
    by_cases e0 : x0 = 0 ∧ y0 = 0
    · obtain ⟨rfl, rfl⟩ := e0
      by_cases e1 : x1 = 65535 ∧ y1 = 65535
      · obtain ⟨rfl, rfl⟩ := e1
        go_wp2
        clear a1 a2 a3 a4
        go_loopw [3] (RisRel ks w1) (fun i _ => ks.length - (intOf i).toNat)
        case atStart => exact ⟨0, by omega, by go_num, fun i hi => absurd hi (by omega), Below.refl _ _⟩
        case round =>
          obtain ⟨j, hj, rfl, hup, hbel⟩ := hrel
          have HUP := Lib.hid hup; clear hup
          have hsz := hbel.size
          by_cases hlt : j + 1 < ks.length
          · have c2 := (hbel.cell (p := ⟨b, o + j * 2 + 1, none⟩) hb).trans (HK.out j (by omega)).2
            have c4 := (hbel.cell (p := ⟨b, o + (j + 1) * 2 + 1, none⟩) hb).trans (HK.out (j + 1) hlt).2
            have HNO := Lib.hid (rises_no ks j hlt)
            generalize hpy : ky ks j = py at *
            generalize hqy : ky ks (j + 1) = qy at *
            have HPY := Lib.hid hpy; clear hpy
            have HQY := Lib.hid hqy; clear hqy
            by_cases hq : qy ≤ py
            · go_wp2
              go_quiet (fail)
              go_wp2
              go_ret
              exact ⟨ret_bool (by rw [EB.out, HNO.out hq]; rfl), bel_trans hb1 (Below.drewN' hbel _)⟩
            · go_wp2
              go_quiet (fail)
              go_wp2
              go_roundw
              case rel =>
                refine ⟨j + 1, by omega, by go_num, fun i hi => ?_, Below.drewN' hbel _⟩
                by_cases e : i = j
                · subst e; rw [HPY.out, HQY.out]; omega
                · exact HUP.out i (by omega)
              case measure => simp [intOf]; omega
          · have ER := Lib.hid (show rises ks = true by rw [rises_iff]; intro i hi; exact HUP.out i (by omega))
            go_wp2
            go_ret
            exact ⟨ret_bool (by rw [EB.out, ER.out, EE.out]; rfl), bel_trans hb1 hbel⟩
      · have en : (!(x1 == 65535 && y1 == 65535)) = true := by
          rw [Bool.not_eq_true', Bool.eq_false_iff]; intro h; rw [Bool.and_eq_true, beq_iff_eq, beq_iff_eq] at h; exact e1 h
        go_wp2
        all_goals (go_ret; exact ⟨ret_bool (by rw [EB.out, EE.out, Bool.eq_iff_iff]; simp; omega), hb1⟩)
    · have en : (!(x0 == 0 && y0 == 0)) = true := by
        rw [Bool.not_eq_true', Bool.eq_false_iff]; intro h; rw [Bool.and_eq_true, beq_iff_eq, beq_iff_eq] at h; exact e0 h
      go_wp2
      all_goals (go_ret; exact ⟨ret_bool (by rw [EB.out, EE.out, Bool.eq_iff_iff]; simp; omega), hb1⟩)
  · have EB := Lib.hid (show risB ks = false by unfold risB; rw [decide_eq_false hc]; rfl)
    have hne : (chk ks != 0) = true := by simp [hc]
    generalize hcc : chk ks = cc at *
    have HCC := Lib.hid hcc; clear hcc hc h
    go_enter Try.func14, Try.ntmps14
    go_wp2_with fail
    refine (rcheck_any _ ks _ H.out).mono ?_
    rintro e w1 ⟨rfl, hb1⟩
    rw [HCC.out]
    go_wp2_with fail
    go_ret
    exact ⟨ret_bool EB.out.symm, hb1⟩
end Go.Proofs.Ytccecikaidonhaa
