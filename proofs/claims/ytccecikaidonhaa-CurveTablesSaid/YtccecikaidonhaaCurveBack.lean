/- Back, both: the least place at which a rising curve is at least y. -/
import Derived.Test.YtccecikaidonhaaCurveRis
namespace Go.Proofs.Ytccecikaidonhaa
open Go.RowKit

def BackPost (ks : List (Int × Int)) (y : Int) (w : World) (e : Ending) (w' : World) : Prop := ∃ b, e = .returned (.int .i64 b) ∧ IsBack ks y b ∧ Below w.heap.size w w'
/-- The loop's head. -/
def BackRel (ks : List (Int × Int)) (y : Int) (w : World) (lo hi : Value) (wr : World) : Prop :=
  ∃ l h : Int, lo = .int .i64 l ∧ hi = .int .i64 h ∧ 0 ≤ l ∧ l ≤ h ∧ h ≤ 65535 ∧ y ≤ val ks h ∧ (l = 0 ∨ val ks (l - 1) < y) ∧ Below w.heap.size w wr

set_option maxHeartbeats 2000000 in
theorem back_any (v : Value) (ks : List (Int × Int)) (y : Int) (w : World) (h : Knots w w.heap.size v ks) (r : Ris ks) :
    Calls Try.prog 21 #[v, .int .i64 y] w (BackPost ks (min 65535 (max y 0)) w) := by
  have H := Lib.hid h; clear h
  have HR := Lib.hid ((risB_iff ks).2 r)
  go_enter Try.func21, Try.ntmps21
  go_wp2_with fail
  refine (rising_any _ ks _ H.out).mono ?_
  rintro e w1 ⟨rfl, hb1⟩
  rw [HR.out]
  go_wp2_with fail
  refine (unit_any _ _).mono ?_
  rintro e w2 ⟨rfl, rfl⟩
  have hy0 : 0 ≤ min 65535 (max y 0) := by omega
  have hy1 : min 65535 (max y 0) ≤ 65535 := by omega
  generalize min 65535 (max y 0) = Y at *
  go_wp2_with fail
  go_loopw [5, 6] (BackRel ks Y w1) (fun lo hi _ => (intOf hi - intOf lo).toNat)
  case atStart => exact ⟨0, 65535, rfl, rfl, by omega, by omega, by omega, by rw [r.top]; omega, .inl rfl, Below.refl _ _⟩
  case round =>
    obtain ⟨l, hh, rfl, rfl, h1, h2, h3, h4, h5, hbel⟩ := hrel
    have H4 := Lib.hid h4; clear h4
    have H5 := Lib.hid h5; clear h5
    by_cases hlt : l < hh
    · have hK := (H.out.on hb1).on hbel
      have HKK := Lib.hid hK; clear hK
      go_wp2_with fail
      refine (value_any _ ks _ _ HKK.out r.good).mono ?_
      rintro e w3 ⟨rfl, hb3⟩
      have hm1 : l ≤ (l + hh) / 2 := by omega
      have hm2 : (l + hh) / 2 < hh := by omega
      generalize (l + hh) / 2 = m at *
      have hBW : Below w1.heap.size w1 w3 := bel_trans hbel hb3
      generalize hvm : val ks m = vm at *
      have HVM := Lib.hid hvm; clear hvm
      by_cases hq : Y ≤ vm
      · go_wp2_with fail
        go_roundw
        case rel => exact ⟨l, m, rfl, rfl, by omega, by omega, by omega, by rw [HVM.out]; omega, H5.out, hBW⟩
        case measure => simp [intOf]; omega
      · go_wp2_with fail
        go_roundw
        case rel => exact ⟨m + 1, hh, rfl, rfl, by omega, by omega, by omega, H4.out, .inr (by rw [show m + 1 - 1 = m by omega, HVM.out]; omega), hBW⟩
        case measure => simp [intOf]; omega
    · obtain rfl : l = hh := by omega
      go_wp2_with fail
      go_ret
      exact ⟨l, rfl, ⟨h1, h3, H4.out, H5.out⟩, bel_trans hb1 hbel⟩

set_option maxHeartbeats 400000 in
theorem back_any_no (v : Value) (ks : List (Int × Int)) (y : Int) (w : World) (h : Knots w w.heap.size v ks) (r : ¬ Ris ks) :
    Calls Try.prog 21 #[v, .int .i64 y] w fun e w' => e = .returned (.int .i64 (-1)) ∧ Below w.heap.size w w' := by
  have H := Lib.hid h; clear h
  have HR := Lib.hid (show risB ks = false by rw [Bool.eq_false_iff]; intro e; exact r ((risB_iff ks).1 e))
  go_enter Try.func21, Try.ntmps21
  go_wp2_with fail
  refine (rising_any _ ks _ H.out).mono ?_
  rintro e w1 ⟨rfl, hb1⟩
  rw [HR.out]
  go_wp2_with fail
  go_ret
  exact ⟨rfl, hb1⟩

set_option maxHeartbeats 2000000 in
theorem rback_any (v : Value) (ks : List (Int × Int)) (y : Int) (w : World) (h : Knots w w.heap.size v ks) (r : Ris ks) :
    Calls Try.prog 22 #[v, .int .i64 y] w (BackPost ks (min 65535 (max y 0)) w) := by
  have H := Lib.hid h; clear h
  have HR := Lib.hid ((risB_iff ks).2 r)
  go_enter Try.func22, Try.ntmps22
  go_wp2_with fail
  refine (rrising_any _ ks _ H.out).mono ?_
  rintro e w1 ⟨rfl, hb1⟩
  rw [HR.out]
  have hy0 : 0 ≤ min 65535 (max y 0) := by omega
  have hy1 : min 65535 (max y 0) ≤ 65535 := by omega
  generalize hY : min 65535 (max y 0) = Y at *
  have HY := Lib.hid hY; clear hY
  go_wp2_with fail
  go_loopw [5, 6] (BackRel ks Y w1) (fun lo hi _ => (intOf hi - intOf lo).toNat)
  case atStart => exact ⟨0, 65535, rfl, rfl, by omega, by omega, by omega, by rw [r.top]; omega, .inl rfl, Below.refl _ _⟩
  case round =>
    obtain ⟨l, hh, rfl, rfl, h1, h2, h3, h4, h5, hbel⟩ := hrel
    have H4 := Lib.hid h4; clear h4
    have H5 := Lib.hid h5; clear h5
    by_cases hlt : l < hh
    · have hK := (H.out.on hb1).on hbel
      have HKK := Lib.hid hK; clear hK
      go_wp2_with fail
      refine (rat_any _ ks _ _ HKK.out).mono ?_
      rintro e w3 ⟨rfl, hb3⟩
      have hm1 : l ≤ (l + hh) / 2 := by omega
      have hm2 : (l + hh) / 2 < hh := by omega
      rw [show cat ks ((l + hh) / 2) = val ks ((l + hh) / 2) by unfold cat; rw [if_pos ((chk_iff ks).2 r.good)]]
      generalize (l + hh) / 2 = m at *
      go_wp2_with fail
      refine (runit_any _ _).mono ?_
      rintro e w4 ⟨rfl, rfl⟩
      rw [HY.out]
      have hBW : Below w1.heap.size w1 w3 := bel_trans hbel hb3
      generalize hvm : val ks m = vm at *
      have HVM := Lib.hid hvm; clear hvm
      by_cases hq : Y ≤ vm
      · go_wp2_with fail
        go_roundw
        case rel => exact ⟨l, m, rfl, rfl, by omega, by omega, by omega, by rw [HVM.out]; omega, H5.out, hBW⟩
        case measure => simp [intOf]; omega
      · go_wp2_with fail
        go_roundw
        case rel => exact ⟨m + 1, hh, rfl, rfl, by omega, by omega, by omega, H4.out, .inr (by rw [show m + 1 - 1 = m by omega, HVM.out]; omega), hBW⟩
        case measure => simp [intOf]; omega
    · obtain rfl : l = hh := by omega
      go_wp2_with fail
      go_ret
      exact ⟨l, rfl, ⟨h1, h3, H4.out, H5.out⟩, bel_trans hb1 hbel⟩

set_option maxHeartbeats 400000 in
theorem rback_any_no (v : Value) (ks : List (Int × Int)) (y : Int) (w : World) (h : Knots w w.heap.size v ks) (r : ¬ Ris ks) :
    Calls Try.prog 22 #[v, .int .i64 y] w fun e w' => e = .returned (.int .i64 (-1)) ∧ Below w.heap.size w w' := by
  have H := Lib.hid h; clear h
  have HR := Lib.hid (show risB ks = false by rw [Bool.eq_false_iff]; intro e; exact r ((risB_iff ks).1 e))
  go_enter Try.func22, Try.ntmps22
  go_wp2_with fail
  refine (rrising_any _ ks _ H.out).mono ?_
  rintro e w1 ⟨rfl, hb1⟩
  rw [HR.out]
  go_wp2_with fail
  go_ret
  exact ⟨rfl, hb1⟩
end Go.Proofs.Ytccecikaidonhaa
