/- exposed, the channel function of AdExposure. -/
import Derived.Test.YtmbglkholoblaaaDoorAdjE
namespace Go.Proofs.YtmbglkholoblaaaDoor
open Go.RowKit

/-- The table of factors. -/
def Tab (w : World) : Prop := 0 < w.heap.size ∧ ∀ i : Nat, i < 16 → w.cell? ⟨0, i, none⟩ = some (.int .i64 (facs.getD i 0))
theorem Tab.below {w w' : World} (h : Tab w) (hb : Below w.heap.size w w') : Tab w' := ⟨Nat.lt_of_lt_of_le h.1 hb.size, fun i hi => (hb.cell (p := ⟨0, i, none⟩) h.1).trans (h.2 i hi)⟩
theorem facs_bd (i : Nat) (h : i < 16) : 65536 ≤ facs.getD i 0 ∧ facs.getD i 0 ≤ 125515 := by
  have : ∀ i : Fin 16, 65536 ≤ facs.getD i.val 0 ∧ facs.getD i.val 0 ≤ 125515 := by decide
  exact this ⟨i, h⟩
theorem pow_bd {m : Nat} {y : Int} (hm : m ≤ 8) (hy : 0 ≤ y ∧ y ≤ 8225625525) : 0 ≤ y * 2 ^ m ∧ y * 2 ^ m ≤ 2105760134400 := by
  rcases (show m = 0 ∨ m = 1 ∨ m = 2 ∨ m = 3 ∨ m = 4 ∨ m = 5 ∨ m = 6 ∨ m = 7 ∨ m = 8 by omega) with rfl | rfl | rfl | rfl | rfl | rfl | rfl | rfl | rfl <;> omega
set_option maxHeartbeats 2000000 in
theorem exposed_up (b o c : Nat) (p0 p1 x : Int) (m r : Nat) (F : Int) (w : World) (hx : 0 ≤ x ∧ x ≤ 65535) (hm : m ≤ 8) (hr : r < 16) (h0 : p0 = 16 * m + r) (h1 : -65535 ≤ p1 ∧ p1 ≤ 65535) (hF : 65536 ≤ F ∧ F ≤ 125515) (ht : w.cell? ⟨0, r, none⟩ = some (.int .i64 F))
    (c0 : w.cell? ⟨b, o, none⟩ = some (.int .i64 p0)) (c1 : w.cell? ⟨b, o + 1, none⟩ = some (.int .i64 p1)) :
    Calls Tryd.prog 82 #[.slice (some ⟨b, o, none⟩) 2 c, .int .i64 x] w fun e w' => e = .returned (.int .i64 (lim16 (rdiv (x * F * 2 ^ m) 65536 + p1))) ∧ ∃ n, w' = w.drewN n := by
  have hq : p0 / 16 = (m : Int) := by omega
  have hq2 : p0 - 16 * (m : Int) = (r : Int) := by omega
  have hp : -128 ≤ p0 ∧ p0 ≤ 143 := by omega
  have HQ := Lib.hid hq; clear hq h0
  go_enter Tryd.func82, Tryd.ntmps82
  go_wp2_with fail
  refine (floor_any _ _ _ (by omega) (by omega) (by omega) (by omega)).mono ?_
  rintro e w1 ⟨rfl, rfl⟩
  rw [HQ.out]
  have hm0 : (0 : Int) ≤ (m : Int) := by omega
  have hr0 : (0 : Int) ≤ (r : Int) := by omega
  have hr1 : (r : Int) < 16 := by omega
  have hxf : 0 ≤ x * F ∧ x * F ≤ 8225625525 := ⟨Int.mul_nonneg hx.1 (by omega), by have : x * F ≤ 65535 * 125515 := Int.mul_le_mul hx.2 hF.2 (by omega) (by omega); omega⟩
  have hyb := pow_bd hm hxf
  generalize hy : x * F * 2 ^ m = y at *
  have HY := Lib.hid hy
  go_wp2_with fail
  refine (div_any _ _ _ (by omega) (by omega) (by omega) (by omega)).mono ?_
  rintro e w1 ⟨rfl, rfl⟩
  have hd := rdiv_spec y 65536 (by omega)
  have hdb : -4611686018427387904 ≤ rdiv y 65536 ∧ rdiv y 65536 ≤ 4611686018427300000 := by omega
  generalize hdd : rdiv y 65536 = dv at *
  have HD := Lib.hid hdd; clear hdd hd
  go_wp2_with fail
  refine (aunit_any _ _).mono ?_
  rintro e w1 ⟨rfl, rfl⟩
  go_wp2_with fail
  go_ret
  exact ⟨by rw [HY.out, HD.out]; rfl, 0, rfl⟩
set_option maxHeartbeats 2000000 in
theorem exposed_dn (b o c : Nat) (p0 p1 x : Int) (m r : Nat) (F : Int) (w : World) (hx : 0 ≤ x ∧ x ≤ 65535) (hm0 : 1 ≤ m) (hm : m ≤ 8) (hr : r < 16) (h0 : p0 = 16 * (-(m : Int)) + r) (h1 : -65535 ≤ p1 ∧ p1 ≤ 65535) (hF : 65536 ≤ F ∧ F ≤ 125515) (ht : w.cell? ⟨0, r, none⟩ = some (.int .i64 F))
    (c0 : w.cell? ⟨b, o, none⟩ = some (.int .i64 p0)) (c1 : w.cell? ⟨b, o + 1, none⟩ = some (.int .i64 p1)) :
    Calls Tryd.prog 82 #[.slice (some ⟨b, o, none⟩) 2 c, .int .i64 x] w fun e w' => e = .returned (.int .i64 (lim16 (rdiv (x * F) (65536 * 2 ^ m) + p1))) ∧ ∃ n, w' = w.drewN n := by
  have hq : p0 / 16 = -(m : Int) := by omega
  have hq2 : p0 - 16 * (-(m : Int)) = (r : Int) := by omega
  have hq3 : p0 - -(16 * (m : Int)) = (r : Int) := by omega
  have hp : -128 ≤ p0 ∧ p0 ≤ 143 := by omega
  have HQ := Lib.hid hq; clear hq h0
  go_enter Tryd.func82, Tryd.ntmps82
  go_wp2_with fail
  refine (floor_any _ _ _ (by omega) (by omega) (by omega) (by omega)).mono ?_
  rintro e w1 ⟨rfl, rfl⟩
  rw [HQ.out]
  have hg : decide (0 ≤ -(m : Int)) = false := by simp; omega
  have hm1 : (0 : Int) ≤ (m : Int) := by omega
  have hr0 : (0 : Int) ≤ (r : Int) := by omega
  have hr1 : (r : Int) < 16 := by omega
  have hxf : 0 ≤ x * F ∧ x * F ≤ 8225625525 := ⟨Int.mul_nonneg hx.1 (by omega), by have : x * F ≤ 65535 * 125515 := Int.mul_le_mul hx.2 hF.2 (by omega) (by omega); omega⟩
  have hyb := pow_bd hm (y := 65536) (by omega)
  generalize hy : (65536 : Int) * 2 ^ m = y at *
  have HY := Lib.hid hy
  have hyb2 : 0 < y := by rw [← HY.out]; exact Int.mul_pos (by omega) (Int.pow_pos (by omega))
  go_wp2_with fail
  refine (div_any _ _ _ (by omega) (by omega) (by omega) (by omega)).mono ?_
  rintro e w1 ⟨rfl, rfl⟩
  have hd := rdiv_bounds (x * F) y hyb2 (by omega) (by omega)
  have hdb : -4611686018427387904 ≤ rdiv (x * F) y ∧ rdiv (x * F) y ≤ 4611686018427387905 := hd
  generalize hdd : rdiv (x * F) y = dv at *
  have HD := Lib.hid hdd; clear hdd hd
  go_wp2_with fail
  refine (aunit_any _ _).mono ?_
  rintro e w1 ⟨rfl, rfl⟩
  go_wp2_with fail
  go_ret
  exact ⟨by rw [HY.out, HD.out]; rfl, 0, rfl⟩
/-- exposed, for parameters in their ranges. -/
theorem exposed_any (b o c : Nat) (p0 p1 x : Int) (w : World) (hT : Tab w) (hx : 0 ≤ x ∧ x ≤ 65535) (h0 : -128 ≤ p0 ∧ p0 ≤ 128) (h1 : -65535 ≤ p1 ∧ p1 ≤ 65535)
    (c0 : w.cell? ⟨b, o, none⟩ = some (.int .i64 p0)) (c1 : w.cell? ⟨b, o + 1, none⟩ = some (.int .i64 p1)) :
    Calls Tryd.prog 82 #[.slice (some ⟨b, o, none⟩) 2 c, .int .i64 x] w fun e w' => e = .returned (.int .i64 (lim16 (expD p0 x + p1))) ∧ ∃ n, w' = w.drewN n := by
  have hr : (p0 % 16).toNat < 16 := by omega
  by_cases h : 0 ≤ p0 / 16
  · have := exposed_up b o c p0 p1 x (p0 / 16).toNat (p0 % 16).toNat _ w hx (by omega) hr (by omega) h1 (facs_bd _ hr) (hT.2 _ hr) c0 c1
    unfold expD
    rw [if_pos h]
    exact this
  · have := exposed_dn b o c p0 p1 x (-(p0 / 16)).toNat (p0 % 16).toNat _ w hx (by omega) (by omega) hr (by omega) h1 (facs_bd _ hr) (hT.2 _ hr) c0 c1
    unfold expD
    rw [if_neg h]
    exact this
end Go.Proofs.YtmbglkholoblaaaDoor
