/- Contracts of package affine and of its reference, first part: the numbers. -/
import Derived.Test.YtanlnigebbcajaaDoorMem
import Derived.Test.YtanlnigebbcajaaDoorAffBox
import Derived.Test.YtanlnigebbcajaaDoorLaws
import Derived.Deep.RegionHeld3
import Derived.Deep.LoopGhost
namespace Go.Proofs.YtanlnigebbcajaaDoor
open Go.RowKit
attribute [local go_sem 2000] run_max2m run_min2m

set_option maxHeartbeats 400000 in
theorem factor_any (x : Int) (w : World) :
    Calls Tryd.prog 40 #[.int .i64 x] w fun e w' => e = .returned (.int .i64 (coef x)) ∧ w = w' := by
  go_enter Tryd.func40, Tryd.ntmps40
  go_wp2_with (go_at_call 38; refine (clamp_any _ _ _ _).mono ?_; rintro e w' ⟨rfl, rfl⟩)
  go_ret
  exact ⟨rfl, rfl⟩
set_option maxHeartbeats 400000 in
theorem place_any (x : Int) (w : World) :
    Calls Tryd.prog 34 #[.int .i64 x] w fun e w' => e = .returned (.int .i64 (far x)) ∧ w = w' := by
  go_enter Tryd.func34, Tryd.ntmps34
  go_wp2_with (go_at_call 38; refine (clamp_any _ _ _ _).mono ?_; rintro e w' ⟨rfl, rfl⟩)
  go_ret
  exact ⟨rfl, rfl⟩
set_option maxHeartbeats 400000 in
theorem rcoef_any (x : Int) (w : World) :
    Calls Tryd.prog 41 #[.int .i64 x] w fun e w' => e = .returned (.int .i64 (coef x)) ∧ w = w' := by
  go_enter Tryd.func41, Tryd.ntmps41
  go_wp2_with (go_at_call 39; refine (rclamp_any _ _ _ _).mono ?_; rintro e w' ⟨rfl, rfl⟩)
  go_ret
  exact ⟨rfl, rfl⟩
set_option maxHeartbeats 400000 in
theorem rfar_any (x : Int) (w : World) :
    Calls Tryd.prog 36 #[.int .i64 x] w fun e w' => e = .returned (.int .i64 (far x)) ∧ w = w' := by
  go_enter Tryd.func36, Tryd.ntmps36
  go_wp2_with (go_at_call 39; refine (rclamp_any _ _ _ _).mono ?_; rintro e w' ⟨rfl, rfl⟩)
  go_ret
  exact ⟨rfl, rfl⟩
theorem low_bd (x : Int) : 0 ≤ x - x / 65536 * 65536 ∧ x - x / 65536 * 65536 ≤ 65535 := by omega
set_option maxHeartbeats 1000000 in
theorem dot_any (m x n y : Int) (w : World) (hm : -16777216 ≤ m ∧ m ≤ 16777216) (hx : -1099511627776 ≤ x ∧ x ≤ 1099511627776) (hn : -16777216 ≤ n ∧ n ≤ 16777216) (hy : -1099511627776 ≤ y ∧ y ≤ 1099511627776) :
    Calls Tryd.prog 35 #[.int .i64 m, .int .i64 x, .int .i64 n, .int .i64 y] w fun e w' => e = .returned (.int .i64 (dotZ m x n y)) ∧ w = w' := by
  have E := Lib.hid (dot_eq m x n y)
  have hI : -16777216 ≤ x / 65536 ∧ x / 65536 ≤ 16777216 := by omega
  have hJ : -16777216 ≤ y / 65536 ∧ y / 65536 ≤ 16777216 := by omega
  have h1 := mul_bd hm hI
  have h2 := mul_bd hn hJ
  have l1 := low_bd x
  have l2 := low_bd y
  have h3 := mul_bd (B := 65536) hm (by omega : -65536 ≤ x - x / 65536 * 65536 ∧ x - x / 65536 * 65536 ≤ 65536)
  have h4 := mul_bd (B := 65536) hn (by omega : -65536 ≤ y - y / 65536 * 65536 ∧ y - y / 65536 * 65536 ≤ 65536)
  have h5 := rdiv_bd (a := m * (x - x / 65536 * 65536) + n * (y - y / 65536 * 65536)) (A := 33554432) (by omega)
  generalize dotZ m x n y = Z at *
  go_enter Tryd.func35, Tryd.ntmps35
  go_wp2_with (first | (go_at_call 52; refine (floor_any _ _ _ (by omega) (by omega) (by omega) (by omega)).mono ?_; rintro e w' ⟨rfl, rfl⟩) | (go_at_call 44; refine (div_any _ _ _ (by omega) (by omega) (by omega) (by omega)).mono ?_; rintro e w' ⟨rfl, rfl⟩))
  go_ret
  exact ⟨ret_int E.out, rfl⟩
set_option maxHeartbeats 1000000 in
theorem line_any (m n x y : Int) (w : World) (hm : -16777216 ≤ m ∧ m ≤ 16777216) (hx : -1099511627776 ≤ x ∧ x ≤ 1099511627776) (hn : -16777216 ≤ n ∧ n ≤ 16777216) (hy : -1099511627776 ≤ y ∧ y ≤ 1099511627776) :
    Calls Tryd.prog 37 #[.int .i64 m, .int .i64 n, .int .i64 x, .int .i64 y] w fun e w' => e = .returned (.int .i64 (dotZ m x n y)) ∧ ∃ k, w' = w.drewN k := by
  have E := Lib.hid (dot_eq m x n y)
  have hI : -16777216 ≤ x / 65536 ∧ x / 65536 ≤ 16777216 := by omega
  have hJ : -16777216 ≤ y / 65536 ∧ y / 65536 ≤ 16777216 := by omega
  have h1 := mul_bd hm hI
  have h2 := mul_bd hn hJ
  have l1 := low_bd x
  have l2 := low_bd y
  have h3 := mul_bd (B := 65536) hm (by omega : -65536 ≤ x - x / 65536 * 65536 ∧ x - x / 65536 * 65536 ≤ 65536)
  have h4 := mul_bd (B := 65536) hn (by omega : -65536 ≤ y - y / 65536 * 65536 ∧ y - y / 65536 * 65536 ≤ 65536)
  have h5 := rdiv_bd (a := m * (x - x / 65536 * 65536) + n * (y - y / 65536 * 65536)) (A := 33554432) (by omega)
  generalize dotZ m x n y = Z at *
  go_enter Tryd.func37, Tryd.ntmps37
  go_wp2_with (first | (go_at_call 51; refine (rfloor_any _ _ _ (by omega) (by omega) (by omega) (by omega)).mono ?_; rintro e w' ⟨rfl, n1, rfl⟩) | (go_at_call 45; refine (rdiv_any _ _ _ (by omega) (by omega) (by omega) (by omega)).mono ?_; rintro e w' ⟨rfl, n2, rfl⟩))
  go_ret
  exact ⟨ret_int E.out, _, rfl⟩

/-- Six cells. -/
def Six (w : World) (g : Nat) (a b c d e f : Int) : Prop := w.cell? ⟨g, 0, none⟩ = some (.int .i64 a) ∧ w.cell? ⟨g, 1, none⟩ = some (.int .i64 b) ∧ w.cell? ⟨g, 2, none⟩ = some (.int .i64 c) ∧ w.cell? ⟨g, 3, none⟩ = some (.int .i64 d) ∧ w.cell? ⟨g, 4, none⟩ = some (.int .i64 e) ∧ w.cell? ⟨g, 5, none⟩ = some (.int .i64 f)

set_option maxHeartbeats 4000000 in
theorem limited_any (a b c d e f : Int) (w : World) :
    Calls Tryd.prog 32 #[.agg #[.int .i64 a, .int .i64 b, .int .i64 c, .int .i64 d, .int .i64 e, .int .i64 f]] w fun z w' => z = .returned (.agg #[.int .i64 (coef a), .int .i64 (coef b), .int .i64 (coef c), .int .i64 (coef d), .int .i64 (far e), .int .i64 (far f)]) ∧ Below w.heap.size w w' := by
  go_enter Tryd.func32, Tryd.ntmps32
  go_wp2_with fail
  go_region_held3 (fun w' => w'.cell? ⟨w.heap.size, 0, none⟩ = some (.int .i64 a) ∧ w'.cell? ⟨w.heap.size, 1, none⟩ = some (.int .i64 b) ∧ w'.cell? ⟨w.heap.size, 2, none⟩ = some (.int .i64 c) ∧ w'.cell? ⟨w.heap.size, 3, none⟩ = some (.int .i64 d) ∧ w'.cell? ⟨w.heap.size, 4, none⟩ = some (.int .i64 e) ∧ w'.cell? ⟨w.heap.size, 5, none⟩ = some (.int .i64 f))
    (go_keep)
    (first | (go_at_call 40; refine (factor_any _ _).mono ?_; rintro e w4 ⟨rfl, rfl⟩) | (go_at_call 34; refine (place_any _ _).mono ?_; rintro e w4 ⟨rfl, rfl⟩))
  go_wp2_with fail
  refine bodyPost_ret (v := .agg #[.int .i64 (coef a), .int .i64 (coef b), .int .i64 (coef c), .int .i64 (coef d), .int .i64 (far e), .int .i64 (far f)]) (by simp [results, Tryd.results32, go_sem]) rfl ⟨rfl, ?_⟩
  repeat (first | exact Below.refl _ _ | refine Below.drew ?_ | refine Below.drewN' ?_ _ | refine bel_alloc ?_ _)
set_option maxHeartbeats 4000000 in
theorem rlimited_any (a b c d e f : Int) (w : World) :
    Calls Tryd.prog 33 #[.agg #[.int .i64 a, .int .i64 b, .int .i64 c, .int .i64 d, .int .i64 e, .int .i64 f]] w fun z w' => z = .returned (.agg #[.int .i64 (coef a), .int .i64 (coef b), .int .i64 (coef c), .int .i64 (coef d), .int .i64 (far e), .int .i64 (far f)]) ∧ Below w.heap.size w w' := by
  go_enter Tryd.func33, Tryd.ntmps33
  go_wp2_with fail
  go_region_held3 (fun w' => w'.cell? ⟨w.heap.size, 0, none⟩ = some (.int .i64 a) ∧ w'.cell? ⟨w.heap.size, 1, none⟩ = some (.int .i64 b) ∧ w'.cell? ⟨w.heap.size, 2, none⟩ = some (.int .i64 c) ∧ w'.cell? ⟨w.heap.size, 3, none⟩ = some (.int .i64 d) ∧ w'.cell? ⟨w.heap.size, 4, none⟩ = some (.int .i64 e) ∧ w'.cell? ⟨w.heap.size, 5, none⟩ = some (.int .i64 f))
    (go_keep)
    (first | (go_at_call 41; refine (rcoef_any _ _).mono ?_; rintro e w4 ⟨rfl, rfl⟩) | (go_at_call 36; refine (rfar_any _ _).mono ?_; rintro e w4 ⟨rfl, rfl⟩))
  go_wp2_with fail
  refine bodyPost_ret (v := .agg #[.int .i64 (coef a), .int .i64 (coef b), .int .i64 (coef c), .int .i64 (coef d), .int .i64 (far e), .int .i64 (far f)]) (by simp [results, Tryd.results33, go_sem]) rfl ⟨rfl, ?_⟩
  repeat (first | exact Below.refl _ _ | refine Below.drew ?_ | refine Below.drewN' ?_ _ | refine bel_alloc ?_ _)
end Go.Proofs.YtanlnigebbcajaaDoor
