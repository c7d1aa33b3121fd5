/- Plain arithmetic: quotients of integers, rounded down and rounded to the nearest. No program in sight. -/
import Derived.WalkKit
namespace Go.Proofs.YtanlnigebbcajaaDoor

theorem ret_int {k : IntKind} {a b : Int} (h : a = b) : Ending.returned (.int k a) = .returned (.int k b) := by rw [h]
theorem ret_bool {a b : Bool} (h : a = b) : Ending.returned (.bool a) = .returned (.bool b) := by rw [h]

/-- The rounded quotient, for b > 0. -/
def rdiv (a b : Int) : Int := (2 * a + b) / (2 * b)

theorem ediv_unique (a b q : Int) (hb : 0 < b) (h1 : b * q ≤ a) (h2 : a < b * q + b) : a / b = q := by
  have := @Int.ediv_emod_unique a b (a - b*q) q hb
  exact (this.2 ⟨by omega, by omega, by omega⟩).1

theorem tdiv_eq_neg (a b : Int) (ha : a < 0) (hb : 0 < b) (hm : a.tmod b ≠ 0) : a.tdiv b - 1 = a / b := by
  have h1 := Int.mul_tdiv_add_tmod a b
  have h5 : a.tmod b ≤ 0 := by
    have := Int.tmod_nonneg (a := -a) b (by omega)
    rw [Int.neg_tmod] at this; omega
  have h6 : -b < a.tmod b := by
    have := Int.tmod_lt_of_pos (-a) hb
    rw [Int.neg_tmod] at this; omega
  have e : b * (a.tdiv b - 1) = b * a.tdiv b - b := by rw [Int.mul_sub]; omega
  exact (ediv_unique a b _ hb (by omega) (by omega)).symm

theorem tdiv_eq_zero (a b : Int) (hb : 0 < b) (hm : a.tmod b = 0) : a.tdiv b = a / b := by
  have h1 := Int.mul_tdiv_add_tmod a b
  exact (ediv_unique a b _ hb (by omega) (by omega)).symm

theorem tdiv_eq_pos (a b : Int) (ha : 0 ≤ a) : a.tdiv b = a / b := Int.tdiv_eq_ediv_of_nonneg ha

theorem div_bounds (a b : Int) (hb : 0 < b) (ha : -4611686018427387904 ≤ a) (ha' : a ≤ 4611686018427387904) : -4611686018427387904 ≤ a / b ∧ a / b ≤ 4611686018427387904 := by
  constructor
  · apply Int.le_ediv_of_mul_le hb
    have : 4611686018427387904 * 1 ≤ 4611686018427387904 * b := Int.mul_le_mul_of_nonneg_left (by omega) (by omega)
    omega
  · by_cases h : 0 ≤ a
    · have := Int.ediv_le_self b h; omega
    · have : a / b < 0 := Int.ediv_neg_of_neg_of_pos (by omega) hb
      omega

theorem div_mul (a b : Int) (hb : 0 < b) : 0 ≤ a - b * (a / b) ∧ a - b * (a / b) < b := by
  have h2 := Int.mul_ediv_add_emod a b
  have h3 := Int.emod_nonneg a (Int.ne_of_gt hb)
  have h4 := Int.emod_lt_of_pos a hb
  omega

theorem rdiv_up (a b : Int) (hb : 0 < b) (h : b - (a - b * (a / b)) ≤ a - b * (a / b)) : a / b + 1 = rdiv a b := by
  have h2 := div_mul a b hb
  have e : 2 * b * (a / b + 1) = 2 * (b * (a / b)) + 2 * b := by
    rw [Int.mul_assoc, Int.mul_add, Int.mul_add]; omega
  exact (ediv_unique _ _ _ (by omega) (by omega) (by omega)).symm
theorem rdiv_down (a b : Int) (hb : 0 < b) (h : a - b * (a / b) < b - (a - b * (a / b))) : a / b = rdiv a b := by
  have h2 := div_mul a b hb
  have e : 2 * b * (a / b) = 2 * (b * (a / b)) := by rw [Int.mul_assoc]
  exact (ediv_unique _ _ _ (by omega) (by omega) (by omega)).symm
/-- What the rounded quotient is good for: twice its error is at most b. -/
theorem rdiv_spec (a b : Int) (hb : 0 < b) : 2 * (b * rdiv a b) ≤ 2 * a + b ∧ 2 * a < 2 * (b * rdiv a b) + b := by
  have h2 := div_mul (2 * a + b) (2 * b) (by omega)
  unfold rdiv
  rw [Int.mul_assoc] at h2
  omega
theorem rdiv_bounds (a b : Int) (hb : 0 < b) (ha : -4611686018427387904 ≤ a) (ha' : a ≤ 4611686018427387904) : -4611686018427387904 ≤ rdiv a b ∧ rdiv a b ≤ 4611686018427387905 := by
  have h := div_bounds a b hb ha ha'
  have h2 := div_mul a b hb
  by_cases c : b - (a - b * (a / b)) ≤ a - b * (a / b)
  · rw [← rdiv_up a b hb c]; omega
  · rw [← rdiv_down a b hb (by omega)]; omega
end Go.Proofs.YtanlnigebbcajaaDoor
