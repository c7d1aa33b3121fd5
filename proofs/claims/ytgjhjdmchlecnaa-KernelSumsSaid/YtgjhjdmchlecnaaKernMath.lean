/- The weights of the kernels as plain functions of integers, and bounds of the products that occur. No program in sight. -/
import Derived.Test.YtgjhjdmchlecnaaMath
namespace Go.Proofs.Ytgjhjdmchlecnaa

def cubN (a : Int) : Int := if a < 65536 then 3 * a * a * a - 5 * a * a * 65536 + 562949953421312 else -a * a * a + 5 * a * a * 65536 - 8 * a * 4294967296 + 1125899906842624
def mitN (a : Int) : Int := if a < 65536 then 21 * a * a * a - 36 * a * a * 65536 + 4503599627370496 else -7 * a * a * a + 36 * a * a * 65536 - 60 * a * 4294967296 + 9007199254740992
def cub (a : Int) : Int := rdiv (cubN a) 8589934592
def mit (a : Int) : Int := rdiv (mitN a) 77309411328

theorem sq_bounds (a : Int) (h0 : 0 ≤ a) (h1 : a ≤ 131072) : 0 ≤ a * a ∧ a * a ≤ 17179869184 ∧ 0 ≤ a * a * a ∧ a * a * a ≤ 2251799813685248 := by
  have e1 : a * a ≤ 131072 * 131072 := Int.mul_le_mul h1 h1 h0 (by omega)
  have e0 : 0 ≤ a * a := Int.mul_nonneg h0 h0
  have e2 : a * a * a ≤ 17179869184 * 131072 := Int.mul_le_mul (by omega) h1 h0 (by omega)
  have e3 : 0 ≤ a * a * a := Int.mul_nonneg e0 h0
  omega
theorem k_sq (k a : Int) : k * a * a = k * (a * a) := Int.mul_assoc k a a
theorem k_cu (k a : Int) : k * a * a * a = k * (a * a * a) := by rw [k_sq, Int.mul_assoc, Int.mul_assoc]
theorem n_sq (a : Int) : -a * a = -(a * a) := Int.neg_mul a a
theorem n_cu (a : Int) : -a * a * a = -(a * a * a) := by rw [n_sq, Int.neg_mul]
theorem cubN_lo (a : Int) (h : a < 65536) : cubN a = 3 * a * a * a - 5 * a * a * 65536 + 562949953421312 := by unfold cubN; rw [if_pos h]
theorem cubN_hi (a : Int) (h : ¬ a < 65536) : cubN a = -a * a * a + 5 * a * a * 65536 - 8 * a * 4294967296 + 1125899906842624 := by unfold cubN; rw [if_neg h]
theorem mitN_lo (a : Int) (h : a < 65536) : mitN a = 21 * a * a * a - 36 * a * a * 65536 + 4503599627370496 := by unfold mitN; rw [if_pos h]
theorem mitN_hi (a : Int) (h : ¬ a < 65536) : mitN a = -7 * a * a * a + 36 * a * a * 65536 - 60 * a * 4294967296 + 9007199254740992 := by unfold mitN; rw [if_neg h]
theorem cub_bounds (a : Int) (h0 : 0 ≤ a) (h1 : a ≤ 131072) :
    (0 ≤ 3 * a * a ∧ 3 * a * a ≤ 51539607552) ∧ (0 ≤ 3 * a * a * a ∧ 3 * a * a * a ≤ 6755399441055744) ∧ (0 ≤ 5 * a * a ∧ 5 * a * a ≤ 85899345920) ∧
    (-17179869184 ≤ -a * a ∧ -a * a ≤ 0) ∧ (-2251799813685248 ≤ -a * a * a ∧ -a * a * a ≤ 0) := by
  obtain ⟨b1, b2, b3, b4⟩ := sq_bounds a h0 h1
  rw [k_cu 3, k_sq 3, k_sq 5, n_cu, n_sq]
  omega
theorem mit_bounds (a : Int) (h0 : 0 ≤ a) (h1 : a ≤ 131072) :
    (0 ≤ 21 * a * a ∧ 21 * a * a ≤ 360777252864) ∧ (0 ≤ 21 * a * a * a ∧ 21 * a * a * a ≤ 47287796087390208) ∧ (0 ≤ 36 * a * a ∧ 36 * a * a ≤ 618475290624) ∧
    (-120259084288 ≤ -7 * a * a ∧ -7 * a * a ≤ 0) ∧ (-15762598695796736 ≤ -7 * a * a * a ∧ -7 * a * a * a ≤ 0) := by
  obtain ⟨b1, b2, b3, b4⟩ := sq_bounds a h0 h1
  rw [k_cu 21, k_sq 21, k_sq 36, k_cu (-7), k_sq (-7)]
  omega

/-- The weight of a kernel at a distance. -/
def wt (kind t : Int) : Int :=
  if t ≤ -131072 ∨ 131072 ≤ t then 0
  else if kind = 0 then (if -32768 ≤ t ∧ t < 32768 then 65536 else 0)
  else if kind = 1 then max (65536 - max t (-t)) 0
  else if kind = 3 then (if max t (-t) < 32768 then 65536 else if max t (-t) = 32768 then 32768 else 0)
  else if kind = 2 then cub (max t (-t))
  else if kind = 4 then mit (max t (-t))
  else 0
theorem wt_far (kind t : Int) (h : t ≤ -131072 ∨ 131072 ≤ t) : wt kind t = 0 := by unfold wt; rw [if_pos h]
theorem wt_0 (t : Int) (hl : -131072 < t) (hr : t < 131072) (h : -32768 ≤ t ∧ t < 32768) : wt 0 t = 65536 := by unfold wt; rw [if_neg (by omega), if_pos rfl, if_pos h]
theorem wt_0' (t : Int) (hl : -131072 < t) (hr : t < 131072) (h : ¬ (-32768 ≤ t ∧ t < 32768)) : wt 0 t = 0 := by unfold wt; rw [if_neg (by omega), if_pos rfl, if_neg h]
theorem wt_1 (t : Int) (hl : -131072 < t) (hr : t < 131072) : wt 1 t = max (65536 - max t (-t)) 0 := by unfold wt; rw [if_neg (by omega)]; rfl
theorem wt_3 (t : Int) (hl : -131072 < t) (hr : t < 131072) : wt 3 t = if max t (-t) < 32768 then 65536 else if max t (-t) = 32768 then 32768 else 0 := by unfold wt; rw [if_neg (by omega)]; rfl
theorem wt_2 (t : Int) (hl : -131072 < t) (hr : t < 131072) : wt 2 t = cub (max t (-t)) := by unfold wt; rw [if_neg (by omega)]; rfl
theorem wt_4 (t : Int) (hl : -131072 < t) (hr : t < 131072) : wt 4 t = mit (max t (-t)) := by unfold wt; rw [if_neg (by omega)]; rfl
theorem wt_none (kind t : Int) (h0 : kind ≠ 0) (h1 : kind ≠ 1) (h2 : kind ≠ 2) (h3 : kind ≠ 3) (h4 : kind ≠ 4) : wt kind t = 0 := by
  unfold wt; rw [if_neg h0, if_neg h1, if_neg h3, if_neg h2, if_neg h4]; split <;> rfl
def vld (kind : Int) : Bool := decide (0 ≤ kind ∧ kind ≤ 4)
theorem vld_none (kind : Int) (h0 : kind ≠ 0) (h1 : kind ≠ 1) (h2 : kind ≠ 2) (h3 : kind ≠ 3) (h4 : kind ≠ 4) : vld kind = false := by unfold vld; simp; omega
def spt (kind : Int) : Int := if kind = 2 ∨ kind = 4 then 2 else if kind = 0 ∨ kind = 1 ∨ kind = 3 then 1 else 0
theorem spt_none (kind : Int) (h0 : kind ≠ 0) (h1 : kind ≠ 1) (h2 : kind ≠ 2) (h3 : kind ≠ 3) (h4 : kind ≠ 4) : spt kind = 0 := by unfold spt; rw [if_neg (by omega), if_neg (by omega)]
end Go.Proofs.Ytgjhjdmchlecnaa
