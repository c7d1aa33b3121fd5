/- Signed numbers of 128 bits; the weighted mean of pixels. No program in sight. -/
import Derived.Test.YtineinmghajmnaaMA
import Derived.Laws.MathBits
import Derived.Laws.Externs
namespace Go.Proofs.Ytineinmghajmnaa

/-- The two words of a number. -/
def whi (v : Int) : Int := v / 18446744073709551616 % 18446744073709551616
def wlo (v : Int) : Int := v % 18446744073709551616
theorem wlo_bd (v : Int) : 0 ≤ wlo v ∧ wlo v < 18446744073709551616 := by unfold wlo; omega
theorem whi_bd (v : Int) : 0 ≤ whi v ∧ whi v < 18446744073709551616 := by unfold whi; omega
theorem wide_eq (v : Int) (h0 : 0 ≤ v) (h1 : v < 170141183460469231731687303715884105728) : whi v * 18446744073709551616 + wlo v = v ∧ whi v < 9223372036854775808 := by unfold whi wlo; omega
theorem wide_neg (v : Int) (h0 : -170141183460469231731687303715884105728 ≤ v) (h1 : v < 0) : 9223372036854775808 ≤ whi v := by unfold whi; omega
/-- The sum of two. -/
theorem wide_add (u v : Int) : wlo (u + v) = (wlo u + wlo v) % 18446744073709551616 ∧ whi (u + v) = (whi u + whi v + (wlo u + wlo v) / 18446744073709551616) % 18446744073709551616 := by unfold whi wlo; omega
/-- The opposite of one that is not negative. -/
theorem wide_opp (v : Int) : wlo (-v) = (18446744073709551616 - wlo v) % 18446744073709551616 ∧ whi (-v) = (18446744073709551615 - whi v + (if wlo (-v) = 0 then 1 else 0)) % 18446744073709551616 := by
  constructor
  · unfold wlo; omega
  · split
    · rename_i h; unfold wlo at h; unfold whi; omega
    · rename_i h; unfold wlo at h; unfold whi; omega

/-- A quotient, rounded, limited to a unit value, from the quotient and the remainder. -/
theorem over_eq (v d : Int) (hd : 0 < d) (hv : 0 ≤ v) : lim16 (rdiv v d) = if 65535 ≤ v / d then 65535 else if d - v % d ≤ v % d then v / d + 1 else v / d := by
  have hm := Int.emod_nonneg v (b := d) (by omega)
  have hm2 := Int.emod_lt_of_pos v hd
  have hq : 0 ≤ v / d := Int.ediv_nonneg hv (by omega)
  have e := Int.mul_ediv_add_emod v d
  have hr : rdiv v d = if d - v % d ≤ v % d then v / d + 1 else v / d := by
    split
    · rename_i h
      rw [← rdiv_up v d hd (by have : v - d * (v / d) = v % d := by omega
                               rw [this]; exact h)]
    · rename_i h
      rw [← rdiv_down v d hd (by have : v - d * (v / d) = v % d := by omega
                                 rw [this]; omega)]
  rw [hr]
  unfold lim16
  generalize v / d = q at *
  generalize v % d = r at *
  repeat' split
  all_goals omega
theorem over_neg (v d : Int) (hd : 0 < d) (hv : v < 0) : lim16 (rdiv v d) = 0 := by
  have h := rdiv_spec v d hd
  have : rdiv v d ≤ 0 := by
    rcases Int.lt_or_le 0 (rdiv v d) with c | c
    · have : d * 1 ≤ d * rdiv v d := Int.mul_le_mul_of_nonneg_left (by omega) (by omega)
      omega
    · exact c
  unfold lim16; omega
theorem over_big (v d : Int) (hd : 0 < d) (hv : d * 65535 ≤ v) : lim16 (rdiv v d) = 65535 := by
  have h := rdiv_spec v d hd
  have : 65535 ≤ rdiv v d := by
    rcases Int.lt_or_le (rdiv v d) 65535 with c | c
    · have : d * rdiv v d ≤ d * 65534 := Int.mul_le_mul_of_nonneg_left (by omega) (by omega)
      have e : d * 65535 = d * 65534 + d := by rw [show (65535 : Int) = 65534 + 1 by rfl, Int.mul_add, Int.mul_one]
      omega
    · exact c
  unfold lim16; omega

/-- The sums of weighted pixels. -/
def bsA (l : List (Int × Px)) : Int := (l.map fun t => t.1 * t.2.a).sum
def bsR (l : List (Int × Px)) : Int := (l.map fun t => t.1 * t.2.a * t.2.r).sum
def bsG (l : List (Int × Px)) : Int := (l.map fun t => t.1 * t.2.a * t.2.g).sum
def bsB (l : List (Int × Px)) : Int := (l.map fun t => t.1 * t.2.a * t.2.b).sum
/-- The weighted mean. -/
def blend (A R G B : Int) : Px := if lim16 (rdiv A 4294967296) = 0 then Px.zero else ⟨lim16 (rdiv R A), lim16 (rdiv G A), lim16 (rdiv B A), lim16 (rdiv A 4294967296)⟩
theorem blend_pos {A : Int} (h : lim16 (rdiv A 4294967296) ≠ 0) : 0 < A := by
  have hs := rdiv_spec A 4294967296 (by omega)
  rcases Int.lt_or_le 0 A with c | c
  · exact c
  · exfalso; apply h
    have : rdiv A 4294967296 ≤ 0 := by omega
    unfold lim16; omega
theorem bsA_snoc (l : List (Int × Px)) (t : Int × Px) : bsA (l ++ [t]) = bsA l + t.1 * t.2.a := by simp [bsA]
theorem bsR_snoc (l : List (Int × Px)) (t : Int × Px) : bsR (l ++ [t]) = bsR l + t.1 * t.2.a * t.2.r := by simp [bsR]
theorem bsG_snoc (l : List (Int × Px)) (t : Int × Px) : bsG (l ++ [t]) = bsG l + t.1 * t.2.a * t.2.g := by simp [bsG]
theorem bsB_snoc (l : List (Int × Px)) (t : Int × Px) : bsB (l ++ [t]) = bsB l + t.1 * t.2.a * t.2.b := by simp [bsB]
/-- The reference's quotient. -/
theorem rdiv_shift (a d k : Int) (hd : 0 < d) : rdiv (a + d * k) d = rdiv a d + k := by
  unfold rdiv
  rw [show 2 * (a + d * k) + d = 2 * a + d + 2 * d * k by rw [Int.mul_add, Int.mul_assoc]; omega, Int.add_mul_ediv_left _ _ (by omega)]
theorem quotient_eq (n m d : Int) (hd : 0 < d) : 256 * (n / d) + rdiv (256 * (n - n / d * d) + m) d = rdiv (256 * n + m) d := by
  have h := rdiv_shift (256 * (n - n / d * d) + m) d (256 * (n / d)) hd
  rw [show 256 * (n - n / d * d) + m + d * (256 * (n / d)) = 256 * n + m by
    rw [Int.mul_sub, Int.mul_left_comm d 256, Int.mul_comm d (n / d)]; omega] at h
  omega
end Go.Proofs.Ytineinmghajmnaa
namespace Go.Proofs.Ytineinmghajmnaa
open Go.RowKit
/-- Add64, which the model stands in for: a law of the call. -/
theorem run_add64c (x y c : Int) (hx : 0 ≤ x) (hy : 0 ≤ y) (hc0 : 0 ≤ c) (hc : c ≤ 1) (w : World) :
    (callFunc 98 #[.int .u64 x, .int .u64 y, .int .u64 c]).run Try.prog w = .ok (.value (.tuple #[.int .u64 ((x + y + c) % 18446744073709551616), .int .u64 ((x + y + c) / 18446744073709551616)])) w := by
  rw [run_callFunc_extern Try.func98 (by kernel_rfl) (by kernel_rfl) (by kernel_rfl) (e := add64Entry) (by kernel_rfl), run_add64 x y c hx hy hc0 hc]
  rfl
theorem and_low32w (z : Int) : bits .and .u64 (IntKind.u64.wrap z) 4294967295 = IntKind.u64.wrap z % 4294967296 := by
  rw [IntKind.wrap_u64]; exact and_low32 _ (Int.emod_nonneg _ (by omega)) (Int.emod_lt_of_pos _ (by omega))
theorem tup2 {k : IntKind} {a b a' b' : Int} (h1 : a = a') (h2 : b = b') : Ending.returned (.tuple #[.int k a, .int k b]) = .returned (.tuple #[.int k a', .int k b']) := by rw [h1, h2]
attribute [local go_sem 2000] and_low32w
set_option maxRecDepth 100000 in
set_option maxHeartbeats 4000000 in
theorem mul64_any (x y : Int) (w : World) (hx0 : 0 ≤ x) (hx : x < 18446744073709551616) (hy0 : 0 ≤ y) (hy : y < 18446744073709551616) :
    Calls Try.prog 97 #[.int .u64 x, .int .u64 y] w fun e w' => e = .returned (.tuple #[.int .u64 (x * y / 18446744073709551616), .int .u64 (x * y % 18446744073709551616)]) ∧ w = w' := by
  have h := mul64_arith x y hx0 hx hy0 hy
  have a1 := and_low32 x hx0 hx
  have a2 := and_low32 y hy0 hy
  have H := Lib.hid h; clear h
  go_enter Try.func97, Try.ntmps97
  go_wp2_with fail
  go_ret2
  refine ⟨tup2 ?_ ?_, rfl⟩
  · simp only [IntKind.wrap_u64]
    exact H.out
  · exact IntKind.wrap_u64 _
end Go.Proofs.Ytineinmghajmnaa
