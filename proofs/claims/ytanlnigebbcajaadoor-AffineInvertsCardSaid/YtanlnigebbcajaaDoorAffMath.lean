/- Affine transforms in fixed point: the numbers. No program in sight. -/
import Derived.Test.YtanlnigebbcajaaDoorMath
namespace Go.Proofs.YtanlnigebbcajaaDoor

/-- x limited to -m .. m. -/
def cl (m x : Int) : Int := min m (max x (-m))
def coef (x : Int) : Int := cl 16777216 x
def far (x : Int) : Int := cl 1099511627776 x
theorem coef_bd (x : Int) : -16777216 ≤ coef x ∧ coef x ≤ 16777216 := by unfold coef cl; omega
theorem far_bd (x : Int) : -1099511627776 ≤ far x ∧ far x ≤ 1099511627776 := by unfold far cl; omega
theorem coef_id {x : Int} (h : -16777216 ≤ x ∧ x ≤ 16777216) : coef x = x := by unfold coef cl; omega
theorem far_id {x : Int} (h : -1099511627776 ≤ x ∧ x ≤ 1099511627776) : far x = x := by unfold far cl; omega
theorem coef_eq {x : Int} : coef x = x ↔ (-16777216 ≤ x ∧ x ≤ 16777216) := ⟨fun h => h ▸ coef_bd x, coef_id⟩
theorem far_eq {x : Int} : far x = x ↔ (-1099511627776 ≤ x ∧ x ≤ 1099511627776) := ⟨fun h => h ▸ far_bd x, far_id⟩

theorem rdiv_add (a k b : Int) (hb : 0 < b) : rdiv (a + b * k) b = rdiv a b + k := by
  unfold rdiv
  have e : 2 * (a + b * k) + b = (2 * a + b) + (2 * b) * k := by grind
  rw [e, Int.add_mul_ediv_left _ _ (by omega)]
theorem rdiv_whole (k b : Int) (hb : 0 < b) : rdiv (b * k) b = k := by
  have := rdiv_add 0 k b hb
  rw [Int.zero_add] at this
  rw [this]
  unfold rdiv
  have : (2 * 0 + b) / (2 * b) = 0 := Int.ediv_eq_zero_of_lt (by omega) (by omega)
  omega
theorem rdiv_mono {a a' b : Int} (hb : 0 < b) (h : a ≤ a') : rdiv a b ≤ rdiv a' b := by
  unfold rdiv
  exact Int.ediv_le_ediv (by omega) (by omega)
/-- (m x + n y) / One, rounded. -/
def dotZ (m x n y : Int) : Int := rdiv (m * x + n * y) 65536
theorem dot_eq (m x n y : Int) : m * (x / 65536) + n * (y / 65536) + rdiv (m * (x - x / 65536 * 65536) + n * (y - y / 65536 * 65536)) 65536 = dotZ m x n y := by
  unfold dotZ
  have e : m * x + n * y = (m * (x - x / 65536 * 65536) + n * (y - y / 65536 * 65536)) + 65536 * (m * (x / 65536) + n * (y / 65536)) := by grind
  rw [e, rdiv_add _ _ _ (by omega)]
  omega
/-- |a| ≤ A and |b| ≤ B give |a b| ≤ A B. -/
theorem mul_bd {a b A B : Int} (ha : -A ≤ a ∧ a ≤ A) (hb : -B ≤ b ∧ b ≤ B) : -(A * B) ≤ a * b ∧ a * b ≤ A * B := by
  have hA : 0 ≤ A := by omega
  have hB : 0 ≤ B := by omega
  have h1 : 0 ≤ (A - a) * (B + b) := Int.mul_nonneg (by omega) (by omega)
  have h2 : 0 ≤ (A + a) * (B - b) := Int.mul_nonneg (by omega) (by omega)
  have h3 : 0 ≤ (A - a) * (B - b) := Int.mul_nonneg (by omega) (by omega)
  have h4 : 0 ≤ (A + a) * (B + b) := Int.mul_nonneg (by omega) (by omega)
  grind
theorem rdiv_bd {a A : Int} (h : -(65536 * A) ≤ a ∧ a ≤ 65536 * A) : -A ≤ rdiv a 65536 ∧ rdiv a 65536 ≤ A := by
  have h1 := rdiv_mono (b := 65536) (by omega) h.1
  have h2 := rdiv_mono (b := 65536) (by omega) h.2
  rw [rdiv_whole _ _ (by omega)] at h2
  have e : -(65536 * A) = 65536 * (-A) := by omega
  rw [e, rdiv_whole _ _ (by omega)] at h1
  exact ⟨h1, h2⟩
theorem dotZ_bd {m x n y M X K : Int} (hm : -M ≤ m ∧ m ≤ M) (hx : -X ≤ x ∧ x ≤ X) (hn : -M ≤ n ∧ n ≤ M) (hy : -X ≤ y ∧ y ≤ X) (hK : 2 * (M * X) ≤ 65536 * K) : -K ≤ dotZ m x n y ∧ dotZ m x n y ≤ K := by
  have h1 := mul_bd hm hx
  have h2 := mul_bd hn hy
  exact rdiv_bd (by omega)

/-- A transform. -/
structure Af where
  a : Int
  b : Int
  c : Int
  d : Int
  e : Int
  f : Int
deriving DecidableEq
def Af.lim (a : Af) : Af := ⟨coef a.a, coef a.b, coef a.c, coef a.d, far a.e, far a.f⟩
/-- The limits of a transform. -/
def Af.ok (a : Af) : Prop := (-16777216 ≤ a.a ∧ a.a ≤ 16777216) ∧ (-16777216 ≤ a.b ∧ a.b ≤ 16777216) ∧ (-16777216 ≤ a.c ∧ a.c ≤ 16777216) ∧ (-16777216 ≤ a.d ∧ a.d ≤ 16777216) ∧ (-1099511627776 ≤ a.e ∧ a.e ≤ 1099511627776) ∧ (-1099511627776 ≤ a.f ∧ a.f ≤ 1099511627776)
instance (a : Af) : Decidable a.ok := by unfold Af.ok; infer_instance
theorem Af.lim_ok (a : Af) : a.lim.ok := ⟨coef_bd _, coef_bd _, coef_bd _, coef_bd _, far_bd _, far_bd _⟩
theorem Af.lim_id {a : Af} (h : a.ok) : a.lim = a := by
  obtain ⟨h1, h2, h3, h4, h5, h6⟩ := h
  unfold Af.lim
  rw [coef_id h1, coef_id h2, coef_id h3, coef_id h4, far_id h5, far_id h6]
theorem Af.lim_eq (a : Af) : a.lim = a ↔ a.ok := ⟨fun h => h ▸ a.lim_ok, Af.lim_id⟩
/-- The image of a position. -/
def Af.app (a : Af) (x y : Int) : Int × Int := (far (dotZ a.lim.a (far x) a.lim.c (far y) + a.lim.e), far (dotZ a.lim.b (far x) a.lim.d (far y) + a.lim.f))
/-- a, then b. -/
def Af.thn (a b : Af) : Af :=
  ⟨coef (dotZ b.lim.a a.lim.a b.lim.c a.lim.b), coef (dotZ b.lim.b a.lim.a b.lim.d a.lim.b), coef (dotZ b.lim.a a.lim.c b.lim.c a.lim.d), coef (dotZ b.lim.b a.lim.c b.lim.d a.lim.d), (b.app a.lim.e a.lim.f).1, (b.app a.lim.e a.lim.f).2⟩
def Af.zero : Af := ⟨0, 0, 0, 0, 0, 0⟩
/-- The quotient, rounded, for a divisor of either sign that is not 0. -/
def sdiv (a b : Int) : Int := if 0 < b then rdiv a b else rdiv (-a) (-b)
def Af.det (a : Af) : Int := a.a * a.d - a.b * a.c
/-- The coefficients of the inverse. -/
def Af.inv1 (a : Af) : Af := ⟨sdiv (a.d * 4294967296) a.det, sdiv (-a.b * 4294967296) a.det, sdiv (-a.c * 4294967296) a.det, sdiv (a.a * 4294967296) a.det, 0, 0⟩
def Af.inv2 (a : Af) : Af := { a.inv1 with e := dotZ (-a.inv1.a) a.e (-a.inv1.c) a.f, f := dotZ (-a.inv1.b) a.e (-a.inv1.d) a.f }
end Go.Proofs.YtanlnigebbcajaaDoor
