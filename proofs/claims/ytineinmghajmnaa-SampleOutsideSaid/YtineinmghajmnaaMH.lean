/- Affine transforms in fixed point: the numbers. No program in sight. -/
import Derived.Test.YtineinmghajmnaaMA
import Derived.Deep.RegionHeld3
import Derived.Deep.LoopGhost
import Derived.Deep.DeepCutAuto
namespace Go.Proofs.Ytineinmghajmnaa

/-- x limited to -m .. m. -/
def afcl (m x : Int) : Int := min m (max x (-m))
def coef (x : Int) : Int := afcl 16777216 x
def far (x : Int) : Int := afcl 1099511627776 x
theorem coef_bd (x : Int) : -16777216 ≤ coef x ∧ coef x ≤ 16777216 := by unfold coef afcl; omega
theorem far_bd (x : Int) : -1099511627776 ≤ far x ∧ far x ≤ 1099511627776 := by unfold far afcl; omega
theorem coef_id {x : Int} (h : -16777216 ≤ x ∧ x ≤ 16777216) : coef x = x := by unfold coef afcl; omega
theorem far_id {x : Int} (h : -1099511627776 ≤ x ∧ x ≤ 1099511627776) : far x = x := by unfold far afcl; omega
theorem coef_eq {x : Int} : coef x = x ↔ (-16777216 ≤ x ∧ x ≤ 16777216) := ⟨fun h => h ▸ coef_bd x, coef_id⟩
theorem far_eq {x : Int} : far x = x ↔ (-1099511627776 ≤ x ∧ x ≤ 1099511627776) := ⟨fun h => h ▸ far_bd x, far_id⟩

theorem rdiv_add (a k b : Int) (hb : 0 < b) : rdiv (a + b * k) b = rdiv a b + k := by
  unfold rdiv
  have e : 2 * (a + b * k) + b = (2 * a + b) + (2 * b) * k := by grind
  rw [e, Int.add_mul_ediv_left _ _ (by omega)]
theorem rdiv_whole (k b : Int) (hb : 0 < b) : rdiv (b * k) b = k := by
  have := rdiv_add 0 k b hb
  rw [Int.zero_add] at this
  rw [this]
  unfold rdiv
  have : (2 * 0 + b) / (2 * b) = 0 := Int.ediv_eq_zero_of_lt (by omega) (by omega)
  omega
theorem rdiv_mono {a a' b : Int} (hb : 0 < b) (h : a ≤ a') : rdiv a b ≤ rdiv a' b := by
  unfold rdiv
  exact Int.ediv_le_ediv (by omega) (by omega)
/-- (m x + n y) / One, rounded. -/
def dotZ (m x n y : Int) : Int := rdiv (m * x + n * y) 65536
theorem dot_eq (m x n y : Int) : m * (x / 65536) + n * (y / 65536) + rdiv (m * (x - x / 65536 * 65536) + n * (y - y / 65536 * 65536)) 65536 = dotZ m x n y := by
  unfold dotZ
  have e : m * x + n * y = (m * (x - x / 65536 * 65536) + n * (y - y / 65536 * 65536)) + 65536 * (m * (x / 65536) + n * (y / 65536)) := by grind
  rw [e, rdiv_add _ _ _ (by omega)]
  omega
/-- |a| ≤ A and |b| ≤ B give |a b| ≤ A B. -/
theorem mul_bd {a b A B : Int} (ha : -A ≤ a ∧ a ≤ A) (hb : -B ≤ b ∧ b ≤ B) : -(A * B) ≤ a * b ∧ a * b ≤ A * B := by
  have hA : 0 ≤ A := by omega
  have hB : 0 ≤ B := by omega
  have h1 : 0 ≤ (A - a) * (B + b) := Int.mul_nonneg (by omega) (by omega)
  have h2 : 0 ≤ (A + a) * (B - b) := Int.mul_nonneg (by omega) (by omega)
  have h3 : 0 ≤ (A - a) * (B - b) := Int.mul_nonneg (by omega) (by omega)
  have h4 : 0 ≤ (A + a) * (B + b) := Int.mul_nonneg (by omega) (by omega)
  grind
theorem rdiv_bd {a A : Int} (h : -(65536 * A) ≤ a ∧ a ≤ 65536 * A) : -A ≤ rdiv a 65536 ∧ rdiv a 65536 ≤ A := by
  have h1 := rdiv_mono (b := 65536) (by omega) h.1
  have h2 := rdiv_mono (b := 65536) (by omega) h.2
  rw [rdiv_whole _ _ (by omega)] at h2
  have e : -(65536 * A) = 65536 * (-A) := by omega
  rw [e, rdiv_whole _ _ (by omega)] at h1
  exact ⟨h1, h2⟩
theorem dotZ_bd {m x n y M X K : Int} (hm : -M ≤ m ∧ m ≤ M) (hx : -X ≤ x ∧ x ≤ X) (hn : -M ≤ n ∧ n ≤ M) (hy : -X ≤ y ∧ y ≤ X) (hK : 2 * (M * X) ≤ 65536 * K) : -K ≤ dotZ m x n y ∧ dotZ m x n y ≤ K := by
  have h1 := mul_bd hm hx
  have h2 := mul_bd hn hy
  exact rdiv_bd (by omega)

/-- A transform. -/
structure Af where
  a : Int
  b : Int
  c : Int
  d : Int
  e : Int
  f : Int
deriving DecidableEq
def Af.lim (a : Af) : Af := ⟨coef a.a, coef a.b, coef a.c, coef a.d, far a.e, far a.f⟩
/-- The limits of a transform. -/
def Af.ok (a : Af) : Prop := (-16777216 ≤ a.a ∧ a.a ≤ 16777216) ∧ (-16777216 ≤ a.b ∧ a.b ≤ 16777216) ∧ (-16777216 ≤ a.c ∧ a.c ≤ 16777216) ∧ (-16777216 ≤ a.d ∧ a.d ≤ 16777216) ∧ (-1099511627776 ≤ a.e ∧ a.e ≤ 1099511627776) ∧ (-1099511627776 ≤ a.f ∧ a.f ≤ 1099511627776)
instance decAf (a : Af) : Decidable a.ok := by unfold Af.ok; infer_instance
theorem Af.lim_ok (a : Af) : a.lim.ok := ⟨coef_bd _, coef_bd _, coef_bd _, coef_bd _, far_bd _, far_bd _⟩
theorem Af.lim_id {a : Af} (h : a.ok) : a.lim = a := by
  obtain ⟨h1, h2, h3, h4, h5, h6⟩ := h
  unfold Af.lim
  rw [coef_id h1, coef_id h2, coef_id h3, coef_id h4, far_id h5, far_id h6]
theorem Af.lim_eq (a : Af) : a.lim = a ↔ a.ok := ⟨fun h => h ▸ a.lim_ok, Af.lim_id⟩
/-- The image of a position. -/
def Af.app (a : Af) (x y : Int) : Int × Int := (far (dotZ a.lim.a (far x) a.lim.c (far y) + a.lim.e), far (dotZ a.lim.b (far x) a.lim.d (far y) + a.lim.f))
/-- a, then b. -/
def Af.thn (a b : Af) : Af :=
  ⟨coef (dotZ b.lim.a a.lim.a b.lim.c a.lim.b), coef (dotZ b.lim.b a.lim.a b.lim.d a.lim.b), coef (dotZ b.lim.a a.lim.c b.lim.c a.lim.d), coef (dotZ b.lim.b a.lim.c b.lim.d a.lim.d), (b.app a.lim.e a.lim.f).1, (b.app a.lim.e a.lim.f).2⟩
def Af.zero : Af := ⟨0, 0, 0, 0, 0, 0⟩
/-- The quotient, rounded, for a divisor of either sign that is not 0. -/
def sdiv (a b : Int) : Int := if 0 < b then rdiv a b else rdiv (-a) (-b)
def Af.det (a : Af) : Int := a.a * a.d - a.b * a.c
/-- The coefficients of the inverse. -/
def Af.inv1 (a : Af) : Af := ⟨sdiv (a.d * 4294967296) a.det, sdiv (-a.b * 4294967296) a.det, sdiv (-a.c * 4294967296) a.det, sdiv (a.a * 4294967296) a.det, 0, 0⟩
def Af.inv2 (a : Af) : Af := { a.inv1 with e := dotZ (-a.inv1.a) a.e (-a.inv1.c) a.f, f := dotZ (-a.inv1.b) a.e (-a.inv1.d) a.f }
end Go.Proofs.Ytineinmghajmnaa
namespace Go.Proofs.Ytineinmghajmnaa

theorem rdiv_err (z : Int) : ∃ r, 65536 * rdiv z 65536 = z + r ∧ -65536 ≤ 2 * r ∧ 2 * r ≤ 65536 := by
  have h := rdiv_spec z 65536 (by omega)
  exact ⟨65536 * rdiv z 65536 - z, by omega, by omega, by omega⟩
theorem dotZ_err (m x n y : Int) : ∃ r, 65536 * dotZ m x n y = m * x + n * y + r ∧ -65536 ≤ 2 * r ∧ 2 * r ≤ 65536 := rdiv_err _
theorem sdiv_err (z d : Int) (hd : d ≠ 0) : ∃ r, d * sdiv z d = z + r ∧ ((0 < d ∧ -d ≤ 2 * r ∧ 2 * r ≤ d) ∨ (d < 0 ∧ d ≤ 2 * r ∧ 2 * r ≤ -d)) := by
  unfold sdiv
  by_cases h : 0 < d
  · rw [if_pos h]
    have := rdiv_spec z d h
    exact ⟨d * rdiv z d - z, by omega, .inl ⟨h, by omega, by omega⟩⟩
  · rw [if_neg h]
    have := rdiv_spec (-z) (-d) (by omega)
    have e : -d * rdiv (-z) (-d) = -(d * rdiv (-z) (-d)) := by grind
    rw [e] at this
    exact ⟨d * rdiv (-z) (-d) - z, by omega, .inr ⟨by omega, by omega, by omega⟩⟩

/-- One coordinate of a composition. -/
theorem comp1 {bA bC bE aA aB aC aD aE aF x y : Int} (hbA : -262144 ≤ bA ∧ bA ≤ 262144) (hbC : -262144 ≤ bC ∧ bC ≤ 262144)
    (hx : -16777216 ≤ x ∧ x ≤ 16777216) (hy : -16777216 ≤ y ∧ y ≤ 16777216) :
    -262 ≤ (dotZ (dotZ bA aA bC aB) x (dotZ bA aC bC aD) y + (dotZ bA aE bC aF + bE)) - (dotZ bA (dotZ aA x aC y + aE) bC (dotZ aB x aD y + aF) + bE)
    ∧ (dotZ (dotZ bA aA bC aB) x (dotZ bA aC bC aD) y + (dotZ bA aE bC aF + bE)) - (dotZ bA (dotZ aA x aC y + aE) bC (dotZ aB x aD y + aF) + bE) ≤ 262 := by
  obtain ⟨p, hP, p1, p2⟩ := dotZ_err bA aA bC aB
  obtain ⟨r, hR, r1, r2⟩ := dotZ_err bA aC bC aD
  obtain ⟨g, hG, g1, g2⟩ := dotZ_err bA aE bC aF
  obtain ⟨h, hH, h1, h2⟩ := dotZ_err aA x aC y
  obtain ⟨k, hK, k1, k2⟩ := dotZ_err aB x aD y
  generalize dotZ bA aA bC aB = P at *
  generalize dotZ bA aC bC aD = R at *
  generalize dotZ bA aE bC aF = G at *
  generalize dotZ aA x aC y = X at *
  generalize dotZ aB x aD y = Y at *
  obtain ⟨d, hD, d1, d2⟩ := dotZ_err P x R y
  obtain ⟨e, hE, e1, e2⟩ := dotZ_err bA (X + aE) bC (Y + aF)
  generalize dotZ P x R y = D1 at *
  generalize dotZ bA (X + aE) bC (Y + aF) = D2 at *
  have key : 65536 * (65536 * (D1 + G - D2)) = p * x + r * y - bA * h - bC * k + 65536 * (d + g - e) := by
    have q1 : 65536 * (P * x) = (bA * aA + bC * aB + p) * x := by rw [← Int.mul_assoc, hP]
    have q2 : 65536 * (R * y) = (bA * aC + bC * aD + r) * y := by rw [← Int.mul_assoc, hR]
    have q3 : 65536 * (bA * X) = bA * (aA * x + aC * y + h) := by rw [← hH]; grind
    have q4 : 65536 * (bC * Y) = bC * (aB * x + aD * y + k) := by rw [← hK]; grind
    have q5 : 65536 * (D1 + G - D2) = 65536 * D1 + 65536 * G - 65536 * D2 := by grind
    rw [q5, hD, hG, hE]
    grind
  have b1 := mul_bd (a := 2 * p) (b := x) (A := 65536) (B := 16777216) (by omega) (by omega)
  have b2 := mul_bd (a := 2 * r) (b := y) (A := 65536) (B := 16777216) (by omega) (by omega)
  have b3 := mul_bd (a := bA) (b := 2 * h) (A := 262144) (B := 65536) (by omega) (by omega)
  have b4 := mul_bd (a := bC) (b := 2 * k) (A := 262144) (B := 65536) (by omega) (by omega)
  have f1 : 2 * p * x = 2 * (p * x) := by grind
  have f2 : 2 * r * y = 2 * (r * y) := by grind
  have f3 : bA * (2 * h) = 2 * (bA * h) := by grind
  have f4 : bC * (2 * k) = 2 * (bC * k) := by grind
  rw [f1] at b1; rw [f2] at b2; rw [f3] at b3; rw [f4] at b4
  generalize p * x = t1 at *
  generalize r * y = t2 at *
  generalize bA * h = t3 at *
  generalize bC * k = t4 at *
  omega

/-- What AffineComposes and AffineReturns ask of a transform. -/
def Af.small (a : Af) (n : Int) : Prop := (-262144 ≤ a.a ∧ a.a ≤ 262144) ∧ (-262144 ≤ a.b ∧ a.b ≤ 262144) ∧ (-262144 ≤ a.c ∧ a.c ≤ 262144) ∧ (-262144 ≤ a.d ∧ a.d ≤ 262144) ∧ (-n ≤ a.e ∧ a.e ≤ n) ∧ (-n ≤ a.f ∧ a.f ≤ n)
theorem Af.small_ok {a : Af} {n : Int} (h : a.small n) (hn : n ≤ 1099511627776) : a.ok := by
  obtain ⟨h1, h2, h3, h4, h5, h6⟩ := h
  exact ⟨by omega, by omega, by omega, by omega, by omega, by omega⟩
theorem Af.app_ok {a : Af} {x y : Int} (h : a.ok) (hx : -1099511627776 ≤ x ∧ x ≤ 1099511627776) (hy : -1099511627776 ≤ y ∧ y ≤ 1099511627776) : a.app x y = (far (dotZ a.a x a.c y + a.e), far (dotZ a.b x a.d y + a.f)) := by
  unfold Af.app
  rw [Af.lim_id h, far_id hx, far_id hy]
/-- A small transform of a near position: nothing is limited. -/
theorem Af.app_small {a : Af} {n X x y : Int} (h : a.small n) (hn : n ≤ 68719476736) (hx : -X ≤ x ∧ x ≤ X) (hy : -X ≤ y ∧ y ≤ X) (hX : X ≤ 69793218560) (hX0 : 0 ≤ X) :
    a.app x y = (dotZ a.a x a.c y + a.e, dotZ a.b x a.d y + a.f) ∧ (-(8 * X) ≤ dotZ a.a x a.c y ∧ dotZ a.a x a.c y ≤ 8 * X) ∧ (-(8 * X) ≤ dotZ a.b x a.d y ∧ dotZ a.b x a.d y ≤ 8 * X) := by
  obtain ⟨h1, h2, h3, h4, h5, h6⟩ := id h
  have b1 := dotZ_bd (M := 262144) (X := X) (K := 8 * X) h1 hx h3 hy (by omega)
  have b2 := dotZ_bd (M := 262144) (X := X) (K := 8 * X) h2 hx h4 hy (by omega)
  rw [Af.app_ok (Af.small_ok h (by omega)) (by omega) (by omega), far_id (by omega), far_id (by omega)]
  exact ⟨rfl, b1, b2⟩
theorem Af.composes {a b : Af} {x y : Int} (ha : a.small 68719476736) (hb : b.small 68719476736) (hx : -16777216 ≤ x ∧ x ≤ 16777216) (hy : -16777216 ≤ y ∧ y ≤ 16777216) :
    (-262 ≤ ((a.thn b).app x y).1 - (b.app (a.app x y).1 (a.app x y).2).1 ∧ ((a.thn b).app x y).1 - (b.app (a.app x y).1 (a.app x y).2).1 ≤ 262)
    ∧ (-262 ≤ ((a.thn b).app x y).2 - (b.app (a.app x y).1 (a.app x y).2).2 ∧ ((a.thn b).app x y).2 - (b.app (a.app x y).1 (a.app x y).2).2 ≤ 262) := by
  obtain ⟨a1, a2, a3, a4, a5, a6⟩ := id ha
  obtain ⟨b1, b2, b3, b4, b5, b6⟩ := id hb
  have la := Af.lim_id (Af.small_ok ha (by omega))
  have lb := Af.lim_id (Af.small_ok hb (by omega))
  obtain ⟨e1, x1, x2⟩ := Af.app_small ha (by omega) hx hy (by omega) (by omega)
  obtain ⟨e2, _, _⟩ := Af.app_small (X := 68853694464) (x := (a.app x y).1) (y := (a.app x y).2) hb (by omega) (by rw [e1]; show _ ∧ _; dsimp only; omega) (by rw [e1]; dsimp only; omega) (by omega) (by omega)
  obtain ⟨e3, _, _⟩ := Af.app_small (X := 68719476736) (x := a.e) (y := a.f) hb (by omega) a5 a6 (by omega) (by omega)
  have c1 := dotZ_bd (M := 262144) (X := 262144) (K := 2097152) b1 a1 b3 a2 (by omega)
  have c2 := dotZ_bd (M := 262144) (X := 262144) (K := 2097152) b2 a1 b4 a2 (by omega)
  have c3 := dotZ_bd (M := 262144) (X := 262144) (K := 2097152) b1 a3 b3 a4 (by omega)
  have c4 := dotZ_bd (M := 262144) (X := 262144) (K := 2097152) b2 a3 b4 a4 (by omega)
  have ht : a.thn b = ⟨dotZ b.a a.a b.c a.b, dotZ b.b a.a b.d a.b, dotZ b.a a.c b.c a.d, dotZ b.b a.c b.d a.d, dotZ b.a a.e b.c a.f + b.e, dotZ b.b a.e b.d a.f + b.f⟩ := by
    unfold Af.thn
    rw [la, lb, coef_id (by omega), coef_id (by omega), coef_id (by omega), coef_id (by omega), e3]
  have f1 := dotZ_bd (M := 262144) (X := 68719476736) (K := 549755813888) b1 a5 b3 a6 (by omega)
  have f2 := dotZ_bd (M := 262144) (X := 68719476736) (K := 549755813888) b2 a5 b4 a6 (by omega)
  have g1 := dotZ_bd (M := 2097152) (X := 16777216) (K := 1073741824) c1 hx c3 hy (by omega)
  have g2 := dotZ_bd (M := 2097152) (X := 16777216) (K := 1073741824) c2 hx c4 hy (by omega)
  have e4 : (a.thn b).app x y = (dotZ (dotZ b.a a.a b.c a.b) x (dotZ b.a a.c b.c a.d) y + (dotZ b.a a.e b.c a.f + b.e), dotZ (dotZ b.b a.a b.d a.b) x (dotZ b.b a.c b.d a.d) y + (dotZ b.b a.e b.d a.f + b.f)) := by
    rw [Af.app_ok (by rw [ht]; exact ⟨by dsimp only; omega, by dsimp only; omega, by dsimp only; omega, by dsimp only; omega, by dsimp only; omega, by dsimp only; omega⟩) (by omega) (by omega), ht]
    dsimp only
    rw [far_id (by omega), far_id (by omega)]
  rw [e4, e2, e1]
  exact ⟨comp1 b1 b3 hx hy, comp1 b2 b4 hx hy⟩

/-- One coordinate of going there and back. -/
theorem back1 {A B C D E F x y i k : Int} (hA : -262144 ≤ A ∧ A ≤ 262144) (hB : -262144 ≤ B ∧ B ≤ 262144) (hC : -262144 ≤ C ∧ C ≤ 262144) (hD : -262144 ≤ D ∧ D ≤ 262144)
    (hx : -16777216 ≤ x ∧ x ≤ 16777216) (hy : -16777216 ≤ y ∧ y ≤ 16777216) (m : Int) (hm : 1073741824 ≤ m) (d : Int) (hd : d = m ∨ d = -m) (hdet : d = A * D - B * C)
    (s t : Int) (hi : d * i = D * 4294967296 + s) (hk : d * k = -C * 4294967296 + t) (hs : -m ≤ 2 * s ∧ 2 * s ≤ m) (ht : -m ≤ 2 * t ∧ 2 * t ≤ m) :
    -4096 ≤ (dotZ i (dotZ A x C y + E) k (dotZ B x D y + F) + dotZ (-i) E (-k) F) - x ∧ (dotZ i (dotZ A x C y + E) k (dotZ B x D y + F) + dotZ (-i) E (-k) F) - x ≤ 4096 := by
  have bX := dotZ_bd (M := 262144) (X := 16777216) (K := 134217728) hA hx hC hy (by omega)
  have bY := dotZ_bd (M := 262144) (X := 16777216) (K := 134217728) hB hx hD hy (by omega)
  obtain ⟨h, hH, h1, h2⟩ := dotZ_err A x C y
  obtain ⟨l, hL, l1, l2⟩ := dotZ_err B x D y
  generalize dotZ A x C y = X at *
  generalize dotZ B x D y = Y at *
  obtain ⟨g, hG, g1, g2⟩ := dotZ_err i (X + E) k (Y + F)
  obtain ⟨e, hE, e1, e2⟩ := dotZ_err (-i) E (-k) F
  generalize dotZ i (X + E) k (Y + F) = Q at *
  generalize dotZ (-i) E (-k) F = I at *
  have q1 : 65536 * (Q + I) = i * X + k * Y + (g + e) := by
    have : 65536 * (Q + I) = 65536 * Q + 65536 * I := by omega
    rw [this, hG, hE]; grind
  have q2 : 65536 * (d * (65536 * (Q + I))) = (d * i) * (65536 * X) + (d * k) * (65536 * Y) + 65536 * (d * (g + e)) := by
    rw [q1]; grind
  have q3 : 4294967296 * (d * (Q + I - x)) = 4294967296 * (D * h - C * l) + 65536 * (s * X + t * Y) + 65536 * (d * (g + e)) := by
    have z1 : (d * i) * (65536 * X) = D * 4294967296 * (A * x + C * y + h) + 65536 * (s * X) := by rw [hi, ← hH]; grind
    have z2 : (d * k) * (65536 * Y) = -C * 4294967296 * (B * x + D * y + l) + 65536 * (t * Y) := by rw [hk, ← hL]; grind
    rw [z1, z2] at q2
    have z3 : d * x = (A * D - B * C) * x := by rw [hdet]
    grind
  have b1 := mul_bd (a := D) (b := 2 * h) (A := 262144) (B := 65536) hD (by omega)
  have b2 := mul_bd (a := C) (b := 2 * l) (A := 262144) (B := 65536) hC (by omega)
  have b3 := mul_bd (a := 2 * s) (b := X) (A := m) (B := 134217728) hs bX
  have b4 := mul_bd (a := 2 * t) (b := Y) (A := m) (B := 134217728) ht bY
  have b5 := mul_bd (a := d) (b := g + e) (A := m) (B := 65536) (by omega) (by omega)
  have f1 : D * (2 * h) = 2 * (D * h) := by grind
  have f2 : C * (2 * l) = 2 * (C * l) := by grind
  have f3 : 2 * s * X = 2 * (s * X) := by grind
  have f4 : 2 * t * Y = 2 * (t * Y) := by grind
  rw [f1] at b1; rw [f2] at b2; rw [f3] at b3; rw [f4] at b4
  have q4 : -(m * 4096) ≤ d * (Q + I - x) ∧ d * (Q + I - x) ≤ m * 4096 := by
    generalize d * (Q + I - x) = T at *
    generalize D * h = t1 at *
    generalize C * l = t2 at *
    generalize s * X = t3 at *
    generalize t * Y = t4 at *
    generalize d * (g + e) = t5 at *
    omega
  have hm0 : 0 < m := by omega
  have q5 : -(m * 4096) ≤ m * (Q + I - x) ∧ m * (Q + I - x) ≤ m * 4096 := by
    rcases hd with rfl | rfl
    · exact q4
    · have : -m * (Q + I - x) = -(m * (Q + I - x)) := by grind
      rw [this] at q4
      omega
  refine ⟨?_, Int.le_of_mul_le_mul_left q5.2 hm0⟩
  have : m * (-4096) ≤ m * (Q + I - x) := by
    have e : m * (-4096) = -(m * 4096) := by omega
    rw [e]; exact q5.1
  exact Int.le_of_mul_le_mul_left this hm0
theorem dotZ_comm (m x n y : Int) : dotZ m x n y = dotZ n y m x := by unfold dotZ; rw [Int.add_comm]
theorem inv_bd {d i D s m : Int} (hD : -262144 ≤ D ∧ D ≤ 262144) (hm : 1073741824 ≤ m) (hd : d = m ∨ d = -m) (hi : d * i = D * 4294967296 + s) (hs : -m ≤ 2 * s ∧ 2 * s ≤ m) : -1048577 ≤ i ∧ i ≤ 1048577 := by
  have q : -(m * 1048577) ≤ m * i ∧ m * i ≤ m * 1048577 := by
    rcases hd with rfl | rfl
    · omega
    · have : -m * i = -(m * i) := by grind
      rw [this] at hi
      omega
  have hm0 : 0 < m := by omega
  refine ⟨?_, Int.le_of_mul_le_mul_left q.2 hm0⟩
  have : m * (-1048577) ≤ m * i := by
    have e : m * (-1048577) = -(m * 1048577) := by omega
    rw [e]; exact q.1
  exact Int.le_of_mul_le_mul_left this hm0
theorem Af.returns {a : Af} {x y : Int} (ha : a.small 16777216) (hx : -16777216 ≤ x ∧ x ≤ 16777216) (hy : -16777216 ≤ y ∧ y ≤ 16777216) (hd : 1073741824 ≤ a.det ∨ a.det ≤ -1073741824) :
    a.inv1.ok ∧ a.inv2.ok ∧ (-4096 ≤ (a.inv2.app (a.app x y).1 (a.app x y).2).1 - x ∧ (a.inv2.app (a.app x y).1 (a.app x y).2).1 - x ≤ 4096) ∧ (-4096 ≤ (a.inv2.app (a.app x y).1 (a.app x y).2).2 - y ∧ (a.inv2.app (a.app x y).1 (a.app x y).2).2 - y ≤ 4096) := by
  obtain ⟨a1, a2, a3, a4, a5, a6⟩ := id ha
  obtain ⟨e1, x1, x2⟩ := Af.app_small ha (by omega) hx hy (by omega) (by omega)
  obtain ⟨m, hm, hdm⟩ : ∃ m, 1073741824 ≤ m ∧ (a.det = m ∨ a.det = -m) := by
    rcases hd with h | h
    · exact ⟨a.det, h, .inl rfl⟩
    · exact ⟨-a.det, by omega, .inr (by omega)⟩
  have hd0 : a.det ≠ 0 := by omega
  obtain ⟨s1, hs1, r1⟩ := sdiv_err (a.d * 4294967296) a.det hd0
  obtain ⟨s2, hs2, r2⟩ := sdiv_err (-a.b * 4294967296) a.det hd0
  obtain ⟨s3, hs3, r3⟩ := sdiv_err (-a.c * 4294967296) a.det hd0
  obtain ⟨s4, hs4, r4⟩ := sdiv_err (a.a * 4294967296) a.det hd0
  have r1' : -m ≤ 2 * s1 ∧ 2 * s1 ≤ m := by omega
  have r2' : -m ≤ 2 * s2 ∧ 2 * s2 ≤ m := by omega
  have r3' : -m ≤ 2 * s3 ∧ 2 * s3 ≤ m := by omega
  have r4' : -m ≤ 2 * s4 ∧ 2 * s4 ≤ m := by omega
  have i1 := inv_bd a4 hm hdm hs1 r1'
  have i2 := inv_bd (D := -a.b) (by omega) hm hdm hs2 r2'
  have i3 := inv_bd (D := -a.c) (by omega) hm hdm hs3 r3'
  have i4 := inv_bd a1 hm hdm hs4 r4'
  have hdet : a.det = a.a * a.d - a.b * a.c := rfl
  have k1 := back1 (E := a.e) (F := a.f) a1 a2 a3 a4 hx hy m hm a.det hdm hdet s1 s3 hs1 hs3 r1' r3'
  have k2 := back1 (E := a.f) (F := a.e) a4 a3 a2 a1 hy hx m hm a.det hdm (by rw [hdet]; grind) s4 s2 hs4 hs2 r4' r2'
  have hi : a.inv1 = ⟨sdiv (a.d * 4294967296) a.det, sdiv (-a.b * 4294967296) a.det, sdiv (-a.c * 4294967296) a.det, sdiv (a.a * 4294967296) a.det, 0, 0⟩ := rfl
  have hi2 : a.inv2 = { a.inv1 with e := dotZ (-a.inv1.a) a.e (-a.inv1.c) a.f, f := dotZ (-a.inv1.b) a.e (-a.inv1.d) a.f } := rfl
  rw [hi] at hi2
  generalize sdiv (a.d * 4294967296) a.det = p at *
  generalize sdiv (-a.b * 4294967296) a.det = q at *
  generalize sdiv (-a.c * 4294967296) a.det = r at *
  generalize sdiv (a.a * 4294967296) a.det = s at *
  dsimp only at hi2
  have b1 := dotZ_bd (m := -p) (x := a.e) (n := -r) (y := a.f) (M := 1048577) (X := 16777216) (K := 536871424) (by omega) a5 (by omega) a6 (by omega)
  have b2 := dotZ_bd (m := -q) (x := a.e) (n := -s) (y := a.f) (M := 1048577) (X := 16777216) (K := 536871424) (by omega) a5 (by omega) a6 (by omega)
  have o1 : a.inv1.ok := by rw [hi]; exact ⟨by dsimp only; omega, by dsimp only; omega, by dsimp only; omega, by dsimp only; omega, by dsimp only; omega, by dsimp only; omega⟩
  have o2 : a.inv2.ok := by rw [hi2]; exact ⟨by dsimp only; omega, by dsimp only; omega, by dsimp only; omega, by dsimp only; omega, by dsimp only; omega, by dsimp only; omega⟩
  refine ⟨o1, o2, ?_⟩
  rw [e1]
  dsimp only
  rw [Af.app_ok o2 (by omega) (by omega), hi2]
  dsimp only
  have c1 := dotZ_bd (m := p) (x := dotZ a.a x a.c y + a.e) (n := r) (y := dotZ a.b x a.d y + a.f) (M := 1048577) (X := 150994944) (K := 4831842816) (by omega) (by omega) (by omega) (by omega) (by omega)
  have c2 := dotZ_bd (m := q) (x := dotZ a.a x a.c y + a.e) (n := s) (y := dotZ a.b x a.d y + a.f) (M := 1048577) (X := 150994944) (K := 4831842816) (by omega) (by omega) (by omega) (by omega) (by omega)
  rw [far_id (by omega), far_id (by omega)]
  refine ⟨k1, ?_⟩
  rw [dotZ_comm q, dotZ_comm (-q), dotZ_comm a.b, dotZ_comm a.a]
  exact k2
end Go.Proofs.Ytineinmghajmnaa
namespace Go.Proofs.Ytineinmghajmnaa

/-- A rectangle. -/
structure Rc where
  x : Int
  y : Int
  w : Int
  h : Int
deriving DecidableEq
def Rc.zero : Rc := ⟨0, 0, 0, 0⟩
def Rc.ok (r : Rc) : Prop := ((-1048576 ≤ r.x ∧ r.x ≤ 1048576) ∧ 0 ≤ r.w ∧ r.w ≤ 1048576 - r.x) ∧ ((-1048576 ≤ r.y ∧ r.y ≤ 1048576) ∧ 0 ≤ r.h ∧ r.h ≤ 1048576 - r.y)
instance decRc (r : Rc) : Decidable r.ok := by unfold Rc.ok; infer_instance
def wn0 (lo : Int) : Int := max (lo / 65536) (-1048576)
def wn1 (hi : Int) : Int := min (-(-hi / 65536)) 1048576
def min4 (a b c d : Int) : Int := min (min (min a b) c) d
def max4 (a b c d : Int) : Int := max (max (max a b) c) d
theorem min4_add (a b c d e : Int) : min4 (a + e) (b + e) (c + e) (d + e) = min4 a b c d + e := by unfold min4; omega
theorem max4_add (a b c d e : Int) : max4 (a + e) (b + e) (c + e) (d + e) = max4 a b c d + e := by unfold max4; omega
theorem min4_ge {k a b c d : Int} (h1 : k ≤ a) (h2 : k ≤ b) (h3 : k ≤ c) (h4 : k ≤ d) : k ≤ min4 a b c d := by unfold min4; omega
theorem max4_le {k a b c d : Int} (h1 : a ≤ k) (h2 : b ≤ k) (h3 : c ≤ k) (h4 : d ≤ k) : max4 a b c d ≤ k := by unfold max4; omega
def rectOf (x0 x1 y0 y1 : Int) : Rc := if x0 ≥ x1 ∨ y0 ≥ y1 then .zero else ⟨x0, y0, x1 - x0, y1 - y0⟩
/-- The box of the images of four corners. -/
def af_box4 (p q r s : Int × Int) : Rc := rectOf (wn0 (min4 p.1 q.1 r.1 s.1)) (wn1 (max4 p.1 q.1 r.1 s.1)) (wn0 (min4 p.2 q.2 r.2 s.2)) (wn1 (max4 p.2 q.2 r.2 s.2))
def Af.corners (a : Af) (r : Rc) : Rc := af_box4 (a.app (r.x * 65536) (r.y * 65536)) (a.app ((r.x + r.w) * 65536) (r.y * 65536)) (a.app (r.x * 65536) ((r.y + r.h) * 65536)) (a.app ((r.x + r.w) * 65536) ((r.y + r.h) * 65536))
/-- What the reference makes of the same bounds. -/
theorem clamp_wn (lo hi : Int) (h : lo ≤ hi) : (min 1048576 (max (lo / 65536) (-1048576)) = min 1048576 (max (-(-hi / 65536)) (-1048576)) ↔ wn0 lo ≥ wn1 hi) ∧ (¬ wn0 lo ≥ wn1 hi → min 1048576 (max (lo / 65536) (-1048576)) = wn0 lo ∧ min 1048576 (max (-(-hi / 65536)) (-1048576)) = wn1 hi) := by
  unfold wn0 wn1
  omega
theorem dot_between {A C x0 x x1 y0 y y1 : Int} (hx : x0 ≤ x ∧ x ≤ x1) (hy : y0 ≤ y ∧ y ≤ y1) :
    min4 (dotZ A x0 C y0) (dotZ A x1 C y0) (dotZ A x0 C y1) (dotZ A x1 C y1) ≤ dotZ A x C y ∧ dotZ A x C y ≤ max4 (dotZ A x0 C y0) (dotZ A x1 C y0) (dotZ A x0 C y1) (dotZ A x1 C y1) := by
  have hA : (A * x0 ≤ A * x ∧ A * x ≤ A * x1) ∨ (A * x1 ≤ A * x ∧ A * x ≤ A * x0) := by
    rcases Int.le_total 0 A with h | h
    · exact .inl ⟨Int.mul_le_mul_of_nonneg_left hx.1 h, Int.mul_le_mul_of_nonneg_left hx.2 h⟩
    · exact .inr ⟨Int.mul_le_mul_of_nonpos_left h hx.2, Int.mul_le_mul_of_nonpos_left h hx.1⟩
  have hC : (C * y0 ≤ C * y ∧ C * y ≤ C * y1) ∨ (C * y1 ≤ C * y ∧ C * y ≤ C * y0) := by
    rcases Int.le_total 0 C with h | h
    · exact .inl ⟨Int.mul_le_mul_of_nonneg_left hy.1 h, Int.mul_le_mul_of_nonneg_left hy.2 h⟩
    · exact .inr ⟨Int.mul_le_mul_of_nonpos_left h hy.2, Int.mul_le_mul_of_nonpos_left h hy.1⟩
  unfold dotZ min4 max4
  have m : ∀ u v : Int, u ≤ v → rdiv u 65536 ≤ rdiv v 65536 := fun u v h => rdiv_mono (by omega) h
  rcases hA with hA | hA <;> rcases hC with hC | hC
  · have := m (A * x0 + C * y0) (A * x + C * y) (by omega); have := m (A * x + C * y) (A * x1 + C * y1) (by omega); omega
  · have := m (A * x0 + C * y1) (A * x + C * y) (by omega); have := m (A * x + C * y) (A * x1 + C * y0) (by omega); omega
  · have := m (A * x1 + C * y0) (A * x + C * y) (by omega); have := m (A * x + C * y) (A * x0 + C * y1) (by omega); omega
  · have := m (A * x1 + C * y1) (A * x + C * y) (by omega); have := m (A * x + C * y) (A * x0 + C * y0) (by omega); omega
/-- The box of a small transform of a near rectangle. -/
theorem Af.contains {a : Af} {r : Rc} {x y : Int} (ha : a.small 16777216) (hr : (-256 ≤ r.x ∧ r.x ≤ 256) ∧ (-256 ≤ r.y ∧ r.y ≤ 256) ∧ (1 ≤ r.w ∧ r.w ≤ 256) ∧ (1 ≤ r.h ∧ r.h ≤ 256))
    (hx : r.x * 65536 ≤ x ∧ x ≤ (r.x + r.w) * 65536) (hy : r.y * 65536 ≤ y ∧ y ≤ (r.y + r.h) * 65536) :
    a.corners r = .zero ∨ (((-1048576 ≤ (a.corners r).x ∧ (a.corners r).x ≤ 1048576) ∧ (-1048576 ≤ (a.corners r).y ∧ (a.corners r).y ≤ 1048576) ∧ (1 ≤ (a.corners r).w ∧ (a.corners r).w ≤ 1048576) ∧ (1 ≤ (a.corners r).h ∧ (a.corners r).h ≤ 1048576)) ∧
      ((a.corners r).x * 65536 ≤ (a.app x y).1 ∧ (a.app x y).1 ≤ ((a.corners r).x + (a.corners r).w) * 65536) ∧ ((a.corners r).y * 65536 ≤ (a.app x y).2 ∧ (a.app x y).2 ≤ ((a.corners r).y + (a.corners r).h) * 65536)) := by
  obtain ⟨r1, r2, r3, r4⟩ := hr
  obtain ⟨e, g1, g2⟩ := Af.app_small (X := 33554432) (x := x) (y := y) ha (by omega) (by omega) (by omega) (by omega) (by omega)
  obtain ⟨e1, h1, k1⟩ := Af.app_small (X := 33554432) (x := r.x * 65536) (y := r.y * 65536) ha (by omega) (by omega) (by omega) (by omega) (by omega)
  obtain ⟨e2, h2, k2⟩ := Af.app_small (X := 33554432) (x := (r.x + r.w) * 65536) (y := r.y * 65536) ha (by omega) (by omega) (by omega) (by omega) (by omega)
  obtain ⟨e3, h3, k3⟩ := Af.app_small (X := 33554432) (x := r.x * 65536) (y := (r.y + r.h) * 65536) ha (by omega) (by omega) (by omega) (by omega) (by omega)
  obtain ⟨e4, h4, k4⟩ := Af.app_small (X := 33554432) (x := (r.x + r.w) * 65536) (y := (r.y + r.h) * 65536) ha (by omega) (by omega) (by omega) (by omega) (by omega)
  have b1 := dot_between (A := a.a) (C := a.c) hx hy
  have b2 := dot_between (A := a.b) (C := a.d) hx hy
  obtain ⟨_, _, _, _, a5, a6⟩ := ha
  obtain ⟨q, hc⟩ : ∃ q, q = a.corners r := ⟨_, rfl⟩
  rw [← hc]
  unfold Af.corners at hc
  rw [e1, e2, e3, e4] at hc
  unfold af_box4 at hc
  dsimp only at hc
  rw [min4_add, min4_add, max4_add, max4_add] at hc
  rw [e]
  dsimp only
  have m1 := min4_ge h1.1 h2.1 h3.1 h4.1
  have m2 := max4_le h1.2 h2.2 h3.2 h4.2
  have m3 := min4_ge k1.1 k2.1 k3.1 k4.1
  have m4 := max4_le k1.2 k2.2 k3.2 k4.2
  generalize min4 _ _ _ _ = lx at hc b1 m1
  generalize max4 _ _ _ _ = mx at hc b1 m2
  generalize min4 _ _ _ _ = ly at hc b2 m3
  generalize max4 _ _ _ _ = my at hc b2 m4
  generalize dotZ a.a x a.c y = u at *
  generalize dotZ a.b x a.d y = v at *
  clear e e1 e2 e3 e4 hx hy h1 h2 h3 h4 k1 k2 k3 k4 g1 g2
  unfold rectOf wn0 wn1 at hc
  split at hc
  · exact .inl hc
  · right
    rename_i hn
    have n1 : max ((lx + a.e) / 65536) (-1048576) = (lx + a.e) / 65536 := by omega
    have n2 : min (-(-(mx + a.e) / 65536)) 1048576 = -(-(mx + a.e) / 65536) := by omega
    have n3 : max ((ly + a.f) / 65536) (-1048576) = (ly + a.f) / 65536 := by omega
    have n4 : min (-(-(my + a.f) / 65536)) 1048576 = -(-(my + a.f) / 65536) := by omega
    rw [n1, n2, n3, n4] at hc hn
    subst hc
    dsimp only
    refine ⟨⟨?_, ?_, ?_, ?_⟩, ⟨?_, ?_⟩, ⟨?_, ?_⟩⟩
    all_goals omega
/-- The identity and translations. -/
def Af.same : Af := ⟨65536, 0, 0, 65536, 0, 0⟩
def Af.move (x y : Int) : Af := ⟨65536, 0, 0, 65536, afcl 1048576 x * 65536, afcl 1048576 y * 65536⟩
def Af.scale (x y : Int) : Af := ⟨coef x, 0, 0, coef y, 0, 0⟩
theorem dotZ_one (x y : Int) : dotZ 65536 x 0 y = x := by
  unfold dotZ
  rw [Int.zero_mul, Int.add_zero, rdiv_whole _ _ (by omega)]
theorem dotZ_two (x y : Int) : dotZ 0 x 65536 y = y := by
  unfold dotZ
  rw [Int.zero_mul, Int.zero_add, rdiv_whole _ _ (by omega)]
theorem dotZ_one' (x y : Int) : dotZ x 65536 y 0 = x := by
  unfold dotZ
  rw [Int.mul_zero, Int.add_zero, Int.mul_comm, rdiv_whole _ _ (by omega)]
theorem dotZ_two' (x y : Int) : dotZ x 0 y 65536 = y := by
  unfold dotZ
  rw [Int.mul_zero, Int.zero_add, Int.mul_comm, rdiv_whole _ _ (by omega)]
theorem dotZ_zero (x y : Int) : dotZ x 0 y 0 = 0 := by
  unfold dotZ
  rw [Int.mul_zero, Int.mul_zero]; decide
theorem Af.app_same {x y : Int} (hx : -1099511627776 ≤ x ∧ x ≤ 1099511627776) (hy : -1099511627776 ≤ y ∧ y ≤ 1099511627776) : Af.same.app x y = (x, y) := by
  rw [Af.app_ok (by decide) hx hy]
  show (far (dotZ 65536 x 0 y + 0), far (dotZ 0 x 65536 y + 0)) = _
  rw [dotZ_one, dotZ_two, Int.add_zero, Int.add_zero, far_id hx, far_id hy]
theorem Af.thn_same {a : Af} (h : a.ok) : a.thn .same = a := by
  obtain ⟨h1, h2, h3, h4, h5, h6⟩ := id h
  unfold Af.thn
  rw [Af.lim_id h, Af.app_same h5 h6, show Af.same.lim = Af.same by decide]
  show Af.mk (coef (dotZ 65536 a.a 0 a.b)) (coef (dotZ 0 a.a 65536 a.b)) (coef (dotZ 65536 a.c 0 a.d)) (coef (dotZ 0 a.c 65536 a.d)) a.e a.f = a
  rw [dotZ_one, dotZ_two, dotZ_one, dotZ_two, coef_id h1, coef_id h2, coef_id h3, coef_id h4]
theorem Af.same_thn {a : Af} (h : a.ok) : Af.same.thn a = a := by
  obtain ⟨h1, h2, h3, h4, h5, h6⟩ := id h
  unfold Af.thn
  rw [Af.lim_id h, show Af.same.lim = Af.same by decide, Af.app_ok h (by decide) (by decide)]
  show Af.mk (coef (dotZ a.a 65536 a.c 0)) (coef (dotZ a.b 65536 a.d 0)) (coef (dotZ a.a 0 a.c 65536)) (coef (dotZ a.b 0 a.d 65536)) (far (dotZ a.a 0 a.c 0 + a.e)) (far (dotZ a.b 0 a.d 0 + a.f)) = a
  rw [dotZ_one', dotZ_one', dotZ_two', dotZ_two', dotZ_zero, dotZ_zero, coef_id h1, coef_id h2, coef_id h3, coef_id h4, Int.zero_add, Int.zero_add, far_id h5, far_id h6]
theorem Af.move_ok {x y : Int} (hx : -524288 ≤ x ∧ x ≤ 524288) (hy : -524288 ≤ y ∧ y ≤ 524288) : Af.move x y = ⟨65536, 0, 0, 65536, x * 65536, y * 65536⟩ := by
  unfold Af.move afcl
  rw [show min 1048576 (max x (-1048576)) = x by omega, show min 1048576 (max y (-1048576)) = y by omega]
theorem Af.app_move {x y u v : Int} (hx : -524288 ≤ x ∧ x ≤ 524288) (hy : -524288 ≤ y ∧ y ≤ 524288) (hu : -68719476736 ≤ u ∧ u ≤ 68719476736) (hv : -68719476736 ≤ v ∧ v ≤ 68719476736) :
    (Af.move x y).app u v = (u + x * 65536, v + y * 65536) := by
  have e := Af.move_ok hx hy
  rw [Af.app_ok (by rw [e]; exact ⟨by dsimp only; omega, by dsimp only; omega, by dsimp only; omega, by dsimp only; omega, by dsimp only; omega, by dsimp only; omega⟩) (by omega) (by omega), e]
  show (far (dotZ 65536 u 0 v + x * 65536), far (dotZ 0 u 65536 v + y * 65536)) = _
  rw [dotZ_one, dotZ_two, far_id (by omega), far_id (by omega)]
theorem Af.inv_move {x y : Int} (hx : -524288 ≤ x ∧ x ≤ 524288) (hy : -524288 ≤ y ∧ y ≤ 524288) : (Af.move x y).ok ∧ (Af.move x y).det ≠ 0 ∧ (Af.move x y).inv1.ok ∧ (Af.move x y).inv2.ok ∧ (Af.move x y).inv2 = Af.move (-x) (-y) := by
  have e := Af.move_ok hx hy
  have e' := Af.move_ok (x := -x) (y := -y) (by omega) (by omega)
  have d : (Af.move x y).det = 4294967296 := by rw [e]; rfl
  have i1 : (Af.move x y).inv1 = ⟨65536, 0, 0, 65536, 0, 0⟩ := by
    unfold Af.inv1
    rw [d, e]
    show Af.mk (sdiv (65536 * 4294967296) 4294967296) (sdiv (-0 * 4294967296) 4294967296) (sdiv (-0 * 4294967296) 4294967296) (sdiv (65536 * 4294967296) 4294967296) 0 0 = _
    decide +kernel
  have i2 : (Af.move x y).inv2 = Af.move (-x) (-y) := by
    unfold Af.inv2
    rw [i1, e, e']
    show Af.mk 65536 0 0 65536 (dotZ (-65536) (x * 65536) (-0) (y * 65536)) (dotZ (-0) (x * 65536) (-65536) (y * 65536)) = _
    have z1 : dotZ (-65536) (x * 65536) (-0) (y * 65536) = -x * 65536 := by
      unfold dotZ
      rw [show (-65536 : Int) * (x * 65536) + -0 * (y * 65536) = 65536 * (-x * 65536) by omega, rdiv_whole _ _ (by omega)]
    have z2 : dotZ (-0) (x * 65536) (-65536) (y * 65536) = -y * 65536 := by
      unfold dotZ
      rw [show (-0 : Int) * (x * 65536) + -65536 * (y * 65536) = 65536 * (-y * 65536) by omega, rdiv_whole _ _ (by omega)]
    rw [z1, z2]
  refine ⟨?_, by rw [d]; decide, by rw [i1]; decide, ?_, i2⟩
  · rw [e]; exact ⟨by dsimp only; omega, by dsimp only; omega, by dsimp only; omega, by dsimp only; omega, by dsimp only; omega, by dsimp only; omega⟩
  · rw [i2, e']; exact ⟨by dsimp only; omega, by dsimp only; omega, by dsimp only; omega, by dsimp only; omega, by dsimp only; omega, by dsimp only; omega⟩
end Go.Proofs.Ytineinmghajmnaa
namespace Go.Proofs.Ytineinmghajmnaa
open Go.RowKit
attribute [local go_sem 2000] run_max2m run_min2m

set_option maxHeartbeats 400000 in
theorem factor_any (x : Int) (w : World) :
    Calls Try.prog 92 #[.int .i64 x] w fun e w' => e = .returned (.int .i64 (coef x)) ∧ w = w' := by
  go_enter Try.func92, Try.ntmps92
  go_wp2_with (go_at_call 29; refine (clamp_any _ _ _ _).mono ?_; rintro e w' ⟨rfl, rfl⟩)
  go_ret
  exact ⟨rfl, rfl⟩
set_option maxHeartbeats 400000 in
theorem place_any (x : Int) (w : World) :
    Calls Try.prog 73 #[.int .i64 x] w fun e w' => e = .returned (.int .i64 (far x)) ∧ w = w' := by
  go_enter Try.func73, Try.ntmps73
  go_wp2_with (go_at_call 29; refine (clamp_any _ _ _ _).mono ?_; rintro e w' ⟨rfl, rfl⟩)
  go_ret
  exact ⟨rfl, rfl⟩
set_option maxHeartbeats 400000 in
theorem rcoef_any (x : Int) (w : World) :
    Calls Try.prog 93 #[.int .i64 x] w fun e w' => e = .returned (.int .i64 (coef x)) ∧ w = w' := by
  go_enter Try.func93, Try.ntmps93
  go_wp2_with (go_at_call 79; refine (rclamp_any _ _ _ _).mono ?_; rintro e w' ⟨rfl, rfl⟩)
  go_ret
  exact ⟨rfl, rfl⟩
set_option maxHeartbeats 400000 in
theorem rfar_any (x : Int) (w : World) :
    Calls Try.prog 77 #[.int .i64 x] w fun e w' => e = .returned (.int .i64 (far x)) ∧ w = w' := by
  go_enter Try.func77, Try.ntmps77
  go_wp2_with (go_at_call 79; refine (rclamp_any _ _ _ _).mono ?_; rintro e w' ⟨rfl, rfl⟩)
  go_ret
  exact ⟨rfl, rfl⟩
theorem low_bd (x : Int) : 0 ≤ x - x / 65536 * 65536 ∧ x - x / 65536 * 65536 ≤ 65535 := by omega
set_option maxHeartbeats 1000000 in
theorem dot_any (m x n y : Int) (w : World) (hm : -16777216 ≤ m ∧ m ≤ 16777216) (hx : -1099511627776 ≤ x ∧ x ≤ 1099511627776) (hn : -16777216 ≤ n ∧ n ≤ 16777216) (hy : -1099511627776 ≤ y ∧ y ≤ 1099511627776) :
    Calls Try.prog 71 #[.int .i64 m, .int .i64 x, .int .i64 n, .int .i64 y] w fun e w' => e = .returned (.int .i64 (dotZ m x n y)) ∧ w = w' := by
  have E := Lib.hid (dot_eq m x n y)
  have hI : -16777216 ≤ x / 65536 ∧ x / 65536 ≤ 16777216 := by omega
  have hJ : -16777216 ≤ y / 65536 ∧ y / 65536 ≤ 16777216 := by omega
  have h1 := mul_bd hm hI
  have h2 := mul_bd hn hJ
  have l1 := low_bd x
  have l2 := low_bd y
  have h3 := mul_bd (B := 65536) hm (by omega : -65536 ≤ x - x / 65536 * 65536 ∧ x - x / 65536 * 65536 ≤ 65536)
  have h4 := mul_bd (B := 65536) hn (by omega : -65536 ≤ y - y / 65536 * 65536 ∧ y - y / 65536 * 65536 ≤ 65536)
  have h5 := rdiv_bd (a := m * (x - x / 65536 * 65536) + n * (y - y / 65536 * 65536)) (A := 33554432) (by omega)
  generalize dotZ m x n y = Z at *
  go_enter Try.func71, Try.ntmps71
  go_wp2_with (first | (go_at_call 57; refine (floor_any _ _ _ (by omega) (by omega) (by omega) (by omega)).mono ?_; rintro e w' ⟨rfl, rfl⟩) | (go_at_call 50; refine (div_any _ _ _ (by omega) (by omega) (by omega) (by omega)).mono ?_; rintro e w' ⟨rfl, rfl⟩))
  go_ret
  exact ⟨ret_int E.out, rfl⟩
set_option maxHeartbeats 1000000 in
theorem line_any (m n x y : Int) (w : World) (hm : -16777216 ≤ m ∧ m ≤ 16777216) (hx : -1099511627776 ≤ x ∧ x ≤ 1099511627776) (hn : -16777216 ≤ n ∧ n ≤ 16777216) (hy : -1099511627776 ≤ y ∧ y ≤ 1099511627776) :
    Calls Try.prog 75 #[.int .i64 m, .int .i64 n, .int .i64 x, .int .i64 y] w fun e w' => e = .returned (.int .i64 (dotZ m x n y)) ∧ ∃ k, w' = w.drewN k := by
  have E := Lib.hid (dot_eq m x n y)
  have hI : -16777216 ≤ x / 65536 ∧ x / 65536 ≤ 16777216 := by omega
  have hJ : -16777216 ≤ y / 65536 ∧ y / 65536 ≤ 16777216 := by omega
  have h1 := mul_bd hm hI
  have h2 := mul_bd hn hJ
  have l1 := low_bd x
  have l2 := low_bd y
  have h3 := mul_bd (B := 65536) hm (by omega : -65536 ≤ x - x / 65536 * 65536 ∧ x - x / 65536 * 65536 ≤ 65536)
  have h4 := mul_bd (B := 65536) hn (by omega : -65536 ≤ y - y / 65536 * 65536 ∧ y - y / 65536 * 65536 ≤ 65536)
  have h5 := rdiv_bd (a := m * (x - x / 65536 * 65536) + n * (y - y / 65536 * 65536)) (A := 33554432) (by omega)
  generalize dotZ m x n y = Z at *
  go_enter Try.func75, Try.ntmps75
  go_wp2_with (first | (go_at_call 64; refine (rfloor_any _ _ _ (by omega) (by omega) (by omega) (by omega)).mono ?_; rintro e w' ⟨rfl, n1, rfl⟩) | (go_at_call 51; refine (rdiv_any _ _ _ (by omega) (by omega) (by omega) (by omega)).mono ?_; rintro e w' ⟨rfl, n2, rfl⟩))
  go_ret
  exact ⟨ret_int E.out, _, rfl⟩

/-- Six cells. -/
def Six (w : World) (g : Nat) (a b c d e f : Int) : Prop := w.cell? ⟨g, 0, none⟩ = some (.int .i64 a) ∧ w.cell? ⟨g, 1, none⟩ = some (.int .i64 b) ∧ w.cell? ⟨g, 2, none⟩ = some (.int .i64 c) ∧ w.cell? ⟨g, 3, none⟩ = some (.int .i64 d) ∧ w.cell? ⟨g, 4, none⟩ = some (.int .i64 e) ∧ w.cell? ⟨g, 5, none⟩ = some (.int .i64 f)

set_option maxHeartbeats 4000000 in
theorem limited_any (a b c d e f : Int) (w : World) :
    Calls Try.prog 72 #[.agg #[.int .i64 a, .int .i64 b, .int .i64 c, .int .i64 d, .int .i64 e, .int .i64 f]] w fun z w' => z = .returned (.agg #[.int .i64 (coef a), .int .i64 (coef b), .int .i64 (coef c), .int .i64 (coef d), .int .i64 (far e), .int .i64 (far f)]) ∧ Below w.heap.size w w' := by
  go_enter Try.func72, Try.ntmps72
  go_wp2_with fail
  go_region_held3 (fun w' => w'.cell? ⟨w.heap.size, 0, none⟩ = some (.int .i64 a) ∧ w'.cell? ⟨w.heap.size, 1, none⟩ = some (.int .i64 b) ∧ w'.cell? ⟨w.heap.size, 2, none⟩ = some (.int .i64 c) ∧ w'.cell? ⟨w.heap.size, 3, none⟩ = some (.int .i64 d) ∧ w'.cell? ⟨w.heap.size, 4, none⟩ = some (.int .i64 e) ∧ w'.cell? ⟨w.heap.size, 5, none⟩ = some (.int .i64 f))
    (go_keep)
    (first | (go_at_call 92; refine (factor_any _ _).mono ?_; rintro e w4 ⟨rfl, rfl⟩) | (go_at_call 73; refine (place_any _ _).mono ?_; rintro e w4 ⟨rfl, rfl⟩))
  go_wp2_with fail
  refine bodyPost_ret (v := .agg #[.int .i64 (coef a), .int .i64 (coef b), .int .i64 (coef c), .int .i64 (coef d), .int .i64 (far e), .int .i64 (far f)]) (by simp [results, Try.results72, go_sem]) rfl ⟨rfl, ?_⟩
  repeat (first | exact Below.refl _ _ | refine Below.drew ?_ | refine Below.drewN' ?_ _ | refine bel_alloc ?_ _)
set_option maxHeartbeats 4000000 in
theorem rlimited_any (a b c d e f : Int) (w : World) :
    Calls Try.prog 76 #[.agg #[.int .i64 a, .int .i64 b, .int .i64 c, .int .i64 d, .int .i64 e, .int .i64 f]] w fun z w' => z = .returned (.agg #[.int .i64 (coef a), .int .i64 (coef b), .int .i64 (coef c), .int .i64 (coef d), .int .i64 (far e), .int .i64 (far f)]) ∧ Below w.heap.size w w' := by
  go_enter Try.func76, Try.ntmps76
  go_wp2_with fail
  go_region_held3 (fun w' => w'.cell? ⟨w.heap.size, 0, none⟩ = some (.int .i64 a) ∧ w'.cell? ⟨w.heap.size, 1, none⟩ = some (.int .i64 b) ∧ w'.cell? ⟨w.heap.size, 2, none⟩ = some (.int .i64 c) ∧ w'.cell? ⟨w.heap.size, 3, none⟩ = some (.int .i64 d) ∧ w'.cell? ⟨w.heap.size, 4, none⟩ = some (.int .i64 e) ∧ w'.cell? ⟨w.heap.size, 5, none⟩ = some (.int .i64 f))
    (go_keep)
    (first | (go_at_call 93; refine (rcoef_any _ _).mono ?_; rintro e w4 ⟨rfl, rfl⟩) | (go_at_call 77; refine (rfar_any _ _).mono ?_; rintro e w4 ⟨rfl, rfl⟩))
  go_wp2_with fail
  refine bodyPost_ret (v := .agg #[.int .i64 (coef a), .int .i64 (coef b), .int .i64 (coef c), .int .i64 (coef d), .int .i64 (far e), .int .i64 (far f)]) (by simp [results, Try.results76, go_sem]) rfl ⟨rfl, ?_⟩
  repeat (first | exact Below.refl _ _ | refine Below.drew ?_ | refine Below.drewN' ?_ _ | refine bel_alloc ?_ _)
end Go.Proofs.Ytineinmghajmnaa
namespace Go.Proofs.Ytineinmghajmnaa
open Go.RowKit
attribute [local go_sem 2000] run_max2m run_min2m
set_option maxHeartbeats 400000 in
theorem floor_neg (a b : Int) (w : World) (ha : -4611686018427387904 ≤ a) (ha' : a ≤ 4611686018427387904) (hb : b < 0) (hb' : -4611686018427387904 ≤ b) :
    Calls Try.prog 57 #[.int .i64 a, .int .i64 b] w fun e w' => e = .returned (.int .i64 (-a / -b)) ∧ w = w' := by
  have hbn := div_bounds (-a) (-b) (by omega) (by omega) (by omega)
  have h0 : (b == 0) = false := by simp; omega
  have hmn : (a == -9223372036854775808) = false := by simp; omega
  have em : a.tmod b = -((-a).tmod (-b)) := by rw [Int.neg_tmod, Int.tmod_neg, Int.neg_neg]
  have ed : a.tdiv b = (-a).tdiv (-b) := by rw [Int.neg_tdiv, Int.tdiv_neg, Int.neg_neg]
  by_cases hz : (-a).tmod (-b) = 0
  · have e := tdiv_eq_zero (-a) (-b) (by omega) hz
    have hz2 : (a.tmod b != 0) = false := by rw [em, hz]; rfl
    rw [← ed] at e
    have E := Lib.hid e
    have hb2 : -4611686018427387905 ≤ a.tdiv b ∧ a.tdiv b ≤ 4611686018427387905 := by omega
    clear e em ed hz hbn
    generalize -a / -b = R at *
    go_enter Try.func57, Try.ntmps57
    go_wp2
    all_goals (go_ret; first | exact ⟨ret_int E.out, rfl⟩ | exact ⟨rfl, rfl⟩)
  · have hz2 : (a.tmod b != 0) = true := by rw [em]; simp; omega
    have hz3 : ¬ a.tmod b = 0 := by rw [em]; omega
    have hb1 : ¬ b = -1 := by intro e; subst e; exact hz (Int.tmod_one _)
    have hb3 : (b == -1) = false := by rw [beq_eq_false_iff_ne]; exact hb1
    by_cases hn : 0 < a
    · have e := tdiv_eq_neg (-a) (-b) (by omega) (by omega) hz
      rw [← ed] at e
      have hb2 : -4611686018427387903 ≤ a.tdiv b ∧ a.tdiv b ≤ 4611686018427387905 := by omega
      have E := Lib.hid e
      have hd1 : decide (a < 0) = false := by simp; omega
      have hz4 : ¬ a % b = 0 := by rw [← Int.tmod_eq_emod_of_nonneg (by omega)]; exact hz3
      have hz5 : (a % b != 0) = true := by simp [hz4]
      have hd2 : decide (b < 0) = true := by simp; omega
      clear e em ed hz hbn
      generalize -a / -b = R at *
      go_enter Try.func57, Try.ntmps57
      go_wp2
      all_goals (go_ret; first | exact ⟨ret_int E.out, rfl⟩ | exact ⟨rfl, rfl⟩)
    · have ha0 : a < 0 := by
        rcases Int.lt_or_eq_of_le (show a ≤ 0 by omega) with c | c
        · exact c
        · subst c; exact absurd (by simp) hz
      have e := tdiv_eq_pos (-a) (-b) (by omega)
      rw [← ed] at e
      have E := Lib.hid e
      have hb2 : -4611686018427387905 ≤ a.tdiv b ∧ a.tdiv b ≤ 4611686018427387905 := by omega
      have hd1 : decide (a < 0) = true := by simp; omega
      have hd2 : decide (b < 0) = true := by simp; omega
      clear e em ed hz hbn
      generalize -a / -b = R at *
      go_enter Try.func57, Try.ntmps57
      go_wp2
      all_goals (go_ret; first | exact ⟨ret_int E.out, rfl⟩ | exact ⟨rfl, rfl⟩)
set_option maxHeartbeats 400000 in
theorem div_neg (a b : Int) (w : World) (ha : -4611686018427387904 ≤ a) (ha' : a ≤ 4611686018427387904) (hb : b < 0) (hb' : -4611686018427387904 ≤ b) :
    Calls Try.prog 50 #[.int .i64 a, .int .i64 b] w fun e w' => e = .returned (.int .i64 (rdiv (-a) (-b))) ∧ w = w' := by
  have hbn := div_bounds (-a) (-b) (by omega) (by omega) (by omega)
  have h2 := div_mul (-a) (-b) (by omega)
  have h0 : (b == 0) = false := by simp; omega
  have hmn : (a == -9223372036854775808) = false := by simp; omega
  have en : -b * (-a / -b) = -(b * (-a / -b)) := by grind
  have FL := Lib.hid (fun w => floor_neg a b w ha ha' hb hb')
  by_cases c : -b - (-a - -b * (-a / -b)) ≤ -a - -b * (-a / -b)
  · have E := Lib.hid (rdiv_up (-a) (-b) (by omega) c)
    rw [en] at c h2
    have d1 : decide (b > 0) = false := by simp; omega
    have d2 : decide (b < 0) = true := by simp; omega
    clear en
    generalize rdiv (-a) (-b) = R at *
    generalize -a / -b = Q at *
    have d3 : decide (a - b * Q ≤ b - (a - b * Q)) = true := by simp; omega
    go_enter Try.func50, Try.ntmps50
    go_wp2_with (go_at_call 57; refine (FL.out _).mono ?_; rintro e w' ⟨rfl, rfl⟩)
    all_goals (go_ret; first | exact ⟨ret_int E.out, rfl⟩ | exact ⟨rfl, rfl⟩)
  · have E := Lib.hid (rdiv_down (-a) (-b) (by omega) (by omega))
    rw [en] at c h2
    have d1 : decide (b > 0) = false := by simp; omega
    have d2 : decide (b < 0) = true := by simp; omega
    clear en
    generalize rdiv (-a) (-b) = R at *
    generalize -a / -b = Q at *
    have d3 : decide (a - b * Q ≤ b - (a - b * Q)) = false := by simp; omega
    go_enter Try.func50, Try.ntmps50
    go_wp2_with (go_at_call 57; refine (FL.out _).mono ?_; rintro e w' ⟨rfl, rfl⟩)
    all_goals (go_ret; first | exact ⟨ret_int E.out, rfl⟩ | exact ⟨rfl, rfl⟩)
theorem box4_on (w : World) (x y p q : Int) {w4 : World} (hb : Below (w.alloc (.cells #[.int .i64 x, .int .i64 y, .int .i64 p, .int .i64 q] 33)).heap.size (w.alloc (.cells #[.int .i64 x, .int .i64 y, .int .i64 p, .int .i64 q] 33)) w4) : w4.cell? ⟨w.heap.size, 0, none⟩ = some (.int .i64 x) ∧ w4.cell? ⟨w.heap.size, 1, none⟩ = some (.int .i64 y) ∧ w4.cell? ⟨w.heap.size, 2, none⟩ = some (.int .i64 p) ∧ w4.cell? ⟨w.heap.size, 3, none⟩ = some (.int .i64 q) := by
  refine ⟨?_, ?_, ?_, ?_⟩ <;> (rw [hb.cell (by simp)]; simp)
theorem sdiv_any (a b : Int) (w : World) (ha : -4611686018427387904 ≤ a) (ha' : a ≤ 4611686018427387904) (h0 : b ≠ 0) (hb : -4611686018427387904 ≤ b) (hb' : b ≤ 4611686018427387904) :
    Calls Try.prog 50 #[.int .i64 a, .int .i64 b] w fun e w' => e = .returned (.int .i64 (sdiv a b)) ∧ w = w' := by
  unfold sdiv
  by_cases h : 0 < b
  · rw [if_pos h]; exact div_any a b w ha ha' h hb'
  · rw [if_neg h]; exact div_neg a b w ha ha' (by omega) hb
/-- A side of a rectangle. -/
def af_sideOk (x w : Int) : Bool := decide ((-1048576 ≤ x ∧ x ≤ 1048576) ∧ 0 ≤ w ∧ w ≤ 1048576 - x)
set_option maxHeartbeats 400000 in
theorem af_span_any (x y : Int) (w : World) : Calls Try.prog 69 #[.int .i64 x, .int .i64 y] w fun e w' => e = .returned (.bool (af_sideOk x y)) ∧ w = w' := by
  rcases (show x < -1048576 ∨ (-1048576 ≤ x ∧ 1048576 < x) ∨ (-1048576 ≤ x ∧ x ≤ 1048576 ∧ y < 0) ∨ (-1048576 ≤ x ∧ x ≤ 1048576 ∧ 0 ≤ y ∧ 1048576 - x < y) ∨ (-1048576 ≤ x ∧ x ≤ 1048576 ∧ 0 ≤ y ∧ y ≤ 1048576 - x) by omega) with h | ⟨h1, h⟩ | ⟨h1, h2, h⟩ | ⟨h1, h2, h3, h⟩ | ⟨h1, h2, h3, h⟩
  · have E := Lib.hid (show af_sideOk x y = false by unfold af_sideOk; simp; omega)
    go_enter Try.func69, Try.ntmps69
    go_wp2
    go_ret
    first | exact ⟨ret_bool E.out.symm, rfl⟩ | exact ⟨ret_bool (by rw [E.out]; simp; omega), rfl⟩
  · have E := Lib.hid (show af_sideOk x y = false by unfold af_sideOk; simp; omega)
    go_enter Try.func69, Try.ntmps69
    go_wp2
    go_ret
    first | exact ⟨ret_bool E.out.symm, rfl⟩ | exact ⟨ret_bool (by rw [E.out]; simp; omega), rfl⟩
  · have E := Lib.hid (show af_sideOk x y = false by unfold af_sideOk; simp; omega)
    go_enter Try.func69, Try.ntmps69
    go_wp2
    go_ret
    first | exact ⟨ret_bool E.out.symm, rfl⟩ | exact ⟨ret_bool (by rw [E.out]; simp; omega), rfl⟩
  · have E := Lib.hid (show af_sideOk x y = false by unfold af_sideOk; simp; omega)
    go_enter Try.func69, Try.ntmps69
    go_wp2
    go_ret
    first | exact ⟨ret_bool E.out.symm, rfl⟩ | exact ⟨ret_bool (by rw [E.out]; simp; omega), rfl⟩
  · have E := Lib.hid (show af_sideOk x y = true by unfold af_sideOk; simp; omega)
    go_enter Try.func69, Try.ntmps69
    go_wp2
    go_ret
    first | exact ⟨ret_bool E.out.symm, rfl⟩ | exact ⟨ret_bool (by rw [E.out]; simp; omega), rfl⟩
set_option maxHeartbeats 400000 in
theorem af_valid_any (x y p q : Int) (w : World) : Calls Try.prog 35 #[.agg #[.int .i64 x, .int .i64 y, .int .i64 p, .int .i64 q]] w fun e w' => e = .returned (.bool (af_sideOk x p && af_sideOk y q)) ∧ Below w.heap.size w w' := by
  have S1 := Lib.hid (af_span_any x p); have S2 := Lib.hid (af_span_any y q)
  cases h : af_sideOk x p
  all_goals
    rw [h] at S1
    generalize af_sideOk y q = B at *
    go_enter Try.func35, Try.ntmps35
    go_wp2_with ((go_at_call 69; (first | with_reducible refine (S1.out _).mono ?_ | with_reducible refine (S2.out _).mono ?_); rintro e w4 ⟨rfl, rfl⟩))
    go_ret
    exact ⟨rfl, bel_alloc (Below.refl _ _) _⟩
set_option maxHeartbeats 400000 in
theorem af_empty_any (x y p q : Int) (w : World) (hv : (af_sideOk x p && af_sideOk y q) = true) : Calls Try.prog 24 #[.agg #[.int .i64 x, .int .i64 y, .int .i64 p, .int .i64 q]] w fun e w' => e = .returned (.bool (p == 0 || q == 0)) ∧ Below w.heap.size w w' := by
  have S := Lib.hid (af_valid_any x y p q)
  rw [hv] at S
  clear hv
  cases h : (p == 0)
  all_goals
    generalize hq : (q == 0) = B
    have t1 := h; have t2 := hq
    go_enter Try.func24, Try.ntmps24
    go_wp2_with fail
    refine (S.out _).mono ?_
    rintro e w4 ⟨rfl, hb⟩
    have K := Lib.hid (box4_on w x y p q hb)
    obtain ⟨c0, c1, c2, c3⟩ := K.out
    go_wp2_with fail
    go_ret
    exact ⟨rfl, bel_trans (bel_alloc (Below.refl _ _) _) hb⟩
end Go.Proofs.Ytineinmghajmnaa
namespace Go.Proofs.Ytineinmghajmnaa
open Go.RowKit
attribute [local go_sem 2000] run_max2m run_min2m
def okE (A : Af) : Int := if A.ok then 0 else 2
theorem beq_f {a b : Int} (h : a ≠ b) : (a == b) = false := by rw [beq_eq_false_iff_ne]; exact h
theorem beq_t {a b : Int} (h : a = b) : (a == b) = true := by rw [beq_iff_eq]; exact h
theorem chk_cases (a b c d e f : Int) : (okE ⟨a, b, c, d, e, f⟩ = 2 ∧ a ≠ coef a) ∨ (okE ⟨a, b, c, d, e, f⟩ = 2 ∧ a = coef a ∧ b ≠ coef b) ∨ (okE ⟨a, b, c, d, e, f⟩ = 2 ∧ a = coef a ∧ b = coef b ∧ c ≠ coef c) ∨ (okE ⟨a, b, c, d, e, f⟩ = 2 ∧ a = coef a ∧ b = coef b ∧ c = coef c ∧ d ≠ coef d)
    ∨ (okE ⟨a, b, c, d, e, f⟩ = 2 ∧ a = coef a ∧ b = coef b ∧ c = coef c ∧ d = coef d ∧ e ≠ far e) ∨ (okE ⟨a, b, c, d, e, f⟩ = 2 ∧ a = coef a ∧ b = coef b ∧ c = coef c ∧ d = coef d ∧ e = far e ∧ f ≠ far f) ∨ (okE ⟨a, b, c, d, e, f⟩ = 0 ∧ a = coef a ∧ b = coef b ∧ c = coef c ∧ d = coef d ∧ e = far e ∧ f = far f) := by
  have key : (Af.mk a b c d e f).ok ↔ (a = coef a ∧ b = coef b ∧ c = coef c ∧ d = coef d ∧ e = far e ∧ f = far f) := by
    unfold Af.ok
    rw [← coef_eq, ← coef_eq, ← coef_eq, ← coef_eq, ← far_eq, ← far_eq]
    constructor
    · rintro ⟨h1, h2, h3, h4, h5, h6⟩; exact ⟨h1.symm, h2.symm, h3.symm, h4.symm, h5.symm, h6.symm⟩
    · rintro ⟨h1, h2, h3, h4, h5, h6⟩; exact ⟨h1.symm, h2.symm, h3.symm, h4.symm, h5.symm, h6.symm⟩
  unfold okE
  by_cases h : (Af.mk a b c d e f).ok
  · rw [if_pos h]
    have := key.1 h
    exact .inr (.inr (.inr (.inr (.inr (.inr ⟨rfl, this⟩)))))
  · rw [if_neg h]
    rw [key] at h
    by_cases h1 : a = coef a
    · by_cases h2 : b = coef b
      · by_cases h3 : c = coef c
        · by_cases h4 : d = coef d
          · by_cases h5 : e = far e
            · by_cases h6 : f = far f
              · exact absurd ⟨h1, h2, h3, h4, h5, h6⟩ h
              · exact .inr (.inr (.inr (.inr (.inr (.inl ⟨rfl, h1, h2, h3, h4, h5, h6⟩)))))
            · exact .inr (.inr (.inr (.inr (.inl ⟨rfl, h1, h2, h3, h4, h5⟩))))
          · exact .inr (.inr (.inr (.inl ⟨rfl, h1, h2, h3, h4⟩)))
        · exact .inr (.inr (.inl ⟨rfl, h1, h2, h3⟩))
      · exact .inr (.inl ⟨rfl, h1, h2⟩)
    · exact .inl ⟨rfl, h1⟩

set_option maxHeartbeats 4000000 in
theorem acheck_any (a b c d e f : Int) (w : World) :
    Calls Try.prog 70 #[.agg #[.int .i64 a, .int .i64 b, .int .i64 c, .int .i64 d, .int .i64 e, .int .i64 f]] w fun z w' => z = .returned (.int .i64 (okE ⟨a, b, c, d, e, f⟩)) ∧ Below w.heap.size w w' := by
  rcases chk_cases a b c d e f with ⟨E, h0⟩ | ⟨E, h0, h1⟩ | ⟨E, h0, h1, h2⟩ | ⟨E, h0, h1, h2, h3⟩ | ⟨E, h0, h1, h2, h3, h4⟩ | ⟨E, h0, h1, h2, h3, h4, h5⟩ | ⟨E, h0, h1, h2, h3, h4, h5⟩
  · have E := Lib.hid E
    have t0 : (a == coef a) = false := beq_f h0
    clear h0
    go_enter Try.func70, Try.ntmps70
    go_wp2_with fail
    go_region_held3 (fun w' => w'.cell? ⟨w.heap.size, 0, none⟩ = some (.int .i64 a) ∧ w'.cell? ⟨w.heap.size, 1, none⟩ = some (.int .i64 b) ∧ w'.cell? ⟨w.heap.size, 2, none⟩ = some (.int .i64 c) ∧ w'.cell? ⟨w.heap.size, 3, none⟩ = some (.int .i64 d) ∧ w'.cell? ⟨w.heap.size, 4, none⟩ = some (.int .i64 e) ∧ w'.cell? ⟨w.heap.size, 5, none⟩ = some (.int .i64 f))
      (first | go_keep | (go_split_ands; refine ⟨?_, ?_, ?_, ?_, ?_, ?_⟩ <;> (rw [hbw4.cell (by simp)]; assumption)))
      ((go_at_call 72; refine (limited_any _ _ _ _ _ _ _).mono ?_; rintro z w4 ⟨rfl, hbw4⟩))
    go_wp2_with fail
    go_ret
    exact ⟨ret_int E.out.symm, ((bel_alloc (Below.refl _ _) _).drew).trans (hbw4.mono (by simp))⟩
  · have E := Lib.hid E
    have t0 : (a == coef a) = true := beq_t h0
    have t1 : (b == coef b) = false := beq_f h1
    clear h0 h1
    go_enter Try.func70, Try.ntmps70
    go_wp2_with fail
    go_region_held3 (fun w' => w'.cell? ⟨w.heap.size, 0, none⟩ = some (.int .i64 a) ∧ w'.cell? ⟨w.heap.size, 1, none⟩ = some (.int .i64 b) ∧ w'.cell? ⟨w.heap.size, 2, none⟩ = some (.int .i64 c) ∧ w'.cell? ⟨w.heap.size, 3, none⟩ = some (.int .i64 d) ∧ w'.cell? ⟨w.heap.size, 4, none⟩ = some (.int .i64 e) ∧ w'.cell? ⟨w.heap.size, 5, none⟩ = some (.int .i64 f))
      (first | go_keep | (go_split_ands; refine ⟨?_, ?_, ?_, ?_, ?_, ?_⟩ <;> (rw [hbw4.cell (by simp)]; assumption)))
      ((go_at_call 72; refine (limited_any _ _ _ _ _ _ _).mono ?_; rintro z w4 ⟨rfl, hbw4⟩))
    go_wp2_with fail
    go_ret
    exact ⟨ret_int E.out.symm, ((bel_alloc (Below.refl _ _) _).drew).trans (hbw4.mono (by simp))⟩
  · have E := Lib.hid E
    have t0 : (a == coef a) = true := beq_t h0
    have t1 : (b == coef b) = true := beq_t h1
    have t2 : (c == coef c) = false := beq_f h2
    clear h0 h1 h2
    go_enter Try.func70, Try.ntmps70
    go_wp2_with fail
    go_region_held3 (fun w' => w'.cell? ⟨w.heap.size, 0, none⟩ = some (.int .i64 a) ∧ w'.cell? ⟨w.heap.size, 1, none⟩ = some (.int .i64 b) ∧ w'.cell? ⟨w.heap.size, 2, none⟩ = some (.int .i64 c) ∧ w'.cell? ⟨w.heap.size, 3, none⟩ = some (.int .i64 d) ∧ w'.cell? ⟨w.heap.size, 4, none⟩ = some (.int .i64 e) ∧ w'.cell? ⟨w.heap.size, 5, none⟩ = some (.int .i64 f))
      (first | go_keep | (go_split_ands; refine ⟨?_, ?_, ?_, ?_, ?_, ?_⟩ <;> (rw [hbw4.cell (by simp)]; assumption)))
      ((go_at_call 72; refine (limited_any _ _ _ _ _ _ _).mono ?_; rintro z w4 ⟨rfl, hbw4⟩))
    go_wp2_with fail
    go_ret
    exact ⟨ret_int E.out.symm, ((bel_alloc (Below.refl _ _) _).drew).trans (hbw4.mono (by simp))⟩
  · have E := Lib.hid E
    have t0 : (a == coef a) = true := beq_t h0
    have t1 : (b == coef b) = true := beq_t h1
    have t2 : (c == coef c) = true := beq_t h2
    have t3 : (d == coef d) = false := beq_f h3
    clear h0 h1 h2 h3
    go_enter Try.func70, Try.ntmps70
    go_wp2_with fail
    go_region_held3 (fun w' => w'.cell? ⟨w.heap.size, 0, none⟩ = some (.int .i64 a) ∧ w'.cell? ⟨w.heap.size, 1, none⟩ = some (.int .i64 b) ∧ w'.cell? ⟨w.heap.size, 2, none⟩ = some (.int .i64 c) ∧ w'.cell? ⟨w.heap.size, 3, none⟩ = some (.int .i64 d) ∧ w'.cell? ⟨w.heap.size, 4, none⟩ = some (.int .i64 e) ∧ w'.cell? ⟨w.heap.size, 5, none⟩ = some (.int .i64 f))
      (first | go_keep | (go_split_ands; refine ⟨?_, ?_, ?_, ?_, ?_, ?_⟩ <;> (rw [hbw4.cell (by simp)]; assumption)))
      ((go_at_call 72; refine (limited_any _ _ _ _ _ _ _).mono ?_; rintro z w4 ⟨rfl, hbw4⟩))
    go_wp2_with fail
    go_ret
    exact ⟨ret_int E.out.symm, ((bel_alloc (Below.refl _ _) _).drew).trans (hbw4.mono (by simp))⟩
  · have E := Lib.hid E
    have t0 : (a == coef a) = true := beq_t h0
    have t1 : (b == coef b) = true := beq_t h1
    have t2 : (c == coef c) = true := beq_t h2
    have t3 : (d == coef d) = true := beq_t h3
    have t4 : (e == far e) = false := beq_f h4
    clear h0 h1 h2 h3 h4
    go_enter Try.func70, Try.ntmps70
    go_wp2_with fail
    go_region_held3 (fun w' => w'.cell? ⟨w.heap.size, 0, none⟩ = some (.int .i64 a) ∧ w'.cell? ⟨w.heap.size, 1, none⟩ = some (.int .i64 b) ∧ w'.cell? ⟨w.heap.size, 2, none⟩ = some (.int .i64 c) ∧ w'.cell? ⟨w.heap.size, 3, none⟩ = some (.int .i64 d) ∧ w'.cell? ⟨w.heap.size, 4, none⟩ = some (.int .i64 e) ∧ w'.cell? ⟨w.heap.size, 5, none⟩ = some (.int .i64 f))
      (first | go_keep | (go_split_ands; refine ⟨?_, ?_, ?_, ?_, ?_, ?_⟩ <;> (rw [hbw4.cell (by simp)]; assumption)))
      ((go_at_call 72; refine (limited_any _ _ _ _ _ _ _).mono ?_; rintro z w4 ⟨rfl, hbw4⟩))
    go_wp2_with fail
    go_ret
    exact ⟨ret_int E.out.symm, ((bel_alloc (Below.refl _ _) _).drew).trans (hbw4.mono (by simp))⟩
  · have E := Lib.hid E
    have t0 : (a == coef a) = true := beq_t h0
    have t1 : (b == coef b) = true := beq_t h1
    have t2 : (c == coef c) = true := beq_t h2
    have t3 : (d == coef d) = true := beq_t h3
    have t4 : (e == far e) = true := beq_t h4
    have t5 : (f == far f) = false := beq_f h5
    clear h0 h1 h2 h3 h4 h5
    go_enter Try.func70, Try.ntmps70
    go_wp2_with fail
    go_region_held3 (fun w' => w'.cell? ⟨w.heap.size, 0, none⟩ = some (.int .i64 a) ∧ w'.cell? ⟨w.heap.size, 1, none⟩ = some (.int .i64 b) ∧ w'.cell? ⟨w.heap.size, 2, none⟩ = some (.int .i64 c) ∧ w'.cell? ⟨w.heap.size, 3, none⟩ = some (.int .i64 d) ∧ w'.cell? ⟨w.heap.size, 4, none⟩ = some (.int .i64 e) ∧ w'.cell? ⟨w.heap.size, 5, none⟩ = some (.int .i64 f))
      (first | go_keep | (go_split_ands; refine ⟨?_, ?_, ?_, ?_, ?_, ?_⟩ <;> (rw [hbw4.cell (by simp)]; assumption)))
      ((go_at_call 72; refine (limited_any _ _ _ _ _ _ _).mono ?_; rintro z w4 ⟨rfl, hbw4⟩))
    go_wp2_with fail
    go_ret
    exact ⟨ret_int E.out.symm, ((bel_alloc (Below.refl _ _) _).drew).trans (hbw4.mono (by simp))⟩
  · have E := Lib.hid E
    have t0 : (a == coef a) = true := beq_t h0
    have t1 : (b == coef b) = true := beq_t h1
    have t2 : (c == coef c) = true := beq_t h2
    have t3 : (d == coef d) = true := beq_t h3
    have t4 : (e == far e) = true := beq_t h4
    have t5 : (f == far f) = true := beq_t h5
    clear h0 h1 h2 h3 h4 h5
    go_enter Try.func70, Try.ntmps70
    go_wp2_with fail
    go_region_held3 (fun w' => w'.cell? ⟨w.heap.size, 0, none⟩ = some (.int .i64 a) ∧ w'.cell? ⟨w.heap.size, 1, none⟩ = some (.int .i64 b) ∧ w'.cell? ⟨w.heap.size, 2, none⟩ = some (.int .i64 c) ∧ w'.cell? ⟨w.heap.size, 3, none⟩ = some (.int .i64 d) ∧ w'.cell? ⟨w.heap.size, 4, none⟩ = some (.int .i64 e) ∧ w'.cell? ⟨w.heap.size, 5, none⟩ = some (.int .i64 f))
      (first | go_keep | (go_split_ands; refine ⟨?_, ?_, ?_, ?_, ?_, ?_⟩ <;> (rw [hbw4.cell (by simp)]; assumption)))
      ((go_at_call 72; refine (limited_any _ _ _ _ _ _ _).mono ?_; rintro z w4 ⟨rfl, hbw4⟩))
    go_wp2_with fail
    go_ret
    exact ⟨ret_int E.out.symm, ((bel_alloc (Below.refl _ _) _).drew).trans (hbw4.mono (by simp))⟩
set_option maxHeartbeats 4000000 in
theorem racheck_any (a b c d e f : Int) (w : World) :
    Calls Try.prog 74 #[.agg #[.int .i64 a, .int .i64 b, .int .i64 c, .int .i64 d, .int .i64 e, .int .i64 f]] w fun z w' => z = .returned (.int .i64 (okE ⟨a, b, c, d, e, f⟩)) ∧ Below w.heap.size w w' := by
  rcases chk_cases a b c d e f with ⟨E, h0⟩ | ⟨E, h0, h1⟩ | ⟨E, h0, h1, h2⟩ | ⟨E, h0, h1, h2, h3⟩ | ⟨E, h0, h1, h2, h3, h4⟩ | ⟨E, h0, h1, h2, h3, h4, h5⟩ | ⟨E, h0, h1, h2, h3, h4, h5⟩
  · have E := Lib.hid E
    have t0 : (coef a == a) = false := beq_f (Ne.symm h0)
    clear h0
    go_enter Try.func74, Try.ntmps74
    go_wp2_with fail
    go_region_held3 (fun w' => w'.cell? ⟨w.heap.size, 0, none⟩ = some (.int .i64 a) ∧ w'.cell? ⟨w.heap.size, 1, none⟩ = some (.int .i64 b) ∧ w'.cell? ⟨w.heap.size, 2, none⟩ = some (.int .i64 c) ∧ w'.cell? ⟨w.heap.size, 3, none⟩ = some (.int .i64 d) ∧ w'.cell? ⟨w.heap.size, 4, none⟩ = some (.int .i64 e) ∧ w'.cell? ⟨w.heap.size, 5, none⟩ = some (.int .i64 f))
      (first | go_keep | (go_split_ands; refine ⟨?_, ?_, ?_, ?_, ?_, ?_⟩ <;> (rw [hbw4.cell (by simp)]; assumption)))
      ((go_at_call 76; refine (rlimited_any _ _ _ _ _ _ _).mono ?_; rintro z w4 ⟨rfl, hbw4⟩))
    go_wp2_with fail
    go_ret
    exact ⟨ret_int E.out.symm, ((bel_alloc (Below.refl _ _) _).drew).trans (hbw4.mono (by simp))⟩
  · have E := Lib.hid E
    have t0 : (coef a == a) = true := beq_t h0.symm
    have t1 : (coef b == b) = false := beq_f (Ne.symm h1)
    clear h0 h1
    go_enter Try.func74, Try.ntmps74
    go_wp2_with fail
    go_region_held3 (fun w' => w'.cell? ⟨w.heap.size, 0, none⟩ = some (.int .i64 a) ∧ w'.cell? ⟨w.heap.size, 1, none⟩ = some (.int .i64 b) ∧ w'.cell? ⟨w.heap.size, 2, none⟩ = some (.int .i64 c) ∧ w'.cell? ⟨w.heap.size, 3, none⟩ = some (.int .i64 d) ∧ w'.cell? ⟨w.heap.size, 4, none⟩ = some (.int .i64 e) ∧ w'.cell? ⟨w.heap.size, 5, none⟩ = some (.int .i64 f))
      (first | go_keep | (go_split_ands; refine ⟨?_, ?_, ?_, ?_, ?_, ?_⟩ <;> (rw [hbw4.cell (by simp)]; assumption)))
      ((go_at_call 76; refine (rlimited_any _ _ _ _ _ _ _).mono ?_; rintro z w4 ⟨rfl, hbw4⟩))
    go_wp2_with fail
    go_ret
    exact ⟨ret_int E.out.symm, ((bel_alloc (Below.refl _ _) _).drew).trans (hbw4.mono (by simp))⟩
  · have E := Lib.hid E
    have t0 : (coef a == a) = true := beq_t h0.symm
    have t1 : (coef b == b) = true := beq_t h1.symm
    have t2 : (coef c == c) = false := beq_f (Ne.symm h2)
    clear h0 h1 h2
    go_enter Try.func74, Try.ntmps74
    go_wp2_with fail
    go_region_held3 (fun w' => w'.cell? ⟨w.heap.size, 0, none⟩ = some (.int .i64 a) ∧ w'.cell? ⟨w.heap.size, 1, none⟩ = some (.int .i64 b) ∧ w'.cell? ⟨w.heap.size, 2, none⟩ = some (.int .i64 c) ∧ w'.cell? ⟨w.heap.size, 3, none⟩ = some (.int .i64 d) ∧ w'.cell? ⟨w.heap.size, 4, none⟩ = some (.int .i64 e) ∧ w'.cell? ⟨w.heap.size, 5, none⟩ = some (.int .i64 f))
      (first | go_keep | (go_split_ands; refine ⟨?_, ?_, ?_, ?_, ?_, ?_⟩ <;> (rw [hbw4.cell (by simp)]; assumption)))
      ((go_at_call 76; refine (rlimited_any _ _ _ _ _ _ _).mono ?_; rintro z w4 ⟨rfl, hbw4⟩))
    go_wp2_with fail
    go_ret
    exact ⟨ret_int E.out.symm, ((bel_alloc (Below.refl _ _) _).drew).trans (hbw4.mono (by simp))⟩
  · have E := Lib.hid E
    have t0 : (coef a == a) = true := beq_t h0.symm
    have t1 : (coef b == b) = true := beq_t h1.symm
    have t2 : (coef c == c) = true := beq_t h2.symm
    have t3 : (coef d == d) = false := beq_f (Ne.symm h3)
    clear h0 h1 h2 h3
    go_enter Try.func74, Try.ntmps74
    go_wp2_with fail
    go_region_held3 (fun w' => w'.cell? ⟨w.heap.size, 0, none⟩ = some (.int .i64 a) ∧ w'.cell? ⟨w.heap.size, 1, none⟩ = some (.int .i64 b) ∧ w'.cell? ⟨w.heap.size, 2, none⟩ = some (.int .i64 c) ∧ w'.cell? ⟨w.heap.size, 3, none⟩ = some (.int .i64 d) ∧ w'.cell? ⟨w.heap.size, 4, none⟩ = some (.int .i64 e) ∧ w'.cell? ⟨w.heap.size, 5, none⟩ = some (.int .i64 f))
      (first | go_keep | (go_split_ands; refine ⟨?_, ?_, ?_, ?_, ?_, ?_⟩ <;> (rw [hbw4.cell (by simp)]; assumption)))
      ((go_at_call 76; refine (rlimited_any _ _ _ _ _ _ _).mono ?_; rintro z w4 ⟨rfl, hbw4⟩))
    go_wp2_with fail
    go_ret
    exact ⟨ret_int E.out.symm, ((bel_alloc (Below.refl _ _) _).drew).trans (hbw4.mono (by simp))⟩
  · have E := Lib.hid E
    have t0 : (coef a == a) = true := beq_t h0.symm
    have t1 : (coef b == b) = true := beq_t h1.symm
    have t2 : (coef c == c) = true := beq_t h2.symm
    have t3 : (coef d == d) = true := beq_t h3.symm
    have t4 : (far e == e) = false := beq_f (Ne.symm h4)
    clear h0 h1 h2 h3 h4
    go_enter Try.func74, Try.ntmps74
    go_wp2_with fail
    go_region_held3 (fun w' => w'.cell? ⟨w.heap.size, 0, none⟩ = some (.int .i64 a) ∧ w'.cell? ⟨w.heap.size, 1, none⟩ = some (.int .i64 b) ∧ w'.cell? ⟨w.heap.size, 2, none⟩ = some (.int .i64 c) ∧ w'.cell? ⟨w.heap.size, 3, none⟩ = some (.int .i64 d) ∧ w'.cell? ⟨w.heap.size, 4, none⟩ = some (.int .i64 e) ∧ w'.cell? ⟨w.heap.size, 5, none⟩ = some (.int .i64 f))
      (first | go_keep | (go_split_ands; refine ⟨?_, ?_, ?_, ?_, ?_, ?_⟩ <;> (rw [hbw4.cell (by simp)]; assumption)))
      ((go_at_call 76; refine (rlimited_any _ _ _ _ _ _ _).mono ?_; rintro z w4 ⟨rfl, hbw4⟩))
    go_wp2_with fail
    go_ret
    exact ⟨ret_int E.out.symm, ((bel_alloc (Below.refl _ _) _).drew).trans (hbw4.mono (by simp))⟩
  · have E := Lib.hid E
    have t0 : (coef a == a) = true := beq_t h0.symm
    have t1 : (coef b == b) = true := beq_t h1.symm
    have t2 : (coef c == c) = true := beq_t h2.symm
    have t3 : (coef d == d) = true := beq_t h3.symm
    have t4 : (far e == e) = true := beq_t h4.symm
    have t5 : (far f == f) = false := beq_f (Ne.symm h5)
    clear h0 h1 h2 h3 h4 h5
    go_enter Try.func74, Try.ntmps74
    go_wp2_with fail
    go_region_held3 (fun w' => w'.cell? ⟨w.heap.size, 0, none⟩ = some (.int .i64 a) ∧ w'.cell? ⟨w.heap.size, 1, none⟩ = some (.int .i64 b) ∧ w'.cell? ⟨w.heap.size, 2, none⟩ = some (.int .i64 c) ∧ w'.cell? ⟨w.heap.size, 3, none⟩ = some (.int .i64 d) ∧ w'.cell? ⟨w.heap.size, 4, none⟩ = some (.int .i64 e) ∧ w'.cell? ⟨w.heap.size, 5, none⟩ = some (.int .i64 f))
      (first | go_keep | (go_split_ands; refine ⟨?_, ?_, ?_, ?_, ?_, ?_⟩ <;> (rw [hbw4.cell (by simp)]; assumption)))
      ((go_at_call 76; refine (rlimited_any _ _ _ _ _ _ _).mono ?_; rintro z w4 ⟨rfl, hbw4⟩))
    go_wp2_with fail
    go_ret
    exact ⟨ret_int E.out.symm, ((bel_alloc (Below.refl _ _) _).drew).trans (hbw4.mono (by simp))⟩
  · have E := Lib.hid E
    have t0 : (coef a == a) = true := beq_t h0.symm
    have t1 : (coef b == b) = true := beq_t h1.symm
    have t2 : (coef c == c) = true := beq_t h2.symm
    have t3 : (coef d == d) = true := beq_t h3.symm
    have t4 : (far e == e) = true := beq_t h4.symm
    have t5 : (far f == f) = true := beq_t h5.symm
    clear h0 h1 h2 h3 h4 h5
    go_enter Try.func74, Try.ntmps74
    go_wp2_with fail
    go_region_held3 (fun w' => w'.cell? ⟨w.heap.size, 0, none⟩ = some (.int .i64 a) ∧ w'.cell? ⟨w.heap.size, 1, none⟩ = some (.int .i64 b) ∧ w'.cell? ⟨w.heap.size, 2, none⟩ = some (.int .i64 c) ∧ w'.cell? ⟨w.heap.size, 3, none⟩ = some (.int .i64 d) ∧ w'.cell? ⟨w.heap.size, 4, none⟩ = some (.int .i64 e) ∧ w'.cell? ⟨w.heap.size, 5, none⟩ = some (.int .i64 f))
      (first | go_keep | (go_split_ands; refine ⟨?_, ?_, ?_, ?_, ?_, ?_⟩ <;> (rw [hbw4.cell (by simp)]; assumption)))
      ((go_at_call 76; refine (rlimited_any _ _ _ _ _ _ _).mono ?_; rintro z w4 ⟨rfl, hbw4⟩))
    go_wp2_with fail
    go_ret
    exact ⟨ret_int E.out.symm, ((bel_alloc (Below.refl _ _) _).drew).trans (hbw4.mono (by simp))⟩
end Go.Proofs.Ytineinmghajmnaa
namespace Go.Proofs.Ytineinmghajmnaa
open Go.RowKit
attribute [local go_sem 2000] run_max2m run_min2m

def afcv (w : World) (g j : Nat) : Value := (w.cell? ⟨g, j, none⟩).getD undef
theorem afcv_ok {w : World} {g j : Nat} {v : Value} (h : w.cell? ⟨g, j, none⟩ = some v) : w.cell? ⟨g, j, none⟩ = some (afcv w g j) := by unfold afcv; rw [h]; rfl
theorem cv_store {X : World} {n g : Nat} {a b c d e f : Value} (hne : n ≠ g) (u v : Value)
    (h : X.cell? ⟨n, 0, none⟩ = some a ∧ X.cell? ⟨n, 1, none⟩ = some b ∧ X.cell? ⟨n, 2, none⟩ = some c ∧ X.cell? ⟨n, 3, none⟩ = some d ∧ X.cell? ⟨n, 4, none⟩ = some e ∧ X.cell? ⟨n, 5, none⟩ = some f ∧ X.cell? ⟨g, 0, none⟩ = some (afcv X g 0) ∧ X.cell? ⟨g, 1, none⟩ = some (afcv X g 1) ∧ X.frozen? ⟨g, 0, none⟩ = false ∧ X.frozen? ⟨g, 1, none⟩ = false) :
    ((X.setCell ⟨g, 0, none⟩ u).setCell ⟨g, 1, none⟩ v).cell? ⟨n, 0, none⟩ = some a ∧ ((X.setCell ⟨g, 0, none⟩ u).setCell ⟨g, 1, none⟩ v).cell? ⟨n, 1, none⟩ = some b ∧ ((X.setCell ⟨g, 0, none⟩ u).setCell ⟨g, 1, none⟩ v).cell? ⟨n, 2, none⟩ = some c ∧ ((X.setCell ⟨g, 0, none⟩ u).setCell ⟨g, 1, none⟩ v).cell? ⟨n, 3, none⟩ = some d ∧ ((X.setCell ⟨g, 0, none⟩ u).setCell ⟨g, 1, none⟩ v).cell? ⟨n, 4, none⟩ = some e ∧ ((X.setCell ⟨g, 0, none⟩ u).setCell ⟨g, 1, none⟩ v).cell? ⟨n, 5, none⟩ = some f
    ∧ ((X.setCell ⟨g, 0, none⟩ u).setCell ⟨g, 1, none⟩ v).cell? ⟨g, 0, none⟩ = some (afcv ((X.setCell ⟨g, 0, none⟩ u).setCell ⟨g, 1, none⟩ v) g 0) ∧ ((X.setCell ⟨g, 0, none⟩ u).setCell ⟨g, 1, none⟩ v).cell? ⟨g, 1, none⟩ = some (afcv ((X.setCell ⟨g, 0, none⟩ u).setCell ⟨g, 1, none⟩ v) g 1) ∧ ((X.setCell ⟨g, 0, none⟩ u).setCell ⟨g, 1, none⟩ v).frozen? ⟨g, 0, none⟩ = false ∧ ((X.setCell ⟨g, 0, none⟩ u).setCell ⟨g, 1, none⟩ v).frozen? ⟨g, 1, none⟩ = false := by
  obtain ⟨h0, h1, h2, h3, h4, h5, h6, h7, h8, h9⟩ := h
  have far : ∀ j, ((X.setCell ⟨g, 0, none⟩ u).setCell ⟨g, 1, none⟩ v).cell? ⟨n, j, none⟩ = X.cell? ⟨n, j, none⟩ := fun j => by
    rw [World.cell?_setCell_far _ _ _ _ (show g ≠ n from fun e => hne e.symm), World.cell?_setCell_far _ _ _ _ (show g ≠ n from fun e => hne e.symm)]
  have z0 : ((X.setCell ⟨g, 0, none⟩ u).setCell ⟨g, 1, none⟩ v).cell? ⟨g, 0, none⟩ = some u := by
    rw [World.cell?_setCell_other _ _ _ _ (by simp), World.cell?_setCell_same _ _ _ h6]
  have z1 : ((X.setCell ⟨g, 0, none⟩ u).setCell ⟨g, 1, none⟩ v).cell? ⟨g, 1, none⟩ = some v := by
    refine World.cell?_setCell_same _ _ _ (u := afcv X g 1) ?_
    rw [World.cell?_setCell_other _ _ _ _ (by simp), h7]
  refine ⟨(far 0).trans h0, (far 1).trans h1, (far 2).trans h2, (far 3).trans h3, (far 4).trans h4, (far 5).trans h5, afcv_ok z0, afcv_ok z1, ?_, ?_⟩
  · rw [World.frozen?_setCell, World.frozen?_setCell]; exact h8
  · rw [World.frozen?_setCell, World.frozen?_setCell]; exact h9
theorem af_drewN_cell (X : World) (k : Nat) (a : Addr) : (X.drewN k).cell? a = X.cell? a := rfl
theorem af_drewN_frozen (X : World) (k : Nat) (a : Addr) : (X.drewN k).frozen? a = X.frozen? a := rfl
theorem afcv_drewN (X : World) (k g j : Nat) : afcv (X.drewN k) g j = afcv X g j := rfl
theorem cv_storeN {X : World} {n g : Nat} {a b c d e f : Value} (hne : n ≠ g) (k : Nat) (u v : Value) (h : Hid (X.cell? ⟨n, 0, none⟩ = some a ∧ X.cell? ⟨n, 1, none⟩ = some b ∧ X.cell? ⟨n, 2, none⟩ = some c ∧ X.cell? ⟨n, 3, none⟩ = some d ∧ X.cell? ⟨n, 4, none⟩ = some e ∧ X.cell? ⟨n, 5, none⟩ = some f ∧ X.cell? ⟨g, 0, none⟩ = some (afcv X g 0) ∧ X.cell? ⟨g, 1, none⟩ = some (afcv X g 1) ∧ X.frozen? ⟨g, 0, none⟩ = false ∧ X.frozen? ⟨g, 1, none⟩ = false)) :
    (((X.drewN k).setCell ⟨g, 0, none⟩ u).setCell ⟨g, 1, none⟩ v).cell? ⟨n, 0, none⟩ = some a ∧ (((X.drewN k).setCell ⟨g, 0, none⟩ u).setCell ⟨g, 1, none⟩ v).cell? ⟨n, 1, none⟩ = some b ∧ (((X.drewN k).setCell ⟨g, 0, none⟩ u).setCell ⟨g, 1, none⟩ v).cell? ⟨n, 2, none⟩ = some c ∧ (((X.drewN k).setCell ⟨g, 0, none⟩ u).setCell ⟨g, 1, none⟩ v).cell? ⟨n, 3, none⟩ = some d ∧ (((X.drewN k).setCell ⟨g, 0, none⟩ u).setCell ⟨g, 1, none⟩ v).cell? ⟨n, 4, none⟩ = some e ∧ (((X.drewN k).setCell ⟨g, 0, none⟩ u).setCell ⟨g, 1, none⟩ v).cell? ⟨n, 5, none⟩ = some f
    ∧ (((X.drewN k).setCell ⟨g, 0, none⟩ u).setCell ⟨g, 1, none⟩ v).cell? ⟨g, 0, none⟩ = some (afcv (((X.drewN k).setCell ⟨g, 0, none⟩ u).setCell ⟨g, 1, none⟩ v) g 0) ∧ (((X.drewN k).setCell ⟨g, 0, none⟩ u).setCell ⟨g, 1, none⟩ v).cell? ⟨g, 1, none⟩ = some (afcv (((X.drewN k).setCell ⟨g, 0, none⟩ u).setCell ⟨g, 1, none⟩ v) g 1) ∧ (((X.drewN k).setCell ⟨g, 0, none⟩ u).setCell ⟨g, 1, none⟩ v).frozen? ⟨g, 0, none⟩ = false ∧ (((X.drewN k).setCell ⟨g, 0, none⟩ u).setCell ⟨g, 1, none⟩ v).frozen? ⟨g, 1, none⟩ = false := by
  refine cv_store hne u v ?_
  simp only [af_drewN_cell, af_drewN_frozen, afcv_drewN]
  exact h
theorem cv_store0 {X : World} {n g : Nat} {a b c d e f : Value} (hne : n ≠ g) (u v : Value) (h : Hid (X.cell? ⟨n, 0, none⟩ = some a ∧ X.cell? ⟨n, 1, none⟩ = some b ∧ X.cell? ⟨n, 2, none⟩ = some c ∧ X.cell? ⟨n, 3, none⟩ = some d ∧ X.cell? ⟨n, 4, none⟩ = some e ∧ X.cell? ⟨n, 5, none⟩ = some f ∧ X.cell? ⟨g, 0, none⟩ = some (afcv X g 0) ∧ X.cell? ⟨g, 1, none⟩ = some (afcv X g 1) ∧ X.frozen? ⟨g, 0, none⟩ = false ∧ X.frozen? ⟨g, 1, none⟩ = false)) :
    ((X.setCell ⟨g, 0, none⟩ u).setCell ⟨g, 1, none⟩ v).drew.cell? ⟨n, 0, none⟩ = some a ∧ ((X.setCell ⟨g, 0, none⟩ u).setCell ⟨g, 1, none⟩ v).drew.cell? ⟨n, 1, none⟩ = some b ∧ ((X.setCell ⟨g, 0, none⟩ u).setCell ⟨g, 1, none⟩ v).drew.cell? ⟨n, 2, none⟩ = some c ∧ ((X.setCell ⟨g, 0, none⟩ u).setCell ⟨g, 1, none⟩ v).drew.cell? ⟨n, 3, none⟩ = some d ∧ ((X.setCell ⟨g, 0, none⟩ u).setCell ⟨g, 1, none⟩ v).drew.cell? ⟨n, 4, none⟩ = some e ∧ ((X.setCell ⟨g, 0, none⟩ u).setCell ⟨g, 1, none⟩ v).drew.cell? ⟨n, 5, none⟩ = some f
    ∧ ((X.setCell ⟨g, 0, none⟩ u).setCell ⟨g, 1, none⟩ v).drew.cell? ⟨g, 0, none⟩ = some (afcv ((X.setCell ⟨g, 0, none⟩ u).setCell ⟨g, 1, none⟩ v).drew g 0) ∧ ((X.setCell ⟨g, 0, none⟩ u).setCell ⟨g, 1, none⟩ v).drew.cell? ⟨g, 1, none⟩ = some (afcv ((X.setCell ⟨g, 0, none⟩ u).setCell ⟨g, 1, none⟩ v).drew g 1) ∧ ((X.setCell ⟨g, 0, none⟩ u).setCell ⟨g, 1, none⟩ v).drew.frozen? ⟨g, 0, none⟩ = false ∧ ((X.setCell ⟨g, 0, none⟩ u).setCell ⟨g, 1, none⟩ v).drew.frozen? ⟨g, 1, none⟩ = false := cv_store hne u v h
theorem af_ret_two {a b a' b' : Int} (h : a = a') (h' : b = b') : Ending.returned (.agg #[.int .i64 a, .int .i64 b]) = .returned (.agg #[.int .i64 a', .int .i64 b']) := by rw [h, h']
theorem wrap_id {x : Int} (h : -9223372036854775808 ≤ x ∧ x ≤ 9223372036854775807) : IntKind.i64.wrap x = x := by
  simp [IntKind.wrap, IntKind.bits, IntKind.signed]
  omega
theorem app_eq (a b c d e f x y : Int) : (Af.mk a b c d e f).app x y = (far (dotZ (coef a) (far x) (coef c) (far y) + far e), far (dotZ (coef b) (far x) (coef d) (far y) + far f)) := rfl
def ApMid (a b c d e f x y : Int) (w : World) (u v : Value) (wx : World) : Prop :=
  u = .int .i64 x ∧ v = .int .i64 y ∧ Bx wx w.heap.size 31 #[.int .i64 a, .int .i64 b, .int .i64 c, .int .i64 d, .int .i64 e, .int .i64 f] ∧ Bx wx (w.heap.size + 1 + 1) 49 #[.int .i64 0, .int .i64 0] ∧ Below w.heap.size w wx
theorem apply_boxes (w : World) (a b c d e f x y : Int) (w0 : World)
    (hw : w0 = ((w.alloc (.cells #[.int .i64 a, .int .i64 b, .int .i64 c, .int .i64 d, .int .i64 e, .int .i64 f] 31)).alloc (.cells #[.int .i64 x, .int .i64 y] 49)).alloc (.cells #[.int .i64 0, .int .i64 0] 49)) :
    Bx w0 w.heap.size 31 #[.int .i64 a, .int .i64 b, .int .i64 c, .int .i64 d, .int .i64 e, .int .i64 f] ∧ Bx w0 (w.heap.size + 1) 49 #[.int .i64 x, .int .i64 y] ∧ Bx w0 (w.heap.size + 1 + 1) 49 #[.int .i64 0, .int .i64 0] ∧ Below w.heap.size w w0 := by
  subst hw
  have h1 := Bx.new w 31 #[.int .i64 a, .int .i64 b, .int .i64 c, .int .i64 d, .int .i64 e, .int .i64 f]
  have h2 := Bx.new (w.alloc (.cells #[.int .i64 a, .int .i64 b, .int .i64 c, .int .i64 d, .int .i64 e, .int .i64 f] 31)) 49 #[.int .i64 x, .int .i64 y]
  have h3 := Bx.new ((w.alloc (.cells #[.int .i64 a, .int .i64 b, .int .i64 c, .int .i64 d, .int .i64 e, .int .i64 f] 31)).alloc (.cells #[.int .i64 x, .int .i64 y] 49)) 49 #[.int .i64 0, .int .i64 0]
  simp only [World.size_alloc] at h2 h3
  exact ⟨(h1.alloc _).alloc _, h2.alloc _, h3, bel_alloc (bel_alloc (bel_alloc (Below.refl _ _) _) _) _⟩
set_option maxRecDepth 100000 in
set_option maxHeartbeats 8000000 in
theorem apply_any (a b c d e f x y : Int) (w : World) :
    Calls Try.prog 37 #[.agg #[.int .i64 a, .int .i64 b, .int .i64 c, .int .i64 d, .int .i64 e, .int .i64 f], .agg #[.int .i64 x, .int .i64 y]] w fun z w' => z = .returned (.agg #[.int .i64 ((Af.mk a b c d e f).app x y).1, .int .i64 ((Af.mk a b c d e f).app x y).2]) ∧ Below w.heap.size w w' := by
  have L := Lib.hid (limited_any a b c d e f)
  have P1 := Lib.hid (place_any x); have P2 := Lib.hid (place_any y)
  rw [app_eq]
  dsimp only
  have ba := coef_bd a
  have bb := coef_bd b
  have bc := coef_bd c
  have bd := coef_bd d
  have be := far_bd e
  have bf := far_bd f
  have bx := far_bd x; have by' := far_bd y
  generalize coef a = a' at *
  generalize coef b = b' at *
  generalize coef c = c' at *
  generalize coef d = d' at *
  generalize far e = e' at *
  generalize far f = f' at *
  generalize far x = x' at *; generalize far y = y' at *
  obtain ⟨R1, hR1⟩ : ∃ r, far (dotZ a' x' c' y' + e') = r := ⟨_, rfl⟩
  obtain ⟨R2, hR2⟩ : ∃ r, far (dotZ b' x' d' y' + f') = r := ⟨_, rfl⟩
  rw [hR1, hR2]
  have HR1 := Lib.hid hR1; have HR2 := Lib.hid hR2; clear hR1 hR2
  go_enter Try.func37, Try.ntmps37
  go_wp2_with fail
  obtain ⟨k1, k2, k3, hB⟩ := apply_boxes w a b c d e f x y _ rfl
  refine (L.out _).mono ?_
  rintro z w4 ⟨rfl, hb⟩
  have K1 := Lib.hid (k1.below hb); have K2 := Lib.hid (k2.below hb); have K3 := Lib.hid (k3.below hb); have HB := Lib.hid (bel_trans hB hb)
  clear k1 k2 k3 hB hb
  obtain ⟨⟨c0, c1, c2, c3, c4, c5⟩, f0, f1, f2, f3, f4, f5⟩ := K1.out.six
  go_upto_region 2 with fail
  clear c0 c1 c2 c3 c4 c5 f0 f1 f2 f3 f4 f5
  have X1 := Lib.hid (set6_bx K1.out (.int .i64 a') (.int .i64 b') (.int .i64 c') (.int .i64 d') (.int .i64 e') (.int .i64 f'))
  have X2 := Lib.hid (set6_other K2.out (g' := w.heap.size) (by omega) (.int .i64 a') (.int .i64 b') (.int .i64 c') (.int .i64 d') (.int .i64 e') (.int .i64 f'))
  have X3 := Lib.hid (set6_other K3.out (g' := w.heap.size) (by omega) (.int .i64 a') (.int .i64 b') (.int .i64 c') (.int .i64 d') (.int .i64 e') (.int .i64 f'))
  have XB := Lib.hid (set6_below HB.out (Nat.le_refl _) (.int .i64 a') (.int .i64 b') (.int .i64 c') (.int .i64 d') (.int .i64 e') (.int .i64 f'))
  clear K1 K2 K3 HB
  unfold set6 at X1 X2 X3 XB
  generalize World.setCell (World.setCell (World.setCell (World.setCell (World.setCell (World.setCell w4 _ _) _ _) _ _) _ _) _ _) _ _ = X at *
  go_cut [5, 6] (ApMid a' b' c' d' e' f' x' y' w)
  case first =>
    as_aux_lemma =>
      obtain ⟨⟨p0, p1⟩, _, _⟩ := X2.out.two
      go_region_held3 (fun w' => w'.cell? ⟨w.heap.size + 1, 0, none⟩ = some (.int .i64 x) ∧ w'.cell? ⟨w.heap.size + 1, 1, none⟩ = some (.int .i64 y))
        (go_keep)
        ((go_at_call 73; (first | refine (P1.out _).mono ?_ | refine (P2.out _).mono ?_); rintro z w5 ⟨rfl, rfl⟩))
      go_wp2_with fail
      go_meet
      exact ⟨rfl, rfl, X1.out.drew, X3.out.drew, XB.out.drew⟩
  case rest =>
  clear X1 X2 X3 XB
  obtain ⟨rfl, rfl, X1, X3, XB⟩ := hcut
  have X1 := Lib.hid X1; have X3 := Lib.hid X3; have XB := Lib.hid XB
  obtain ⟨⟨c0, c1, c2, c3, c4, c5⟩, _, _, _, _, _, _⟩ := X1.out.six
  obtain ⟨⟨r0, r1⟩, s0, s1⟩ := X3.out.two
  replace r0 := afcv_ok r0; replace r1 := afcv_ok r1
  have q0 : ∀ k j, afcv (wc.drewN k) (w.heap.size + 1 + 1) j = afcv wc (w.heap.size + 1 + 1) j := fun _ _ => rfl
  have q1 : ∀ j, afcv wc.drew (w.heap.size + 1 + 1) j = afcv wc (w.heap.size + 1 + 1) j := fun _ => rfl
  have d1 := dotZ_bd (M := 16777216) (X := 1099511627776) (K := 562949953421312) ba bx bc by' (by omega)
  have d2 := dotZ_bd (M := 16777216) (X := 1099511627776) (K := 562949953421312) bb bx bd by' (by omega)
  have e1 : IntKind.i64.wrap (dotZ a' x' c' y' + e') = dotZ a' x' c' y' + e' := wrap_id (by omega)
  have e2 : IntKind.i64.wrap (dotZ b' x' d' y' + f') = dotZ b' x' d' y' + f' := wrap_id (by omega)
  have hne : w.heap.size ≠ w.heap.size + 1 + 1 := by omega
  have HC := Lib.hid (And.intro c0 (And.intro c1 (And.intro c2 (And.intro c3 (And.intro c4 (And.intro c5 (And.intro r0 (And.intro r1 (And.intro s0 s1)))))))))
  go_wp2_with fail
  go_region_held3 (fun w' => w'.cell? ⟨w.heap.size, 0, none⟩ = some (.int .i64 a') ∧ w'.cell? ⟨w.heap.size, 1, none⟩ = some (.int .i64 b') ∧ w'.cell? ⟨w.heap.size, 2, none⟩ = some (.int .i64 c') ∧ w'.cell? ⟨w.heap.size, 3, none⟩ = some (.int .i64 d') ∧ w'.cell? ⟨w.heap.size, 4, none⟩ = some (.int .i64 e') ∧ w'.cell? ⟨w.heap.size, 5, none⟩ = some (.int .i64 f') ∧ w'.cell? ⟨w.heap.size + 1 + 1, 0, none⟩ = some (afcv w' (w.heap.size + 1 + 1) 0) ∧ w'.cell? ⟨w.heap.size + 1 + 1, 1, none⟩ = some (afcv w' (w.heap.size + 1 + 1) 1) ∧ w'.frozen? ⟨w.heap.size + 1 + 1, 0, none⟩ = false ∧ w'.frozen? ⟨w.heap.size + 1 + 1, 1, none⟩ = false)
    (first | (with_reducible exact cv_store0 hne _ _ HC) | (with_reducible exact cv_storeN hne _ _ _ HC) | go_keep)
    (first | (go_at_call 73; refine (place_any _ _).mono ?_; rintro z w5 ⟨rfl, rfl⟩) | (go_at_call 71; refine (dot_any _ _ _ _ _ (by omega) (by omega) (by omega) (by omega)).mono ?_; rintro z w5 ⟨rfl, rfl⟩))
  go_wp2_with fail
  refine bodyPost_ret (v := .agg #[.int .i64 (far (dotZ a' x' c' y' + e')), .int .i64 (far (dotZ b' x' d' y' + f'))]) (by simp [results, Try.results37, go_sem, r0, r1]) rfl ⟨af_ret_two HR1.out HR2.out, ?_⟩
  exact ((Below.drewN' XB.out _).setCell (p := ⟨w.heap.size + 1 + 1, 0, none⟩) (by show w.heap.size ≤ w.heap.size + 1 + 1; omega) _).setCell (p := ⟨w.heap.size + 1 + 1, 1, none⟩) (by show w.heap.size ≤ w.heap.size + 1 + 1; omega) _
end Go.Proofs.Ytineinmghajmnaa
namespace Go.Proofs.Ytineinmghajmnaa
open Go.RowKit
attribute [local go_sem 2000] run_max2m run_min2m

set_option maxRecDepth 100000 in
set_option maxHeartbeats 8000000 in
theorem rapply_any (a b c d e f x y : Int) (w : World) :
    Calls Try.prog 42 #[.agg #[.int .i64 a, .int .i64 b, .int .i64 c, .int .i64 d, .int .i64 e, .int .i64 f], .agg #[.int .i64 x, .int .i64 y]] w fun z w' => z = .returned (.agg #[.int .i64 ((Af.mk a b c d e f).app x y).1, .int .i64 ((Af.mk a b c d e f).app x y).2]) ∧ Below w.heap.size w w' := by
  have L := Lib.hid (rlimited_any a b c d e f)
  have P1 := Lib.hid (rfar_any x); have P2 := Lib.hid (rfar_any y)
  rw [app_eq]
  dsimp only
  have ba := coef_bd a
  have bb := coef_bd b
  have bc := coef_bd c
  have bd := coef_bd d
  have be := far_bd e
  have bf := far_bd f
  have bx := far_bd x; have by' := far_bd y
  generalize coef a = a' at *
  generalize coef b = b' at *
  generalize coef c = c' at *
  generalize coef d = d' at *
  generalize far e = e' at *
  generalize far f = f' at *
  generalize far x = x' at *; generalize far y = y' at *
  obtain ⟨R1, hR1⟩ : ∃ r, far (dotZ a' x' c' y' + e') = r := ⟨_, rfl⟩
  obtain ⟨R2, hR2⟩ : ∃ r, far (dotZ b' x' d' y' + f') = r := ⟨_, rfl⟩
  rw [hR1, hR2]
  have HR1 := Lib.hid hR1; have HR2 := Lib.hid hR2; clear hR1 hR2
  go_enter Try.func42, Try.ntmps42
  go_wp2_with fail
  obtain ⟨k1, k2, k3, hB⟩ := apply_boxes w a b c d e f x y _ rfl
  refine (L.out _).mono ?_
  rintro z w4 ⟨rfl, hb⟩
  have K1 := Lib.hid (k1.below hb); have K2 := Lib.hid (k2.below hb); have K3 := Lib.hid (k3.below hb); have HB := Lib.hid (bel_trans hB hb)
  clear k1 k2 k3 hB hb
  obtain ⟨⟨c0, c1, c2, c3, c4, c5⟩, f0, f1, f2, f3, f4, f5⟩ := K1.out.six
  go_upto_region 2 with fail
  clear c0 c1 c2 c3 c4 c5 f0 f1 f2 f3 f4 f5
  have X1 := Lib.hid (set6_bx K1.out (.int .i64 a') (.int .i64 b') (.int .i64 c') (.int .i64 d') (.int .i64 e') (.int .i64 f'))
  have X2 := Lib.hid (set6_other K2.out (g' := w.heap.size) (by omega) (.int .i64 a') (.int .i64 b') (.int .i64 c') (.int .i64 d') (.int .i64 e') (.int .i64 f'))
  have X3 := Lib.hid (set6_other K3.out (g' := w.heap.size) (by omega) (.int .i64 a') (.int .i64 b') (.int .i64 c') (.int .i64 d') (.int .i64 e') (.int .i64 f'))
  have XB := Lib.hid (set6_below HB.out (Nat.le_refl _) (.int .i64 a') (.int .i64 b') (.int .i64 c') (.int .i64 d') (.int .i64 e') (.int .i64 f'))
  clear K1 K2 K3 HB
  unfold set6 at X1 X2 X3 XB
  generalize World.setCell (World.setCell (World.setCell (World.setCell (World.setCell (World.setCell w4 _ _) _ _) _ _) _ _) _ _) _ _ = X at *
  go_cut [5, 6] (ApMid a' b' c' d' e' f' x' y' w)
  case first =>
    as_aux_lemma =>
      obtain ⟨⟨p0, p1⟩, _, _⟩ := X2.out.two
      go_region_held3 (fun w' => w'.cell? ⟨w.heap.size + 1, 0, none⟩ = some (.int .i64 x) ∧ w'.cell? ⟨w.heap.size + 1, 1, none⟩ = some (.int .i64 y))
        (go_keep)
        ((go_at_call 77; (first | refine (P1.out _).mono ?_ | refine (P2.out _).mono ?_); rintro z w5 ⟨rfl, rfl⟩))
      go_wp2_with fail
      go_meet
      exact ⟨rfl, rfl, X1.out.drew, X3.out.drew, XB.out.drew⟩
  case rest =>
  clear X1 X2 X3 XB
  obtain ⟨rfl, rfl, X1, X3, XB⟩ := hcut
  have X1 := Lib.hid X1; have X3 := Lib.hid X3; have XB := Lib.hid XB
  obtain ⟨⟨c0, c1, c2, c3, c4, c5⟩, _, _, _, _, _, _⟩ := X1.out.six
  obtain ⟨⟨r0, r1⟩, s0, s1⟩ := X3.out.two
  replace r0 := afcv_ok r0; replace r1 := afcv_ok r1
  have q0 : ∀ k j, afcv (wc.drewN k) (w.heap.size + 1 + 1) j = afcv wc (w.heap.size + 1 + 1) j := fun _ _ => rfl
  have q1 : ∀ j, afcv wc.drew (w.heap.size + 1 + 1) j = afcv wc (w.heap.size + 1 + 1) j := fun _ => rfl
  have d1 := dotZ_bd (M := 16777216) (X := 1099511627776) (K := 562949953421312) ba bx bc by' (by omega)
  have d2 := dotZ_bd (M := 16777216) (X := 1099511627776) (K := 562949953421312) bb bx bd by' (by omega)
  have e1 : IntKind.i64.wrap (dotZ a' x' c' y' + e') = dotZ a' x' c' y' + e' := wrap_id (by omega)
  have e2 : IntKind.i64.wrap (dotZ b' x' d' y' + f') = dotZ b' x' d' y' + f' := wrap_id (by omega)
  have hne : w.heap.size ≠ w.heap.size + 1 + 1 := by omega
  have HC := Lib.hid (And.intro c0 (And.intro c1 (And.intro c2 (And.intro c3 (And.intro c4 (And.intro c5 (And.intro r0 (And.intro r1 (And.intro s0 s1)))))))))
  go_wp2_with fail
  go_region_held3 (fun w' => w'.cell? ⟨w.heap.size, 0, none⟩ = some (.int .i64 a') ∧ w'.cell? ⟨w.heap.size, 1, none⟩ = some (.int .i64 b') ∧ w'.cell? ⟨w.heap.size, 2, none⟩ = some (.int .i64 c') ∧ w'.cell? ⟨w.heap.size, 3, none⟩ = some (.int .i64 d') ∧ w'.cell? ⟨w.heap.size, 4, none⟩ = some (.int .i64 e') ∧ w'.cell? ⟨w.heap.size, 5, none⟩ = some (.int .i64 f') ∧ w'.cell? ⟨w.heap.size + 1 + 1, 0, none⟩ = some (afcv w' (w.heap.size + 1 + 1) 0) ∧ w'.cell? ⟨w.heap.size + 1 + 1, 1, none⟩ = some (afcv w' (w.heap.size + 1 + 1) 1) ∧ w'.frozen? ⟨w.heap.size + 1 + 1, 0, none⟩ = false ∧ w'.frozen? ⟨w.heap.size + 1 + 1, 1, none⟩ = false)
    (first | (with_reducible exact cv_store0 hne _ _ HC) | (with_reducible exact cv_storeN hne _ _ _ HC) | go_keep)
    (first | (go_at_call 77; refine (rfar_any _ _).mono ?_; rintro z w5 ⟨rfl, rfl⟩) | (go_at_call 75; refine (line_any _ _ _ _ _ (by omega) (by omega) (by omega) (by omega)).mono ?_; rintro z w5 ⟨rfl, kk, rfl⟩))
  go_wp2_with fail
  refine bodyPost_ret (v := .agg #[.int .i64 (far (dotZ a' x' c' y' + e')), .int .i64 (far (dotZ b' x' d' y' + f'))]) (by simp [results, Try.results42, go_sem, r0, r1]) rfl ⟨af_ret_two HR1.out HR2.out, ?_⟩
  exact ((Below.drewN' XB.out _).setCell (p := ⟨w.heap.size + 1 + 1, 0, none⟩) (by show w.heap.size ≤ w.heap.size + 1 + 1; omega) _).setCell (p := ⟨w.heap.size + 1 + 1, 1, none⟩) (by show w.heap.size ≤ w.heap.size + 1 + 1; omega) _
end Go.Proofs.Ytineinmghajmnaa
