/- Affine transforms in fixed point: composing, going back, containing. No program in sight. -/
import Derived.Test.YtanlnigebbcajaaDoorAffMath
namespace Go.Proofs.YtanlnigebbcajaaDoor

theorem rdiv_err (z : Int) : ∃ r, 65536 * rdiv z 65536 = z + r ∧ -65536 ≤ 2 * r ∧ 2 * r ≤ 65536 := by
  have h := rdiv_spec z 65536 (by omega)
  exact ⟨65536 * rdiv z 65536 - z, by omega, by omega, by omega⟩
theorem dotZ_err (m x n y : Int) : ∃ r, 65536 * dotZ m x n y = m * x + n * y + r ∧ -65536 ≤ 2 * r ∧ 2 * r ≤ 65536 := rdiv_err _
theorem sdiv_err (z d : Int) (hd : d ≠ 0) : ∃ r, d * sdiv z d = z + r ∧ ((0 < d ∧ -d ≤ 2 * r ∧ 2 * r ≤ d) ∨ (d < 0 ∧ d ≤ 2 * r ∧ 2 * r ≤ -d)) := by
  unfold sdiv
  by_cases h : 0 < d
  · rw [if_pos h]
    have := rdiv_spec z d h
    exact ⟨d * rdiv z d - z, by omega, .inl ⟨h, by omega, by omega⟩⟩
  · rw [if_neg h]
    have := rdiv_spec (-z) (-d) (by omega)
    have e : -d * rdiv (-z) (-d) = -(d * rdiv (-z) (-d)) := by grind
    rw [e] at this
    exact ⟨d * rdiv (-z) (-d) - z, by omega, .inr ⟨by omega, by omega, by omega⟩⟩

/-- One coordinate of a composition. -/
theorem comp1 {bA bC bE aA aB aC aD aE aF x y : Int} (hbA : -262144 ≤ bA ∧ bA ≤ 262144) (hbC : -262144 ≤ bC ∧ bC ≤ 262144)
    (hx : -16777216 ≤ x ∧ x ≤ 16777216) (hy : -16777216 ≤ y ∧ y ≤ 16777216) :
    -262 ≤ (dotZ (dotZ bA aA bC aB) x (dotZ bA aC bC aD) y + (dotZ bA aE bC aF + bE)) - (dotZ bA (dotZ aA x aC y + aE) bC (dotZ aB x aD y + aF) + bE)
    ∧ (dotZ (dotZ bA aA bC aB) x (dotZ bA aC bC aD) y + (dotZ bA aE bC aF + bE)) - (dotZ bA (dotZ aA x aC y + aE) bC (dotZ aB x aD y + aF) + bE) ≤ 262 := by
  obtain ⟨p, hP, p1, p2⟩ := dotZ_err bA aA bC aB
  obtain ⟨r, hR, r1, r2⟩ := dotZ_err bA aC bC aD
  obtain ⟨g, hG, g1, g2⟩ := dotZ_err bA aE bC aF
  obtain ⟨h, hH, h1, h2⟩ := dotZ_err aA x aC y
  obtain ⟨k, hK, k1, k2⟩ := dotZ_err aB x aD y
  generalize dotZ bA aA bC aB = P at *
  generalize dotZ bA aC bC aD = R at *
  generalize dotZ bA aE bC aF = G at *
  generalize dotZ aA x aC y = X at *
  generalize dotZ aB x aD y = Y at *
  obtain ⟨d, hD, d1, d2⟩ := dotZ_err P x R y
  obtain ⟨e, hE, e1, e2⟩ := dotZ_err bA (X + aE) bC (Y + aF)
  generalize dotZ P x R y = D1 at *
  generalize dotZ bA (X + aE) bC (Y + aF) = D2 at *
  have key : 65536 * (65536 * (D1 + G - D2)) = p * x + r * y - bA * h - bC * k + 65536 * (d + g - e) := by
    have q1 : 65536 * (P * x) = (bA * aA + bC * aB + p) * x := by rw [← Int.mul_assoc, hP]
    have q2 : 65536 * (R * y) = (bA * aC + bC * aD + r) * y := by rw [← Int.mul_assoc, hR]
    have q3 : 65536 * (bA * X) = bA * (aA * x + aC * y + h) := by rw [← hH]; grind
    have q4 : 65536 * (bC * Y) = bC * (aB * x + aD * y + k) := by rw [← hK]; grind
    have q5 : 65536 * (D1 + G - D2) = 65536 * D1 + 65536 * G - 65536 * D2 := by grind
    rw [q5, hD, hG, hE]
    grind
  have b1 := mul_bd (a := 2 * p) (b := x) (A := 65536) (B := 16777216) (by omega) (by omega)
  have b2 := mul_bd (a := 2 * r) (b := y) (A := 65536) (B := 16777216) (by omega) (by omega)
  have b3 := mul_bd (a := bA) (b := 2 * h) (A := 262144) (B := 65536) (by omega) (by omega)
  have b4 := mul_bd (a := bC) (b := 2 * k) (A := 262144) (B := 65536) (by omega) (by omega)
  have f1 : 2 * p * x = 2 * (p * x) := by grind
  have f2 : 2 * r * y = 2 * (r * y) := by grind
  have f3 : bA * (2 * h) = 2 * (bA * h) := by grind
  have f4 : bC * (2 * k) = 2 * (bC * k) := by grind
  rw [f1] at b1; rw [f2] at b2; rw [f3] at b3; rw [f4] at b4
  generalize p * x = t1 at *
  generalize r * y = t2 at *
  generalize bA * h = t3 at *
  generalize bC * k = t4 at *
  omega

/-- What AffineComposes and AffineReturns ask of a transform. -/
def Af.small (a : Af) (n : Int) : Prop := (-262144 ≤ a.a ∧ a.a ≤ 262144) ∧ (-262144 ≤ a.b ∧ a.b ≤ 262144) ∧ (-262144 ≤ a.c ∧ a.c ≤ 262144) ∧ (-262144 ≤ a.d ∧ a.d ≤ 262144) ∧ (-n ≤ a.e ∧ a.e ≤ n) ∧ (-n ≤ a.f ∧ a.f ≤ n)
theorem Af.small_ok {a : Af} {n : Int} (h : a.small n) (hn : n ≤ 1099511627776) : a.ok := by
  obtain ⟨h1, h2, h3, h4, h5, h6⟩ := h
  exact ⟨by omega, by omega, by omega, by omega, by omega, by omega⟩
theorem Af.app_ok {a : Af} {x y : Int} (h : a.ok) (hx : -1099511627776 ≤ x ∧ x ≤ 1099511627776) (hy : -1099511627776 ≤ y ∧ y ≤ 1099511627776) : a.app x y = (far (dotZ a.a x a.c y + a.e), far (dotZ a.b x a.d y + a.f)) := by
  unfold Af.app
  rw [Af.lim_id h, far_id hx, far_id hy]
/-- A small transform of a near position: nothing is limited. -/
theorem Af.app_small {a : Af} {n X x y : Int} (h : a.small n) (hn : n ≤ 68719476736) (hx : -X ≤ x ∧ x ≤ X) (hy : -X ≤ y ∧ y ≤ X) (hX : X ≤ 69793218560) (hX0 : 0 ≤ X) :
    a.app x y = (dotZ a.a x a.c y + a.e, dotZ a.b x a.d y + a.f) ∧ (-(8 * X) ≤ dotZ a.a x a.c y ∧ dotZ a.a x a.c y ≤ 8 * X) ∧ (-(8 * X) ≤ dotZ a.b x a.d y ∧ dotZ a.b x a.d y ≤ 8 * X) := by
  obtain ⟨h1, h2, h3, h4, h5, h6⟩ := id h
  have b1 := dotZ_bd (M := 262144) (X := X) (K := 8 * X) h1 hx h3 hy (by omega)
  have b2 := dotZ_bd (M := 262144) (X := X) (K := 8 * X) h2 hx h4 hy (by omega)
  rw [Af.app_ok (Af.small_ok h (by omega)) (by omega) (by omega), far_id (by omega), far_id (by omega)]
  exact ⟨rfl, b1, b2⟩
theorem Af.composes {a b : Af} {x y : Int} (ha : a.small 68719476736) (hb : b.small 68719476736) (hx : -16777216 ≤ x ∧ x ≤ 16777216) (hy : -16777216 ≤ y ∧ y ≤ 16777216) :
    (-262 ≤ ((a.thn b).app x y).1 - (b.app (a.app x y).1 (a.app x y).2).1 ∧ ((a.thn b).app x y).1 - (b.app (a.app x y).1 (a.app x y).2).1 ≤ 262)
    ∧ (-262 ≤ ((a.thn b).app x y).2 - (b.app (a.app x y).1 (a.app x y).2).2 ∧ ((a.thn b).app x y).2 - (b.app (a.app x y).1 (a.app x y).2).2 ≤ 262) := by
  obtain ⟨a1, a2, a3, a4, a5, a6⟩ := id ha
  obtain ⟨b1, b2, b3, b4, b5, b6⟩ := id hb
  have la := Af.lim_id (Af.small_ok ha (by omega))
  have lb := Af.lim_id (Af.small_ok hb (by omega))
  obtain ⟨e1, x1, x2⟩ := Af.app_small ha (by omega) hx hy (by omega) (by omega)
  obtain ⟨e2, _, _⟩ := Af.app_small (X := 68853694464) (x := (a.app x y).1) (y := (a.app x y).2) hb (by omega) (by rw [e1]; show _ ∧ _; dsimp only; omega) (by rw [e1]; dsimp only; omega) (by omega) (by omega)
  obtain ⟨e3, _, _⟩ := Af.app_small (X := 68719476736) (x := a.e) (y := a.f) hb (by omega) a5 a6 (by omega) (by omega)
  have c1 := dotZ_bd (M := 262144) (X := 262144) (K := 2097152) b1 a1 b3 a2 (by omega)
  have c2 := dotZ_bd (M := 262144) (X := 262144) (K := 2097152) b2 a1 b4 a2 (by omega)
  have c3 := dotZ_bd (M := 262144) (X := 262144) (K := 2097152) b1 a3 b3 a4 (by omega)
  have c4 := dotZ_bd (M := 262144) (X := 262144) (K := 2097152) b2 a3 b4 a4 (by omega)
  have ht : a.thn b = ⟨dotZ b.a a.a b.c a.b, dotZ b.b a.a b.d a.b, dotZ b.a a.c b.c a.d, dotZ b.b a.c b.d a.d, dotZ b.a a.e b.c a.f + b.e, dotZ b.b a.e b.d a.f + b.f⟩ := by
    unfold Af.thn
    rw [la, lb, coef_id (by omega), coef_id (by omega), coef_id (by omega), coef_id (by omega), e3]
  have f1 := dotZ_bd (M := 262144) (X := 68719476736) (K := 549755813888) b1 a5 b3 a6 (by omega)
  have f2 := dotZ_bd (M := 262144) (X := 68719476736) (K := 549755813888) b2 a5 b4 a6 (by omega)
  have g1 := dotZ_bd (M := 2097152) (X := 16777216) (K := 1073741824) c1 hx c3 hy (by omega)
  have g2 := dotZ_bd (M := 2097152) (X := 16777216) (K := 1073741824) c2 hx c4 hy (by omega)
  have e4 : (a.thn b).app x y = (dotZ (dotZ b.a a.a b.c a.b) x (dotZ b.a a.c b.c a.d) y + (dotZ b.a a.e b.c a.f + b.e), dotZ (dotZ b.b a.a b.d a.b) x (dotZ b.b a.c b.d a.d) y + (dotZ b.b a.e b.d a.f + b.f)) := by
    rw [Af.app_ok (by rw [ht]; exact ⟨by dsimp only; omega, by dsimp only; omega, by dsimp only; omega, by dsimp only; omega, by dsimp only; omega, by dsimp only; omega⟩) (by omega) (by omega), ht]
    dsimp only
    rw [far_id (by omega), far_id (by omega)]
  rw [e4, e2, e1]
  exact ⟨comp1 b1 b3 hx hy, comp1 b2 b4 hx hy⟩

/-- One coordinate of going there and back. -/
theorem back1 {A B C D E F x y i k : Int} (hA : -262144 ≤ A ∧ A ≤ 262144) (hB : -262144 ≤ B ∧ B ≤ 262144) (hC : -262144 ≤ C ∧ C ≤ 262144) (hD : -262144 ≤ D ∧ D ≤ 262144)
    (hx : -16777216 ≤ x ∧ x ≤ 16777216) (hy : -16777216 ≤ y ∧ y ≤ 16777216) (m : Int) (hm : 1073741824 ≤ m) (d : Int) (hd : d = m ∨ d = -m) (hdet : d = A * D - B * C)
    (s t : Int) (hi : d * i = D * 4294967296 + s) (hk : d * k = -C * 4294967296 + t) (hs : -m ≤ 2 * s ∧ 2 * s ≤ m) (ht : -m ≤ 2 * t ∧ 2 * t ≤ m) :
    -4096 ≤ (dotZ i (dotZ A x C y + E) k (dotZ B x D y + F) + dotZ (-i) E (-k) F) - x ∧ (dotZ i (dotZ A x C y + E) k (dotZ B x D y + F) + dotZ (-i) E (-k) F) - x ≤ 4096 := by
  have bX := dotZ_bd (M := 262144) (X := 16777216) (K := 134217728) hA hx hC hy (by omega)
  have bY := dotZ_bd (M := 262144) (X := 16777216) (K := 134217728) hB hx hD hy (by omega)
  obtain ⟨h, hH, h1, h2⟩ := dotZ_err A x C y
  obtain ⟨l, hL, l1, l2⟩ := dotZ_err B x D y
  generalize dotZ A x C y = X at *
  generalize dotZ B x D y = Y at *
  obtain ⟨g, hG, g1, g2⟩ := dotZ_err i (X + E) k (Y + F)
  obtain ⟨e, hE, e1, e2⟩ := dotZ_err (-i) E (-k) F
  generalize dotZ i (X + E) k (Y + F) = Q at *
  generalize dotZ (-i) E (-k) F = I at *
  have q1 : 65536 * (Q + I) = i * X + k * Y + (g + e) := by
    have : 65536 * (Q + I) = 65536 * Q + 65536 * I := by omega
    rw [this, hG, hE]; grind
  have q2 : 65536 * (d * (65536 * (Q + I))) = (d * i) * (65536 * X) + (d * k) * (65536 * Y) + 65536 * (d * (g + e)) := by
    rw [q1]; grind
  have q3 : 4294967296 * (d * (Q + I - x)) = 4294967296 * (D * h - C * l) + 65536 * (s * X + t * Y) + 65536 * (d * (g + e)) := by
    have z1 : (d * i) * (65536 * X) = D * 4294967296 * (A * x + C * y + h) + 65536 * (s * X) := by rw [hi, ← hH]; grind
    have z2 : (d * k) * (65536 * Y) = -C * 4294967296 * (B * x + D * y + l) + 65536 * (t * Y) := by rw [hk, ← hL]; grind
    rw [z1, z2] at q2
    have z3 : d * x = (A * D - B * C) * x := by rw [hdet]
    grind
  have b1 := mul_bd (a := D) (b := 2 * h) (A := 262144) (B := 65536) hD (by omega)
  have b2 := mul_bd (a := C) (b := 2 * l) (A := 262144) (B := 65536) hC (by omega)
  have b3 := mul_bd (a := 2 * s) (b := X) (A := m) (B := 134217728) hs bX
  have b4 := mul_bd (a := 2 * t) (b := Y) (A := m) (B := 134217728) ht bY
  have b5 := mul_bd (a := d) (b := g + e) (A := m) (B := 65536) (by omega) (by omega)
  have f1 : D * (2 * h) = 2 * (D * h) := by grind
  have f2 : C * (2 * l) = 2 * (C * l) := by grind
  have f3 : 2 * s * X = 2 * (s * X) := by grind
  have f4 : 2 * t * Y = 2 * (t * Y) := by grind
  rw [f1] at b1; rw [f2] at b2; rw [f3] at b3; rw [f4] at b4
  have q4 : -(m * 4096) ≤ d * (Q + I - x) ∧ d * (Q + I - x) ≤ m * 4096 := by
    generalize d * (Q + I - x) = T at *
    generalize D * h = t1 at *
    generalize C * l = t2 at *
    generalize s * X = t3 at *
    generalize t * Y = t4 at *
    generalize d * (g + e) = t5 at *
    omega
  have hm0 : 0 < m := by omega
  have q5 : -(m * 4096) ≤ m * (Q + I - x) ∧ m * (Q + I - x) ≤ m * 4096 := by
    rcases hd with rfl | rfl
    · exact q4
    · have : -m * (Q + I - x) = -(m * (Q + I - x)) := by grind
      rw [this] at q4
      omega
  refine ⟨?_, Int.le_of_mul_le_mul_left q5.2 hm0⟩
  have : m * (-4096) ≤ m * (Q + I - x) := by
    have e : m * (-4096) = -(m * 4096) := by omega
    rw [e]; exact q5.1
  exact Int.le_of_mul_le_mul_left this hm0
theorem dotZ_comm (m x n y : Int) : dotZ m x n y = dotZ n y m x := by unfold dotZ; rw [Int.add_comm]
theorem inv_bd {d i D s m : Int} (hD : -262144 ≤ D ∧ D ≤ 262144) (hm : 1073741824 ≤ m) (hd : d = m ∨ d = -m) (hi : d * i = D * 4294967296 + s) (hs : -m ≤ 2 * s ∧ 2 * s ≤ m) : -1048577 ≤ i ∧ i ≤ 1048577 := by
  have q : -(m * 1048577) ≤ m * i ∧ m * i ≤ m * 1048577 := by
    rcases hd with rfl | rfl
    · omega
    · have : -m * i = -(m * i) := by grind
      rw [this] at hi
      omega
  have hm0 : 0 < m := by omega
  refine ⟨?_, Int.le_of_mul_le_mul_left q.2 hm0⟩
  have : m * (-1048577) ≤ m * i := by
    have e : m * (-1048577) = -(m * 1048577) := by omega
    rw [e]; exact q.1
  exact Int.le_of_mul_le_mul_left this hm0
theorem Af.returns {a : Af} {x y : Int} (ha : a.small 16777216) (hx : -16777216 ≤ x ∧ x ≤ 16777216) (hy : -16777216 ≤ y ∧ y ≤ 16777216) (hd : 1073741824 ≤ a.det ∨ a.det ≤ -1073741824) :
    a.inv1.ok ∧ a.inv2.ok ∧ (-4096 ≤ (a.inv2.app (a.app x y).1 (a.app x y).2).1 - x ∧ (a.inv2.app (a.app x y).1 (a.app x y).2).1 - x ≤ 4096) ∧ (-4096 ≤ (a.inv2.app (a.app x y).1 (a.app x y).2).2 - y ∧ (a.inv2.app (a.app x y).1 (a.app x y).2).2 - y ≤ 4096) := by
  obtain ⟨a1, a2, a3, a4, a5, a6⟩ := id ha
  obtain ⟨e1, x1, x2⟩ := Af.app_small ha (by omega) hx hy (by omega) (by omega)
  obtain ⟨m, hm, hdm⟩ : ∃ m, 1073741824 ≤ m ∧ (a.det = m ∨ a.det = -m) := by
    rcases hd with h | h
    · exact ⟨a.det, h, .inl rfl⟩
    · exact ⟨-a.det, by omega, .inr (by omega)⟩
  have hd0 : a.det ≠ 0 := by omega
  obtain ⟨s1, hs1, r1⟩ := sdiv_err (a.d * 4294967296) a.det hd0
  obtain ⟨s2, hs2, r2⟩ := sdiv_err (-a.b * 4294967296) a.det hd0
  obtain ⟨s3, hs3, r3⟩ := sdiv_err (-a.c * 4294967296) a.det hd0
  obtain ⟨s4, hs4, r4⟩ := sdiv_err (a.a * 4294967296) a.det hd0
  have r1' : -m ≤ 2 * s1 ∧ 2 * s1 ≤ m := by omega
  have r2' : -m ≤ 2 * s2 ∧ 2 * s2 ≤ m := by omega
  have r3' : -m ≤ 2 * s3 ∧ 2 * s3 ≤ m := by omega
  have r4' : -m ≤ 2 * s4 ∧ 2 * s4 ≤ m := by omega
  have i1 := inv_bd a4 hm hdm hs1 r1'
  have i2 := inv_bd (D := -a.b) (by omega) hm hdm hs2 r2'
  have i3 := inv_bd (D := -a.c) (by omega) hm hdm hs3 r3'
  have i4 := inv_bd a1 hm hdm hs4 r4'
  have hdet : a.det = a.a * a.d - a.b * a.c := rfl
  have k1 := back1 (E := a.e) (F := a.f) a1 a2 a3 a4 hx hy m hm a.det hdm hdet s1 s3 hs1 hs3 r1' r3'
  have k2 := back1 (E := a.f) (F := a.e) a4 a3 a2 a1 hy hx m hm a.det hdm (by rw [hdet]; grind) s4 s2 hs4 hs2 r4' r2'
  have hi : a.inv1 = ⟨sdiv (a.d * 4294967296) a.det, sdiv (-a.b * 4294967296) a.det, sdiv (-a.c * 4294967296) a.det, sdiv (a.a * 4294967296) a.det, 0, 0⟩ := rfl
  have hi2 : a.inv2 = { a.inv1 with e := dotZ (-a.inv1.a) a.e (-a.inv1.c) a.f, f := dotZ (-a.inv1.b) a.e (-a.inv1.d) a.f } := rfl
  rw [hi] at hi2
  generalize sdiv (a.d * 4294967296) a.det = p at *
  generalize sdiv (-a.b * 4294967296) a.det = q at *
  generalize sdiv (-a.c * 4294967296) a.det = r at *
  generalize sdiv (a.a * 4294967296) a.det = s at *
  dsimp only at hi2
  have b1 := dotZ_bd (m := -p) (x := a.e) (n := -r) (y := a.f) (M := 1048577) (X := 16777216) (K := 536871424) (by omega) a5 (by omega) a6 (by omega)
  have b2 := dotZ_bd (m := -q) (x := a.e) (n := -s) (y := a.f) (M := 1048577) (X := 16777216) (K := 536871424) (by omega) a5 (by omega) a6 (by omega)
  have o1 : a.inv1.ok := by rw [hi]; exact ⟨by dsimp only; omega, by dsimp only; omega, by dsimp only; omega, by dsimp only; omega, by dsimp only; omega, by dsimp only; omega⟩
  have o2 : a.inv2.ok := by rw [hi2]; exact ⟨by dsimp only; omega, by dsimp only; omega, by dsimp only; omega, by dsimp only; omega, by dsimp only; omega, by dsimp only; omega⟩
  refine ⟨o1, o2, ?_⟩
  rw [e1]
  dsimp only
  rw [Af.app_ok o2 (by omega) (by omega), hi2]
  dsimp only
  have c1 := dotZ_bd (m := p) (x := dotZ a.a x a.c y + a.e) (n := r) (y := dotZ a.b x a.d y + a.f) (M := 1048577) (X := 150994944) (K := 4831842816) (by omega) (by omega) (by omega) (by omega) (by omega)
  have c2 := dotZ_bd (m := q) (x := dotZ a.a x a.c y + a.e) (n := s) (y := dotZ a.b x a.d y + a.f) (M := 1048577) (X := 150994944) (K := 4831842816) (by omega) (by omega) (by omega) (by omega) (by omega)
  rw [far_id (by omega), far_id (by omega)]
  refine ⟨k1, ?_⟩
  rw [dotZ_comm q, dotZ_comm (-q), dotZ_comm a.b, dotZ_comm a.a]
  exact k2
end Go.Proofs.YtanlnigebbcajaaDoor
