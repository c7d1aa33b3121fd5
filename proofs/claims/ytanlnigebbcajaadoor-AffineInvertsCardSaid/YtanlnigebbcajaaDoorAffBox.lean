/- Affine transforms in fixed point: the box of a rectangle, the identity and translations. No program in sight. -/
import Derived.Test.YtanlnigebbcajaaDoorAffLaws
namespace Go.Proofs.YtanlnigebbcajaaDoor

/-- A rectangle. -/
structure Rc where
  x : Int
  y : Int
  w : Int
  h : Int
deriving DecidableEq
def Rc.zero : Rc := ⟨0, 0, 0, 0⟩
def Rc.ok (r : Rc) : Prop := ((-1048576 ≤ r.x ∧ r.x ≤ 1048576) ∧ 0 ≤ r.w ∧ r.w ≤ 1048576 - r.x) ∧ ((-1048576 ≤ r.y ∧ r.y ≤ 1048576) ∧ 0 ≤ r.h ∧ r.h ≤ 1048576 - r.y)
instance (r : Rc) : Decidable r.ok := by unfold Rc.ok; infer_instance
def wn0 (lo : Int) : Int := max (lo / 65536) (-1048576)
def wn1 (hi : Int) : Int := min (-(-hi / 65536)) 1048576
def min4 (a b c d : Int) : Int := min (min (min a b) c) d
def max4 (a b c d : Int) : Int := max (max (max a b) c) d
theorem min4_add (a b c d e : Int) : min4 (a + e) (b + e) (c + e) (d + e) = min4 a b c d + e := by unfold min4; omega
theorem max4_add (a b c d e : Int) : max4 (a + e) (b + e) (c + e) (d + e) = max4 a b c d + e := by unfold max4; omega
theorem min4_ge {k a b c d : Int} (h1 : k ≤ a) (h2 : k ≤ b) (h3 : k ≤ c) (h4 : k ≤ d) : k ≤ min4 a b c d := by unfold min4; omega
theorem max4_le {k a b c d : Int} (h1 : a ≤ k) (h2 : b ≤ k) (h3 : c ≤ k) (h4 : d ≤ k) : max4 a b c d ≤ k := by unfold max4; omega
def rectOf (x0 x1 y0 y1 : Int) : Rc := if x0 ≥ x1 ∨ y0 ≥ y1 then .zero else ⟨x0, y0, x1 - x0, y1 - y0⟩
/-- The box of the images of four corners. -/
def box4 (p q r s : Int × Int) : Rc := rectOf (wn0 (min4 p.1 q.1 r.1 s.1)) (wn1 (max4 p.1 q.1 r.1 s.1)) (wn0 (min4 p.2 q.2 r.2 s.2)) (wn1 (max4 p.2 q.2 r.2 s.2))
def Af.corners (a : Af) (r : Rc) : Rc := box4 (a.app (r.x * 65536) (r.y * 65536)) (a.app ((r.x + r.w) * 65536) (r.y * 65536)) (a.app (r.x * 65536) ((r.y + r.h) * 65536)) (a.app ((r.x + r.w) * 65536) ((r.y + r.h) * 65536))
/-- What the reference makes of the same bounds. -/
theorem clamp_wn (lo hi : Int) (h : lo ≤ hi) : (min 1048576 (max (lo / 65536) (-1048576)) = min 1048576 (max (-(-hi / 65536)) (-1048576)) ↔ wn0 lo ≥ wn1 hi) ∧ (¬ wn0 lo ≥ wn1 hi → min 1048576 (max (lo / 65536) (-1048576)) = wn0 lo ∧ min 1048576 (max (-(-hi / 65536)) (-1048576)) = wn1 hi) := by
  unfold wn0 wn1
  omega
theorem dot_between {A C x0 x x1 y0 y y1 : Int} (hx : x0 ≤ x ∧ x ≤ x1) (hy : y0 ≤ y ∧ y ≤ y1) :
    min4 (dotZ A x0 C y0) (dotZ A x1 C y0) (dotZ A x0 C y1) (dotZ A x1 C y1) ≤ dotZ A x C y ∧ dotZ A x C y ≤ max4 (dotZ A x0 C y0) (dotZ A x1 C y0) (dotZ A x0 C y1) (dotZ A x1 C y1) := by
  have hA : (A * x0 ≤ A * x ∧ A * x ≤ A * x1) ∨ (A * x1 ≤ A * x ∧ A * x ≤ A * x0) := by
    rcases Int.le_total 0 A with h | h
    · exact .inl ⟨Int.mul_le_mul_of_nonneg_left hx.1 h, Int.mul_le_mul_of_nonneg_left hx.2 h⟩
    · exact .inr ⟨Int.mul_le_mul_of_nonpos_left h hx.2, Int.mul_le_mul_of_nonpos_left h hx.1⟩
  have hC : (C * y0 ≤ C * y ∧ C * y ≤ C * y1) ∨ (C * y1 ≤ C * y ∧ C * y ≤ C * y0) := by
    rcases Int.le_total 0 C with h | h
    · exact .inl ⟨Int.mul_le_mul_of_nonneg_left hy.1 h, Int.mul_le_mul_of_nonneg_left hy.2 h⟩
    · exact .inr ⟨Int.mul_le_mul_of_nonpos_left h hy.2, Int.mul_le_mul_of_nonpos_left h hy.1⟩
  unfold dotZ min4 max4
  have m : ∀ u v : Int, u ≤ v → rdiv u 65536 ≤ rdiv v 65536 := fun u v h => rdiv_mono (by omega) h
  rcases hA with hA | hA <;> rcases hC with hC | hC
  · have := m (A * x0 + C * y0) (A * x + C * y) (by omega); have := m (A * x + C * y) (A * x1 + C * y1) (by omega); omega
  · have := m (A * x0 + C * y1) (A * x + C * y) (by omega); have := m (A * x + C * y) (A * x1 + C * y0) (by omega); omega
  · have := m (A * x1 + C * y0) (A * x + C * y) (by omega); have := m (A * x + C * y) (A * x0 + C * y1) (by omega); omega
  · have := m (A * x1 + C * y1) (A * x + C * y) (by omega); have := m (A * x + C * y) (A * x0 + C * y0) (by omega); omega
/-- The box of a small transform of a near rectangle. -/
theorem Af.contains {a : Af} {r : Rc} {x y : Int} (ha : a.small 16777216) (hr : (-256 ≤ r.x ∧ r.x ≤ 256) ∧ (-256 ≤ r.y ∧ r.y ≤ 256) ∧ (1 ≤ r.w ∧ r.w ≤ 256) ∧ (1 ≤ r.h ∧ r.h ≤ 256))
    (hx : r.x * 65536 ≤ x ∧ x ≤ (r.x + r.w) * 65536) (hy : r.y * 65536 ≤ y ∧ y ≤ (r.y + r.h) * 65536) :
    a.corners r = .zero ∨ (((-1048576 ≤ (a.corners r).x ∧ (a.corners r).x ≤ 1048576) ∧ (-1048576 ≤ (a.corners r).y ∧ (a.corners r).y ≤ 1048576) ∧ (1 ≤ (a.corners r).w ∧ (a.corners r).w ≤ 1048576) ∧ (1 ≤ (a.corners r).h ∧ (a.corners r).h ≤ 1048576)) ∧
      ((a.corners r).x * 65536 ≤ (a.app x y).1 ∧ (a.app x y).1 ≤ ((a.corners r).x + (a.corners r).w) * 65536) ∧ ((a.corners r).y * 65536 ≤ (a.app x y).2 ∧ (a.app x y).2 ≤ ((a.corners r).y + (a.corners r).h) * 65536)) := by
  obtain ⟨r1, r2, r3, r4⟩ := hr
  obtain ⟨e, g1, g2⟩ := Af.app_small (X := 33554432) (x := x) (y := y) ha (by omega) (by omega) (by omega) (by omega) (by omega)
  obtain ⟨e1, h1, k1⟩ := Af.app_small (X := 33554432) (x := r.x * 65536) (y := r.y * 65536) ha (by omega) (by omega) (by omega) (by omega) (by omega)
  obtain ⟨e2, h2, k2⟩ := Af.app_small (X := 33554432) (x := (r.x + r.w) * 65536) (y := r.y * 65536) ha (by omega) (by omega) (by omega) (by omega) (by omega)
  obtain ⟨e3, h3, k3⟩ := Af.app_small (X := 33554432) (x := r.x * 65536) (y := (r.y + r.h) * 65536) ha (by omega) (by omega) (by omega) (by omega) (by omega)
  obtain ⟨e4, h4, k4⟩ := Af.app_small (X := 33554432) (x := (r.x + r.w) * 65536) (y := (r.y + r.h) * 65536) ha (by omega) (by omega) (by omega) (by omega) (by omega)
  have b1 := dot_between (A := a.a) (C := a.c) hx hy
  have b2 := dot_between (A := a.b) (C := a.d) hx hy
  obtain ⟨_, _, _, _, a5, a6⟩ := ha
  obtain ⟨q, hc⟩ : ∃ q, q = a.corners r := ⟨_, rfl⟩
  rw [← hc]
  unfold Af.corners at hc
  rw [e1, e2, e3, e4] at hc
  unfold box4 at hc
  dsimp only at hc
  rw [min4_add, min4_add, max4_add, max4_add] at hc
  rw [e]
  dsimp only
  have m1 := min4_ge h1.1 h2.1 h3.1 h4.1
  have m2 := max4_le h1.2 h2.2 h3.2 h4.2
  have m3 := min4_ge k1.1 k2.1 k3.1 k4.1
  have m4 := max4_le k1.2 k2.2 k3.2 k4.2
  generalize min4 _ _ _ _ = lx at hc b1 m1
  generalize max4 _ _ _ _ = mx at hc b1 m2
  generalize min4 _ _ _ _ = ly at hc b2 m3
  generalize max4 _ _ _ _ = my at hc b2 m4
  generalize dotZ a.a x a.c y = u at *
  generalize dotZ a.b x a.d y = v at *
  clear e e1 e2 e3 e4 hx hy h1 h2 h3 h4 k1 k2 k3 k4 g1 g2
  unfold rectOf wn0 wn1 at hc
  split at hc
  · exact .inl hc
  · right
    rename_i hn
    have n1 : max ((lx + a.e) / 65536) (-1048576) = (lx + a.e) / 65536 := by omega
    have n2 : min (-(-(mx + a.e) / 65536)) 1048576 = -(-(mx + a.e) / 65536) := by omega
    have n3 : max ((ly + a.f) / 65536) (-1048576) = (ly + a.f) / 65536 := by omega
    have n4 : min (-(-(my + a.f) / 65536)) 1048576 = -(-(my + a.f) / 65536) := by omega
    rw [n1, n2, n3, n4] at hc hn
    subst hc
    dsimp only
    refine ⟨⟨?_, ?_, ?_, ?_⟩, ⟨?_, ?_⟩, ⟨?_, ?_⟩⟩
    all_goals omega
/-- The identity and translations. -/
def Af.same : Af := ⟨65536, 0, 0, 65536, 0, 0⟩
def Af.move (x y : Int) : Af := ⟨65536, 0, 0, 65536, cl 1048576 x * 65536, cl 1048576 y * 65536⟩
def Af.scale (x y : Int) : Af := ⟨coef x, 0, 0, coef y, 0, 0⟩
theorem dotZ_one (x y : Int) : dotZ 65536 x 0 y = x := by
  unfold dotZ
  rw [Int.zero_mul, Int.add_zero, rdiv_whole _ _ (by omega)]
theorem dotZ_two (x y : Int) : dotZ 0 x 65536 y = y := by
  unfold dotZ
  rw [Int.zero_mul, Int.zero_add, rdiv_whole _ _ (by omega)]
theorem dotZ_one' (x y : Int) : dotZ x 65536 y 0 = x := by
  unfold dotZ
  rw [Int.mul_zero, Int.add_zero, Int.mul_comm, rdiv_whole _ _ (by omega)]
theorem dotZ_two' (x y : Int) : dotZ x 0 y 65536 = y := by
  unfold dotZ
  rw [Int.mul_zero, Int.zero_add, Int.mul_comm, rdiv_whole _ _ (by omega)]
theorem dotZ_zero (x y : Int) : dotZ x 0 y 0 = 0 := by
  unfold dotZ
  rw [Int.mul_zero, Int.mul_zero]; decide
theorem Af.app_same {x y : Int} (hx : -1099511627776 ≤ x ∧ x ≤ 1099511627776) (hy : -1099511627776 ≤ y ∧ y ≤ 1099511627776) : Af.same.app x y = (x, y) := by
  rw [Af.app_ok (by decide) hx hy]
  show (far (dotZ 65536 x 0 y + 0), far (dotZ 0 x 65536 y + 0)) = _
  rw [dotZ_one, dotZ_two, Int.add_zero, Int.add_zero, far_id hx, far_id hy]
theorem Af.thn_same {a : Af} (h : a.ok) : a.thn .same = a := by
  obtain ⟨h1, h2, h3, h4, h5, h6⟩ := id h
  unfold Af.thn
  rw [Af.lim_id h, Af.app_same h5 h6, show Af.same.lim = Af.same by decide]
  show Af.mk (coef (dotZ 65536 a.a 0 a.b)) (coef (dotZ 0 a.a 65536 a.b)) (coef (dotZ 65536 a.c 0 a.d)) (coef (dotZ 0 a.c 65536 a.d)) a.e a.f = a
  rw [dotZ_one, dotZ_two, dotZ_one, dotZ_two, coef_id h1, coef_id h2, coef_id h3, coef_id h4]
theorem Af.same_thn {a : Af} (h : a.ok) : Af.same.thn a = a := by
  obtain ⟨h1, h2, h3, h4, h5, h6⟩ := id h
  unfold Af.thn
  rw [Af.lim_id h, show Af.same.lim = Af.same by decide, Af.app_ok h (by decide) (by decide)]
  show Af.mk (coef (dotZ a.a 65536 a.c 0)) (coef (dotZ a.b 65536 a.d 0)) (coef (dotZ a.a 0 a.c 65536)) (coef (dotZ a.b 0 a.d 65536)) (far (dotZ a.a 0 a.c 0 + a.e)) (far (dotZ a.b 0 a.d 0 + a.f)) = a
  rw [dotZ_one', dotZ_one', dotZ_two', dotZ_two', dotZ_zero, dotZ_zero, coef_id h1, coef_id h2, coef_id h3, coef_id h4, Int.zero_add, Int.zero_add, far_id h5, far_id h6]
theorem Af.move_ok {x y : Int} (hx : -524288 ≤ x ∧ x ≤ 524288) (hy : -524288 ≤ y ∧ y ≤ 524288) : Af.move x y = ⟨65536, 0, 0, 65536, x * 65536, y * 65536⟩ := by
  unfold Af.move cl
  rw [show min 1048576 (max x (-1048576)) = x by omega, show min 1048576 (max y (-1048576)) = y by omega]
theorem Af.app_move {x y u v : Int} (hx : -524288 ≤ x ∧ x ≤ 524288) (hy : -524288 ≤ y ∧ y ≤ 524288) (hu : -68719476736 ≤ u ∧ u ≤ 68719476736) (hv : -68719476736 ≤ v ∧ v ≤ 68719476736) :
    (Af.move x y).app u v = (u + x * 65536, v + y * 65536) := by
  have e := Af.move_ok hx hy
  rw [Af.app_ok (by rw [e]; exact ⟨by dsimp only; omega, by dsimp only; omega, by dsimp only; omega, by dsimp only; omega, by dsimp only; omega, by dsimp only; omega⟩) (by omega) (by omega), e]
  show (far (dotZ 65536 u 0 v + x * 65536), far (dotZ 0 u 65536 v + y * 65536)) = _
  rw [dotZ_one, dotZ_two, far_id (by omega), far_id (by omega)]
theorem Af.inv_move {x y : Int} (hx : -524288 ≤ x ∧ x ≤ 524288) (hy : -524288 ≤ y ∧ y ≤ 524288) : (Af.move x y).ok ∧ (Af.move x y).det ≠ 0 ∧ (Af.move x y).inv1.ok ∧ (Af.move x y).inv2.ok ∧ (Af.move x y).inv2 = Af.move (-x) (-y) := by
  have e := Af.move_ok hx hy
  have e' := Af.move_ok (x := -x) (y := -y) (by omega) (by omega)
  have d : (Af.move x y).det = 4294967296 := by rw [e]; rfl
  have i1 : (Af.move x y).inv1 = ⟨65536, 0, 0, 65536, 0, 0⟩ := by
    unfold Af.inv1
    rw [d, e]
    show Af.mk (sdiv (65536 * 4294967296) 4294967296) (sdiv (-0 * 4294967296) 4294967296) (sdiv (-0 * 4294967296) 4294967296) (sdiv (65536 * 4294967296) 4294967296) 0 0 = _
    decide +kernel
  have i2 : (Af.move x y).inv2 = Af.move (-x) (-y) := by
    unfold Af.inv2
    rw [i1, e, e']
    show Af.mk 65536 0 0 65536 (dotZ (-65536) (x * 65536) (-0) (y * 65536)) (dotZ (-0) (x * 65536) (-65536) (y * 65536)) = _
    have z1 : dotZ (-65536) (x * 65536) (-0) (y * 65536) = -x * 65536 := by
      unfold dotZ
      rw [show (-65536 : Int) * (x * 65536) + -0 * (y * 65536) = 65536 * (-x * 65536) by omega, rdiv_whole _ _ (by omega)]
    have z2 : dotZ (-0) (x * 65536) (-65536) (y * 65536) = -y * 65536 := by
      unfold dotZ
      rw [show (-0 : Int) * (x * 65536) + -65536 * (y * 65536) = 65536 * (-y * 65536) by omega, rdiv_whole _ _ (by omega)]
    rw [z1, z2]
  refine ⟨?_, by rw [d]; decide, by rw [i1]; decide, ?_, i2⟩
  · rw [e]; exact ⟨by dsimp only; omega, by dsimp only; omega, by dsimp only; omega, by dsimp only; omega, by dsimp only; omega, by dsimp only; omega⟩
  · rw [i2, e']; exact ⟨by dsimp only; omega, by dsimp only; omega, by dsimp only; omega, by dsimp only; omega, by dsimp only; omega, by dsimp only; omega⟩
end Go.Proofs.YtanlnigebbcajaaDoor
