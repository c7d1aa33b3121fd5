/- The reference's Inverse: one contract. -/
import Derived.Test.YtineinmghajmnaaMQ
import Derived.Test.YtineinmghajmnaaMO
import Derived.Test.YtineinmghajmnaaMP
import Derived.Test.YtineinmghajmnaaMN
namespace Go.Proofs.Ytineinmghajmnaa
open Go.RowKit
theorem tobel {f : FuncId} {args : Array Value} {w : World} {x : Ending} (h : Calls Try.prog f args w fun e w' => e = x ∧ ∃ n, w' = w.drewN n) : Calls Try.prog f args w fun e w' => e = x ∧ Below w.heap.size w w' :=
  h.mono fun _ _ ⟨h1, n, h2⟩ => ⟨h1, h2 ▸ Below.drewN' (Below.refl _ _) n⟩
set_option maxHeartbeats 1000000 in
theorem rinverse_any (a b c d e f : Int) (w : World) :
    Calls Try.prog 40 #[.agg #[.int .i64 a, .int .i64 b, .int .i64 c, .int .i64 d, .int .i64 e, .int .i64 f]] w fun z w' =>
      z = .returned (.tuple #[.agg #[.int .i64 (Af.mk a b c d e f).inv.1.a, .int .i64 (Af.mk a b c d e f).inv.1.b, .int .i64 (Af.mk a b c d e f).inv.1.c, .int .i64 (Af.mk a b c d e f).inv.1.d, .int .i64 (Af.mk a b c d e f).inv.1.e, .int .i64 (Af.mk a b c d e f).inv.1.f], .int .i64 (Af.mk a b c d e f).inv.2]) ∧ Below w.heap.size w w' := by
  have ck := fun w => racheck_any a b c d e f w
  by_cases h : (Af.mk a b c d e f).ok
  · rw [okE_ok h] at ck
    obtain ⟨h1, h2, h3, h4, h5, h6⟩ := id h
    dsimp only at h1 h2 h3 h4 h5 h6
    obtain ⟨m1, m2⟩ := det_bd h1 h2 h3 h4
    by_cases hd : (Af.mk a b c d e f).det = 0
    · have e0 : (Af.mk a b c d e f).inv = (.zero, 17) := by unfold Af.inv; rw [if_pos h, if_pos hd]
      rw [e0]
      exact rinv_d0 a b c d e f (a * d) (b * c) (a * d - b * c) w ck (wrap_id (by omega)) (wrap_id (by omega)) (wrap_id (by omega)) (by rw [beq_iff_eq]; exact hd)
    · have hd' : a * d - b * c ≠ 0 := hd
      have q0 := fun w => tobel (rsdiv_any (d * 4294967296) (a * d - b * c) w (by omega) (by omega) hd' (by omega) (by omega))
      have q1 := fun w => tobel (rsdiv_any (-b * 4294967296) (a * d - b * c) w (by omega) (by omega) hd' (by omega) (by omega))
      have q2 := fun w => tobel (rsdiv_any (-c * 4294967296) (a * d - b * c) w (by omega) (by omega) hd' (by omega) (by omega))
      have q3 := fun w => tobel (rsdiv_any (a * 4294967296) (a * d - b * c) w (by omega) (by omega) hd' (by omega) (by omega))
      have hi : (Af.mk a b c d e f).inv1 = ⟨sdiv (d * 4294967296) (a * d - b * c), sdiv (-b * 4294967296) (a * d - b * c), sdiv (-c * 4294967296) (a * d - b * c), sdiv (a * 4294967296) (a * d - b * c), 0, 0⟩ := rfl
      have hj : (Af.mk a b c d e f).inv2 = { (Af.mk a b c d e f).inv1 with e := dotZ (-(Af.mk a b c d e f).inv1.a) e (-(Af.mk a b c d e f).inv1.c) f, f := dotZ (-(Af.mk a b c d e f).inv1.b) e (-(Af.mk a b c d e f).inv1.d) f } := rfl
      rw [hi] at hj
      dsimp only at hj
      generalize sdiv (d * 4294967296) (a * d - b * c) = o0 at *
      generalize sdiv (-b * 4294967296) (a * d - b * c) = o1 at *
      generalize sdiv (-c * 4294967296) (a * d - b * c) = o2 at *
      generalize sdiv (a * 4294967296) (a * d - b * c) = o3 at *
      have hb0 : ((a * d - b * c) == 0) = false := by rw [beq_eq_false_iff_ne]; exact hd'
      have ck2 := fun w => racheck_any o0 o1 o2 o3 0 0 w
      by_cases ho : (Af.mk a b c d e f).inv1.ok
      · have ho' := ho
        rw [hi] at ho'
        rw [okE_ok ho'] at ck2
        obtain ⟨k1, k2, k3, k4, _, _⟩ := ho'
        dsimp only at k1 k2 k3 k4
        have p1 := fun w => line_any (-o0) (-o2) e f w (by omega) h5 (by omega) h6
        have p2 := fun w => line_any (-o1) (-o3) e f w (by omega) h5 (by omega) h6
        have ck3 := fun w => racheck_any o0 o1 o2 o3 (dotZ (-o0) e (-o2) f) (dotZ (-o1) e (-o3) f) w
        by_cases hp : (Af.mk a b c d e f).inv2.ok
        · have hp' := hp
          rw [hj] at hp'
          rw [okE_ok hp'] at ck3
          have e0 : (Af.mk a b c d e f).inv = ((Af.mk a b c d e f).inv2, 0) := by unfold Af.inv; rw [if_pos h, if_neg hd, if_pos ho, if_pos hp]
          rw [e0, hj]
          exact rinv_ok a b c d e f (a * d) (b * c) (a * d - b * c) (-b) (-c) _ _ _ _ o0 o1 o2 o3 (-o0) (-o1) (-o2) (-o3) _ _ w ck (wrap_id (by omega)) (wrap_id (by omega)) (wrap_id (by omega)) hb0 (wrap_id (by omega)) (wrap_id (by omega)) (wrap_id (by omega)) (wrap_id (by omega)) (wrap_id (by omega)) (wrap_id (by omega)) q0 q1 q2 q3 ck2 (wrap_id (by omega)) (wrap_id (by omega)) (wrap_id (by omega)) (wrap_id (by omega)) p1 p2 ck3
        · have hp' := hp
          rw [hj] at hp'
          rw [okE_no hp'] at ck3
          have e0 : (Af.mk a b c d e f).inv = (.zero, 17) := by unfold Af.inv; rw [if_pos h, if_neg hd, if_pos ho, if_neg hp]
          rw [e0]
          exact rinv_e3 a b c d e f (a * d) (b * c) (a * d - b * c) (-b) (-c) _ _ _ _ o0 o1 o2 o3 (-o0) (-o1) (-o2) (-o3) _ _ 2 w ck (wrap_id (by omega)) (wrap_id (by omega)) (wrap_id (by omega)) hb0 (wrap_id (by omega)) (wrap_id (by omega)) (wrap_id (by omega)) (wrap_id (by omega)) (wrap_id (by omega)) (wrap_id (by omega)) q0 q1 q2 q3 ck2 (wrap_id (by omega)) (wrap_id (by omega)) (wrap_id (by omega)) (wrap_id (by omega)) p1 p2 ck3 rfl
      · have ho' := ho
        rw [hi] at ho'
        rw [okE_no ho'] at ck2
        have e0 : (Af.mk a b c d e f).inv = (.zero, 17) := by unfold Af.inv; rw [if_pos h, if_neg hd, if_neg ho]
        rw [e0]
        exact rinv_e2 a b c d e f (a * d) (b * c) (a * d - b * c) (-b) (-c) _ _ _ _ o0 o1 o2 o3 2 w ck (wrap_id (by omega)) (wrap_id (by omega)) (wrap_id (by omega)) hb0 (wrap_id (by omega)) (wrap_id (by omega)) (wrap_id (by omega)) (wrap_id (by omega)) (wrap_id (by omega)) (wrap_id (by omega)) q0 q1 q2 q3 ck2 rfl
  · rw [okE_no h] at ck
    have e0 : (Af.mk a b c d e f).inv = (.zero, 2) := by unfold Af.inv; rw [if_neg h]
    rw [e0]
    exact rinv_e1 a b c d e f 2 w ck rfl
end Go.Proofs.Ytineinmghajmnaa
namespace Go.Proofs.Ytineinmghajmnaa
open Go.RowKit
/-- Box with its error. -/
def Af.boxE (A : Af) (r : Rc) : Rc × Int := if A.ok then (if r.ok then (if r.w = 0 ∨ r.h = 0 then (.zero, 0) else (A.corners r, 0)) else (.zero, 2)) else (.zero, 2)
def two (x y : Int) : Nat → Int
  | 0 => x
  | _ => y
def runMin (s : Int) (P : Nat → Int) : Nat → Int
  | 0 => s
  | q + 1 => if P q < runMin s P q then P q else runMin s P q
def runMax (s : Int) (P : Nat → Int) : Nat → Int
  | 0 => s
  | q + 1 => if P q > runMax s P q then P q else runMax s P q
theorem runMin_four (P : Nat → Int) : runMin (P 0) P 4 = min4 (P 0) (P 2) (P 1) (P 3) := by
  simp only [runMin, min4]; omega
theorem runMax_four (P : Nat → Int) : runMax (P 0) P 4 = max4 (P 0) (P 2) (P 1) (P 3) := by
  simp only [runMax, max4]; omega
theorem min4_le_max4 (a b c d : Int) : min4 a b c d ≤ max4 a b c d := by unfold min4 max4; omega
theorem min4_bd2 {k a b c d : Int} (h1 : -k ≤ a ∧ a ≤ k) (h2 : -k ≤ b ∧ b ≤ k) (h3 : -k ≤ c ∧ c ≤ k) (h4 : -k ≤ d ∧ d ≤ k) : (-k ≤ min4 a b c d ∧ min4 a b c d ≤ k) ∧ (-k ≤ max4 a b c d ∧ max4 a b c d ≤ k) := by unfold min4 max4; omega
theorem bq (a b : Int) : (a == b) = true ↔ a = b := beq_iff_eq
set_option maxHeartbeats 1000000 in
theorem rbox_yes (a b c d e f x y p q : Int) (w : World) (hok : (Af.mk a b c d e f).ok) (hv : (Rc.mk x y p q).ok) (hp : p ≠ 0) (hq : q ≠ 0) :
    Calls Try.prog 46 #[.agg #[.int .i64 a, .int .i64 b, .int .i64 c, .int .i64 d, .int .i64 e, .int .i64 f], .agg #[.int .i64 x, .int .i64 y, .int .i64 p, .int .i64 q]] w fun z w' =>
      z = .returned (.tuple #[.agg #[.int .i64 ((Af.mk a b c d e f).corners ⟨x, y, p, q⟩).x, .int .i64 ((Af.mk a b c d e f).corners ⟨x, y, p, q⟩).y, .int .i64 ((Af.mk a b c d e f).corners ⟨x, y, p, q⟩).w, .int .i64 ((Af.mk a b c d e f).corners ⟨x, y, p, q⟩).h], .int .i64 0]) ∧ Below w.heap.size w w' := by
  have ck := fun w => racheck_any a b c d e f w
  rw [okE_ok hok] at ck
  obtain ⟨hx, hy⟩ := hv
  dsimp only at hx hy
  have sv : af_rvalid x y p q = true := (af_rvalid_iff x y p q).2 ⟨hx, hy⟩
  have va := fun w => af_rvalid_any x y p q w
  rw [sv] at va
  have em := fun w => af_rempty_any x y p q w
  rw [show af_rempty x y p q = false by unfold af_rempty; rw [sv, beq_f hp, beq_f hq]; rfl] at em
  have AP := fun u v w => rapply_any a b c d e f u v w
  have BD := app_bd (Af.mk a b c d e f)
  unfold Af.corners af_box4
  dsimp only
  generalize (Af.mk a b c d e f).app = ap at *
  have pt : ∀ i j : Nat, i < 2 → j < 2 → (2 * i + j) / 2 = i ∧ (2 * i + j) % 2 = j := fun i j hi hj => by omega
  obtain ⟨PX, hPX⟩ : ∃ PX : Nat → Int, PX = fun q' => (ap (two x (x + p) (q' / 2) * 65536) (two y (y + q) (q' % 2) * 65536)).1 := ⟨_, rfl⟩
  obtain ⟨PY, hPY⟩ : ∃ PY : Nat → Int, PY = fun q' => (ap (two x (x + p) (q' / 2) * 65536) (two y (y + q) (q' % 2) * 65536)).2 := ⟨_, rfl⟩
  have px0 : PX 0 = (ap (x * 65536) (y * 65536)).1 := by rw [hPX]; rfl
  have px1 : PX 1 = (ap (x * 65536) ((y + q) * 65536)).1 := by rw [hPX]; rfl
  have px2 : PX 2 = (ap ((x + p) * 65536) (y * 65536)).1 := by rw [hPX]; rfl
  have px3 : PX 3 = (ap ((x + p) * 65536) ((y + q) * 65536)).1 := by rw [hPX]; rfl
  have py0 : PY 0 = (ap (x * 65536) (y * 65536)).2 := by rw [hPY]; rfl
  have py1 : PY 1 = (ap (x * 65536) ((y + q) * 65536)).2 := by rw [hPY]; rfl
  have py2 : PY 2 = (ap ((x + p) * 65536) (y * 65536)).2 := by rw [hPY]; rfl
  have py3 : PY 3 = (ap ((x + p) * 65536) ((y + q) * 65536)).2 := by rw [hPY]; rfl
  have b0 := BD (x * 65536) (y * 65536); have b1 := BD (x * 65536) ((y + q) * 65536); have b2 := BD ((x + p) * 65536) (y * 65536); have b3 := BD ((x + p) * 65536) ((y + q) * 65536)
  have P0 : ∀ w, Calls Try.prog 42 #[.agg #[.int .i64 a, .int .i64 b, .int .i64 c, .int .i64 d, .int .i64 e, .int .i64 f], .agg #[.int .i64 (two x (x + p) 0 * 65536), .int .i64 (two y (y + q) 0 * 65536)]] w fun z w' => z = .returned (.agg #[.int .i64 (PX 0), .int .i64 (PY 0)]) ∧ Below w.heap.size w w' := by
    rw [px0, py0]; exact fun w => AP _ _ w
  have PP : ∀ i j, i < 2 → j < 2 → ∀ w, Calls Try.prog 42 #[.agg #[.int .i64 a, .int .i64 b, .int .i64 c, .int .i64 d, .int .i64 e, .int .i64 f], .agg #[.int .i64 (two x (x + p) i * 65536), .int .i64 (two y (y + q) j * 65536)]] w fun z w' => z = .returned (.agg #[.int .i64 (PX (2 * i + j)), .int .i64 (PY (2 * i + j))]) ∧ Below w.heap.size w w' := by
    intro i j hi hj w
    obtain ⟨h1, h2⟩ := pt i j hi hj
    rw [hPX, hPY]
    dsimp only
    rw [h1, h2]
    exact AP _ _ w
  have mX : ∀ i, i < 2 → IntKind.i64.wrap (two x (x + p) i * 65536) = two x (x + p) i * 65536 := fun i hi => by
    match i, hi with
    | 0, _ => exact wrap_id (by show -9223372036854775808 ≤ x * 65536 ∧ x * 65536 ≤ 9223372036854775807; omega)
    | 1, _ => exact wrap_id (by show -9223372036854775808 ≤ (x + p) * 65536 ∧ (x + p) * 65536 ≤ 9223372036854775807; omega)
  have mY : ∀ i, i < 2 → IntKind.i64.wrap (two y (y + q) i * 65536) = two y (y + q) i * 65536 := fun i hi => by
    match i, hi with
    | 0, _ => exact wrap_id (by show -9223372036854775808 ≤ y * 65536 ∧ y * 65536 ≤ 9223372036854775807; omega)
    | 1, _ => exact wrap_id (by show -9223372036854775808 ≤ (y + q) * 65536 ∧ (y + q) * 65536 ≤ 9223372036854775807; omega)
  have e1 : runMin (PX 0) PX 4 = min4 (ap (x * 65536) (y * 65536)).1 (ap ((x + p) * 65536) (y * 65536)).1 (ap (x * 65536) ((y + q) * 65536)).1 (ap ((x + p) * 65536) ((y + q) * 65536)).1 := by rw [runMin_four, px0, px1, px2, px3]
  have e2 : runMin (PY 0) PY 4 = min4 (ap (x * 65536) (y * 65536)).2 (ap ((x + p) * 65536) (y * 65536)).2 (ap (x * 65536) ((y + q) * 65536)).2 (ap ((x + p) * 65536) ((y + q) * 65536)).2 := by rw [runMin_four, py0, py1, py2, py3]
  have e3 : runMax (PX 0) PX 4 = max4 (ap (x * 65536) (y * 65536)).1 (ap ((x + p) * 65536) (y * 65536)).1 (ap (x * 65536) ((y + q) * 65536)).1 (ap ((x + p) * 65536) ((y + q) * 65536)).1 := by rw [runMax_four, px0, px1, px2, px3]
  have e4 : runMax (PY 0) PY 4 = max4 (ap (x * 65536) (y * 65536)).2 (ap ((x + p) * 65536) (y * 65536)).2 (ap (x * 65536) ((y + q) * 65536)).2 (ap ((x + p) * 65536) ((y + q) * 65536)).2 := by rw [runMax_four, py0, py1, py2, py3]
  generalize ap (x * 65536) (y * 65536) = q0 at *
  generalize ap (x * 65536) ((y + q) * 65536) = q1 at *
  generalize ap ((x + p) * 65536) (y * 65536) = q2 at *
  generalize ap ((x + p) * 65536) ((y + q) * 65536) = q3 at *
  obtain ⟨g1, g2⟩ := min4_bd2 b0.1 b2.1 b1.1 b3.1
  obtain ⟨g3, g4⟩ := min4_bd2 b0.2 b2.2 b1.2 b3.2
  have l1 := min4_le_max4 q0.1 q2.1 q1.1 q3.1
  have l2 := min4_le_max4 q0.2 q2.2 q1.2 q3.2
  generalize min4 q0.1 q2.1 q1.1 q3.1 = lx at *
  generalize max4 q0.1 q2.1 q1.1 q3.1 = mx at *
  generalize min4 q0.2 q2.2 q1.2 q3.2 = ly at *
  generalize max4 q0.2 q2.2 q1.2 q3.2 = my at *
  obtain ⟨A1, A2⟩ := clamp_wn lx mx l1
  obtain ⟨B1, B2⟩ := clamp_wn ly my l2
  have F1 := fun w => rfloor_any lx 65536 w (by omega) (by omega) (by omega) (by omega)
  have F2 := fun w => rfloor_any ly 65536 w (by omega) (by omega) (by omega) (by omega)
  have F3 := fun w => rfloor_any (-mx) 65536 w (by omega) (by omega) (by omega) (by omega)
  have F4 := fun w => rfloor_any (-my) 65536 w (by omega) (by omega) (by omega) (by omega)
  have C1 := fun w => rclamp_any (lx / 65536) (-1048576) 1048576 w
  have C2 := fun w => rclamp_any (ly / 65536) (-1048576) 1048576 w
  have C3 := fun w => rclamp_any (-(-mx / 65536)) (-1048576) 1048576 w
  have C4 := fun w => rclamp_any (-(-my / 65536)) (-1048576) 1048576 w
  have n1 : IntKind.i64.wrap (-mx) = -mx := wrap_id (by omega)
  have n2 : IntKind.i64.wrap (-my) = -my := wrap_id (by omega)
  have n3 : IntKind.i64.wrap (-(-mx / 65536)) = -(-mx / 65536) := wrap_id (by omega)
  have n4 : IntKind.i64.wrap (-(-my / 65536)) = -(-my / 65536) := wrap_id (by omega)
  have w1 : -2000000 ≤ min 1048576 (max (-(-mx / 65536)) (-1048576)) ∧ min 1048576 (max (-(-mx / 65536)) (-1048576)) ≤ 2000000 := by omega
  have w2 : -2000000 ≤ min 1048576 (max (lx / 65536) (-1048576)) ∧ min 1048576 (max (lx / 65536) (-1048576)) ≤ 2000000 := by omega
  have w3 : -2000000 ≤ min 1048576 (max (-(-my / 65536)) (-1048576)) ∧ min 1048576 (max (-(-my / 65536)) (-1048576)) ≤ 2000000 := by omega
  have w4 : -2000000 ≤ min 1048576 (max (ly / 65536) (-1048576)) ∧ min 1048576 (max (ly / 65536) (-1048576)) ≤ 2000000 := by omega
  have F1' : ∀ w, Calls Try.prog 64 #[.int .i64 (runMin (PX 0) PX 4), .int .i64 65536] w fun z w' => z = .returned (.int .i64 (lx / 65536)) ∧ ∃ n, w' = w.drewN n := by rw [e1]; exact F1
  have F2' : ∀ w, Calls Try.prog 64 #[.int .i64 (runMin (PY 0) PY 4), .int .i64 65536] w fun z w' => z = .returned (.int .i64 (ly / 65536)) ∧ ∃ n, w' = w.drewN n := by rw [e2]; exact F2
  have n1' : IntKind.i64.wrap (-runMax (PX 0) PX 4) = -mx := by rw [e3]; exact n1
  have n2' : IntKind.i64.wrap (-runMax (PY 0) PY 4) = -my := by rw [e4]; exact n2
  clear e1 e2 e3 e4 n1 n2 F1 F2
  have main := rbox_main a b c d e f p q (two x (x + p)) (two y (y + q)) (fun i => two x (x + p) i * 65536) (fun i => two y (y + q) i * 65536) PX PY (runMin (PX 0) PX) (runMin (PY 0) PY) (runMax (PX 0) PX) (runMax (PY 0) PY)
  replace main := fun r0 r1 r2 r3 tt => main (lx / 65536) (ly / 65536) (min 1048576 (max (lx / 65536) (-1048576))) (min 1048576 (max (ly / 65536) (-1048576))) (-mx) (-my) (-mx / 65536) (-my / 65536) (-(-mx / 65536)) (-(-my / 65536)) (min 1048576 (max (-(-mx / 65536)) (-1048576))) (min 1048576 (max (-(-my / 65536)) (-1048576))) r0 r1 r2 r3 w ck va em (wrap_id (by show -9223372036854775808 ≤ x + p ∧ x + p ≤ 9223372036854775807; omega)) (wrap_id (by show -9223372036854775808 ≤ y + q ∧ y + q ≤ 9223372036854775807; omega)) mX mY P0 PP rfl rfl (fun _ => rfl) (fun _ => rfl) (fun _ => rfl) (fun _ => rfl) F1' F2' C1 C2 n1' n2' F3 F4 n3 n4 C3 C4 tt
  clear F1' F2' F3 F4 C1 C2 C3 C4 n1' n2' n3 n4 PP P0 mX mY AP ck va em
  generalize min 1048576 (max (-(-mx / 65536)) (-1048576)) = cx1 at *
  generalize min 1048576 (max (lx / 65536) (-1048576)) = cx0 at *
  generalize min 1048576 (max (-(-my / 65536)) (-1048576)) = cy1 at *
  generalize min 1048576 (max (ly / 65536) (-1048576)) = cy0 at *
  unfold rectOf
  by_cases hX : wn0 lx ≥ wn1 mx
  · rw [if_pos (.inl hX)]
    exact main 0 0 0 0 (.inl ⟨(bq _ _).2 (A1.2 hX).symm, rfl, rfl, rfl, rfl⟩)
  · have ex : (cx1 == cx0) = false := beq_f fun h => hX (A1.1 h.symm)
    by_cases hY : wn0 ly ≥ wn1 my
    · rw [if_pos (.inr hY)]
      exact main 0 0 0 0 (.inr (.inl ⟨ex, (bq _ _).2 (B1.2 hY).symm, rfl, rfl, rfl, rfl⟩))
    · rw [if_neg (fun h => h.elim hX hY)]
      obtain ⟨a1, a2⟩ := A2 hX
      obtain ⟨b1', b2'⟩ := B2 hY
      rw [← a1, ← a2, ← b1', ← b2']
      exact main _ _ _ _ (.inr (.inr ⟨ex, beq_f fun h => hY (B1.1 h.symm), rfl, rfl, wrap_id (by omega), wrap_id (by omega)⟩))
/-- The reference's Box, for any transform and rectangle. -/
theorem rbox_any (a b c d e f x y p q : Int) (w : World) :
    Calls Try.prog 46 #[.agg #[.int .i64 a, .int .i64 b, .int .i64 c, .int .i64 d, .int .i64 e, .int .i64 f], .agg #[.int .i64 x, .int .i64 y, .int .i64 p, .int .i64 q]] w fun z w' =>
      z = .returned (.tuple #[.agg #[.int .i64 ((Af.mk a b c d e f).boxE ⟨x, y, p, q⟩).1.x, .int .i64 ((Af.mk a b c d e f).boxE ⟨x, y, p, q⟩).1.y, .int .i64 ((Af.mk a b c d e f).boxE ⟨x, y, p, q⟩).1.w, .int .i64 ((Af.mk a b c d e f).boxE ⟨x, y, p, q⟩).1.h], .int .i64 ((Af.mk a b c d e f).boxE ⟨x, y, p, q⟩).2]) ∧ Below w.heap.size w w' := by
  have ck := fun w => racheck_any a b c d e f w
  unfold Af.boxE
  by_cases h : (Af.mk a b c d e f).ok
  · rw [if_pos h]
    have ck' := ck
    rw [okE_ok h] at ck'
    have va := fun w => af_rvalid_any x y p q w
    by_cases hr : (Rc.mk x y p q).ok
    · rw [if_pos hr]
      by_cases hz : p = 0 ∨ q = 0
      · rw [if_pos hz]
        rw [show af_rvalid x y p q = true from (af_rvalid_iff x y p q).2 hr] at va
        have em := fun w => af_rempty_any x y p q w
        rw [show af_rempty x y p q = true by unfold af_rempty; rcases hz with rfl | rfl <;> simp] at em
        exact rbox_e3 a b c d e f x y p q w ck' va em
      · rw [if_neg hz]
        exact rbox_yes a b c d e f x y p q w h hr (fun h => hz (.inl h)) (fun h => hz (.inr h))
    · rw [if_neg hr]
      rw [af_rvalid_no hr] at va
      exact rbox_e2 a b c d e f x y p q w ck' va
  · rw [if_neg h]
    rw [okE_no h] at ck
    exact rbox_e1 a b c d e f x y p q 2 w ck rfl
/-- The program's Box, for any transform and rectangle. -/
theorem pbox_any (a b c d e f x y p q : Int) (w : World) :
    Calls Try.prog 43 #[.agg #[.int .i64 a, .int .i64 b, .int .i64 c, .int .i64 d, .int .i64 e, .int .i64 f], .agg #[.int .i64 x, .int .i64 y, .int .i64 p, .int .i64 q]] w fun z w' =>
      z = .returned (.tuple #[.agg #[.int .i64 ((Af.mk a b c d e f).boxE ⟨x, y, p, q⟩).1.x, .int .i64 ((Af.mk a b c d e f).boxE ⟨x, y, p, q⟩).1.y, .int .i64 ((Af.mk a b c d e f).boxE ⟨x, y, p, q⟩).1.w, .int .i64 ((Af.mk a b c d e f).boxE ⟨x, y, p, q⟩).1.h], .int .i64 ((Af.mk a b c d e f).boxE ⟨x, y, p, q⟩).2]) ∧ Below w.heap.size w w' := by
  have ck := fun w => acheck_any a b c d e f w
  unfold Af.boxE
  by_cases h : (Af.mk a b c d e f).ok
  · rw [if_pos h]
    have ck' := ck
    rw [okE_ok h] at ck'
    have va := fun w => af_valid_any x y p q w
    by_cases hr : (Rc.mk x y p q).ok
    · rw [if_pos hr]
      by_cases hz : p = 0 ∨ q = 0
      · rw [if_pos hz]
        have sv : (af_sideOk x p && af_sideOk y q) = true := (af_rvalid_iff x y p q).2 hr
        rw [sv] at va
        have em := fun w => af_empty_any x y p q w sv
        rw [show (p == 0 || q == 0) = true by rcases hz with rfl | rfl <;> simp] at em
        exact box_e3 a b c d e f x y p q w ck' va em
      · rw [if_neg hz]
        exact af_box_any a b c d e f x y p q w h hr (fun h => hz (.inl h)) (fun h => hz (.inr h))
    · rw [if_neg hr]
      rw [show (af_sideOk x p && af_sideOk y q) = false from af_rvalid_no hr] at va
      exact box_e2 a b c d e f x y p q w ck' va
  · rw [if_neg h]
    rw [okE_no h] at ck
    exact box_e1 a b c d e f x y p q 2 w ck rfl
end Go.Proofs.Ytineinmghajmnaa
