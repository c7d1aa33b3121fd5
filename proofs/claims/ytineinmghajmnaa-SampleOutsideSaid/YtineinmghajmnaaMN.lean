/- Contracts of package affine: Inverse and Box for every transform. -/
import Derived.Test.YtineinmghajmnaaMJ
import Derived.Test.YtineinmghajmnaaMI
import Derived.Test.YtineinmghajmnaaMH
namespace Go.Proofs.Ytineinmghajmnaa
open Go.RowKit
attribute [local go_sem 2000] run_max2m run_min2m
/-- The inverse and its error. -/
def Af.inv (a : Af) : Af × Int := if a.ok then (if a.det = 0 then (.zero, 17) else if a.inv1.ok then (if a.inv2.ok then (a.inv2, 0) else (.zero, 17)) else (.zero, 17)) else (.zero, 2)
theorem okE_ok {a : Af} (h : a.ok) : okE a = 0 := by unfold okE; rw [if_pos h]
theorem okE_no {a : Af} (h : ¬ a.ok) : okE a = 2 := by unfold okE; rw [if_neg h]
theorem det_bd {a b c d : Int} (ha : -16777216 ≤ a ∧ a ≤ 16777216) (hb : -16777216 ≤ b ∧ b ≤ 16777216) (hc : -16777216 ≤ c ∧ c ≤ 16777216) (hd : -16777216 ≤ d ∧ d ≤ 16777216) :
    (-281474976710656 ≤ a * d ∧ a * d ≤ 281474976710656) ∧ (-281474976710656 ≤ b * c ∧ b * c ≤ 281474976710656) := ⟨mul_bd ha hd, mul_bd hb hc⟩
theorem inverse_any (a b c d e f : Int) (w : World) :
    Calls Try.prog 36 #[.agg #[.int .i64 a, .int .i64 b, .int .i64 c, .int .i64 d, .int .i64 e, .int .i64 f]] w fun z w' =>
      z = .returned (.tuple #[.agg #[.int .i64 (Af.mk a b c d e f).inv.1.a, .int .i64 (Af.mk a b c d e f).inv.1.b, .int .i64 (Af.mk a b c d e f).inv.1.c, .int .i64 (Af.mk a b c d e f).inv.1.d, .int .i64 (Af.mk a b c d e f).inv.1.e, .int .i64 (Af.mk a b c d e f).inv.1.f], .int .i64 (Af.mk a b c d e f).inv.2]) ∧ Below w.heap.size w w' := by
  have ck := fun w => acheck_any a b c d e f w
  by_cases h : (Af.mk a b c d e f).ok
  · rw [okE_ok h] at ck
    obtain ⟨h1, h2, h3, h4, h5, h6⟩ := id h
    dsimp only at h1 h2 h3 h4 h5 h6
    obtain ⟨m1, m2⟩ := det_bd h1 h2 h3 h4
    by_cases hd : (Af.mk a b c d e f).det = 0
    · have e0 : (Af.mk a b c d e f).inv = (.zero, 17) := by unfold Af.inv; rw [if_pos h, if_pos hd]
      rw [e0]
      exact inv_d0 a b c d e f (a * d) (b * c) (a * d - b * c) w ck (wrap_id (by omega)) (wrap_id (by omega)) (wrap_id (by omega)) (by rw [beq_iff_eq]; exact hd)
    · have hd' : a * d - b * c ≠ 0 := hd
      have q0 := fun w => sdiv_any (d * 4294967296) (a * d - b * c) w (by omega) (by omega) hd' (by omega) (by omega)
      have q1 := fun w => sdiv_any (-b * 4294967296) (a * d - b * c) w (by omega) (by omega) hd' (by omega) (by omega)
      have q2 := fun w => sdiv_any (-c * 4294967296) (a * d - b * c) w (by omega) (by omega) hd' (by omega) (by omega)
      have q3 := fun w => sdiv_any (a * 4294967296) (a * d - b * c) w (by omega) (by omega) hd' (by omega) (by omega)
      have hi : (Af.mk a b c d e f).inv1 = ⟨sdiv (d * 4294967296) (a * d - b * c), sdiv (-b * 4294967296) (a * d - b * c), sdiv (-c * 4294967296) (a * d - b * c), sdiv (a * 4294967296) (a * d - b * c), 0, 0⟩ := rfl
      have hj : (Af.mk a b c d e f).inv2 = { (Af.mk a b c d e f).inv1 with e := dotZ (-(Af.mk a b c d e f).inv1.a) e (-(Af.mk a b c d e f).inv1.c) f, f := dotZ (-(Af.mk a b c d e f).inv1.b) e (-(Af.mk a b c d e f).inv1.d) f } := rfl
      rw [hi] at hj
      dsimp only at hj
      generalize sdiv (d * 4294967296) (a * d - b * c) = o0 at *
      generalize sdiv (-b * 4294967296) (a * d - b * c) = o1 at *
      generalize sdiv (-c * 4294967296) (a * d - b * c) = o2 at *
      generalize sdiv (a * 4294967296) (a * d - b * c) = o3 at *
      have hb0 : ((a * d - b * c) == 0) = false := by rw [beq_eq_false_iff_ne]; exact hd'
      have ck2 := fun w => acheck_any o0 o1 o2 o3 0 0 w
      by_cases ho : (Af.mk a b c d e f).inv1.ok
      · have ho' := ho
        rw [hi] at ho'
        rw [okE_ok ho'] at ck2
        obtain ⟨k1, k2, k3, k4, _, _⟩ := ho'
        dsimp only at k1 k2 k3 k4
        have p1 := fun w => dot_any (-o0) e (-o2) f w (by omega) h5 (by omega) h6
        have p2 := fun w => dot_any (-o1) e (-o3) f w (by omega) h5 (by omega) h6
        have ck3 := fun w => acheck_any o0 o1 o2 o3 (dotZ (-o0) e (-o2) f) (dotZ (-o1) e (-o3) f) w
        by_cases hp : (Af.mk a b c d e f).inv2.ok
        · have hp' := hp
          rw [hj] at hp'
          rw [okE_ok hp'] at ck3
          have e0 : (Af.mk a b c d e f).inv = ((Af.mk a b c d e f).inv2, 0) := by unfold Af.inv; rw [if_pos h, if_neg hd, if_pos ho, if_pos hp]
          rw [e0, hj]
          exact inv_ok a b c d e f (a * d) (b * c) (a * d - b * c) (-b) (-c) _ _ _ _ o0 o1 o2 o3 (-o0) (-o1) (-o2) (-o3) _ _ w ck (wrap_id (by omega)) (wrap_id (by omega)) (wrap_id (by omega)) hb0 (wrap_id (by omega)) (wrap_id (by omega)) (wrap_id (by omega)) (wrap_id (by omega)) (wrap_id (by omega)) (wrap_id (by omega)) q0 q1 q2 q3 ck2 (wrap_id (by omega)) (wrap_id (by omega)) (wrap_id (by omega)) (wrap_id (by omega)) p1 p2 ck3
        · have hp' := hp
          rw [hj] at hp'
          rw [okE_no hp'] at ck3
          have e0 : (Af.mk a b c d e f).inv = (.zero, 17) := by unfold Af.inv; rw [if_pos h, if_neg hd, if_pos ho, if_neg hp]
          rw [e0]
          exact inv_e3 a b c d e f (a * d) (b * c) (a * d - b * c) (-b) (-c) _ _ _ _ o0 o1 o2 o3 (-o0) (-o1) (-o2) (-o3) _ _ 2 w ck (wrap_id (by omega)) (wrap_id (by omega)) (wrap_id (by omega)) hb0 (wrap_id (by omega)) (wrap_id (by omega)) (wrap_id (by omega)) (wrap_id (by omega)) (wrap_id (by omega)) (wrap_id (by omega)) q0 q1 q2 q3 ck2 (wrap_id (by omega)) (wrap_id (by omega)) (wrap_id (by omega)) (wrap_id (by omega)) p1 p2 ck3 rfl
      · have ho' := ho
        rw [hi] at ho'
        rw [okE_no ho'] at ck2
        have e0 : (Af.mk a b c d e f).inv = (.zero, 17) := by unfold Af.inv; rw [if_pos h, if_neg hd, if_neg ho]
        rw [e0]
        exact inv_e2 a b c d e f (a * d) (b * c) (a * d - b * c) (-b) (-c) _ _ _ _ o0 o1 o2 o3 2 w ck (wrap_id (by omega)) (wrap_id (by omega)) (wrap_id (by omega)) hb0 (wrap_id (by omega)) (wrap_id (by omega)) (wrap_id (by omega)) (wrap_id (by omega)) (wrap_id (by omega)) (wrap_id (by omega)) q0 q1 q2 q3 ck2 rfl
  · rw [okE_no h] at ck
    have e0 : (Af.mk a b c d e f).inv = (.zero, 2) := by unfold Af.inv; rw [if_neg h]
    rw [e0]
    exact inv_e1 a b c d e f 2 w ck rfl
set_option maxHeartbeats 1000000 in
theorem within_core (lo hi nl n fl fh x y : Int) (w : World) (h1 : IntKind.i64.wrap (-hi) = nl) (FA : ∀ w, Calls Try.prog 57 #[.int .i64 lo, .int .i64 65536] w fun e w' => e = .returned (.int .i64 fl) ∧ w = w')
    (FB : ∀ w, Calls Try.prog 57 #[.int .i64 nl, .int .i64 65536] w fun e w' => e = .returned (.int .i64 fh) ∧ w = w') (h2 : IntKind.i64.wrap (-fh) = n) (h3 : max fl (-1048576) = x) (h4 : min n 1048576 = y) :
    Calls Try.prog 78 #[.int .i64 lo, .int .i64 hi] w fun z w' => z = .returned (.tuple #[.int .i64 x, .int .i64 y]) ∧ w = w' := by
  replace FA := Lib.hid FA; replace FB := Lib.hid FB
  go_enter Try.func78, Try.ntmps78
  go_wp2_with ((go_at_call 57; (first | with_reducible refine (FA.out _).mono ?_ | with_reducible refine (FB.out _).mono ?_); rintro e w' ⟨rfl, rfl⟩))
  refine bodyPost_ret (v := .tuple #[.int .i64 x, .int .i64 y]) (by simp [results, Try.results78, go_sem]) rfl ⟨rfl, rfl⟩
theorem af_within_any (lo hi : Int) (w : World) (hl : -1099511627776 ≤ lo ∧ lo ≤ 1099511627776) (hh : -1099511627776 ≤ hi ∧ hi ≤ 1099511627776) :
    Calls Try.prog 78 #[.int .i64 lo, .int .i64 hi] w fun z w' => z = .returned (.tuple #[.int .i64 (wn0 lo), .int .i64 (wn1 hi)]) ∧ w = w' :=
  within_core lo hi (-hi) _ _ _ _ _ w (wrap_id (by omega)) (fun w => floor_any lo 65536 w (by omega) (by omega) (by omega) (by omega)) (fun w => floor_any (-hi) 65536 w (by omega) (by omega) (by omega) (by omega)) (wrap_id (by omega)) rfl rfl
theorem nest_min (a b c d : Int) : min a (min b (min c d)) = min4 a b c d := by unfold min4; omega
theorem nest_max (a b c d : Int) : max a (max b (max c d)) = max4 a b c d := by unfold max4; omega
theorem sideOk_iff (x w : Int) : af_sideOk x w = true ↔ ((-1048576 ≤ x ∧ x ≤ 1048576) ∧ 0 ≤ w ∧ w ≤ 1048576 - x) := by unfold af_sideOk; rw [decide_eq_true_iff]
theorem app_bd (a : Af) (x y : Int) : (-1099511627776 ≤ (a.app x y).1 ∧ (a.app x y).1 ≤ 1099511627776) ∧ (-1099511627776 ≤ (a.app x y).2 ∧ (a.app x y).2 ≤ 1099511627776) := ⟨far_bd _, far_bd _⟩
theorem min4_bd {a b c d K : Int} (ha : -K ≤ a ∧ a ≤ K) (hb : -K ≤ b ∧ b ≤ K) (hc : -K ≤ c ∧ c ≤ K) (hd : -K ≤ d ∧ d ≤ K) : (-K ≤ min4 a b c d ∧ min4 a b c d ≤ K) ∧ (-K ≤ max4 a b c d ∧ max4 a b c d ≤ K) := by unfold min4 max4; omega
theorem wn_bd (x : Int) (h : -1099511627776 ≤ x ∧ x ≤ 1099511627776) : (-1048576 ≤ wn0 x ∧ wn0 x ≤ 16777216) ∧ (-16777216 ≤ wn1 x ∧ wn1 x ≤ 1048576) := by unfold wn0 wn1; omega
theorem af_box_any (a b c d e f x y p q : Int) (w : World) (hok : (Af.mk a b c d e f).ok) (hv : (Rc.mk x y p q).ok) (hp : p ≠ 0) (hq : q ≠ 0) :
    Calls Try.prog 43 #[.agg #[.int .i64 a, .int .i64 b, .int .i64 c, .int .i64 d, .int .i64 e, .int .i64 f], .agg #[.int .i64 x, .int .i64 y, .int .i64 p, .int .i64 q]] w fun z w' =>
      z = .returned (.tuple #[.agg #[.int .i64 ((Af.mk a b c d e f).corners ⟨x, y, p, q⟩).x, .int .i64 ((Af.mk a b c d e f).corners ⟨x, y, p, q⟩).y, .int .i64 ((Af.mk a b c d e f).corners ⟨x, y, p, q⟩).w, .int .i64 ((Af.mk a b c d e f).corners ⟨x, y, p, q⟩).h], .int .i64 0]) ∧ Below w.heap.size w w' := by
  have ck := fun w => acheck_any a b c d e f w
  rw [okE_ok hok] at ck
  obtain ⟨hx, hy⟩ := hv
  dsimp only at hx hy
  have sv : (af_sideOk x p && af_sideOk y q) = true := by rw [Bool.and_eq_true, sideOk_iff, sideOk_iff]; exact ⟨hx, hy⟩
  have va := fun w => af_valid_any x y p q w
  rw [sv] at va
  have em := fun w => af_empty_any x y p q w sv
  rw [show (p == 0 || q == 0) = false by rw [beq_f hp, beq_f hq]; rfl] at em
  have P0 := fun w => apply_any a b c d e f (x * 65536) (y * 65536) w
  have P1 := fun w => apply_any a b c d e f ((x + p) * 65536) (y * 65536) w
  have P2 := fun w => apply_any a b c d e f (x * 65536) ((y + q) * 65536) w
  have P3 := fun w => apply_any a b c d e f ((x + p) * 65536) ((y + q) * 65536) w
  have B0 := app_bd (Af.mk a b c d e f) (x * 65536) (y * 65536)
  have B1 := app_bd (Af.mk a b c d e f) ((x + p) * 65536) (y * 65536)
  have B2 := app_bd (Af.mk a b c d e f) (x * 65536) ((y + q) * 65536)
  have B3 := app_bd (Af.mk a b c d e f) ((x + p) * 65536) ((y + q) * 65536)
  unfold Af.corners af_box4
  generalize (Af.mk a b c d e f).app (x * 65536) (y * 65536) = p0 at *
  generalize (Af.mk a b c d e f).app ((x + p) * 65536) (y * 65536) = p1 at *
  generalize (Af.mk a b c d e f).app (x * 65536) ((y + q) * 65536) = p2 at *
  generalize (Af.mk a b c d e f).app ((x + p) * 65536) ((y + q) * 65536) = p3 at *
  obtain ⟨mx1, mx2⟩ := min4_bd B0.1 B1.1 B2.1 B3.1
  obtain ⟨my1, my2⟩ := min4_bd B0.2 B1.2 B2.2 B3.2
  have WX := fun w => af_within_any (min4 p0.1 p1.1 p2.1 p3.1) (max4 p0.1 p1.1 p2.1 p3.1) w mx1 mx2
  have WY := fun w => af_within_any (min4 p0.2 p1.2 p2.2 p3.2) (max4 p0.2 p1.2 p2.2 p3.2) w my1 my2
  have b1 := wn_bd _ mx1; have b2 := wn_bd _ mx2; have b3 := wn_bd _ my1; have b4 := wn_bd _ my2
  simp only [← nest_min, ← nest_max] at WX WY b1 b2 b3 b4 ⊢
  unfold rectOf
  by_cases hE : wn0 (min p0.1 (min p1.1 (min p2.1 p3.1))) ≥ wn1 (max p0.1 (max p1.1 (max p2.1 p3.1))) ∨ wn0 (min p0.2 (min p1.2 (min p2.2 p3.2))) ≥ wn1 (max p0.2 (max p1.2 (max p2.2 p3.2)))
  · rw [if_pos hE]
    refine box_no a b c d e f x y p q (x * 65536) (y * 65536) (x + p) ((x + p) * 65536) (y + q) ((y + q) * 65536) _ _ _ _ _ _ _ _ _ _ _ _ w ck va em (wrap_id (by omega)) (wrap_id (by omega)) (wrap_id (by omega)) (wrap_id (by omega)) (wrap_id (by omega)) (wrap_id (by omega)) P0 P1 P2 P3 WX WY ?_
    by_cases hc : wn0 (min p0.1 (min p1.1 (min p2.1 p3.1))) ≥ wn1 (max p0.1 (max p1.1 (max p2.1 p3.1)))
    · exact .inl (decide_eq_true hc)
    · exact .inr ⟨decide_eq_false hc, decide_eq_true (hE.resolve_left hc)⟩
  · rw [if_neg hE]
    have W1 : -9223372036854775808 ≤ wn1 (max p0.1 (max p1.1 (max p2.1 p3.1))) - wn0 (min p0.1 (min p1.1 (min p2.1 p3.1))) ∧ wn1 (max p0.1 (max p1.1 (max p2.1 p3.1))) - wn0 (min p0.1 (min p1.1 (min p2.1 p3.1))) ≤ 9223372036854775807 := by omega
    have W2 : -9223372036854775808 ≤ wn1 (max p0.2 (max p1.2 (max p2.2 p3.2))) - wn0 (min p0.2 (min p1.2 (min p2.2 p3.2))) ∧ wn1 (max p0.2 (max p1.2 (max p2.2 p3.2))) - wn0 (min p0.2 (min p1.2 (min p2.2 p3.2))) ≤ 9223372036854775807 := by omega
    exact box_ok a b c d e f x y p q (x * 65536) (y * 65536) (x + p) ((x + p) * 65536) (y + q) ((y + q) * 65536) _ _ _ _ _ _ _ _ _ _ _ _ _ _ w ck va em (wrap_id (by omega)) (wrap_id (by omega)) (wrap_id (by omega)) (wrap_id (by omega)) (wrap_id (by omega)) (wrap_id (by omega)) P0 P1 P2 P3 WX WY (decide_eq_false fun h => hE (.inl h)) (decide_eq_false fun h => hE (.inr h)) (wrap_id W1) (wrap_id W2)
end Go.Proofs.Ytineinmghajmnaa
