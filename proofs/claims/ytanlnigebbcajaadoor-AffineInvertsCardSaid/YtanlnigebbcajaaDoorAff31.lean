/- The reference's Inverse: one contract. -/
import Derived.Test.YtanlnigebbcajaaDoorAff27
import Derived.Test.YtanlnigebbcajaaDoorAff30
namespace Go.Proofs.YtanlnigebbcajaaDoor
open Go.RowKit
theorem tobel {f : FuncId} {args : Array Value} {w : World} {x : Ending} (h : Calls Tryd.prog f args w fun e w' => e = x ∧ ∃ n, w' = w.drewN n) : Calls Tryd.prog f args w fun e w' => e = x ∧ Below w.heap.size w w' :=
  h.mono fun _ _ ⟨h1, n, h2⟩ => ⟨h1, h2 ▸ Below.drewN' (Below.refl _ _) n⟩
set_option maxHeartbeats 1000000 in
theorem rinverse_any (a b c d e f : Int) (w : World) :
    Calls Tryd.prog 27 #[.agg #[.int .i64 a, .int .i64 b, .int .i64 c, .int .i64 d, .int .i64 e, .int .i64 f]] w fun z w' =>
      z = .returned (.tuple #[.agg #[.int .i64 (Af.mk a b c d e f).inv.1.a, .int .i64 (Af.mk a b c d e f).inv.1.b, .int .i64 (Af.mk a b c d e f).inv.1.c, .int .i64 (Af.mk a b c d e f).inv.1.d, .int .i64 (Af.mk a b c d e f).inv.1.e, .int .i64 (Af.mk a b c d e f).inv.1.f], .int .i64 (Af.mk a b c d e f).inv.2]) ∧ Below w.heap.size w w' := by
  have ck := fun w => racheck_any a b c d e f w
  by_cases h : (Af.mk a b c d e f).ok
  · rw [okE_ok h] at ck
    obtain ⟨h1, h2, h3, h4, h5, h6⟩ := id h
    dsimp only at h1 h2 h3 h4 h5 h6
    obtain ⟨m1, m2⟩ := det_bd h1 h2 h3 h4
    by_cases hd : (Af.mk a b c d e f).det = 0
    · have e0 : (Af.mk a b c d e f).inv = (.zero, 17) := by unfold Af.inv; rw [if_pos h, if_pos hd]
      rw [e0]
      exact rinv_d0 a b c d e f (a * d) (b * c) (a * d - b * c) w ck (wrap_id (by omega)) (wrap_id (by omega)) (wrap_id (by omega)) (by rw [beq_iff_eq]; exact hd)
    · have hd' : a * d - b * c ≠ 0 := hd
      have q0 := fun w => tobel (rsdiv_any (d * 4294967296) (a * d - b * c) w (by omega) (by omega) hd' (by omega) (by omega))
      have q1 := fun w => tobel (rsdiv_any (-b * 4294967296) (a * d - b * c) w (by omega) (by omega) hd' (by omega) (by omega))
      have q2 := fun w => tobel (rsdiv_any (-c * 4294967296) (a * d - b * c) w (by omega) (by omega) hd' (by omega) (by omega))
      have q3 := fun w => tobel (rsdiv_any (a * 4294967296) (a * d - b * c) w (by omega) (by omega) hd' (by omega) (by omega))
      have hi : (Af.mk a b c d e f).inv1 = ⟨sdiv (d * 4294967296) (a * d - b * c), sdiv (-b * 4294967296) (a * d - b * c), sdiv (-c * 4294967296) (a * d - b * c), sdiv (a * 4294967296) (a * d - b * c), 0, 0⟩ := rfl
      have hj : (Af.mk a b c d e f).inv2 = { (Af.mk a b c d e f).inv1 with e := dotZ (-(Af.mk a b c d e f).inv1.a) e (-(Af.mk a b c d e f).inv1.c) f, f := dotZ (-(Af.mk a b c d e f).inv1.b) e (-(Af.mk a b c d e f).inv1.d) f } := rfl
      rw [hi] at hj
      dsimp only at hj
      generalize sdiv (d * 4294967296) (a * d - b * c) = o0 at *
      generalize sdiv (-b * 4294967296) (a * d - b * c) = o1 at *
      generalize sdiv (-c * 4294967296) (a * d - b * c) = o2 at *
      generalize sdiv (a * 4294967296) (a * d - b * c) = o3 at *
      have hb0 : ((a * d - b * c) == 0) = false := by rw [beq_eq_false_iff_ne]; exact hd'
      have ck2 := fun w => racheck_any o0 o1 o2 o3 0 0 w
      by_cases ho : (Af.mk a b c d e f).inv1.ok
      · have ho' := ho
        rw [hi] at ho'
        rw [okE_ok ho'] at ck2
        obtain ⟨k1, k2, k3, k4, _, _⟩ := ho'
        dsimp only at k1 k2 k3 k4
        have p1 := fun w => line_any (-o0) (-o2) e f w (by omega) h5 (by omega) h6
        have p2 := fun w => line_any (-o1) (-o3) e f w (by omega) h5 (by omega) h6
        have ck3 := fun w => racheck_any o0 o1 o2 o3 (dotZ (-o0) e (-o2) f) (dotZ (-o1) e (-o3) f) w
        by_cases hp : (Af.mk a b c d e f).inv2.ok
        · have hp' := hp
          rw [hj] at hp'
          rw [okE_ok hp'] at ck3
          have e0 : (Af.mk a b c d e f).inv = ((Af.mk a b c d e f).inv2, 0) := by unfold Af.inv; rw [if_pos h, if_neg hd, if_pos ho, if_pos hp]
          rw [e0, hj]
          exact rinv_ok a b c d e f (a * d) (b * c) (a * d - b * c) (-b) (-c) _ _ _ _ o0 o1 o2 o3 (-o0) (-o1) (-o2) (-o3) _ _ w ck (wrap_id (by omega)) (wrap_id (by omega)) (wrap_id (by omega)) hb0 (wrap_id (by omega)) (wrap_id (by omega)) (wrap_id (by omega)) (wrap_id (by omega)) (wrap_id (by omega)) (wrap_id (by omega)) q0 q1 q2 q3 ck2 (wrap_id (by omega)) (wrap_id (by omega)) (wrap_id (by omega)) (wrap_id (by omega)) p1 p2 ck3
        · have hp' := hp
          rw [hj] at hp'
          rw [okE_no hp'] at ck3
          have e0 : (Af.mk a b c d e f).inv = (.zero, 17) := by unfold Af.inv; rw [if_pos h, if_neg hd, if_pos ho, if_neg hp]
          rw [e0]
          exact rinv_e3 a b c d e f (a * d) (b * c) (a * d - b * c) (-b) (-c) _ _ _ _ o0 o1 o2 o3 (-o0) (-o1) (-o2) (-o3) _ _ 2 w ck (wrap_id (by omega)) (wrap_id (by omega)) (wrap_id (by omega)) hb0 (wrap_id (by omega)) (wrap_id (by omega)) (wrap_id (by omega)) (wrap_id (by omega)) (wrap_id (by omega)) (wrap_id (by omega)) q0 q1 q2 q3 ck2 (wrap_id (by omega)) (wrap_id (by omega)) (wrap_id (by omega)) (wrap_id (by omega)) p1 p2 ck3 rfl
      · have ho' := ho
        rw [hi] at ho'
        rw [okE_no ho'] at ck2
        have e0 : (Af.mk a b c d e f).inv = (.zero, 17) := by unfold Af.inv; rw [if_pos h, if_neg hd, if_neg ho]
        rw [e0]
        exact rinv_e2 a b c d e f (a * d) (b * c) (a * d - b * c) (-b) (-c) _ _ _ _ o0 o1 o2 o3 2 w ck (wrap_id (by omega)) (wrap_id (by omega)) (wrap_id (by omega)) hb0 (wrap_id (by omega)) (wrap_id (by omega)) (wrap_id (by omega)) (wrap_id (by omega)) (wrap_id (by omega)) (wrap_id (by omega)) q0 q1 q2 q3 ck2 rfl
  · rw [okE_no h] at ck
    have e0 : (Af.mk a b c d e f).inv = (.zero, 2) := by unfold Af.inv; rw [if_neg h]
    rw [e0]
    exact rinv_e1 a b c d e f 2 w ck rfl
end Go.Proofs.YtanlnigebbcajaaDoor
