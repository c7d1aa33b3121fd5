/- Contract of the reference of package affine: Then. -/
import Derived.Test.YtanlnigebbcajaaDoorAff6
namespace Go.Proofs.YtanlnigebbcajaaDoor
open Go.RowKit
attribute [local go_sem 2000] run_max2m run_min2m
set_option maxRecDepth 100000 in
set_option maxHeartbeats 16000000 in
theorem rthen_any_core (a b c d e f a' b' c' d' e' f' p0 p1 p2 p3 p4 p5 q0 q1 q2 q3 q4 q5 u v t0 t1 t2 t3 R0 R1 R2 R3 : Int) (w : World)
    (L1 : ∀ w, Calls Tryd.prog 33 #[.agg #[.int .i64 a, .int .i64 b, .int .i64 c, .int .i64 d, .int .i64 e, .int .i64 f]] w fun z w' => z = .returned (.agg #[.int .i64 p0, .int .i64 p1, .int .i64 p2, .int .i64 p3, .int .i64 p4, .int .i64 p5]) ∧ Below w.heap.size w w')
    (L2 : ∀ w, Calls Tryd.prog 33 #[.agg #[.int .i64 a', .int .i64 b', .int .i64 c', .int .i64 d', .int .i64 e', .int .i64 f']] w fun z w' => z = .returned (.agg #[.int .i64 q0, .int .i64 q1, .int .i64 q2, .int .i64 q3, .int .i64 q4, .int .i64 q5]) ∧ Below w.heap.size w w')
    (AP : ∀ w, Calls Tryd.prog 14 #[.agg #[.int .i64 q0, .int .i64 q1, .int .i64 q2, .int .i64 q3, .int .i64 q4, .int .i64 q5], .agg #[.int .i64 p4, .int .i64 p5]] w fun z w' => z = .returned (.agg #[.int .i64 u, .int .i64 v]) ∧ Below w.heap.size w w')
    (D0 : ∀ w, Calls Tryd.prog 37 #[.int .i64 q0, .int .i64 q2, .int .i64 p0, .int .i64 p1] w fun z w' => z = .returned (.int .i64 t0) ∧ ∃ k, w' = w.drewN k)
    (D1 : ∀ w, Calls Tryd.prog 37 #[.int .i64 q1, .int .i64 q3, .int .i64 p0, .int .i64 p1] w fun z w' => z = .returned (.int .i64 t1) ∧ ∃ k, w' = w.drewN k)
    (D2 : ∀ w, Calls Tryd.prog 37 #[.int .i64 q0, .int .i64 q2, .int .i64 p2, .int .i64 p3] w fun z w' => z = .returned (.int .i64 t2) ∧ ∃ k, w' = w.drewN k)
    (D3 : ∀ w, Calls Tryd.prog 37 #[.int .i64 q1, .int .i64 q3, .int .i64 p2, .int .i64 p3] w fun z w' => z = .returned (.int .i64 t3) ∧ ∃ k, w' = w.drewN k)
    (C0 : ∀ w, Calls Tryd.prog 41 #[.int .i64 t0] w fun z w' => z = .returned (.int .i64 R0) ∧ w = w')
    (C1 : ∀ w, Calls Tryd.prog 41 #[.int .i64 t1] w fun z w' => z = .returned (.int .i64 R1) ∧ w = w')
    (C2 : ∀ w, Calls Tryd.prog 41 #[.int .i64 t2] w fun z w' => z = .returned (.int .i64 R2) ∧ w = w')
    (C3 : ∀ w, Calls Tryd.prog 41 #[.int .i64 t3] w fun z w' => z = .returned (.int .i64 R3) ∧ w = w')
    : Calls Tryd.prog 25 #[.agg #[.int .i64 a, .int .i64 b, .int .i64 c, .int .i64 d, .int .i64 e, .int .i64 f], .agg #[.int .i64 a', .int .i64 b', .int .i64 c', .int .i64 d', .int .i64 e', .int .i64 f']] w fun z w' => z = .returned (.agg #[.int .i64 R0, .int .i64 R1, .int .i64 R2, .int .i64 R3, .int .i64 u, .int .i64 v]) ∧ Below w.heap.size w w' := by
  replace L1 := Lib.hid L1
  replace L2 := Lib.hid L2
  replace AP := Lib.hid AP
  replace D0 := Lib.hid D0
  replace D1 := Lib.hid D1
  replace D2 := Lib.hid D2
  replace D3 := Lib.hid D3
  replace C0 := Lib.hid C0
  replace C1 := Lib.hid C1
  replace C2 := Lib.hid C2
  replace C3 := Lib.hid C3
  go_enter Tryd.func25, Tryd.ntmps25
  go_upto_region 1 with fail
  obtain ⟨k1, k2, k3, hB⟩ := thn_boxes w a b c d e f a' b' c' d' e' f' _ rfl
  generalize World.alloc (World.alloc (w.alloc _) _) _ = wb at *
  go_cut [] (ThMid p0 p1 p2 p3 p4 p5 q0 q1 q2 q3 q4 q5 w)
  case first =>
    have K1 := Lib.hid k1.drew; have K2 := Lib.hid k2.drew; have K3 := Lib.hid k3.drew; have KB := Lib.hid hB.drew
    obtain ⟨⟨c0, c1, c2, c3, c4, c5⟩, f0, f1, f2, f3, f4, f5⟩ := k1.six
    obtain ⟨⟨d0, d1, d2, d3, d4, d5⟩, g0, g1, g2, g3, g4, g5⟩ := k2.six
    clear k1 k2 k3 hB AP D0 D1 D2 D3 C0 C1 C2 C3
    go_region_with (go_at_call 33; (first | with_reducible refine (L1.out _).mono ?_ | with_reducible refine (L2.out _).mono ?_); rintro z w4 ⟨rfl, hbw4⟩; replace K1 := Lib.hid (K1.out.below hbw4); replace K2 := Lib.hid (K2.out.below hbw4); replace K3 := Lib.hid (K3.out.below hbw4); replace KB := Lib.hid (bel_trans KB.out hbw4); clear hbw4 c0 c1 c2 c3 c4 c5 f0 f1 f2 f3 f4 f5 d0 d1 d2 d3 d4 d5 g0 g1 g2 g3 g4 g5; obtain ⟨⟨c0, c1, c2, c3, c4, c5⟩, f0, f1, f2, f3, f4, f5⟩ := K1.out.six; obtain ⟨⟨d0, d1, d2, d3, d4, d5⟩, g0, g1, g2, g3, g4, g5⟩ := K2.out.six)
    all_goals
      go_wp2_with fail
      go_meet
      exact ⟨set6_other (set6_bx K1.out (.int .i64 p0) (.int .i64 p1) (.int .i64 p2) (.int .i64 p3) (.int .i64 p4) (.int .i64 p5)) (by omega) (.int .i64 q0) (.int .i64 q1) (.int .i64 q2) (.int .i64 q3) (.int .i64 q4) (.int .i64 q5), set6_bx (set6_other K2.out (by omega) (.int .i64 p0) (.int .i64 p1) (.int .i64 p2) (.int .i64 p3) (.int .i64 p4) (.int .i64 p5)) (.int .i64 q0) (.int .i64 q1) (.int .i64 q2) (.int .i64 q3) (.int .i64 q4) (.int .i64 q5), set6_other (set6_other K3.out (by omega) (.int .i64 p0) (.int .i64 p1) (.int .i64 p2) (.int .i64 p3) (.int .i64 p4) (.int .i64 p5)) (by omega) (.int .i64 q0) (.int .i64 q1) (.int .i64 q2) (.int .i64 q3) (.int .i64 q4) (.int .i64 q5), set6_below (set6_below KB.out (Nat.le_refl _) (.int .i64 p0) (.int .i64 p1) (.int .i64 p2) (.int .i64 p3) (.int .i64 p4) (.int .i64 p5)) (by omega) (.int .i64 q0) (.int .i64 q1) (.int .i64 q2) (.int .i64 q3) (.int .i64 q4) (.int .i64 q5)⟩
  case rest =>
    clear k1 k2 k3 hB L1 L2
    obtain ⟨X1, X2, X3, XB⟩ := hcut
    replace X1 := Lib.hid X1; replace X2 := Lib.hid X2; replace X3 := Lib.hid X3; replace XB := Lib.hid XB
    obtain ⟨⟨c0, c1, c2, c3, c4, c5⟩, f0, f1, f2, f3, f4, f5⟩ := X1.out.six
    obtain ⟨⟨d0, d1, d2, d3, d4, d5⟩, g0, g1, g2, g3, g4, g5⟩ := X2.out.six
    go_wp2_with fail
    clear c0 c1 c2 c3 c4 c5 f0 f1 f2 f3 f4 f5 d0 d1 d2 d3 d4 d5 g0 g1 g2 g3 g4 g5
    refine (AP.out _).mono ?_
    rintro z w5 ⟨rfl, hb5⟩
    replace X1 := Lib.hid (X1.out.below hb5); replace X2 := Lib.hid (X2.out.below hb5); replace X3 := Lib.hid (X3.out.below hb5); replace XB := Lib.hid (bel_trans XB.out hb5)
    clear hb5 AP
    have X4 := Lib.hid (Bx.new w5 25 #[.int .i64 u, .int .i64 v])
    have hg := X3.out.lt
    replace X1 := Lib.hid (X1.out.alloc (.cells #[.int .i64 u, .int .i64 v] 25)); replace X2 := Lib.hid (X2.out.alloc (.cells #[.int .i64 u, .int .i64 v] 25)); replace X3 := Lib.hid (X3.out.alloc (.cells #[.int .i64 u, .int .i64 v] 25)); replace XB := Lib.hid (bel_alloc XB.out (.cells #[.int .i64 u, .int .i64 v] 25))
    go_upto_region 3 with fail
    generalize World.alloc w5 _ = Y at *
    generalize w5.heap.size = g at *
    obtain ⟨⟨c0, c1, c2, c3, j1, j2⟩, j3, j4, j5, j6, j7, j8⟩ := X1.out.six
    clear j1 j2 j3 j4 j5 j6 j7 j8
    obtain ⟨⟨d0, d1, d2, d3, j1, j2⟩, j3, j4, j5, j6, j7, j8⟩ := X2.out.six
    clear j1 j2 j3 j4 j5 j6 j7 j8
    obtain ⟨⟨g0, g1⟩, j1, j2⟩ := X4.out.two
    clear j1 j2 X1 X2 X4
    obtain ⟨⟨r0, r1, r2, r3, r4, r5⟩, s0, s1, s2, s3, s4, s5⟩ := X3.out.six
    replace r0 := cv_ok r0; replace r1 := cv_ok r1; replace r2 := cv_ok r2; replace r3 := cv_ok r3; replace r4 := cv_ok r4; replace r5 := cv_ok r5
    have q0' : ∀ k j, cv (Y.drewN k) (w.heap.size + 1 + 1) j = cv Y (w.heap.size + 1 + 1) j := fun _ _ => rfl
    have q1' : ∀ j, cv Y.drew (w.heap.size + 1 + 1) j = cv Y (w.heap.size + 1 + 1) j := fun _ => rfl
    have HC := Lib.hid (And.intro c0 (And.intro c1 (And.intro c2 (And.intro c3 (And.intro d0 (And.intro d1 (And.intro d2 (And.intro d3 (And.intro g0 (And.intro g1 (And.intro r0 (And.intro r1 (And.intro r2 (And.intro r3 (And.intro r4 (And.intro r5 (And.intro s0 (And.intro s1 (And.intro s2 (And.intro s3 (And.intro s4 (s5))))))))))))))))))))))
    have n1 : w.heap.size + 1 + 1 ≠ w.heap.size := by omega
    have n2 : w.heap.size + 1 + 1 ≠ w.heap.size + 1 := by omega
    have n3 : w.heap.size + 1 + 1 ≠ g := by omega
    have N1 := Lib.hid n1; have N2 := Lib.hid n2; have N3 := Lib.hid n3; clear n1 n2 n3 hg
    go_wp2_with fail
    go_region_held3 (fun w' => w'.cell? ⟨w.heap.size, 0, none⟩ = some (.int .i64 p0) ∧ w'.cell? ⟨w.heap.size, 1, none⟩ = some (.int .i64 p1) ∧ w'.cell? ⟨w.heap.size, 2, none⟩ = some (.int .i64 p2) ∧ w'.cell? ⟨w.heap.size, 3, none⟩ = some (.int .i64 p3) ∧ w'.cell? ⟨w.heap.size + 1, 0, none⟩ = some (.int .i64 q0) ∧ w'.cell? ⟨w.heap.size + 1, 1, none⟩ = some (.int .i64 q1) ∧ w'.cell? ⟨w.heap.size + 1, 2, none⟩ = some (.int .i64 q2) ∧ w'.cell? ⟨w.heap.size + 1, 3, none⟩ = some (.int .i64 q3) ∧ w'.cell? ⟨g, 0, none⟩ = some (.int .i64 u) ∧ w'.cell? ⟨g, 1, none⟩ = some (.int .i64 v) ∧ w'.cell? ⟨w.heap.size + 1 + 1, 0, none⟩ = some (cv w' (w.heap.size + 1 + 1) 0) ∧ w'.cell? ⟨w.heap.size + 1 + 1, 1, none⟩ = some (cv w' (w.heap.size + 1 + 1) 1) ∧ w'.cell? ⟨w.heap.size + 1 + 1, 2, none⟩ = some (cv w' (w.heap.size + 1 + 1) 2) ∧ w'.cell? ⟨w.heap.size + 1 + 1, 3, none⟩ = some (cv w' (w.heap.size + 1 + 1) 3) ∧ w'.cell? ⟨w.heap.size + 1 + 1, 4, none⟩ = some (cv w' (w.heap.size + 1 + 1) 4) ∧ w'.cell? ⟨w.heap.size + 1 + 1, 5, none⟩ = some (cv w' (w.heap.size + 1 + 1) 5) ∧ w'.frozen? ⟨w.heap.size + 1 + 1, 0, none⟩ = false ∧ w'.frozen? ⟨w.heap.size + 1 + 1, 1, none⟩ = false ∧ w'.frozen? ⟨w.heap.size + 1 + 1, 2, none⟩ = false ∧ w'.frozen? ⟨w.heap.size + 1 + 1, 3, none⟩ = false ∧ w'.frozen? ⟨w.heap.size + 1 + 1, 4, none⟩ = false ∧ w'.frozen? ⟨w.heap.size + 1 + 1, 5, none⟩ = false)
      (first | (with_reducible exact th_store0 N1.out N2.out N3.out _ _ _ _ _ _ HC) | (with_reducible exact th_storeN N1.out N2.out N3.out _ _ _ _ _ _ _ HC) | go_keep)
      (first | (go_at_call 41; (first | with_reducible refine (C0.out _).mono ?_ | with_reducible refine (C1.out _).mono ?_ | with_reducible refine (C2.out _).mono ?_ | with_reducible refine (C3.out _).mono ?_); rintro z w6 ⟨rfl, rfl⟩) | (go_at_call 37; (first | with_reducible refine (D0.out _).mono ?_ | with_reducible refine (D1.out _).mono ?_ | with_reducible refine (D2.out _).mono ?_ | with_reducible refine (D3.out _).mono ?_); rintro z w6 ⟨rfl, kk, rfl⟩))
    go_wp2_with fail
    refine bodyPost_ret (v := .agg #[.int .i64 R0, .int .i64 R1, .int .i64 R2, .int .i64 R3, .int .i64 u, .int .i64 v]) (by simp [results, Tryd.results25, go_sem, r0, r1, r2, r3, r4, r5]) rfl ⟨rfl, ?_⟩
    repeat' (first | with_reducible exact XB.out | with_reducible apply Below.drew | with_reducible apply Below.drewN' | with_reducible apply Below.setCell)
    all_goals (show w.heap.size ≤ w.heap.size + 1 + 1; omega)
theorem rthen_any (a b c d e f a' b' c' d' e' f' : Int) (w : World) :
    Calls Tryd.prog 25 #[.agg #[.int .i64 a, .int .i64 b, .int .i64 c, .int .i64 d, .int .i64 e, .int .i64 f], .agg #[.int .i64 a', .int .i64 b', .int .i64 c', .int .i64 d', .int .i64 e', .int .i64 f']] w fun z w' => z = .returned (.agg #[.int .i64 ((Af.mk a b c d e f).thn (Af.mk a' b' c' d' e' f')).a, .int .i64 ((Af.mk a b c d e f).thn (Af.mk a' b' c' d' e' f')).b, .int .i64 ((Af.mk a b c d e f).thn (Af.mk a' b' c' d' e' f')).c, .int .i64 ((Af.mk a b c d e f).thn (Af.mk a' b' c' d' e' f')).d, .int .i64 ((Af.mk a b c d e f).thn (Af.mk a' b' c' d' e' f')).e, .int .i64 ((Af.mk a b c d e f).thn (Af.mk a' b' c' d' e' f')).f]) ∧ Below w.heap.size w w' := by
  have ap := fun w => rapply_any (coef a') (coef b') (coef c') (coef d') (far e') (far f') (far e) (far f) w
  rw [show (Af.mk (coef a') (coef b') (coef c') (coef d') (far e') (far f')) = Af.lim (Af.mk a' b' c' d' e' f') from rfl, Af.app_lim] at ap
  have bp0 := coef_bd a
  have bp1 := coef_bd b
  have bp2 := coef_bd c
  have bp3 := coef_bd d
  have bp4 := far_bd e
  have bp5 := far_bd f
  have bq0 := coef_bd a'
  have bq1 := coef_bd b'
  have bq2 := coef_bd c'
  have bq3 := coef_bd d'
  have bq4 := far_bd e'
  have bq5 := far_bd f'
  exact rthen_any_core a b c d e f a' b' c' d' e' f' (coef a) (coef b) (coef c) (coef d) (far e) (far f) (coef a') (coef b') (coef c') (coef d') (far e') (far f') _ _ _ _ _ _ _ _ _ _ w (rlimited_any a b c d e f) (rlimited_any a' b' c' d' e' f') ap (fun w => line_any (coef a') (coef c') (coef a) (coef b) w (by omega) (by omega) (by omega) (by omega)) (fun w => line_any (coef b') (coef d') (coef a) (coef b) w (by omega) (by omega) (by omega) (by omega)) (fun w => line_any (coef a') (coef c') (coef c) (coef d) w (by omega) (by omega) (by omega) (by omega)) (fun w => line_any (coef b') (coef d') (coef c) (coef d) w (by omega) (by omega) (by omega) (by omega)) (fun w => rcoef_any _ w) (fun w => rcoef_any _ w) (fun w => rcoef_any _ w) (fun w => rcoef_any _ w)
end Go.Proofs.YtanlnigebbcajaaDoor
