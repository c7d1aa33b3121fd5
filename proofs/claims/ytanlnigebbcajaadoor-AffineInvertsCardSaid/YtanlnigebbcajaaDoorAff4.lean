/- Contracts of the reference of package affine: Apply. -/
import Derived.Test.YtanlnigebbcajaaDoorAff3
namespace Go.Proofs.YtanlnigebbcajaaDoor
open Go.RowKit
attribute [local go_sem 2000] run_max2m run_min2m

set_option maxRecDepth 100000 in
set_option maxHeartbeats 8000000 in
theorem rapply_any (a b c d e f x y : Int) (w : World) :
    Calls Tryd.prog 14 #[.agg #[.int .i64 a, .int .i64 b, .int .i64 c, .int .i64 d, .int .i64 e, .int .i64 f], .agg #[.int .i64 x, .int .i64 y]] w fun z w' => z = .returned (.agg #[.int .i64 ((Af.mk a b c d e f).app x y).1, .int .i64 ((Af.mk a b c d e f).app x y).2]) ∧ Below w.heap.size w w' := by
  have L := Lib.hid (rlimited_any a b c d e f)
  have P1 := Lib.hid (rfar_any x); have P2 := Lib.hid (rfar_any y)
  rw [app_eq]
  dsimp only
  have ba := coef_bd a
  have bb := coef_bd b
  have bc := coef_bd c
  have bd := coef_bd d
  have be := far_bd e
  have bf := far_bd f
  have bx := far_bd x; have by' := far_bd y
  generalize coef a = a' at *
  generalize coef b = b' at *
  generalize coef c = c' at *
  generalize coef d = d' at *
  generalize far e = e' at *
  generalize far f = f' at *
  generalize far x = x' at *; generalize far y = y' at *
  obtain ⟨R1, hR1⟩ : ∃ r, far (dotZ a' x' c' y' + e') = r := ⟨_, rfl⟩
  obtain ⟨R2, hR2⟩ : ∃ r, far (dotZ b' x' d' y' + f') = r := ⟨_, rfl⟩
  rw [hR1, hR2]
  have HR1 := Lib.hid hR1; have HR2 := Lib.hid hR2; clear hR1 hR2
  go_enter Tryd.func14, Tryd.ntmps14
  go_wp2_with fail
  obtain ⟨k1, k2, k3, hB⟩ := apply_boxes w a b c d e f x y _ rfl
  refine (L.out _).mono ?_
  rintro z w4 ⟨rfl, hb⟩
  have K1 := Lib.hid (k1.below hb); have K2 := Lib.hid (k2.below hb); have K3 := Lib.hid (k3.below hb); have HB := Lib.hid (bel_trans hB hb)
  clear k1 k2 k3 hB hb
  obtain ⟨⟨c0, c1, c2, c3, c4, c5⟩, f0, f1, f2, f3, f4, f5⟩ := K1.out.six
  go_upto_region 2 with fail
  clear c0 c1 c2 c3 c4 c5 f0 f1 f2 f3 f4 f5
  have X1 := Lib.hid (set6_bx K1.out (.int .i64 a') (.int .i64 b') (.int .i64 c') (.int .i64 d') (.int .i64 e') (.int .i64 f'))
  have X2 := Lib.hid (set6_other K2.out (g' := w.heap.size) (by omega) (.int .i64 a') (.int .i64 b') (.int .i64 c') (.int .i64 d') (.int .i64 e') (.int .i64 f'))
  have X3 := Lib.hid (set6_other K3.out (g' := w.heap.size) (by omega) (.int .i64 a') (.int .i64 b') (.int .i64 c') (.int .i64 d') (.int .i64 e') (.int .i64 f'))
  have XB := Lib.hid (set6_below HB.out (Nat.le_refl _) (.int .i64 a') (.int .i64 b') (.int .i64 c') (.int .i64 d') (.int .i64 e') (.int .i64 f'))
  clear K1 K2 K3 HB
  unfold set6 at X1 X2 X3 XB
  generalize World.setCell (World.setCell (World.setCell (World.setCell (World.setCell (World.setCell w4 _ _) _ _) _ _) _ _) _ _) _ _ = X at *
  go_cut [5, 6] (ApMid a' b' c' d' e' f' x' y' w)
  case first =>
    as_aux_lemma =>
      obtain ⟨⟨p0, p1⟩, _, _⟩ := X2.out.two
      go_region_held3 (fun w' => w'.cell? ⟨w.heap.size + 1, 0, none⟩ = some (.int .i64 x) ∧ w'.cell? ⟨w.heap.size + 1, 1, none⟩ = some (.int .i64 y))
        (go_keep)
        ((go_at_call 36; (first | refine (P1.out _).mono ?_ | refine (P2.out _).mono ?_); rintro z w5 ⟨rfl, rfl⟩))
      go_wp2_with fail
      go_meet
      exact ⟨rfl, rfl, X1.out.drew, X3.out.drew, XB.out.drew⟩
  case rest =>
  clear X1 X2 X3 XB
  obtain ⟨rfl, rfl, X1, X3, XB⟩ := hcut
  have X1 := Lib.hid X1; have X3 := Lib.hid X3; have XB := Lib.hid XB
  obtain ⟨⟨c0, c1, c2, c3, c4, c5⟩, _, _, _, _, _, _⟩ := X1.out.six
  obtain ⟨⟨r0, r1⟩, s0, s1⟩ := X3.out.two
  replace r0 := cv_ok r0; replace r1 := cv_ok r1
  have q0 : ∀ k j, cv (wc.drewN k) (w.heap.size + 1 + 1) j = cv wc (w.heap.size + 1 + 1) j := fun _ _ => rfl
  have q1 : ∀ j, cv wc.drew (w.heap.size + 1 + 1) j = cv wc (w.heap.size + 1 + 1) j := fun _ => rfl
  have d1 := dotZ_bd (M := 16777216) (X := 1099511627776) (K := 562949953421312) ba bx bc by' (by omega)
  have d2 := dotZ_bd (M := 16777216) (X := 1099511627776) (K := 562949953421312) bb bx bd by' (by omega)
  have e1 : IntKind.i64.wrap (dotZ a' x' c' y' + e') = dotZ a' x' c' y' + e' := wrap_id (by omega)
  have e2 : IntKind.i64.wrap (dotZ b' x' d' y' + f') = dotZ b' x' d' y' + f' := wrap_id (by omega)
  have hne : w.heap.size ≠ w.heap.size + 1 + 1 := by omega
  have HC := Lib.hid (And.intro c0 (And.intro c1 (And.intro c2 (And.intro c3 (And.intro c4 (And.intro c5 (And.intro r0 (And.intro r1 (And.intro s0 s1)))))))))
  go_wp2_with fail
  go_region_held3 (fun w' => w'.cell? ⟨w.heap.size, 0, none⟩ = some (.int .i64 a') ∧ w'.cell? ⟨w.heap.size, 1, none⟩ = some (.int .i64 b') ∧ w'.cell? ⟨w.heap.size, 2, none⟩ = some (.int .i64 c') ∧ w'.cell? ⟨w.heap.size, 3, none⟩ = some (.int .i64 d') ∧ w'.cell? ⟨w.heap.size, 4, none⟩ = some (.int .i64 e') ∧ w'.cell? ⟨w.heap.size, 5, none⟩ = some (.int .i64 f') ∧ w'.cell? ⟨w.heap.size + 1 + 1, 0, none⟩ = some (cv w' (w.heap.size + 1 + 1) 0) ∧ w'.cell? ⟨w.heap.size + 1 + 1, 1, none⟩ = some (cv w' (w.heap.size + 1 + 1) 1) ∧ w'.frozen? ⟨w.heap.size + 1 + 1, 0, none⟩ = false ∧ w'.frozen? ⟨w.heap.size + 1 + 1, 1, none⟩ = false)
    (first | (with_reducible exact cv_store0 hne _ _ HC) | (with_reducible exact cv_storeN hne _ _ _ HC) | go_keep)
    (first | (go_at_call 36; refine (rfar_any _ _).mono ?_; rintro z w5 ⟨rfl, rfl⟩) | (go_at_call 37; refine (line_any _ _ _ _ _ (by omega) (by omega) (by omega) (by omega)).mono ?_; rintro z w5 ⟨rfl, kk, rfl⟩))
  go_wp2_with fail
  refine bodyPost_ret (v := .agg #[.int .i64 (far (dotZ a' x' c' y' + e')), .int .i64 (far (dotZ b' x' d' y' + f'))]) (by simp [results, Tryd.results14, go_sem, r0, r1]) rfl ⟨ret_two HR1.out HR2.out, ?_⟩
  exact ((Below.drewN' XB.out _).setCell (p := ⟨w.heap.size + 1 + 1, 0, none⟩) (by show w.heap.size ≤ w.heap.size + 1 + 1; omega) _).setCell (p := ⟨w.heap.size + 1 + 1, 1, none⟩) (by show w.heap.size ≤ w.heap.size + 1 + 1; omega) _
end Go.Proofs.YtanlnigebbcajaaDoor
