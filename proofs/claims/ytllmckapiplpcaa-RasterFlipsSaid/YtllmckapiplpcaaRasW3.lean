/- The walks of RasterChecks and RasterFlips. -/
import Derived.Test.YtllmckapiplpcaaRasW1
import Derived.Test.YtllmckapiplpcaaRBoxA
import Derived.Test.YtllmckapiplpcaaRNew
namespace Go.Proofs.Ytllmckapiplpcaa
open Go.RowKit

set_option maxHeartbeats 2000000 in
theorem checks_core (W H : Int) (A : Option Addr) (c : Nat) (ps : List Px) (x y : Int) (u : Px) (ch : Int) (er W1 H1 : Int) (L1 : List Px) (w : World) (hp : Pixs w w.heap.size (.slice A ps.length c) ps)
    (T1 : ∀ w', Calls Try.prog 15 #[.int .i64 x, .int .i64 y, .agg #[.int .i64 u.r, .int .i64 u.g, .int .i64 u.b, .int .i64 u.a]] w' (ImPost er W1 H1 L1 w'))
    (T2 : ∀ w', Calls Try.prog 16 #[.int .i64 x, .int .i64 y, .agg #[.int .i64 u.r, .int .i64 u.g, .int .i64 u.b, .int .i64 u.a]] w' (ImPost er W1 H1 L1 w'))
    (T3 : ∀ w', Pixs w' w'.heap.size (.slice A ps.length c) ps → Calls Try.prog 18 #[.agg #[.int .i64 W, .int .i64 H, .slice A ps.length c]] w' (fun e w'' => e = .returned (.int .i64 ch) ∧ Below w'.heap.size w' w''))
    (T4 : ∀ w', Pixs w' w'.heap.size (.slice A ps.length c) ps → Calls Try.prog 19 #[.agg #[.int .i64 W, .int .i64 H, .slice A ps.length c]] w' (fun e w'' => e = .returned (.int .i64 ch) ∧ Below w'.heap.size w' w'')) :
    Calls Try.prog 3 #[.agg #[.int .i64 W, .int .i64 H, .slice A ps.length c], .int .i64 x, .int .i64 y, .agg #[.int .i64 u.r, .int .i64 u.g, .int .i64 u.b, .int .i64 u.a]] w fun e w' => e = .returned (.bool true) ∧ Below w.heap.size w w' := by
  have Hhp := Lib.hid hp; clear hp
  have HT1 := Lib.hid T1; have HT2 := Lib.hid T2; have HT3 := Lib.hid T3; have HT4 := Lib.hid T4; clear T1 T2 T3 T4
  go_enter Try.func3, Try.ntmps3
  go_upto_region 1 with fail
  obtain ⟨hb1, hb2, hB⟩ := two_boxes w #[.int .i64 W, .int .i64 H, .slice A ps.length c] #[.int .i64 u.r, .int .i64 u.g, .int .i64 u.b, .int .i64 u.a] 24 26 _ rfl
  generalize World.alloc (World.alloc w _) _ = w0 at *
  obtain ⟨⟨j1, j2, j3⟩, -⟩ := hb1.three
  obtain ⟨⟨k1, k2, k3, k4⟩, -⟩ := hb2.four
  go_wp2_with fail
  refine (HT1.out _).mono ?_
  rintro e w1 ⟨A1, n1, c1, rfl, hr, hbb⟩
  clear j1 j2 j3 k1 k2 k3 k4
  replace hb1 := hb1.below hbb; replace hb2 := hb2.below hbb; replace hB := bel_trans hB hbb
  clear hbb
  go_upto_region 2 with fail
  obtain ⟨hb5, hbb, -⟩ := one_box w1 #[.int .i64 W1, .int .i64 H1, .slice A1 n1 c1] 24 _ rfl
  have hP1 := hr.pixs.on hbb; clear hr
  generalize World.alloc w1 _ = w2 at *
  replace hb1 := hb1.below hbb; replace hb2 := hb2.below hbb; replace hB := bel_trans hB hbb
  clear hbb
  obtain ⟨⟨j1, j2, j3⟩, -⟩ := hb1.three
  obtain ⟨⟨k1, k2, k3, k4⟩, -⟩ := hb2.four
  go_wp2_with fail
  refine (HT2.out _).mono ?_
  rintro e w3 ⟨A2, n2, c2, rfl, hr, hbb⟩
  clear j1 j2 j3 k1 k2 k3 k4
  replace hb1 := hb1.below hbb; replace hb2 := hb2.below hbb; replace hb5 := hb5.below hbb; replace hB := bel_trans hB hbb
  replace hP1 := hP1.on hbb
  clear hbb
  go_upto_region 3 with fail
  obtain ⟨hb7, hbb, -⟩ := one_box w3 #[.int .i64 W1, .int .i64 H1, .slice A2 n2 c2] 24 _ rfl
  have hP2 := hr.pixs.on hbb; clear hr
  generalize World.alloc w3 _ = w4 at *
  replace hb1 := hb1.below hbb; replace hb2 := hb2.below hbb; replace hb5 := hb5.below hbb; replace hB := bel_trans hB hbb
  replace hP1 := hP1.on hbb
  clear hbb
  have hp := Hhp.out.on hB
  have HSA := Lib.hid (show ∀ wq, BelA w4 wq → BelA w4 wq ∧ wq.cell? ⟨w.heap.size, 0, none⟩ = some (.int .i64 W) ∧ wq.cell? ⟨w.heap.size, 1, none⟩ = some (.int .i64 H) ∧ wq.cell? ⟨w.heap.size, 2, none⟩ = some (.slice A ps.length c) ∧ wq.cell? ⟨w1.heap.size, 0, none⟩ = some (.int .i64 W1) ∧ wq.cell? ⟨w1.heap.size, 1, none⟩ = some (.int .i64 H1) ∧ wq.cell? ⟨w1.heap.size, 2, none⟩ = some (.slice A1 n1 c1) ∧ wq.cell? ⟨w3.heap.size, 0, none⟩ = some (.int .i64 W1) ∧ wq.cell? ⟨w3.heap.size, 1, none⟩ = some (.int .i64 H1) ∧ wq.cell? ⟨w3.heap.size, 2, none⟩ = some (.slice A2 n2 c2) from fun wq hb => ⟨hb, ((hb1.below hb).three).1.1, ((hb1.below hb).three).1.2.1, ((hb1.below hb).three).1.2.2, ((hb5.below hb).three).1.1, ((hb5.below hb).three).1.2.1, ((hb5.below hb).three).1.2.2, ((hb7.below hb).three).1.1, ((hb7.below hb).three).1.2.1, ((hb7.below hb).three).1.2.2⟩)
  have Khp := Lib.hid (show ∀ wq, BelA w4 wq → Pixs wq wq.heap.size (.slice A ps.length c) ps from fun wq hb => hp.on hb)
  have KhP1 := Lib.hid (show ∀ wq, BelA w4 wq → Pixs wq wq.heap.size (.slice A1 n1 c1) L1 from fun wq hb => hP1.on hb)
  have KhP2 := Lib.hid (show ∀ wq, BelA w4 wq → Pixs wq wq.heap.size (.slice A2 n2 c2) L1 from fun wq hb => hP2.on hb)
  have hB0 : BelA w4 w4.drew := Below.drew (Below.refl _ _)
  have hS0 : BelA w4 w4.drew ∧ w4.drew.cell? ⟨w.heap.size, 0, none⟩ = some (.int .i64 W) ∧ w4.drew.cell? ⟨w.heap.size, 1, none⟩ = some (.int .i64 H) ∧ w4.drew.cell? ⟨w.heap.size, 2, none⟩ = some (.slice A ps.length c) ∧ w4.drew.cell? ⟨w1.heap.size, 0, none⟩ = some (.int .i64 W1) ∧ w4.drew.cell? ⟨w1.heap.size, 1, none⟩ = some (.int .i64 H1) ∧ w4.drew.cell? ⟨w1.heap.size, 2, none⟩ = some (.slice A1 n1 c1) ∧ w4.drew.cell? ⟨w3.heap.size, 0, none⟩ = some (.int .i64 W1) ∧ w4.drew.cell? ⟨w3.heap.size, 1, none⟩ = some (.int .i64 H1) ∧ w4.drew.cell? ⟨w3.heap.size, 2, none⟩ = some (.slice A2 n2 c2) := HSA.out _ hB0
  have HBB := Lib.hid hB; clear hB hb1 hb5 hb7 hp hP1 hP2
  go_region_held3 (fun w' => BelA w4 w' ∧ w'.cell? ⟨w.heap.size, 0, none⟩ = some (.int .i64 W) ∧ w'.cell? ⟨w.heap.size, 1, none⟩ = some (.int .i64 H) ∧ w'.cell? ⟨w.heap.size, 2, none⟩ = some (.slice A ps.length c) ∧ w'.cell? ⟨w1.heap.size, 0, none⟩ = some (.int .i64 W1) ∧ w'.cell? ⟨w1.heap.size, 1, none⟩ = some (.int .i64 H1) ∧ w'.cell? ⟨w1.heap.size, 2, none⟩ = some (.slice A1 n1 c1) ∧ w'.cell? ⟨w3.heap.size, 0, none⟩ = some (.int .i64 W1) ∧ w'.cell? ⟨w3.heap.size, 1, none⟩ = some (.int .i64 H1) ∧ w'.cell? ⟨w3.heap.size, 2, none⟩ = some (.slice A2 n2 c2))
    (first | assumption | exact hS0 | exact HSA.out _ hBv | go_keep)
    (first | ((with_reducible refine (awake_any _).mono ?_); rintro e wv ⟨rfl, hbv⟩; have hBv : BelA w4 wv := BelA.call hB0 hbv) | ((with_reducible refine (HT3.out _ (Khp.out _ hBv)).mono ?_); rintro e wv ⟨rfl, hbv⟩; have hBv : BelA w4 wv := BelA.call hBv hbv) | ((with_reducible refine (HT4.out _ (Khp.out _ hBv)).mono ?_); rintro e wv ⟨rfl, hbv⟩; have hBv : BelA w4 wv := BelA.call hBv hbv) | ((with_reducible refine (sm_true _ W1 H1 _ _ L1 (KhP1.out _ hBv) (KhP2.out _ hBv)).mono ?_); rintro e wv ⟨rfl, hbv⟩; have hBv : BelA w4 wv := BelA.call hBv hbv))
  go_wp2_with fail
  go_ret
  exact ⟨rfl, bel_trans HBB.out hBv⟩
theorem walk_checks (v0 : Value) (x0 : Int × Int × List Px) (x y : Int) (v1 : Value) (x1 : Px) (w : World) (h0 : ImgV w v0 x0) (h1 : PxV v1 x1) :
    Calls Try.prog 3 #[v0, .int .i64 x, .int .i64 y, v1] w fun e w' => e = .returned (.bool true) ∧ Below w.heap.size w w' := by
  obtain ⟨⟨A, n, c, rfl, hp⟩, _, _⟩ := h0
  obtain ⟨W, H, ps⟩ := x0
  obtain rfl := hp.len
  obtain ⟨rfl, _⟩ := h1
  exact checks_core W H A c ps x y x1 _ _ _ _ _ w hp (fun w' => new_any x y x1 w') (fun w' => rnew_any x y x1 w') (fun w' h => icheck_any W H A ps.length c ps w' h) (fun w' h => richeck_any W H A ps.length c ps w' h)
set_option maxHeartbeats 2000000 in
theorem flips_core (W H : Int) (A : Option Addr) (c : Nat) (ps : List Px) (kd : Int) (r : Rc) (er W1 H1 : Int) (L1 : List Px) (w : World) (hp : Pixs w w.heap.size (.slice A ps.length c) ps)
    (T1 : ∀ w', Pixs w' w'.heap.size (.slice A ps.length c) ps → Calls Try.prog 31 #[.agg #[.int .i64 W, .int .i64 H, .slice A ps.length c], .int .i64 kd] w' (ImPost er W1 H1 L1 w'))
    (T2 : ∀ w', Pixs w' w'.heap.size (.slice A ps.length c) ps → Calls Try.prog 32 #[.agg #[.int .i64 W, .int .i64 H, .slice A ps.length c], .int .i64 kd] w' (ImPost er W1 H1 L1 w'))
    (T3 : ∀ w', Pixs w' w'.heap.size (.slice A ps.length c) ps → Calls Try.prog 33 #[.agg #[.int .i64 W, .int .i64 H, .slice A ps.length c]] w' (RcPost r w'))
    (T4 : ∀ w', Pixs w' w'.heap.size (.slice A ps.length c) ps → Calls Try.prog 34 #[.agg #[.int .i64 W, .int .i64 H, .slice A ps.length c]] w' (RcPost r w')) :
    Calls Try.prog 8 #[.agg #[.int .i64 W, .int .i64 H, .slice A ps.length c], .int .i64 kd] w fun e w' => e = .returned (.bool true) ∧ Below w.heap.size w w' := by
  have Hhp := Lib.hid hp; clear hp
  have HT1 := Lib.hid T1; have HT2 := Lib.hid T2; have HT3 := Lib.hid T3; have HT4 := Lib.hid T4; clear T1 T2 T3 T4
  go_enter Try.func8, Try.ntmps8
  go_upto_region 1 with fail
  obtain ⟨hb1, hB, -⟩ := one_box w #[.int .i64 W, .int .i64 H, .slice A ps.length c] 24 _ rfl
  generalize World.alloc w _ = w0 at *
  obtain ⟨⟨j1, j2, j3⟩, -⟩ := hb1.three
  go_wp2_with fail
  refine (HT1.out _ (Hhp.out.on hB)).mono ?_
  rintro e w1 ⟨A1, n1, c1, rfl, hr, hbb⟩
  clear j1 j2 j3
  replace hb1 := hb1.below hbb; replace hB := bel_trans hB hbb
  clear hbb
  go_upto_region 2 with fail
  obtain ⟨hb5, hbb, -⟩ := one_box w1 #[.int .i64 W1, .int .i64 H1, .slice A1 n1 c1] 24 _ rfl
  have hP1 := hr.pixs.on hbb; clear hr
  generalize World.alloc w1 _ = w2 at *
  replace hb1 := hb1.below hbb; replace hB := bel_trans hB hbb
  clear hbb
  obtain ⟨⟨j1, j2, j3⟩, -⟩ := hb1.three
  go_wp2_with fail
  refine (HT2.out _ (Hhp.out.on hB)).mono ?_
  rintro e w3 ⟨A2, n2, c2, rfl, hr, hbb⟩
  clear j1 j2 j3
  replace hb1 := hb1.below hbb; replace hb5 := hb5.below hbb; replace hB := bel_trans hB hbb
  replace hP1 := hP1.on hbb
  clear hbb
  go_upto_region 3 with fail
  obtain ⟨hb7, hbb, -⟩ := one_box w3 #[.int .i64 W1, .int .i64 H1, .slice A2 n2 c2] 24 _ rfl
  have hP2 := hr.pixs.on hbb; clear hr
  generalize World.alloc w3 _ = w4 at *
  replace hb1 := hb1.below hbb; replace hb5 := hb5.below hbb; replace hB := bel_trans hB hbb
  replace hP1 := hP1.on hbb
  clear hbb
  have hp := Hhp.out.on hB
  have HSA := Lib.hid (show ∀ wq, BelA w4 wq → BelA w4 wq ∧ wq.cell? ⟨w.heap.size, 0, none⟩ = some (.int .i64 W) ∧ wq.cell? ⟨w.heap.size, 1, none⟩ = some (.int .i64 H) ∧ wq.cell? ⟨w.heap.size, 2, none⟩ = some (.slice A ps.length c) ∧ wq.cell? ⟨w1.heap.size, 0, none⟩ = some (.int .i64 W1) ∧ wq.cell? ⟨w1.heap.size, 1, none⟩ = some (.int .i64 H1) ∧ wq.cell? ⟨w1.heap.size, 2, none⟩ = some (.slice A1 n1 c1) ∧ wq.cell? ⟨w3.heap.size, 0, none⟩ = some (.int .i64 W1) ∧ wq.cell? ⟨w3.heap.size, 1, none⟩ = some (.int .i64 H1) ∧ wq.cell? ⟨w3.heap.size, 2, none⟩ = some (.slice A2 n2 c2) from fun wq hb => ⟨hb, ((hb1.below hb).three).1.1, ((hb1.below hb).three).1.2.1, ((hb1.below hb).three).1.2.2, ((hb5.below hb).three).1.1, ((hb5.below hb).three).1.2.1, ((hb5.below hb).three).1.2.2, ((hb7.below hb).three).1.1, ((hb7.below hb).three).1.2.1, ((hb7.below hb).three).1.2.2⟩)
  have Khp := Lib.hid (show ∀ wq, BelA w4 wq → Pixs wq wq.heap.size (.slice A ps.length c) ps from fun wq hb => hp.on hb)
  have KhP1 := Lib.hid (show ∀ wq, BelA w4 wq → Pixs wq wq.heap.size (.slice A1 n1 c1) L1 from fun wq hb => hP1.on hb)
  have KhP2 := Lib.hid (show ∀ wq, BelA w4 wq → Pixs wq wq.heap.size (.slice A2 n2 c2) L1 from fun wq hb => hP2.on hb)
  have hB0 : BelA w4 w4.drew := Below.drew (Below.refl _ _)
  have hS0 : BelA w4 w4.drew ∧ w4.drew.cell? ⟨w.heap.size, 0, none⟩ = some (.int .i64 W) ∧ w4.drew.cell? ⟨w.heap.size, 1, none⟩ = some (.int .i64 H) ∧ w4.drew.cell? ⟨w.heap.size, 2, none⟩ = some (.slice A ps.length c) ∧ w4.drew.cell? ⟨w1.heap.size, 0, none⟩ = some (.int .i64 W1) ∧ w4.drew.cell? ⟨w1.heap.size, 1, none⟩ = some (.int .i64 H1) ∧ w4.drew.cell? ⟨w1.heap.size, 2, none⟩ = some (.slice A1 n1 c1) ∧ w4.drew.cell? ⟨w3.heap.size, 0, none⟩ = some (.int .i64 W1) ∧ w4.drew.cell? ⟨w3.heap.size, 1, none⟩ = some (.int .i64 H1) ∧ w4.drew.cell? ⟨w3.heap.size, 2, none⟩ = some (.slice A2 n2 c2) := HSA.out _ hB0
  have HBB := Lib.hid hB; clear hB hb1 hb5 hb7 hp hP1 hP2
  go_region_held3 (fun w' => BelA w4 w' ∧ w'.cell? ⟨w.heap.size, 0, none⟩ = some (.int .i64 W) ∧ w'.cell? ⟨w.heap.size, 1, none⟩ = some (.int .i64 H) ∧ w'.cell? ⟨w.heap.size, 2, none⟩ = some (.slice A ps.length c) ∧ w'.cell? ⟨w1.heap.size, 0, none⟩ = some (.int .i64 W1) ∧ w'.cell? ⟨w1.heap.size, 1, none⟩ = some (.int .i64 H1) ∧ w'.cell? ⟨w1.heap.size, 2, none⟩ = some (.slice A1 n1 c1) ∧ w'.cell? ⟨w3.heap.size, 0, none⟩ = some (.int .i64 W1) ∧ w'.cell? ⟨w3.heap.size, 1, none⟩ = some (.int .i64 H1) ∧ w'.cell? ⟨w3.heap.size, 2, none⟩ = some (.slice A2 n2 c2))
    (first | assumption | exact hS0 | exact HSA.out _ hBv | go_keep)
    (first | ((with_reducible refine (awake_any _).mono ?_); rintro e wv ⟨rfl, hbv⟩; have hBv : BelA w4 wv := BelA.call hB0 hbv) | ((with_reducible refine (HT3.out _ (Khp.out _ hBv)).mono ?_); rintro e wv ⟨rfl, hbv⟩; have hBv : BelA w4 wv := BelA.call hBv hbv) | ((with_reducible refine (HT4.out _ (Khp.out _ hBv)).mono ?_); rintro e wv ⟨rfl, hbv⟩; have hBv : BelA w4 wv := BelA.call hBv hbv) | ((with_reducible refine (sm_true _ W1 H1 _ _ L1 (KhP1.out _ hBv) (KhP2.out _ hBv)).mono ?_); rintro e wv ⟨rfl, hbv⟩; have hBv : BelA w4 wv := BelA.call hBv hbv))
  go_wp2_with fail
  go_ret
  exact ⟨rfl, bel_trans HBB.out hBv⟩
theorem walk_flips (v0 : Value) (x0 : Int × Int × List Px) (kd : Int) (w : World) (h0 : ImgV w v0 x0) :
    Calls Try.prog 8 #[v0, .int .i64 kd] w fun e w' => e = .returned (.bool true) ∧ Below w.heap.size w w' := by
  obtain ⟨⟨A, n, c, rfl, hp⟩, _, _⟩ := h0
  obtain ⟨W, H, ps⟩ := x0
  obtain rfl := hp.len
  exact flips_core W H A c ps kd _ _ _ _ _ w hp (fun w' h => flip_any W H A c ps w' h kd) (fun w' h => rflip_any W H A c ps w' h kd) (fun w' h => box_any W H A c ps w' h) (fun w' h => rbox_any W H A c ps w' h)
end Go.Proofs.Ytllmckapiplpcaa
