/- curve.At and its reference; Rising, both. -/
import Derived.Test.YtmbglkholoblaaaDoorCurveVal
import Derived.Test.YtmbglkholoblaaaDoorCurveRChk
namespace Go.Proofs.YtmbglkholoblaaaDoor
open Go.RowKit

set_option maxHeartbeats 1000000 in
theorem at_any (v : Value) (ks : List (Int × Int)) (x : Int) (w : World) (h : Knots w w.heap.size v ks) :
    Calls Tryd.prog 78 #[v, .int .i64 x] w fun e w' => e = .returned (.int .i64 (cat ks x)) ∧ Below w.heap.size w w' := by
  have H := Lib.hid h
  by_cases hc : chk ks = 0
  · have E := Lib.hid (show cat ks x = val ks x by unfold cat; rw [if_pos hc])
    have hg := (chk_iff ks).1 hc
    have HC := Lib.hid hc; clear hc h
    go_enter Tryd.func78, Tryd.ntmps78
    go_wp2_with fail
    refine (check_any _ ks _ H.out).mono ?_
    rintro e w1 ⟨rfl, hb1⟩
    rw [HC.out]
    go_wp2_with fail
    refine (value_any _ ks _ _ (H.out.on hb1) hg).mono ?_
    rintro e w2 ⟨rfl, hb2⟩
    go_wp2_with fail
    go_ret
    exact ⟨ret_int E.out.symm, bel_trans hb1 hb2⟩
  · have E := Lib.hid (show cat ks x = min 65535 (max x 0) by unfold cat; rw [if_neg hc])
    have hne : (chk ks != 0) = true := by simp [hc]
    generalize hcc : chk ks = cc at *
    have HCC := Lib.hid hcc; clear hcc hc h
    go_enter Tryd.func78, Tryd.ntmps78
    go_wp2_with fail
    refine (check_any _ ks _ H.out).mono ?_
    rintro e w1 ⟨rfl, hb1⟩
    rw [HCC.out]
    go_wp2_with fail
    refine (unit_any _ _).mono ?_
    rintro e w2 ⟨rfl, rfl⟩
    go_wp2_with fail
    go_ret
    exact ⟨ret_int E.out.symm, hb1⟩

set_option maxHeartbeats 400000 in
theorem runit_any (x : Int) (w : World) :
    Calls Tryd.prog 84 #[.int .i64 x] w fun e w' => e = .returned (.int .i64 (min 65535 (max x 0))) ∧ w = w' := by
  go_enter Tryd.func84, Tryd.ntmps84
  go_wp2_with (go_at_call 89; refine (rclamp_any _ _ _ _).mono ?_; rintro e w' ⟨rfl, rfl⟩)
  go_ret
  exact ⟨rfl, rfl⟩

set_option maxHeartbeats 2000000 in
theorem rat_any (v : Value) (ks : List (Int × Int)) (x : Int) (w : World) (h : Knots w w.heap.size v ks) :
    Calls Tryd.prog 87 #[v, .int .i64 x] w fun e w' => e = .returned (.int .i64 (cat ks x)) ∧ Below w.heap.size w w' := by
  have H := Lib.hid h
  by_cases hc : chk ks = 0
  · have EC := Lib.hid (show cat ks x = val ks x by unfold cat; rw [if_pos hc])
    have g := (chk_iff ks).1 hc
    have HC := Lib.hid hc; clear hc h
    have hn2 := g.n2
    have hn16 := g.n16
    go_enter Tryd.func87, Tryd.ntmps87
    go_wp2_with fail
    refine (rcheck_any _ ks _ H.out).mono ?_
    rintro e w1 ⟨rfl, hb1⟩
    rw [HC.out]
    have H1 := H.out.on hb1
    obtain ⟨b, o, c, rfl, hb, hcell⟩ := H1.form (by omega)
    have HK := Lib.hid hcell
    clear hcell H1
    have hc0 := (HK.out 0 (by omega)).1
    have hd0 := (HK.out 0 (by omega)).2
    simp only [Nat.zero_mul, Nat.add_zero] at hc0 hd0
    by_cases hx : x ≤ kx ks 0
    · have E := Lib.hid (show val ks x = ky ks 0 by unfold val; rw [if_pos hx])
      generalize kx ks 0 = X0 at *
      generalize ky ks 0 = Y0 at *
      go_wp2
      go_ret
      exact ⟨ret_int (by rw [EC.out, E.out]), hb1⟩
    · have E := Lib.hid (show valGo (kx ks 0, ky ks 0) (ks.drop (0 + 1)) x = val ks x by unfold val; rw [if_neg hx])
      have hx0 : Hid (kx ks 0 ≤ x) := by show kx ks 0 ≤ x; omega
      generalize hX0 : kx ks 0 = X0 at *
      generalize hY0 : ky ks 0 = Y0 at *
      have HX0 := Lib.hid hX0; clear hX0
      have HY0 := Lib.hid hY0; clear hY0
      go_wp2
      go_loopw [5] (ValRel ks x w1) (fun i _ => ks.length - (intOf i).toNat)
      case atStart => exact ⟨0, by omega, by go_num, by rw [HX0.out, HY0.out]; exact E.out, by rw [HX0.out]; exact hx0.out, Below.refl _ _⟩
      case round =>
        obtain ⟨j, hj, rfl, hvj, hxj, hbel⟩ := hrel
        have HVJ := Lib.hid hvj; clear hvj
        have hsz := hbel.size
        clear hc0 hd0
        by_cases hlt : j + 1 < ks.length
        · have c1 := (hbel.cell (p := ⟨b, o + j * 2, none⟩) hb).trans (HK.out j (by omega)).1
          have c2 := (hbel.cell (p := ⟨b, o + j * 2 + 1, none⟩) hb).trans (HK.out j (by omega)).2
          have c3 := (hbel.cell (p := ⟨b, o + (j + 1) * 2, none⟩) hb).trans (HK.out (j + 1) hlt).1
          have c4 := (hbel.cell (p := ⟨b, o + (j + 1) * 2 + 1, none⟩) hb).trans (HK.out (j + 1) hlt).2
          have HH := Lib.hid (val_hit ks j x hlt)
          have HN := Lib.hid (val_next ks j x hlt)
          have ho := g.ord j hlt
          have r1 := g.rng j (by omega)
          have r2 := g.rng (j + 1) hlt
          generalize hpx : kx ks j = px at *
          generalize hpy : ky ks j = py at *
          generalize hqx : kx ks (j + 1) = qx at *
          generalize hqy : ky ks (j + 1) = qy at *
          have HPX := Lib.hid hpx; clear hpx
          have HPY := Lib.hid hpy; clear hpy
          have HQX := Lib.hid hqx; clear hqx
          have HQY := Lib.hid hqy; clear hqy
          by_cases hq : x < qx
          · have hpr := prod_bd (qy - py) (x - px) (by omega) (by omega) (by omega) (by omega)
            have E2 := Lib.hid (HH.out hq)
            have hl := val_unit ks g x
            rw [← HVJ.out, E2.out] at hl
            unfold lin at hl
            go_wp2
            go_quiet ((go_at_call 37; exact quiet_tolN (rdiv_any _ _ _ (by omega) (by omega) (by omega) (by omega)) (fun _ => ⟨_, World.drewN_drewN _ _ _⟩)))
            go_wp2
            go_ret
            exact ⟨ret_int (by rw [EC.out, ← HVJ.out, E2.out]; rfl), bel_trans hb1 (by repeat (first | exact hbel | refine Below.drewN' ?_ _))⟩
          · have E2 := Lib.hid (HN.out hq)
            go_wp2
            go_roundw
            case rel => exact ⟨j + 1, by omega, by go_num, by rw [HQX.out, HQY.out, ← E2.out, HVJ.out], by rw [HQX.out]; omega, by repeat (first | exact hbel | refine Below.drewN' ?_ _)⟩
            case measure => simp [intOf]; omega
        · have E2 := Lib.hid (val_last ks j x (by omega))
          have c2 := (hbel.cell (p := ⟨b, o + j * 2 + 1, none⟩) hb).trans (HK.out j (by omega)).2
          have hje : Hid (ks.length = j + 1) := by show ks.length = j + 1; omega
          have c2' : wr.cell? ⟨b, o + (ks.length - 1) * 2 + 1, none⟩ = some (.int .i64 (ky ks j)) := by rw [hje.out]; exact c2
          generalize ky ks j = py at *
          go_wp2
          go_ret
          exact ⟨ret_int (by rw [EC.out, ← HVJ.out, E2.out]), bel_trans hb1 hbel⟩
  · have E := Lib.hid (show cat ks x = min 65535 (max x 0) by unfold cat; rw [if_neg hc])
    have hne : (chk ks != 0) = true := by simp [hc]
    generalize hcc : chk ks = cc at *
    have HCC := Lib.hid hcc; clear hcc hc h
    go_enter Tryd.func87, Tryd.ntmps87
    go_wp2_with fail
    refine (rcheck_any _ ks _ H.out).mono ?_
    rintro e w1 ⟨rfl, hb1⟩
    rw [HCC.out]
    go_wp2_with fail
    refine (runit_any _ _).mono ?_
    rintro e w2 ⟨rfl, rfl⟩
    go_wp2_with fail
    go_ret
    exact ⟨ret_int E.out.symm, hb1⟩
end Go.Proofs.YtmbglkholoblaaaDoor
