/- curve.value: the value of a curve without error. -/
import Derived.Test.YtmbglkholoblaaaDoorCurveChk
import Derived.Test.YtmbglkholoblaaaDoorCurveLaw
import Derived.Deep.RegionHeld3
namespace Go.Proofs.YtmbglkholoblaaaDoor
open Go.RowKit

/-- The loop's head. -/
def ValRel (ks : List (Int × Int)) (x : Int) (w : World) (i : Value) (wr : World) : Prop :=
  ∃ j : Nat, j + 1 ≤ ks.length ∧ i = .int .i64 ((j : Int) + 1) ∧ valGo (kx ks j, ky ks j) (ks.drop (j + 1)) x = val ks x ∧ kx ks j ≤ x ∧ Below w.heap.size w wr

theorem prod_bd (a b : Int) (ha : -65535 ≤ a) (ha' : a ≤ 65535) (hb : 0 ≤ b) (hb' : b ≤ 65535) : -4294836225 ≤ a * b ∧ a * b ≤ 4294836225 := by
  have h1 : a * b ≤ 65535 * b := Int.mul_le_mul_of_nonneg_right ha' hb
  have h2 : (-65535) * b ≤ a * b := Int.mul_le_mul_of_nonneg_right ha hb
  omega

set_option maxHeartbeats 2000000 in
theorem value_any (v : Value) (ks : List (Int × Int)) (x : Int) (w : World) (h : Knots w w.heap.size v ks) (g : Good ks) :
    Calls Tryd.prog 94 #[v, .int .i64 x] w fun e w' => e = .returned (.int .i64 (val ks x)) ∧ Below w.heap.size w w' := by
  have hn2 := g.n2
  have hn16 := g.n16
  obtain ⟨b, o, c, rfl, hb, hcell⟩ := h.form (by omega)
  have HK := Lib.hid hcell
  clear hcell h
  have hc0 := (HK.out 0 (by omega)).1
  have hd0 := (HK.out 0 (by omega)).2
  simp only [Nat.zero_mul, Nat.add_zero] at hc0 hd0
  by_cases hx : x ≤ kx ks 0
  · have E := Lib.hid (show val ks x = ky ks 0 by unfold val; rw [if_pos hx])
    generalize kx ks 0 = X0 at *
    generalize ky ks 0 = Y0 at *
    go_enter Tryd.func94, Tryd.ntmps94
    go_wp2
    go_ret
    exact ⟨ret_int E.out.symm, Below.refl _ _⟩
  · have E := Lib.hid (show valGo (kx ks 0, ky ks 0) (ks.drop (0 + 1)) x = val ks x by unfold val; rw [if_neg hx])
    have hx0 : Hid (kx ks 0 ≤ x) := by show kx ks 0 ≤ x; omega
    generalize hX0 : kx ks 0 = X0 at *
    generalize hY0 : ky ks 0 = Y0 at *
    have HX0 := Lib.hid hX0; clear hX0
    have HY0 := Lib.hid hY0; clear hY0
    go_enter Tryd.func94, Tryd.ntmps94
    go_wp2
    go_loopw [5] (ValRel ks x w) (fun i _ => ks.length - (intOf i).toNat)
    case atStart => exact ⟨0, by omega, by go_num, by rw [HX0.out, HY0.out]; exact E.out, by rw [HX0.out]; exact hx0.out, Below.refl _ _⟩
    case round =>
      obtain ⟨j, hj, rfl, hvj, hxj, hbel⟩ := hrel
      have HVJ := Lib.hid hvj; clear hvj
      have hsz := hbel.size
      clear hc0 hd0
      by_cases hlt : j + 1 < ks.length
      · have c1 := (hbel.cell (p := ⟨b, o + j * 2, none⟩) hb).trans (HK.out j (by omega)).1
        have c2 := (hbel.cell (p := ⟨b, o + j * 2 + 1, none⟩) hb).trans (HK.out j (by omega)).2
        have c3 := (hbel.cell (p := ⟨b, o + (j + 1) * 2, none⟩) hb).trans (HK.out (j + 1) hlt).1
        have c4 := (hbel.cell (p := ⟨b, o + (j + 1) * 2 + 1, none⟩) hb).trans (HK.out (j + 1) hlt).2
        have hbw : b < wr.heap.size := by omega
        have HH := Lib.hid (val_hit ks j x hlt)
        have HN := Lib.hid (val_next ks j x hlt)
        have ho := g.ord j hlt
        have r1 := g.rng j (by omega)
        have r2 := g.rng (j + 1) hlt
        generalize hpx : kx ks j = px at *
        generalize hpy : ky ks j = py at *
        generalize hqx : kx ks (j + 1) = qx at *
        generalize hqy : ky ks (j + 1) = qy at *
        have HPX := Lib.hid hpx; clear hpx
        have HPY := Lib.hid hpy; clear hpy
        have HQX := Lib.hid hqx; clear hqx
        have HQY := Lib.hid hqy; clear hqy
        by_cases hq : x < qx
        · have hpr := prod_bd (qy - py) (x - px) (by omega) (by omega) (by omega) (by omega)
          have E2 := Lib.hid (HH.out hq)
          have hl := val_unit ks g x
          rw [← HVJ.out, E2.out] at hl
          unfold lin at hl
          go_wp2
          go_region
          all_goals
            go_wp2
            go_quiet ((go_at_call 34; exact quiet_tol (div_any _ _ _ (by omega) (by omega) (by omega) (by omega)) ⟨_, rfl⟩))
            go_wp2
            go_ret
            exact ⟨ret_int (by rw [← HVJ.out, E2.out]; rfl), by repeat (first | exact hbel | refine Below.drewN' ?_ _ | refine Below.drew ?_ | refine Below.alloc ?_ (by first | omega | (simp; omega)) _)⟩
        · have E2 := Lib.hid (HN.out hq)
          go_wp2
          go_region
          all_goals
            go_wp2
            go_roundw
            case rel => exact ⟨j + 1, by omega, by go_num, by rw [HQX.out, HQY.out, ← E2.out, HVJ.out], by rw [HQX.out]; omega, by repeat (first | exact hbel | refine Below.drewN' ?_ _ | refine Below.drew ?_ | refine Below.alloc ?_ (by first | omega | (simp; omega)) _)⟩
            case measure => simp [intOf]; omega
      · have E2 := Lib.hid (val_last ks j x (by omega))
        have c2 := (hbel.cell (p := ⟨b, o + j * 2 + 1, none⟩) hb).trans (HK.out j (by omega)).2
        have hje : Hid (ks.length = j + 1) := by show ks.length = j + 1; omega
        have c2' : wr.cell? ⟨b, o + (ks.length - 1) * 2 + 1, none⟩ = some (.int .i64 (ky ks j)) := by rw [hje.out]; exact c2
        generalize ky ks j = py at *
        go_wp2
        go_ret
        exact ⟨ret_int (by rw [← HVJ.out, E2.out]), hbel⟩
end Go.Proofs.YtmbglkholoblaaaDoor
