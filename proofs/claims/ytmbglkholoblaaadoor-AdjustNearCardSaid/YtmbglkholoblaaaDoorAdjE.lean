/- The channel functions of adjust. -/
import Derived.Test.YtmbglkholoblaaaDoorAdjLaw
import Derived.Test.YtmbglkholoblaaaDoorAdjA
namespace Go.Proofs.YtmbglkholoblaaaDoor
open Go.RowKit

/-- Parameters in memory: where they lie. -/
theorem ints_at {w : World} {B : Nat} {v : Value} {l : List Int} (h : Ints w B v l) (hn : 0 < l.length) : ∃ b o c, v = .slice (some ⟨b, o, none⟩) l.length c ∧ b < B ∧ ∀ i, i < l.length → w.cell? ⟨b, o + i, none⟩ = some (.int .i64 (prm l i)) := by
  obtain ⟨A, c, rfl, _, hc⟩ := h
  obtain ⟨b, o, rfl, hb, _⟩ := hc 0 hn
  refine ⟨b, o, c, rfl, hb, fun i hi => ?_⟩
  obtain ⟨b', o', e, _, h2⟩ := hc i hi
  injection e with e
  injection e with e1 e2
  subst e1 e2
  exact h2
theorem levP {t g : Int} (ht : 0 ≤ t ∧ t ≤ 65535) (hg : 1 ≤ g ∧ g ≤ 256) : (0 ≤ 65535 * t * g ∧ 65535 * t * g ≤ 1099478073600) ∧ (0 ≤ t * g ∧ t * g ≤ 16776960) ∧ 0 < t * g + 16 * (65535 - t) := by
  obtain ⟨h1, h2, h3⟩ := levU_pos ht hg
  rw [Int.mul_assoc]
  omega
set_option maxHeartbeats 2000000 in
theorem leveled_any (b o c : Nat) (p0 p1 p2 p3 p4 x : Int) (w : World) (hx : 0 ≤ x ∧ x ≤ 65535) (h0 : 0 ≤ p0 ∧ p0 < p1 ∧ p1 ≤ 65535) (h2 : 1 ≤ p2 ∧ p2 ≤ 256) (h3 : 0 ≤ p3 ∧ p3 ≤ 65535) (h4 : 0 ≤ p4 ∧ p4 ≤ 65535)
    (c0 : w.cell? ⟨b, o, none⟩ = some (.int .i64 p0)) (c1 : w.cell? ⟨b, o + 1, none⟩ = some (.int .i64 p1)) (c2 : w.cell? ⟨b, o + 2, none⟩ = some (.int .i64 p2)) (c3 : w.cell? ⟨b, o + 3, none⟩ = some (.int .i64 p3)) (c4 : w.cell? ⟨b, o + 4, none⟩ = some (.int .i64 p4)) :
    Calls Tryd.prog 76 #[.slice (some ⟨b, o, none⟩) 5 c, .int .i64 x] w fun e w' => e = .returned (.int .i64 (lerp p3 p4 (levU (lim16 (rdiv ((x - p0) * 65535) (p1 - p0))) p2))) ∧ ∃ n, w' = w.drewN n := by
  go_enter Tryd.func76, Tryd.ntmps76
  go_wp2_with fail
  go_quiet (fail)
  replace c3 : (w.drewN nq).cell? ⟨b, o + 3, none⟩ = some (.int .i64 p3) := c3
  replace c4 : (w.drewN nq).cell? ⟨b, o + 4, none⟩ = some (.int .i64 p4) := c4
  generalize hwx : w.drewN nq = wx at *
  have HW := Lib.hid hwx; clear hwx
  go_wp2_with fail
  refine (div_any _ _ _ (by omega) (by omega) (by omega) (by omega)).mono ?_
  rintro e w1 ⟨rfl, rfl⟩
  go_wp2_with fail
  refine (aunit_any _ _).mono ?_
  rintro e w1 ⟨rfl, rfl⟩
  have ht := lim16_bd (rdiv ((x - p0) * 65535) (p1 - p0))
  have HU := Lib.hid (levU_in ht h2)
  have hl := levP ht h2
  have EU := Lib.hid (show rdiv (65535 * lim16 (rdiv ((x - p0) * 65535) (p1 - p0)) * p2) (lim16 (rdiv ((x - p0) * 65535) (p1 - p0)) * p2 + 16 * (65535 - lim16 (rdiv ((x - p0) * 65535) (p1 - p0)))) = levU (lim16 (rdiv ((x - p0) * 65535) (p1 - p0))) p2 from rfl)
  generalize hte : lim16 (rdiv ((x - p0) * 65535) (p1 - p0)) = t at *
  have HTE := Lib.hid hte; clear hte
  go_wp2_with fail
  refine (div_any _ _ _ (by omega) (by omega) (by omega) (by omega)).mono ?_
  rintro e w1 ⟨rfl, rfl⟩
  rw [EU.out]
  have hu := HU.out
  generalize hue : levU t p2 = u at *
  have HUE := Lib.hid hue; clear hue
  go_wp2_with fail
  go_quiet ((go_at_call 91; exact quiet_tolN (nlerp_any _ _ _ _ h3 h4 hu) (fun _ => ⟨_, World.drewN_drewN _ _ _⟩)))
  go_wp2_with fail
  go_ret
  exact ⟨by rw [HTE.out, HUE.out]; rfl, by rw [← HW.out]; exact ⟨_, World.drewN_drewN _ _ _⟩⟩
set_option maxHeartbeats 2000000 in
theorem bri_any (b o c g : Nat) (p0 p1 x : Int) (w : World) (hx : 0 ≤ x ∧ x ≤ 65535) (h0 : -65535 ≤ p0 ∧ p0 ≤ 65535) (h1 : -65535 ≤ p1 ∧ p1 ≤ 65535) (hb : w.cell? ⟨g, 0, none⟩ = some (.slice (some ⟨b, o, none⟩) 2 c))
    (c0 : w.cell? ⟨b, o, none⟩ = some (.int .i64 p0)) (c1 : w.cell? ⟨b, o + 1, none⟩ = some (.int .i64 p1)) :
    Calls Tryd.prog 79 #[.int .i64 x, .pointer (some ⟨g, 0, none⟩)] w fun e w' => e = .returned (.int .i64 (lim16 (32768 + rdiv ((x + p0 - 32768) * (65535 + p1)) 65535))) ∧ ∃ n, w' = w.drewN n := by
  have hm : -12884705280 ≤ (x + p0 - 32768) * (65535 + p1) ∧ (x + p0 - 32768) * (65535 + p1) ≤ 12884705280 := by
    have e1 : (x + p0 - 32768) * (65535 + p1) ≤ 98302 * (65535 + p1) := Int.mul_le_mul_of_nonneg_right (by omega) (by omega)
    have e2 : (-98303) * (65535 + p1) ≤ (x + p0 - 32768) * (65535 + p1) := Int.mul_le_mul_of_nonneg_right (by omega) (by omega)
    omega
  have hd := rdiv_spec ((x + p0 - 32768) * (65535 + p1)) 65535 (by omega)
  have D := Lib.hid (fun w' => div_any ((x + p0 - 32768) * (65535 + p1)) 65535 w' (by omega) (by omega) (by omega) (by omega))
  have hq : -4611686018427387904 ≤ rdiv ((x + p0 - 32768) * (65535 + p1)) 65535 ∧ rdiv ((x + p0 - 32768) * (65535 + p1)) 65535 ≤ 4611686018427387904 := by omega
  generalize hq2 : rdiv ((x + p0 - 32768) * (65535 + p1)) 65535 = q at *
  have HQ := Lib.hid hq2; clear hq2 hd
  go_enter Tryd.func79, Tryd.ntmps79
  go_wp2_with fail
  go_quiet (first | (go_at_call 34; exact quiet_tol (D.out _) ⟨_, rfl⟩) | (go_at_call 39; exact quiet_tol (aunit_any _ _) ⟨_, rfl⟩))
  go_wp2_with fail
  go_ret
  exact ⟨rfl, _, rfl⟩
set_option maxRecDepth 10000 in
set_option maxHeartbeats 2000000 in
theorem pos_any (g : Nat) (n x : Int) (w : World) (hx : 0 ≤ x ∧ x ≤ 65535) (hn : 1 ≤ n ∧ n ≤ 255) (hb : w.cell? ⟨g, 0, none⟩ = some (.int .i64 n)) :
    Calls Tryd.prog 80 #[.int .i64 x, .pointer (some ⟨g, 0, none⟩)] w fun e w' => e = .returned (.int .i64 (posF n x)) ∧ ∃ n, w' = w.drewN n := by
  have E := Lib.hid (show rdiv (rdiv (x * n) 65535 * 65535) n = posF n x from rfl)
  have e1 : 0 ≤ x * n := Int.mul_nonneg hx.1 (by omega)
  have e2 : x * n ≤ 65535 * n := Int.mul_le_mul_of_nonneg_right hx.2 (by omega)
  have hk := (posF_in hn hx).1
  have D := Lib.hid (fun w' => div_any (x * n) 65535 w' (by omega) (by omega) (by omega) (by omega))
  generalize rdiv (x * n) 65535 = k at *
  have D2 := Lib.hid (fun w' => div_any (k * 65535) n w' (by omega) (by omega) (by omega) (by omega))
  go_enter Tryd.func80, Tryd.ntmps80
  go_wp2_with fail
  go_quiet (first | (go_at_call 34; (with_reducible refine quiet_tol (D.out _) ?_); exact ⟨_, rfl⟩) | (go_at_call 34; (with_reducible refine quiet_tol (D2.out _) ?_); exact ⟨_, rfl⟩))
  go_wp2_with fail
  go_ret
  exact ⟨ret_int E.out, _, rfl⟩
theorem inv_any (x : Int) (w : World) (hx : 0 ≤ x ∧ x ≤ 65535) : Calls Tryd.prog 83 #[.int .i64 x] w fun e w' => e = .returned (.int .i64 (65535 - x)) ∧ w = w' := by
  go_enter Tryd.func83, Tryd.ntmps83
  go_wp2
  go_ret
  exact ⟨rfl, rfl⟩
end Go.Proofs.YtmbglkholoblaaaDoor
