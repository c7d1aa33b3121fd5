/- FromHsl and its reference: one contract each. -/
import Derived.Test.YtmbglkholoblaaaDoorMG
import Derived.Test.YtmbglkholoblaaaDoorMG2
import Derived.Test.YtmbglkholoblaaaDoorMG3
import Derived.Test.YtmbglkholoblaaaDoorMD
import Derived.Test.YtmbglkholoblaaaDoorME
import Derived.Test.YtmbglkholoblaaaDoorMC
import Derived.StillTailTactics
namespace Go.Proofs.YtmbglkholoblaaaDoor
open Go.RowKit

theorem fromhsl_any (h s l a : Int) (w : World) : Calls Tryd.prog 17 #[.agg #[.int .i64 h, .int .i64 s, .int .i64 l], .int .i64 a] w (PxPost (fromH h s l a) w) := by
  by_cases hz2 : lim16 a = 0
  · exact from_z h s l a hz2 w
  have E : fromH h s l a = fromHsl (h % 65536) (lim16 s) (lim16 l) (lim16 a) := by unfold fromH; rw [if_neg hz2]
  rw [E]
  have ha := lim16_bd a; have hs := lim16_bd s; have hl := lim16_bd l
  have hu : 0 ≤ h % 65536 ∧ h % 65536 ≤ 65535 := by omega
  obtain ⟨hp, hC⟩ := hslC_bd hs hl
  have hn := rdiv_spec (2 * lim16 l - hslC (lim16 s) (lim16 l)) 2 (by omega)
  have TA := fun w' => aunit_any a w'
  have TS := fun w' => aunit_any s w'
  have TL := fun w' => aunit_any l w'
  rcases (show 6 * (h % 65536) / 65536 = 0 ∨ 6 * (h % 65536) / 65536 = 1 ∨ 6 * (h % 65536) / 65536 = 2 ∨ 6 * (h % 65536) / 65536 = 3 ∨ 6 * (h % 65536) / 65536 = 4 ∨ 6 * (h % 65536) / 65536 = 5 by omega) with hk | hk | hk | hk | hk | hk
  · have h2 := fr_bd (f := (6 * (h % 65536))) hC (by omega)
    have h3 := fr_bd (f := (6 * (h % 65536))) hC (by omega)
    exact from_y0 h s l a (h % 65536) (lim16 s) (lim16 l) (lim16 a) _ _ _ _ w (by omega) hu hs hl hk hC h3.2 (by omega) (fun w' => modulo_any h w') TA TS TL (fun w' => div_any _ _ w' (by omega) (by omega) (by omega) (by omega)) (fun w' => div_any _ _ w' (by omega) (by omega) (by omega) (by omega)) (fun w' => div_any _ _ w' (by omega) (by omega) (by omega) (by omega)) (from_0 hk rfl rfl rfl)
  · have h2 := fr_bd (f := (6 * (h % 65536) - 65536)) hC (by omega)
    have h3 := fr_bd (f := (65536 - (6 * (h % 65536) - 65536))) hC (by omega)
    exact from_y1 h s l a (h % 65536) (lim16 s) (lim16 l) (lim16 a) _ _ _ _ w (by omega) hu hs hl hk hC h3.2 (by omega) (fun w' => modulo_any h w') TA TS TL (fun w' => div_any _ _ w' (by omega) (by omega) (by omega) (by omega)) (fun w' => (div_any _ _ w' (by omega) (by omega) (by omega) (by omega)).mono fun e w'' ⟨x, y⟩ => ⟨⟨_, x⟩, y⟩) (fun w' => div_any _ _ w' (by omega) (by omega) (by omega) (by omega)) (fun w' => div_any _ _ w' (by omega) (by omega) (by omega) (by omega)) (from_1 hk rfl rfl rfl)
  · have h2 := fr_bd (f := (6 * (h % 65536) - 131072)) hC (by omega)
    have h3 := fr_bd (f := (6 * (h % 65536) - 131072)) hC (by omega)
    exact from_y2 h s l a (h % 65536) (lim16 s) (lim16 l) (lim16 a) _ _ _ _ w (by omega) hu hs hl hk hC h3.2 (by omega) (fun w' => modulo_any h w') TA TS TL (fun w' => div_any _ _ w' (by omega) (by omega) (by omega) (by omega)) (fun w' => div_any _ _ w' (by omega) (by omega) (by omega) (by omega)) (fun w' => div_any _ _ w' (by omega) (by omega) (by omega) (by omega)) (from_2 hk rfl rfl rfl)
  · have h2 := fr_bd (f := (6 * (h % 65536) - 196608)) hC (by omega)
    have h3 := fr_bd (f := (65536 - (6 * (h % 65536) - 196608))) hC (by omega)
    exact from_y3 h s l a (h % 65536) (lim16 s) (lim16 l) (lim16 a) _ _ _ _ w (by omega) hu hs hl hk hC h3.2 (by omega) (fun w' => modulo_any h w') TA TS TL (fun w' => div_any _ _ w' (by omega) (by omega) (by omega) (by omega)) (fun w' => (div_any _ _ w' (by omega) (by omega) (by omega) (by omega)).mono fun e w'' ⟨x, y⟩ => ⟨⟨_, x⟩, y⟩) (fun w' => div_any _ _ w' (by omega) (by omega) (by omega) (by omega)) (fun w' => div_any _ _ w' (by omega) (by omega) (by omega) (by omega)) (from_3 hk rfl rfl rfl)
  · have h2 := fr_bd (f := (6 * (h % 65536) - 262144)) hC (by omega)
    have h3 := fr_bd (f := (6 * (h % 65536) - 262144)) hC (by omega)
    exact from_y4 h s l a (h % 65536) (lim16 s) (lim16 l) (lim16 a) _ _ _ _ w (by omega) hu hs hl hk hC h3.2 (by omega) (fun w' => modulo_any h w') TA TS TL (fun w' => div_any _ _ w' (by omega) (by omega) (by omega) (by omega)) (fun w' => div_any _ _ w' (by omega) (by omega) (by omega) (by omega)) (fun w' => div_any _ _ w' (by omega) (by omega) (by omega) (by omega)) (from_4 hk rfl rfl rfl)
  · have h2 := fr_bd (f := (6 * (h % 65536) - 327680)) hC (by omega)
    have h3 := fr_bd (f := (65536 - (6 * (h % 65536) - 327680))) hC (by omega)
    exact from_y5 h s l a (h % 65536) (lim16 s) (lim16 l) (lim16 a) _ _ _ _ w (by omega) hu hs hl hk hC h3.2 (by omega) (fun w' => modulo_any h w') TA TS TL (fun w' => div_any _ _ w' (by omega) (by omega) (by omega) (by omega)) (fun w' => (div_any _ _ w' (by omega) (by omega) (by omega) (by omega)).mono fun e w'' ⟨x, y⟩ => ⟨⟨_, x⟩, y⟩) (fun w' => div_any _ _ w' (by omega) (by omega) (by omega) (by omega)) (fun w' => div_any _ _ w' (by omega) (by omega) (by omega) (by omega)) (from_5 hk rfl rfl rfl)
theorem rfromhsl_any (h s l a : Int) (w : World) : Calls Tryd.prog 18 #[.agg #[.int .i64 h, .int .i64 s, .int .i64 l], .int .i64 a] w (PxPost (fromH h s l a) w) := by
  by_cases hz : a ≤ 0
  · exact rfrom_z h s l a hz w
  have hz2 : lim16 a ≠ 0 := by unfold lim16; omega
  have E : fromH h s l a = fromHsl (h % 65536) (lim16 s) (lim16 l) (lim16 a) := by unfold fromH; rw [if_neg hz2]
  rw [E]
  have ha := lim16_bd a; have hs := lim16_bd s; have hl := lim16_bd l
  have hu : 0 ≤ h % 65536 ∧ h % 65536 ≤ 65535 := by omega
  obtain ⟨hp, hC⟩ := hslC_bd hs hl
  have hn := rdiv_spec (2 * lim16 l - hslC (lim16 s) (lim16 l)) 2 (by omega)
  have TA := fun w' => r17unit_any a w'
  have TS := fun w' => r17unit_any s w'
  have TL := fun w' => r17unit_any l w'
  rcases (show 6 * (h % 65536) / 65536 = 0 ∨ 6 * (h % 65536) / 65536 = 1 ∨ 6 * (h % 65536) / 65536 = 2 ∨ 6 * (h % 65536) / 65536 = 3 ∨ 6 * (h % 65536) / 65536 = 4 ∨ 6 * (h % 65536) / 65536 = 5 by omega) with hk | hk | hk | hk | hk | hk
  · have h2 := fr_bd (f := (6 * (h % 65536))) hC (by omega)
    have h3 := fr_bd (f := (6 * (h % 65536))) hC (by omega)
    exact rfrom_y0 h s l a (h % 65536) (lim16 s) (lim16 l) (lim16 a) _ _ _ _ w (by omega) (by omega) rfl hu hs hl hk hC h3.2 (by omega) TA TS TL (fun w' => rdiv_any _ _ w' (by omega) (by omega) (by omega) (by omega)) (fun w' => rdiv_any _ _ w' (by omega) (by omega) (by omega) (by omega)) (fun w' => rdiv_any _ _ w' (by omega) (by omega) (by omega) (by omega)) (from_0 hk rfl rfl rfl)
  · have h2 := fr_bd (f := (6 * (h % 65536) - 65536)) hC (by omega)
    have h3 := fr_bd (f := (65536 - (6 * (h % 65536) - 65536))) hC (by omega)
    exact rfrom_y1 h s l a (h % 65536) (lim16 s) (lim16 l) (lim16 a) _ _ _ _ w (by omega) (by omega) rfl hu hs hl hk hC h3.2 (by omega) TA TS TL (fun w' => rdiv_any _ _ w' (by omega) (by omega) (by omega) (by omega)) (fun w' => (rdiv_any _ _ w' (by omega) (by omega) (by omega) (by omega)).mono fun e w'' ⟨x, y⟩ => ⟨⟨_, x⟩, y⟩) (fun w' => rdiv_any _ _ w' (by omega) (by omega) (by omega) (by omega)) (fun w' => rdiv_any _ _ w' (by omega) (by omega) (by omega) (by omega)) (from_1 hk rfl rfl rfl)
  · have h2 := fr_bd (f := (6 * (h % 65536) - 131072)) hC (by omega)
    have h3 := fr_bd (f := (6 * (h % 65536) - 131072)) hC (by omega)
    exact rfrom_y2 h s l a (h % 65536) (lim16 s) (lim16 l) (lim16 a) _ _ _ _ w (by omega) (by omega) rfl hu hs hl hk hC h3.2 (by omega) TA TS TL (fun w' => rdiv_any _ _ w' (by omega) (by omega) (by omega) (by omega)) (fun w' => rdiv_any _ _ w' (by omega) (by omega) (by omega) (by omega)) (fun w' => rdiv_any _ _ w' (by omega) (by omega) (by omega) (by omega)) (from_2 hk rfl rfl rfl)
  · have h2 := fr_bd (f := (6 * (h % 65536) - 196608)) hC (by omega)
    have h3 := fr_bd (f := (65536 - (6 * (h % 65536) - 196608))) hC (by omega)
    exact rfrom_y3 h s l a (h % 65536) (lim16 s) (lim16 l) (lim16 a) _ _ _ _ w (by omega) (by omega) rfl hu hs hl hk hC h3.2 (by omega) TA TS TL (fun w' => rdiv_any _ _ w' (by omega) (by omega) (by omega) (by omega)) (fun w' => (rdiv_any _ _ w' (by omega) (by omega) (by omega) (by omega)).mono fun e w'' ⟨x, y⟩ => ⟨⟨_, x⟩, y⟩) (fun w' => rdiv_any _ _ w' (by omega) (by omega) (by omega) (by omega)) (fun w' => rdiv_any _ _ w' (by omega) (by omega) (by omega) (by omega)) (from_3 hk rfl rfl rfl)
  · have h2 := fr_bd (f := (6 * (h % 65536) - 262144)) hC (by omega)
    have h3 := fr_bd (f := (6 * (h % 65536) - 262144)) hC (by omega)
    exact rfrom_y4 h s l a (h % 65536) (lim16 s) (lim16 l) (lim16 a) _ _ _ _ w (by omega) (by omega) rfl hu hs hl hk hC h3.2 (by omega) TA TS TL (fun w' => rdiv_any _ _ w' (by omega) (by omega) (by omega) (by omega)) (fun w' => rdiv_any _ _ w' (by omega) (by omega) (by omega) (by omega)) (fun w' => rdiv_any _ _ w' (by omega) (by omega) (by omega) (by omega)) (from_4 hk rfl rfl rfl)
  · have h2 := fr_bd (f := (6 * (h % 65536) - 327680)) hC (by omega)
    have h3 := fr_bd (f := (65536 - (6 * (h % 65536) - 327680))) hC (by omega)
    exact rfrom_y5 h s l a (h % 65536) (lim16 s) (lim16 l) (lim16 a) _ _ _ _ w (by omega) (by omega) rfl hu hs hl hk hC h3.2 (by omega) TA TS TL (fun w' => rdiv_any _ _ w' (by omega) (by omega) (by omega) (by omega)) (fun w' => (rdiv_any _ _ w' (by omega) (by omega) (by omega) (by omega)).mono fun e w'' ⟨x, y⟩ => ⟨⟨_, x⟩, y⟩) (fun w' => rdiv_any _ _ w' (by omega) (by omega) (by omega) (by omega)) (fun w' => rdiv_any _ _ w' (by omega) (by omega) (by omega) (by omega)) (from_5 hk rfl rfl rfl)
end Go.Proofs.YtmbglkholoblaaaDoor
namespace Go.Proofs.YtmbglkholoblaaaDoor
open Go.RowKit

/-- Parameters in memory: where they lie. -/
theorem ints_at {w : World} {B : Nat} {v : Value} {l : List Int} (h : Ints w B v l) (hn : 0 < l.length) : ∃ b o c, v = .slice (some ⟨b, o, none⟩) l.length c ∧ b < B ∧ ∀ i, i < l.length → w.cell? ⟨b, o + i, none⟩ = some (.int .i64 (prm l i)) := by
  obtain ⟨A, c, rfl, _, hc⟩ := h
  obtain ⟨b, o, rfl, hb, _⟩ := hc 0 hn
  refine ⟨b, o, c, rfl, hb, fun i hi => ?_⟩
  obtain ⟨b', o', e, _, h2⟩ := hc i hi
  injection e with e
  injection e with e1 e2
  subst e1 e2
  exact h2
theorem levP {t g : Int} (ht : 0 ≤ t ∧ t ≤ 65535) (hg : 1 ≤ g ∧ g ≤ 256) : (0 ≤ 65535 * t * g ∧ 65535 * t * g ≤ 1099478073600) ∧ (0 ≤ t * g ∧ t * g ≤ 16776960) ∧ 0 < t * g + 16 * (65535 - t) := by
  obtain ⟨h1, h2, h3⟩ := levU_pos ht hg
  rw [Int.mul_assoc]
  omega
set_option maxHeartbeats 2000000 in
theorem leveled_any (b o c : Nat) (p0 p1 p2 p3 p4 x : Int) (w : World) (hx : 0 ≤ x ∧ x ≤ 65535) (h0 : 0 ≤ p0 ∧ p0 < p1 ∧ p1 ≤ 65535) (h2 : 1 ≤ p2 ∧ p2 ≤ 256) (h3 : 0 ≤ p3 ∧ p3 ≤ 65535) (h4 : 0 ≤ p4 ∧ p4 ≤ 65535)
    (c0 : w.cell? ⟨b, o, none⟩ = some (.int .i64 p0)) (c1 : w.cell? ⟨b, o + 1, none⟩ = some (.int .i64 p1)) (c2 : w.cell? ⟨b, o + 2, none⟩ = some (.int .i64 p2)) (c3 : w.cell? ⟨b, o + 3, none⟩ = some (.int .i64 p3)) (c4 : w.cell? ⟨b, o + 4, none⟩ = some (.int .i64 p4)) :
    Calls Tryd.prog 76 #[.slice (some ⟨b, o, none⟩) 5 c, .int .i64 x] w fun e w' => e = .returned (.int .i64 (lerp p3 p4 (levU (lim16 (rdiv ((x - p0) * 65535) (p1 - p0))) p2))) ∧ ∃ n, w' = w.drewN n := by
  go_enter Tryd.func76, Tryd.ntmps76
  go_wp2_with fail
  go_quiet (fail)
  replace c3 : (w.drewN nq).cell? ⟨b, o + 3, none⟩ = some (.int .i64 p3) := c3
  replace c4 : (w.drewN nq).cell? ⟨b, o + 4, none⟩ = some (.int .i64 p4) := c4
  generalize hwx : w.drewN nq = wx at *
  have HW := Lib.hid hwx; clear hwx
  go_wp2_with fail
  refine (div_any _ _ _ (by omega) (by omega) (by omega) (by omega)).mono ?_
  rintro e w1 ⟨rfl, rfl⟩
  go_wp2_with fail
  refine (aunit_any _ _).mono ?_
  rintro e w1 ⟨rfl, rfl⟩
  have ht := lim16_bd (rdiv ((x - p0) * 65535) (p1 - p0))
  have HU := Lib.hid (levU_in ht h2)
  have hl := levP ht h2
  have EU := Lib.hid (show rdiv (65535 * lim16 (rdiv ((x - p0) * 65535) (p1 - p0)) * p2) (lim16 (rdiv ((x - p0) * 65535) (p1 - p0)) * p2 + 16 * (65535 - lim16 (rdiv ((x - p0) * 65535) (p1 - p0)))) = levU (lim16 (rdiv ((x - p0) * 65535) (p1 - p0))) p2 from rfl)
  generalize hte : lim16 (rdiv ((x - p0) * 65535) (p1 - p0)) = t at *
  have HTE := Lib.hid hte; clear hte
  go_wp2_with fail
  refine (div_any _ _ _ (by omega) (by omega) (by omega) (by omega)).mono ?_
  rintro e w1 ⟨rfl, rfl⟩
  rw [EU.out]
  have hu := HU.out
  generalize hue : levU t p2 = u at *
  have HUE := Lib.hid hue; clear hue
  go_wp2_with fail
  go_quiet ((go_at_call 91; exact quiet_tolN (nlerp_any _ _ _ _ h3 h4 hu) (fun _ => ⟨_, World.drewN_drewN _ _ _⟩)))
  go_wp2_with fail
  go_ret
  exact ⟨by rw [HTE.out, HUE.out]; rfl, by rw [← HW.out]; exact ⟨_, World.drewN_drewN _ _ _⟩⟩
set_option maxHeartbeats 2000000 in
theorem bri_any (b o c g : Nat) (p0 p1 x : Int) (w : World) (hx : 0 ≤ x ∧ x ≤ 65535) (h0 : -65535 ≤ p0 ∧ p0 ≤ 65535) (h1 : -65535 ≤ p1 ∧ p1 ≤ 65535) (hb : w.cell? ⟨g, 0, none⟩ = some (.slice (some ⟨b, o, none⟩) 2 c))
    (c0 : w.cell? ⟨b, o, none⟩ = some (.int .i64 p0)) (c1 : w.cell? ⟨b, o + 1, none⟩ = some (.int .i64 p1)) :
    Calls Tryd.prog 79 #[.int .i64 x, .pointer (some ⟨g, 0, none⟩)] w fun e w' => e = .returned (.int .i64 (lim16 (32768 + rdiv ((x + p0 - 32768) * (65535 + p1)) 65535))) ∧ ∃ n, w' = w.drewN n := by
  have hm : -12884705280 ≤ (x + p0 - 32768) * (65535 + p1) ∧ (x + p0 - 32768) * (65535 + p1) ≤ 12884705280 := by
    have e1 : (x + p0 - 32768) * (65535 + p1) ≤ 98302 * (65535 + p1) := Int.mul_le_mul_of_nonneg_right (by omega) (by omega)
    have e2 : (-98303) * (65535 + p1) ≤ (x + p0 - 32768) * (65535 + p1) := Int.mul_le_mul_of_nonneg_right (by omega) (by omega)
    omega
  have hd := rdiv_spec ((x + p0 - 32768) * (65535 + p1)) 65535 (by omega)
  have D := Lib.hid (fun w' => div_any ((x + p0 - 32768) * (65535 + p1)) 65535 w' (by omega) (by omega) (by omega) (by omega))
  have hq : -4611686018427387904 ≤ rdiv ((x + p0 - 32768) * (65535 + p1)) 65535 ∧ rdiv ((x + p0 - 32768) * (65535 + p1)) 65535 ≤ 4611686018427387904 := by omega
  generalize hq2 : rdiv ((x + p0 - 32768) * (65535 + p1)) 65535 = q at *
  have HQ := Lib.hid hq2; clear hq2 hd
  go_enter Tryd.func79, Tryd.ntmps79
  go_wp2_with fail
  go_quiet (first | (go_at_call 34; exact quiet_tol (D.out _) ⟨_, rfl⟩) | (go_at_call 39; exact quiet_tol (aunit_any _ _) ⟨_, rfl⟩))
  go_wp2_with fail
  go_ret
  exact ⟨rfl, _, rfl⟩
set_option maxRecDepth 10000 in
set_option maxHeartbeats 2000000 in
theorem pos_any (g : Nat) (n x : Int) (w : World) (hx : 0 ≤ x ∧ x ≤ 65535) (hn : 1 ≤ n ∧ n ≤ 255) (hb : w.cell? ⟨g, 0, none⟩ = some (.int .i64 n)) :
    Calls Tryd.prog 80 #[.int .i64 x, .pointer (some ⟨g, 0, none⟩)] w fun e w' => e = .returned (.int .i64 (posF n x)) ∧ ∃ n, w' = w.drewN n := by
  have E := Lib.hid (show rdiv (rdiv (x * n) 65535 * 65535) n = posF n x from rfl)
  have e1 : 0 ≤ x * n := Int.mul_nonneg hx.1 (by omega)
  have e2 : x * n ≤ 65535 * n := Int.mul_le_mul_of_nonneg_right hx.2 (by omega)
  have hk := (posF_in hn hx).1
  have D := Lib.hid (fun w' => div_any (x * n) 65535 w' (by omega) (by omega) (by omega) (by omega))
  generalize rdiv (x * n) 65535 = k at *
  have D2 := Lib.hid (fun w' => div_any (k * 65535) n w' (by omega) (by omega) (by omega) (by omega))
  go_enter Tryd.func80, Tryd.ntmps80
  go_wp2_with fail
  go_quiet (first | (go_at_call 34; (with_reducible refine quiet_tol (D.out _) ?_); exact ⟨_, rfl⟩) | (go_at_call 34; (with_reducible refine quiet_tol (D2.out _) ?_); exact ⟨_, rfl⟩))
  go_wp2_with fail
  go_ret
  exact ⟨ret_int E.out, _, rfl⟩
theorem inv_any (x : Int) (w : World) (hx : 0 ≤ x ∧ x ≤ 65535) : Calls Tryd.prog 83 #[.int .i64 x] w fun e w' => e = .returned (.int .i64 (65535 - x)) ∧ w = w' := by
  go_enter Tryd.func83, Tryd.ntmps83
  go_wp2
  go_ret
  exact ⟨rfl, rfl⟩
end Go.Proofs.YtmbglkholoblaaaDoor
namespace Go.Proofs.YtmbglkholoblaaaDoor
open Go.RowKit

/-- The table of factors. -/
def Tab (w : World) : Prop := 0 < w.heap.size ∧ ∀ i : Nat, i < 16 → w.cell? ⟨0, i, none⟩ = some (.int .i64 (facs.getD i 0))
theorem Tab.below {w w' : World} (h : Tab w) (hb : Below w.heap.size w w') : Tab w' := ⟨Nat.lt_of_lt_of_le h.1 hb.size, fun i hi => (hb.cell (p := ⟨0, i, none⟩) h.1).trans (h.2 i hi)⟩
theorem facs_bd (i : Nat) (h : i < 16) : 65536 ≤ facs.getD i 0 ∧ facs.getD i 0 ≤ 125515 := by
  have : ∀ i : Fin 16, 65536 ≤ facs.getD i.val 0 ∧ facs.getD i.val 0 ≤ 125515 := by decide
  exact this ⟨i, h⟩
theorem pow_bd {m : Nat} {y : Int} (hm : m ≤ 8) (hy : 0 ≤ y ∧ y ≤ 8225625525) : 0 ≤ y * 2 ^ m ∧ y * 2 ^ m ≤ 2105760134400 := by
  rcases (show m = 0 ∨ m = 1 ∨ m = 2 ∨ m = 3 ∨ m = 4 ∨ m = 5 ∨ m = 6 ∨ m = 7 ∨ m = 8 by omega) with rfl | rfl | rfl | rfl | rfl | rfl | rfl | rfl | rfl <;> omega
set_option maxHeartbeats 2000000 in
theorem exposed_up (b o c : Nat) (p0 p1 x : Int) (m r : Nat) (F : Int) (w : World) (hx : 0 ≤ x ∧ x ≤ 65535) (hm : m ≤ 8) (hr : r < 16) (h0 : p0 = 16 * m + r) (h1 : -65535 ≤ p1 ∧ p1 ≤ 65535) (hF : 65536 ≤ F ∧ F ≤ 125515) (ht : w.cell? ⟨0, r, none⟩ = some (.int .i64 F))
    (c0 : w.cell? ⟨b, o, none⟩ = some (.int .i64 p0)) (c1 : w.cell? ⟨b, o + 1, none⟩ = some (.int .i64 p1)) :
    Calls Tryd.prog 82 #[.slice (some ⟨b, o, none⟩) 2 c, .int .i64 x] w fun e w' => e = .returned (.int .i64 (lim16 (rdiv (x * F * 2 ^ m) 65536 + p1))) ∧ ∃ n, w' = w.drewN n := by
  have hq : p0 / 16 = (m : Int) := by omega
  have hq2 : p0 - 16 * (m : Int) = (r : Int) := by omega
  have hp : -128 ≤ p0 ∧ p0 ≤ 143 := by omega
  have HQ := Lib.hid hq; clear hq h0
  go_enter Tryd.func82, Tryd.ntmps82
  go_wp2_with fail
  refine (floor_any _ _ _ (by omega) (by omega) (by omega) (by omega)).mono ?_
  rintro e w1 ⟨rfl, rfl⟩
  rw [HQ.out]
  have hm0 : (0 : Int) ≤ (m : Int) := by omega
  have hr0 : (0 : Int) ≤ (r : Int) := by omega
  have hr1 : (r : Int) < 16 := by omega
  have hxf : 0 ≤ x * F ∧ x * F ≤ 8225625525 := ⟨Int.mul_nonneg hx.1 (by omega), by have : x * F ≤ 65535 * 125515 := Int.mul_le_mul hx.2 hF.2 (by omega) (by omega); omega⟩
  have hyb := pow_bd hm hxf
  generalize hy : x * F * 2 ^ m = y at *
  have HY := Lib.hid hy
  go_wp2_with fail
  refine (div_any _ _ _ (by omega) (by omega) (by omega) (by omega)).mono ?_
  rintro e w1 ⟨rfl, rfl⟩
  have hd := rdiv_spec y 65536 (by omega)
  have hdb : -4611686018427387904 ≤ rdiv y 65536 ∧ rdiv y 65536 ≤ 4611686018427300000 := by omega
  generalize hdd : rdiv y 65536 = dv at *
  have HD := Lib.hid hdd; clear hdd hd
  go_wp2_with fail
  refine (aunit_any _ _).mono ?_
  rintro e w1 ⟨rfl, rfl⟩
  go_wp2_with fail
  go_ret
  exact ⟨by rw [HY.out, HD.out]; rfl, 0, rfl⟩
set_option maxHeartbeats 2000000 in
theorem exposed_dn (b o c : Nat) (p0 p1 x : Int) (m r : Nat) (F : Int) (w : World) (hx : 0 ≤ x ∧ x ≤ 65535) (hm0 : 1 ≤ m) (hm : m ≤ 8) (hr : r < 16) (h0 : p0 = 16 * (-(m : Int)) + r) (h1 : -65535 ≤ p1 ∧ p1 ≤ 65535) (hF : 65536 ≤ F ∧ F ≤ 125515) (ht : w.cell? ⟨0, r, none⟩ = some (.int .i64 F))
    (c0 : w.cell? ⟨b, o, none⟩ = some (.int .i64 p0)) (c1 : w.cell? ⟨b, o + 1, none⟩ = some (.int .i64 p1)) :
    Calls Tryd.prog 82 #[.slice (some ⟨b, o, none⟩) 2 c, .int .i64 x] w fun e w' => e = .returned (.int .i64 (lim16 (rdiv (x * F) (65536 * 2 ^ m) + p1))) ∧ ∃ n, w' = w.drewN n := by
  have hq : p0 / 16 = -(m : Int) := by omega
  have hq2 : p0 - 16 * (-(m : Int)) = (r : Int) := by omega
  have hq3 : p0 - -(16 * (m : Int)) = (r : Int) := by omega
  have hp : -128 ≤ p0 ∧ p0 ≤ 143 := by omega
  have HQ := Lib.hid hq; clear hq h0
  go_enter Tryd.func82, Tryd.ntmps82
  go_wp2_with fail
  refine (floor_any _ _ _ (by omega) (by omega) (by omega) (by omega)).mono ?_
  rintro e w1 ⟨rfl, rfl⟩
  rw [HQ.out]
  have hg : decide (0 ≤ -(m : Int)) = false := by simp; omega
  have hm1 : (0 : Int) ≤ (m : Int) := by omega
  have hr0 : (0 : Int) ≤ (r : Int) := by omega
  have hr1 : (r : Int) < 16 := by omega
  have hxf : 0 ≤ x * F ∧ x * F ≤ 8225625525 := ⟨Int.mul_nonneg hx.1 (by omega), by have : x * F ≤ 65535 * 125515 := Int.mul_le_mul hx.2 hF.2 (by omega) (by omega); omega⟩
  have hyb := pow_bd hm (y := 65536) (by omega)
  generalize hy : (65536 : Int) * 2 ^ m = y at *
  have HY := Lib.hid hy
  have hyb2 : 0 < y := by rw [← HY.out]; exact Int.mul_pos (by omega) (Int.pow_pos (by omega))
  go_wp2_with fail
  refine (div_any _ _ _ (by omega) (by omega) (by omega) (by omega)).mono ?_
  rintro e w1 ⟨rfl, rfl⟩
  have hd := rdiv_bounds (x * F) y hyb2 (by omega) (by omega)
  have hdb : -4611686018427387904 ≤ rdiv (x * F) y ∧ rdiv (x * F) y ≤ 4611686018427387905 := hd
  generalize hdd : rdiv (x * F) y = dv at *
  have HD := Lib.hid hdd; clear hdd hd
  go_wp2_with fail
  refine (aunit_any _ _).mono ?_
  rintro e w1 ⟨rfl, rfl⟩
  go_wp2_with fail
  go_ret
  exact ⟨by rw [HY.out, HD.out]; rfl, 0, rfl⟩
/-- exposed, for parameters in their ranges. -/
theorem exposed_any (b o c : Nat) (p0 p1 x : Int) (w : World) (hT : Tab w) (hx : 0 ≤ x ∧ x ≤ 65535) (h0 : -128 ≤ p0 ∧ p0 ≤ 128) (h1 : -65535 ≤ p1 ∧ p1 ≤ 65535)
    (c0 : w.cell? ⟨b, o, none⟩ = some (.int .i64 p0)) (c1 : w.cell? ⟨b, o + 1, none⟩ = some (.int .i64 p1)) :
    Calls Tryd.prog 82 #[.slice (some ⟨b, o, none⟩) 2 c, .int .i64 x] w fun e w' => e = .returned (.int .i64 (lim16 (expD p0 x + p1))) ∧ ∃ n, w' = w.drewN n := by
  have hr : (p0 % 16).toNat < 16 := by omega
  by_cases h : 0 ≤ p0 / 16
  · have := exposed_up b o c p0 p1 x (p0 / 16).toNat (p0 % 16).toNat _ w hx (by omega) hr (by omega) h1 (facs_bd _ hr) (hT.2 _ hr) c0 c1
    unfold expD
    rw [if_pos h]
    exact this
  · have := exposed_dn b o c p0 p1 x (-(p0 / 16)).toNat (p0 % 16).toNat _ w hx (by omega) (by omega) hr (by omega) h1 (facs_bd _ hr) (hT.2 _ hr) c0 c1
    unfold expD
    rw [if_neg h]
    exact this
end Go.Proofs.YtmbglkholoblaaaDoor
namespace Go.Proofs.YtmbglkholoblaaaDoor
open Go.RowKit

/-- A function value that computes f of a unit value, from a world on. -/
def FnI (F : Nat) (caps : Array Value) (f : Int → Int) (w0 : World) : Prop :=
  ∀ w, Below w0.heap.size w0 w → ∀ c, 0 ≤ c ∧ c ≤ 65535 → Calls Tryd.prog F (#[.int .i64 c] ++ caps) w fun e w' => e = .returned (.int .i64 (f c)) ∧ Below w.heap.size w w'
def Ent (F : Nat) : Prop := ∀ (args : Array Value) (w : World), (callFunc F args).run Tryd.prog w = .ok (.enter F args) w
theorem FnI.on {F : Nat} {caps : Array Value} {f : Int → Int} {w0 w : World} (h : FnI F caps f w0) (hb : Below w0.heap.size w0 w) : FnI F caps f w := fun w' hb' c hc => h w' (hb.trans (hb'.mono hb.size)) c hc
def ChPost (f : Int → Int) (w : World) (e : Ending) (w' : World) : Prop := ∃ F caps, e = .returned (.func (.func F) #[] caps) ∧ Ent F ∧ FnI F caps f w' ∧ Below w.heap.size w w'
theorem ent_c1 : Ent 75 := fun _ _ => by simp [go_sem]
theorem ent_c2 : Ent 77 := fun _ _ => by simp [go_sem]
theorem ent_c3 : Ent 79 := fun _ _ => by simp [go_sem]
theorem ent_c4 : Ent 80 := fun _ _ => by simp [go_sem]
theorem ent_c5 : Ent 81 := fun _ _ => by simp [go_sem]
theorem ent_c6 : Ent 83 := fun _ _ => by simp [go_sem]

section
variable {b o c g : Nat} {w : World}
theorem c1_any (p0 p1 p2 p3 p4 x : Int) (hx : 0 ≤ x ∧ x ≤ 65535) (h0 : 0 ≤ p0 ∧ p0 < p1 ∧ p1 ≤ 65535) (h2 : 1 ≤ p2 ∧ p2 ≤ 256) (h3 : 0 ≤ p3 ∧ p3 ≤ 65535) (h4 : 0 ≤ p4 ∧ p4 ≤ 65535) (hb : w.cell? ⟨g, 0, none⟩ = some (.slice (some ⟨b, o, none⟩) 5 c))
    (c0 : w.cell? ⟨b, o, none⟩ = some (.int .i64 p0)) (c1 : w.cell? ⟨b, o + 1, none⟩ = some (.int .i64 p1)) (c2 : w.cell? ⟨b, o + 2, none⟩ = some (.int .i64 p2)) (c3 : w.cell? ⟨b, o + 3, none⟩ = some (.int .i64 p3)) (c4 : w.cell? ⟨b, o + 4, none⟩ = some (.int .i64 p4)) :
    Calls Tryd.prog 75 #[.int .i64 x, .pointer (some ⟨g, 0, none⟩)] w fun e w' => e = .returned (.int .i64 (lerp p3 p4 (levU (lim16 (rdiv ((x - p0) * 65535) (p1 - p0))) p2))) ∧ Below w.heap.size w w' := by
  have L := Lib.hid (leveled_any b o c p0 p1 p2 p3 p4 x w hx h0 h2 h3 h4 c0 c1 c2 c3 c4)
  clear c0 c1 c2 c3 c4
  generalize lerp p3 p4 (levU (lim16 (rdiv ((x - p0) * 65535) (p1 - p0))) p2) = y at *
  go_enter Tryd.func75, Tryd.ntmps75
  go_wp2_with fail
  refine L.out.mono ?_
  rintro e w1 ⟨rfl, n, rfl⟩
  go_wp2_with fail
  go_ret
  exact ⟨rfl, Below.drewN' (Below.refl _ _) _⟩
theorem c5_any (p0 p1 x : Int) (hT : Tab w) (hx : 0 ≤ x ∧ x ≤ 65535) (h0 : -128 ≤ p0 ∧ p0 ≤ 128) (h1 : -65535 ≤ p1 ∧ p1 ≤ 65535) (hb : w.cell? ⟨g, 0, none⟩ = some (.slice (some ⟨b, o, none⟩) 2 c))
    (c0 : w.cell? ⟨b, o, none⟩ = some (.int .i64 p0)) (c1 : w.cell? ⟨b, o + 1, none⟩ = some (.int .i64 p1)) :
    Calls Tryd.prog 81 #[.int .i64 x, .pointer (some ⟨g, 0, none⟩)] w fun e w' => e = .returned (.int .i64 (lim16 (expD p0 x + p1))) ∧ Below w.heap.size w w' := by
  have L := Lib.hid (exposed_any b o c p0 p1 x w hT hx h0 h1 c0 c1)
  clear c0 c1 hT
  generalize lim16 (expD p0 x + p1) = y at *
  go_enter Tryd.func81, Tryd.ntmps81
  go_wp2_with fail
  refine L.out.mono ?_
  rintro e w1 ⟨rfl, n, rfl⟩
  go_wp2_with fail
  go_ret
  exact ⟨rfl, Below.drewN' (Below.refl _ _) _⟩
theorem c2_any (v : Value) (ks : List (Int × Int)) (x : Int) (hb : w.cell? ⟨g, 0, none⟩ = some v) (hk : Knots w w.heap.size v ks) :
    Calls Tryd.prog 77 #[.int .i64 x, .pointer (some ⟨g, 0, none⟩)] w fun e w' => e = .returned (.int .i64 (cat ks x)) ∧ Below w.heap.size w w' := by
  have L := Lib.hid (at_any v ks x w hk)
  generalize cat ks x = y at *
  clear hk
  go_enter Tryd.func77, Tryd.ntmps77
  go_wp2_with fail
  refine L.out.mono ?_
  rintro e w1 ⟨rfl, hbb⟩
  go_wp2_with fail
  go_ret
  exact ⟨rfl, hbb⟩
end
theorem bel_of_drew {w w' : World} (h : ∃ n, w' = w.drewN n) : Below w.heap.size w w' := by
  obtain ⟨n, rfl⟩ := h
  exact Below.drewN' (Below.refl _ _) _
/-- The box that a channel function holds. -/
theorem box_at {w0 w : World} {g : Nat} {t : TypeId} {v : Value} (h : Bx w0 g t #[v]) (hb : Below w0.heap.size w0 w) : w.cell? ⟨g, 0, none⟩ = some v := (h.below hb).cell rfl

set_option maxHeartbeats 1000000 in
theorem channel_1 (l : List Int) (A : Option Addr) (n c : Nat) (w : World) : Calls Tryd.prog 58 #[.int .i64 1, .slice A n c] w (ChPost (sing 1 l) w) := by
  go_enter Tryd.func58, Tryd.ntmps58
  go_wp2_with fail
  go_ret
  refine ⟨_, _, rfl, ent_c6, fun w' _ c hc => ?_, bel1 _ _⟩
  refine (inv_any c w' hc).mono ?_
  rintro e w2 ⟨rfl, rfl⟩
  exact ⟨by simp [sing], Below.refl _ _⟩
set_option maxHeartbeats 1000000 in
theorem channel_2 (l : List Int) (ss : List (Int × Px)) (a : AdjOk 2 l ss) (v : Value) (w : World) (h : Ints w w.heap.size v l) : Calls Tryd.prog 58 #[.int .i64 2, v] w (ChPost (sing 2 l) w) := by
  have hl := a.len.1 rfl
  obtain ⟨b, o, c, rfl, hb, hc⟩ := ints_at h (by omega)
  have HC := Lib.hid hc; clear hc h
  have HA := Lib.hid a; clear a
  rw [hl]
  go_enter Tryd.func58, Tryd.ntmps58
  go_upto_region 1 with fail
  obtain ⟨hb1, hB, -⟩ := one_box w #[.slice (some ⟨b, o, none⟩) 5 c] 22 _ rfl
  generalize World.alloc w _ = w0 at *
  go_wp2_with fail
  go_ret
  refine ⟨_, _, rfl, ent_c1, fun w' hb' x hx => ?_, hB⟩
  obtain ⟨h0, h2, h3, h4⟩ := HA.out.p2
  have hc : ∀ i, i < 5 → w'.cell? ⟨b, o + i, none⟩ = some (.int .i64 (prm l i)) := fun i hi => ((hb'.cell (p := ⟨b, o + i, none⟩) (Nat.lt_of_lt_of_le hb hB.size)).trans (hB.cell (p := ⟨b, o + i, none⟩) hb)).trans (HC.out i (by omega))
  exact c1_any _ _ _ _ _ x hx h0 h2 h3 h4 (box_at hb1 hb') (hc 0 (by omega)) (hc 1 (by omega)) (hc 2 (by omega)) (hc 3 (by omega)) (hc 4 (by omega))
set_option maxHeartbeats 1000000 in
theorem channel_4 (l : List Int) (ss : List (Int × Px)) (a : AdjOk 4 l ss) (v : Value) (w : World) (h : Ints w w.heap.size v l) : Calls Tryd.prog 58 #[.int .i64 4, v] w (ChPost (sing 4 l) w) := by
  have hl := a.len.2.1 rfl
  obtain ⟨b, o, c, rfl, hb, hc⟩ := ints_at h (by omega)
  have HC := Lib.hid hc; clear hc h
  have HA := Lib.hid a; clear a
  rw [hl]
  go_enter Tryd.func58, Tryd.ntmps58
  go_upto_region 1 with fail
  obtain ⟨hb1, hB, -⟩ := one_box w #[.slice (some ⟨b, o, none⟩) 2 c] 22 _ rfl
  generalize World.alloc w _ = w0 at *
  go_wp2_with fail
  go_ret
  refine ⟨_, _, rfl, ent_c3, fun w' hb' x hx => ?_, hB⟩
  obtain ⟨h0, h1⟩ := HA.out.p4
  have hc : ∀ i, i < 2 → w'.cell? ⟨b, o + i, none⟩ = some (.int .i64 (prm l i)) := fun i hi => ((hb'.cell (p := ⟨b, o + i, none⟩) (Nat.lt_of_lt_of_le hb hB.size)).trans (hB.cell (p := ⟨b, o + i, none⟩) hb)).trans (HC.out i (by omega))
  exact (bri_any b o c _ _ _ x w' hx h0 h1 (box_at hb1 hb') (hc 0 (by omega)) (hc 1 (by omega))).mono fun e w2 ⟨h1, h2⟩ => ⟨h1, bel_of_drew h2⟩
set_option maxHeartbeats 1000000 in
theorem channel_11 (l : List Int) (ss : List (Int × Px)) (a : AdjOk 11 l ss) (v : Value) (w : World) (hT : Tab w) (h : Ints w w.heap.size v l) : Calls Tryd.prog 58 #[.int .i64 11, v] w (ChPost (sing 11 l) w) := by
  have hl := a.len.2.2.1 rfl
  obtain ⟨b, o, c, rfl, hb, hc⟩ := ints_at h (by omega)
  have HC := Lib.hid hc; clear hc h
  have HA := Lib.hid a; clear a
  have HT := Lib.hid hT; clear hT
  rw [hl]
  go_enter Tryd.func58, Tryd.ntmps58
  go_upto_region 1 with fail
  obtain ⟨hb1, hB, -⟩ := one_box w #[.slice (some ⟨b, o, none⟩) 2 c] 22 _ rfl
  generalize World.alloc w _ = w0 at *
  go_wp2_with fail
  go_ret
  refine ⟨_, _, rfl, ent_c5, fun w' hb' x hx => ?_, hB⟩
  obtain ⟨h0, h1⟩ := HA.out.p11
  have hc : ∀ i, i < 2 → w'.cell? ⟨b, o + i, none⟩ = some (.int .i64 (prm l i)) := fun i hi => ((hb'.cell (p := ⟨b, o + i, none⟩) (Nat.lt_of_lt_of_le hb hB.size)).trans (hB.cell (p := ⟨b, o + i, none⟩) hb)).trans (HC.out i (by omega))
  exact c5_any _ _ x ((HT.out.below hB).below hb') hx h0 h1 (box_at hb1 hb') (hc 0 (by omega)) (hc 1 (by omega))
set_option maxHeartbeats 1000000 in
theorem channel_7 (l : List Int) (ss : List (Int × Px)) (a : AdjOk 7 l ss) (v : Value) (w : World) (h : Ints w w.heap.size v l) : Calls Tryd.prog 58 #[.int .i64 7, v] w (ChPost (sing 7 l) w) := by
  have hl := a.len.2.2.2.2.2.2.1 rfl
  obtain ⟨b, o, c, rfl, hb, hc⟩ := ints_at h (by omega)
  have c0 := hc 0 (by omega)
  rw [Nat.add_zero] at c0
  have hp := a.p7
  clear hc h a
  rw [hl]
  have E := Lib.hid (show ∀ x, sing 7 l x = posF (prm l 0 - 1) x from fun x => rfl)
  generalize prm l 0 = p at *
  go_enter Tryd.func58, Tryd.ntmps58
  go_upto_region 1 with fail
  obtain ⟨hb1, hB, -⟩ := one_box w #[.slice (some ⟨b, o, none⟩) 1 c] 22 _ rfl
  replace c0 := (hB.cell (p := ⟨b, o, none⟩) hb).trans c0
  have j1 := hb1.cell (j := 0) rfl
  generalize World.alloc w _ = w0 at *
  go_wp2_with fail
  obtain ⟨hb2, hB2, -⟩ := one_box w0 #[.int .i64 (p - 1)] 3 _ rfl
  generalize World.alloc w0 _ = w1 at *
  go_ret
  refine ⟨_, _, rfl, ent_c4, fun w' hb' x hx => ?_, bel_trans hB hB2⟩
  rw [E.out]
  exact (pos_any _ (p - 1) x w' hx (by omega) (box_at hb2 hb')).mono fun e w2 ⟨h1, h2⟩ => ⟨h1, bel_of_drew h2⟩
/-- The head of the loop that fills the knots. -/
def KfRel (ks : List (Int × Int)) (g B n : Nat) (w0 : World) (gh : Nat) (i : Value) (wr : World) : Prop :=
  ∃ k : Nat, k ≤ n ∧ gh = n - k ∧ i = .int .i64 k ∧ FRow 77 2 wr B (.slice (some ⟨g, 0, none⟩) n n) n (flat2 (partD (0, 0) ks k)) ∧ KB w0.heap.size g w0 wr
theorem flat2_step {ks : List (Int × Int)} {k : Nat} {x y : Int} (hk : k < ks.length) (h : ks.getD k (0, 0) = (x, y)) : ((flat2 (partD (0, 0) ks k)).set (k * 2) x).set (k * 2 + 1) y = flat2 (partD (0, 0) ks (k + 1)) := by
  rw [← partD_set (0, 0) ks k hk, h, flat2_set]
set_option maxHeartbeats 4000000 in
theorem channel_3 (l : List Int) (ss : List (Int × Px)) (a : AdjOk 3 l ss) (v : Value) (w : World) (h : Ints w w.heap.size v l) : Calls Tryd.prog 58 #[.int .i64 3, v] w (ChPost (sing 3 l) w) := by
  have hl : 4 ≤ l.length ∧ l.length ≤ 16 ∧ l.length % 2 = 0 := by simpa [cntOk] using a.cnt
  obtain ⟨b, o, c, rfl, hb, hc⟩ := ints_at h (by omega)
  have HC := Lib.hid hc; clear hc h
  have HA := Lib.hid a; clear a
  obtain ⟨n, hn⟩ : ∃ n : Nat, l.length = 2 * n := ⟨l.length / 2, by omega⟩
  have hkl : (knots l).length = n := by simp [knots]; omega
  have HK := Lib.hid (fun k (hk : k < n) => show (knots l).getD k (0, 0) = (prm l (2 * k), prm l (2 * k + 1)) by simp [knots, hn, hk])
  have E := Lib.hid (show ∀ x, sing 3 l x = cat (knots l) x from fun x => rfl)
  have HKL := Lib.hid hkl; clear hkl
  generalize knots l = ks at *
  obtain ⟨i0, hi0, hz0, hz1, hz2⟩ := info_parts Tryd.infoKnot
  have HI := Lib.hid hi0; have HZ0 := Lib.hid hz0; have HZ1 := Lib.hid hz1; have HZ2 := Lib.hid hz2; clear hi0 hz0 hz1 hz2
  have hdv : (l.length : Int).tdiv 2 = (n : Int) := by rw [Int.tdiv_eq_ediv_of_nonneg (by omega)]; omega
  have HN := Lib.hid hn; clear hn
  have hn2 : 2 ≤ n ∧ n ≤ 8 := by have := HN.out; omega
  go_enter Tryd.func58, Tryd.ntmps58
  go_upto_region 1 with fail
  obtain ⟨hb1, hB, -⟩ := one_box w #[.slice (some ⟨b, o, none⟩) l.length c] 22 _ rfl
  have j1 := hb1.cell (j := 0) rfl
  have hz0 := hb1.lt
  generalize World.alloc w _ = w0 at *
  go_wp2_with (at_make; refine fmake 77 2 75 16 i0 _ Tryd.underlying75 HI.out HZ0.out HZ1.out HZ2.out rfl (by omega) (by omega) _ rfl _ _ rfl w0.heap.size _ _ n rfl rfl rfl rfl (by omega) (Nat.le_refl _) ?_; intro w3 hown hb3)
  replace hb1 := hb1.below hb3; replace hB := bel_trans hB hb3
  have hs3 := hb3.size
  have hg3 := hown.lo.2
  clear hb3 j1
  go_upto_region 7 with fail
  obtain ⟨hb5, hbb, -⟩ := one_box w3 #[.slice (some ⟨w0.heap.size, 0, none⟩) n n] 75 _ rfl
  have hz5 := hb5.lt
  generalize World.alloc w3 _ = w4 at *
  replace hb1 := hb1.below hbb; replace hB := bel_trans hB hbb; replace hown := hown.below hbb
  have j5 := hb5.cell (j := 0) rfl
  clear hbb
  have HB := Lib.hid hB; clear hB
  go_loopg [20] n (KfRel ks w0.heap.size w0.heap.size n w4)
  case atStart => exact ⟨0, Nat.zero_le _, rfl, rfl, by rw [partD_zero, flat2_zero, HKL.out]; exact hown, KB.refl _ _ _⟩
  case round =>
    obtain ⟨k, hk, rfl, rfl, hrow, hkb⟩ := hrel
    have hd1 := hkb.bx hb1 (by omega) (by omega)
    have hd5 := hkb.bx hb5 (by omega) (by omega)
    have i1 := hd1.cell (j := 0) rfl
    have i5 := hd5.cell (j := 0) rfl
    by_cases hlt : k < n
    · have hnl := HN.out
      have c0 := (hkb.cell (k := b) (o := o + 2 * k) (by omega) (by omega)).trans ((HB.out.cell (p := ⟨b, o + 2 * k, none⟩) hb).trans (HC.out (2 * k) (by omega)))
      have c1 := (hkb.cell (k := b) (o := o + (2 * k + 1)) (by omega) (by omega)).trans ((HB.out.cell (p := ⟨b, o + (2 * k + 1), none⟩) hb).trans (HC.out (2 * k + 1) (by omega)))
      have hpl : (partD (0, 0) ks k).length = n := by rw [partD_length _ _ _ (by rw [HKL.out]; omega), HKL.out]
      have d1 := hrow.cell (flat2_x _ k (by rw [hpl]; exact hlt))
      have d2 := hrow.cell (flat2_y _ k (by rw [hpl]; exact hlt))
      have f1 := hrow.frozen (k * 2)
      have f2 := hrow.frozen (k * 2 + 1)
      have HS := Lib.hid (flat2_step (ks := ks) (k := k) (by rw [HKL.out]; exact hlt) (HK.out k hlt))
      generalize prm l (2 * k) = X at *
      generalize prm l (2 * k + 1) = Y at *
      generalize kx (partD (0, 0) ks k) k = z1 at *
      generalize ky (partD (0, 0) ks k) k = z2 at *
      have HRW := Lib.hid hrow; have HKB := Lib.hid hkb; clear hrow hkb hpl hd1 hd5
      have hk0 : (0 : Int) ≤ (k : Int) := by omega
      have hk1 : (k : Int) < (n : Int) := by omega
      obtain ⟨m, hm⟩ : ∃ m : Nat, m = 2 * k := ⟨_, rfl⟩
      obtain ⟨m1, hm1⟩ : ∃ m1 : Nat, m1 = 2 * k + 1 := ⟨_, rfl⟩
      rw [← hm] at c0
      rw [← hm1] at c1
      have e0 : 2 * (k : Int) = (m : Int) := by omega
      have e1 : (m : Int) + 1 = (m1 : Int) := by omega
      have hk2 : (m : Int) < (l.length : Int) := by omega
      have hk3 : (m1 : Int) < (l.length : Int) := by omega
      have hk4 : (0 : Int) ≤ (m : Int) := by omega
      have hk5 : (0 : Int) ≤ (m1 : Int) := by omega
      have hk6 : m ≤ 16 ∧ m1 ≤ 16 := by omega
      have hw0 : IntKind.i64.wrap (m : Int) = m := wrap_in _ (by omega)
      have hw1 : IntKind.i64.wrap (m1 : Int) = m1 := wrap_in _ (by omega)
      clear hm hm1 hnl
      go_wp2_with fail
      go_still_tail 15, (by kernel_rfl)
      change wpList _ _ _ _ _ wr.drew
      replace HRW := Lib.hid HRW.out.drew; replace HKB := Lib.hid HKB.out.drew
      clear c0 c1 i1 i5
      replace d1 : wr.drew.cell? ⟨w0.heap.size, k * 2, none⟩ = some (.int .i64 z1) := d1
      replace d2 : wr.drew.cell? ⟨w0.heap.size, k * 2 + 1, none⟩ = some (.int .i64 z2) := d2
      replace f1 : wr.drew.frozen? ⟨w0.heap.size, k * 2, none⟩ = false := f1
      replace f2 : wr.drew.frozen? ⟨w0.heap.size, k * 2 + 1, none⟩ = false := f2
      generalize wr.drew = wx at *
      go_wp2_with fail
      go_roundg (n - (k + 1))
      case measure => omega
      case rel => exact ⟨k + 1, by omega, rfl, by go_num, by rw [← HS.out]; exact (HRW.out.stored (k * 2) X).stored (k * 2 + 1) Y, (HKB.out.set _ _).set _ _⟩
    · obtain rfl : k = n := by omega
      rw [show partD (0, 0) ks k = ks by have := partD_all (0, 0) ks; rw [HKL.out] at this; exact this] at hrow
      have HRW := Lib.hid (show KRow wr w0.heap.size (.slice (some ⟨w0.heap.size, 0, none⟩) k k) ks by unfold KRow; rw [HKL.out]; exact hrow)
      have HKB := Lib.hid (hkb.toBelow HB.out (by omega) (by omega))
      clear hrow hkb hd1
      go_wp2_with fail
      go_ret
      refine ⟨_, _, rfl, ent_c2, fun w' hb' x hx => ?_, HKB.out⟩
      rw [E.out]
      exact c2_any _ ks x (box_at hd5 hb') ((HRW.out.knots (by rw [HKL.out]; omega)).on hb')
end Go.Proofs.YtmbglkholoblaaaDoor
