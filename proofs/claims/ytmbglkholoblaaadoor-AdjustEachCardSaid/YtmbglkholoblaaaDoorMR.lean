/- The reference's expose and single. -/
import Derived.Test.YtmbglkholoblaaaDoorMP
import Derived.Test.YtmbglkholoblaaaDoorMM
import Derived.Deep.RegionHeld3
import Derived.Test.YtmbglkholoblaaaDoorMJ
import Derived.Test.YtmbglkholoblaaaDoorMI
namespace Go.Proofs.YtmbglkholoblaaaDoor
open Go.RowKit

/-- The world has grown (hidden). -/
def Bl (w w' : World) : Prop := Below w.heap.size w w'
theorem Bl.call {w w1 w2 : World} (h : Bl w w1) (hb : Below w1.heap.size w1 w2) : Bl w w2 := bel_trans h hb
/-- Loops that double. -/
def ExRel (m : Nat) (w : World) (gh : Nat) (u i : Value) (wr : World) : Prop := ∃ j : Nat, j ≤ m ∧ gh = m - j ∧ u = .int .i64 (2 ^ j) ∧ i = .int .i64 j ∧ wr = w
theorem two_pow {j : Nat} (h : j < 8) : 1 ≤ (2 : Int) ^ j ∧ (2 : Int) ^ j ≤ 128 := by
  rcases (show j = 0 ∨ j = 1 ∨ j = 2 ∨ j = 3 ∨ j = 4 ∨ j = 5 ∨ j = 6 ∨ j = 7 by omega) with rfl | rfl | rfl | rfl | rfl | rfl | rfl | rfl <;> omega
theorem two_pow8 {j : Nat} (h : j ≤ 8) : 1 ≤ (2 : Int) ^ j ∧ (2 : Int) ^ j ≤ 256 := by
  rcases (show j = 0 ∨ j = 1 ∨ j = 2 ∨ j = 3 ∨ j = 4 ∨ j = 5 ∨ j = 6 ∨ j = 7 ∨ j = 8 by omega) with rfl | rfl | rfl | rfl | rfl | rfl | rfl | rfl | rfl <;> omega
set_option maxRecDepth 100000 in
set_option maxHeartbeats 8000000 in
theorem rexpose_core (c s q : Int) (r mu md : Nat) (F : Int) (w : World) (hc : 0 ≤ c ∧ c ≤ 65535) (hs : -128 ≤ s ∧ s ≤ 143) (hq : s / 16 = q) (hr : s - 16 * q = (r : Int)) (hr16 : r < 16) (hF : facs.getD r 0 = F) (hFb : 65536 ≤ F ∧ F ≤ 125515) (hmu : mu ≤ 8) (hmd : md ≤ 8)
    (hqq : (q = (mu : Int) ∧ md = 0) ∨ (q = -(md : Int) ∧ mu = 0)) (hX : 0 ≤ c * F * 2 ^ mu ∧ c * F * 2 ^ mu ≤ 2105760134400) :
    Calls Tryd.prog 88 #[.int .i64 c, .int .i64 s] w fun e w' => e = .returned (.int .i64 (rdiv (c * F * 2 ^ mu) (65536 * 2 ^ md))) ∧ Below w.heap.size w w' := by
  have HQ := Lib.hid hq; have HX := Lib.hid hX; have HF := Lib.hid hF
  have hqb : -8 ≤ q ∧ q ≤ 8 := by omega
  have HQQ := Lib.hid hqq
  clear hq hX hF hqq
  go_enter Tryd.func88, Tryd.ntmps88
  go_upto_region 2 with fail
  have hI : Ints (w.alloc (.cells #[.int .i64 65536, .int .i64 68438, .int .i64 71468, .int .i64 74632, .int .i64 77936, .int .i64 81386, .int .i64 84990, .int .i64 88752, .int .i64 92682, .int .i64 96785, .int .i64 101070, .int .i64 105545, .int .i64 110218, .int .i64 115098, .int .i64 120194, .int .i64 125515] 3)) (w.alloc (.cells #[.int .i64 65536, .int .i64 68438, .int .i64 71468, .int .i64 74632, .int .i64 77936, .int .i64 81386, .int .i64 84990, .int .i64 88752, .int .i64 92682, .int .i64 96785, .int .i64 101070, .int .i64 105545, .int .i64 110218, .int .i64 115098, .int .i64 120194, .int .i64 125515] 3)).heap.size (.slice (some ⟨w.heap.size, 0, none⟩) 16 16) facs := made_ints w facs (by decide)
  have hB := bel1 w (.cells #[.int .i64 65536, .int .i64 68438, .int .i64 71468, .int .i64 74632, .int .i64 77936, .int .i64 81386, .int .i64 84990, .int .i64 88752, .int .i64 92682, .int .i64 96785, .int .i64 101070, .int .i64 105545, .int .i64 110218, .int .i64 115098, .int .i64 120194, .int .i64 125515] 3)
  generalize World.alloc w _ = w0 at *
  obtain ⟨b, o, c1, ev, hb, hcl⟩ := ints_at hI (by decide)
  injection ev with u1 u2 u3
  injection u1 with u1
  injection u1 with u4 u5 u6
  subst u5
  have y := hcl r hr16
  rw [← u4, Nat.zero_add] at y
  replace y : w0.cell? ⟨w.heap.size, r, none⟩ = some (.int .i64 F) := by rw [← HF.out]; exact y
  clear hcl u2 u3 u4 hb hI
  go_wp2_with fail
  refine (rfloor_any s 16 _ (by omega) (by omega) (by omega) (by omega)).mono ?_
  rintro e w1 ⟨rfl, n1, rfl⟩
  rw [HQ.out]
  replace y : (w0.drewN n1).cell? ⟨w.heap.size, r, none⟩ = some (.int .i64 F) := y
  replace hB := Below.drewN' hB n1
  generalize World.drewN w0 n1 = w1 at *
  have HB := Lib.hid hB; have HY := Lib.hid y; have HR := Lib.hid hr
  clear hB y hr
  go_wp2_with fail
  go_loopg [7, 9] mu (ExRel mu w1)
  case atStart => exact ⟨0, Nat.zero_le _, rfl, rfl, rfl, rfl⟩
  case round =>
    obtain ⟨j, hj, rfl, rfl, rfl, rfl⟩ := hrel
    by_cases hlt : j < mu
    · have hd : decide ((j : Int) < q) = true := by
        rcases HQQ.out with ⟨e1, _⟩ | ⟨_, e2⟩
        · simp; omega
        · omega
      have hp := two_pow (j := j) (by omega)
      have hE := Lib.hid (show (2 : Int) ^ (j + 1) = 2 ^ j * 2 from Int.pow_succ 2 j)
      generalize (2 : Int) ^ j = u at *
      go_wp2_with fail
      go_roundg (mu - (j + 1))
      case measure => omega
      case rel => exact ⟨j + 1, by omega, rfl, by rw [hE.out], by go_num, rfl⟩
    · obtain rfl : j = mu := by omega
      have hd : decide ((j : Int) < q) = false := by
        rcases HQQ.out with ⟨e1, _⟩ | ⟨e1, e2⟩
        · simp; omega
        · simp; omega
      have hU := two_pow8 (j := j) hmu
      generalize hUU : (2 : Int) ^ j = U at *
      have HUU := Lib.hid hUU
      clear hUU
      go_wp2_with fail
      clear hd
      go_loopg [8, 10] md (ExRel md wr)
      case atStart => exact ⟨0, Nat.zero_le _, rfl, rfl, rfl, rfl⟩
      case round =>
        obtain ⟨i, hi, rfl, rfl, rfl, rfl⟩ := hrel
        by_cases hlt2 : i < md
        · have hd : decide ((i : Int) < -q) = true := by
            rcases HQQ.out with ⟨_, e1⟩ | ⟨e1, _⟩
            · omega
            · simp; omega
          have hp := two_pow (j := i) (by omega)
          have hE := Lib.hid (show (2 : Int) ^ (i + 1) = 2 ^ i * 2 from Int.pow_succ 2 i)
          generalize (2 : Int) ^ i = u at *
          go_wp2_with fail
          go_roundg (md - (i + 1))
          case measure => omega
          case rel => exact ⟨i + 1, by omega, rfl, by rw [hE.out], by go_num, rfl⟩
        · obtain rfl : i = md := by omega
          have hd : decide ((i : Int) < -q) = false := by
            rcases HQQ.out with ⟨e1, e2⟩ | ⟨e1, e2⟩
            · simp; omega
            · simp; omega
          have hV := two_pow8 (j := i) hmd
          generalize hVV : (2 : Int) ^ i = V at *
          have HVV := Lib.hid hVV; clear hVV
          have y := HY.out
          have hr := HR.out
          have hr0 : (0 : Int) ≤ (r : Int) := by omega
          have hr1 : (r : Int) < 16 := by omega
          have hxf : 0 ≤ c * F ∧ c * F ≤ 8225625525 := ⟨Int.mul_nonneg hc.1 (by omega), by have : c * F ≤ 65535 * 125515 := Int.mul_le_mul hc.2 hFb.2 (by omega) (by omega); omega⟩
          have hX := HX.out
          go_wp2_with fail
          refine (rdiv_any _ _ _ (by omega) (by omega) (by omega) (by omega)).mono ?_
          rintro e w2 ⟨rfl, n2, rfl⟩
          go_wp2_with fail
          go_ret
          exact ⟨ret_int (by rw [HUU.out, HVV.out]), Below.drewN' HB.out _⟩
theorem rexpose_any (c s : Int) (w : World) (hc : 0 ≤ c ∧ c ≤ 65535) (hs : -128 ≤ s ∧ s ≤ 128) : Calls Tryd.prog 88 #[.int .i64 c, .int .i64 s] w fun e w' => e = .returned (.int .i64 (expD s c)) ∧ Below w.heap.size w w' := by
  have hr : (s % 16).toNat < 16 := by omega
  have hF := facs_bd _ hr
  have hxf : 0 ≤ c * facs.getD (s % 16).toNat 0 ∧ c * facs.getD (s % 16).toNat 0 ≤ 8225625525 := ⟨Int.mul_nonneg hc.1 (by omega), by have : c * facs.getD (s % 16).toNat 0 ≤ 65535 * 125515 := Int.mul_le_mul hc.2 hF.2 (by omega) (by omega); omega⟩
  by_cases h : 0 ≤ s / 16
  · have := rexpose_core c s (s / 16) (s % 16).toNat (s / 16).toNat 0 _ w hc (by omega) rfl (by omega) hr rfl hF (by omega) (by omega) (.inl ⟨by omega, rfl⟩) (pow_bd (by omega) hxf)
    unfold expD
    rw [if_pos h]
    simpa using this
  · have := rexpose_core c s (s / 16) (s % 16).toNat 0 (-(s / 16)).toNat _ w hc (by omega) rfl (by omega) hr rfl hF (by omega) (by omega) (.inr ⟨by omega, rfl⟩) (by rw [Int.pow_zero, Int.mul_one]; omega)
    unfold expD
    rw [if_neg h]
    rw [Int.pow_zero, Int.mul_one] at this
    exact this
end Go.Proofs.YtmbglkholoblaaaDoor
namespace Go.Proofs.YtmbglkholoblaaaDoor
open Go.RowKit

/-- A number is returned, the world has grown. -/
def InPost (x : Int) (w : World) (e : Ending) (w' : World) : Prop := e = .returned (.int .i64 x) ∧ Below w.heap.size w w'
theorem rsing_1 (A : Option Addr) (n cc : Nat) (x : Int) (w : World) (hx : 0 ≤ x ∧ x ≤ 65535) : Calls Tryd.prog 63 #[.int .i64 1, .slice A n cc, .int .i64 x] w (InPost (65535 - x) w) := by
  go_enter Tryd.func63, Tryd.ntmps63
  go_wp2
  go_ret
  exact ⟨rfl, Below.refl _ _⟩
set_option maxRecDepth 100000 in
set_option maxHeartbeats 4000000 in
theorem rsing_2 (b o cc : Nat) (p0 p1 p2 p3 p4 x : Int) (w : World) (hx : 0 ≤ x ∧ x ≤ 65535) (h0 : 0 ≤ p0 ∧ p0 < p1 ∧ p1 ≤ 65535) (h2 : 1 ≤ p2 ∧ p2 ≤ 256) (h3 : 0 ≤ p3 ∧ p3 ≤ 65535) (h4 : 0 ≤ p4 ∧ p4 ≤ 65535)
    (c0 : w.cell? ⟨b, o, none⟩ = some (.int .i64 p0)) (c1 : w.cell? ⟨b, o + 1, none⟩ = some (.int .i64 p1)) (c2 : w.cell? ⟨b, o + 2, none⟩ = some (.int .i64 p2)) (c3 : w.cell? ⟨b, o + 3, none⟩ = some (.int .i64 p3)) (c4 : w.cell? ⟨b, o + 4, none⟩ = some (.int .i64 p4)) :
    Calls Tryd.prog 63 #[.int .i64 2, .slice (some ⟨b, o, none⟩) 5 cc, .int .i64 x] w (InPost (lerp p3 p4 (levU (lim16 (rdiv ((x - p0) * 65535) (p1 - p0))) p2)) w) := by
  have D1 := Lib.hid (fun w' => rdiv_any ((x - p0) * 65535) (p1 - p0) w' (by omega) (by omega) (by omega) (by omega))
  have ht := lim16_bd (rdiv ((x - p0) * 65535) (p1 - p0))
  generalize hre : rdiv ((x - p0) * 65535) (p1 - p0) = re at *
  have HRE := Lib.hid hre; clear hre
  have U1 := Lib.hid (fun w' => r17unit_any re w')
  generalize hte : lim16 re = t at *
  have HTE := Lib.hid hte; clear hte
  have HU := levU_in ht h2
  have hl := levP ht h2
  have D2 := Lib.hid (fun w' => show Calls Tryd.prog 37 #[.int .i64 (65535 * t * p2), .int .i64 (t * p2 + 16 * (65535 - t))] w' fun e w'' => e = .returned (.int .i64 (levU t p2)) ∧ ∃ n, w'' = w'.drewN n from rdiv_any (65535 * t * p2) (t * p2 + 16 * (65535 - t)) w' (by omega) (by omega) (by omega) (by omega))
  generalize hue : levU t p2 = u at *
  have HUE := Lib.hid hue; clear hue
  have L1 := Lib.hid (fun w' => rlerp_any p3 p4 u w' h3 h4 HU)
  clear HU
  go_enter Tryd.func63, Tryd.ntmps63
  go_wp2_with fail
  go_quiet (first | (go_at_call 37; (with_reducible refine quiet_tolN (D1.out _) ?_); exact fun _ => ⟨_, World.drewN_drewN _ _ _⟩) | (go_at_call 40; (with_reducible refine quiet_tol (U1.out _) ?_); exact ⟨_, rfl⟩))
  replace c2 : (w.drewN nq).cell? ⟨b, o + 2, none⟩ = some (.int .i64 p2) := c2
  replace c3 : (w.drewN nq).cell? ⟨b, o + 3, none⟩ = some (.int .i64 p3) := c3
  replace c4 : (w.drewN nq).cell? ⟨b, o + 4, none⟩ = some (.int .i64 p4) := c4
  have hB := Below.drewN' (Below.refl w.heap.size w) nq
  generalize World.drewN w nq = wx at *
  have HB := Lib.hid hB; clear hB c0 c1
  go_wp2_with fail
  go_quiet (first | (go_at_call 37; (with_reducible refine quiet_tolN (D2.out _) ?_); exact fun _ => ⟨_, World.drewN_drewN _ _ _⟩) | (go_at_call 86; (with_reducible refine quiet_tolN (L1.out _) ?_); exact fun _ => ⟨_, World.drewN_drewN _ _ _⟩))
  go_wp2_with fail
  go_ret
  exact ⟨rfl, Below.drewN' HB.out _⟩
set_option maxRecDepth 100000 in
set_option maxHeartbeats 4000000 in
theorem rsing_4 (b o cc : Nat) (p0 p1 x : Int) (w : World) (hx : 0 ≤ x ∧ x ≤ 65535) (h0 : -65535 ≤ p0 ∧ p0 ≤ 65535) (h1 : -65535 ≤ p1 ∧ p1 ≤ 65535)
    (c0 : w.cell? ⟨b, o, none⟩ = some (.int .i64 p0)) (c1 : w.cell? ⟨b, o + 1, none⟩ = some (.int .i64 p1)) :
    Calls Tryd.prog 63 #[.int .i64 4, .slice (some ⟨b, o, none⟩) 2 cc, .int .i64 x] w (InPost (lim16 (32768 + rdiv ((x + p0 - 32768) * (65535 + p1)) 65535)) w) := by
  have hm : -12884705280 ≤ (x + p0 - 32768) * (65535 + p1) ∧ (x + p0 - 32768) * (65535 + p1) ≤ 12884705280 := by
    have e1 : (x + p0 - 32768) * (65535 + p1) ≤ 98302 * (65535 + p1) := Int.mul_le_mul_of_nonneg_right (by omega) (by omega)
    have e2 : (-98303) * (65535 + p1) ≤ (x + p0 - 32768) * (65535 + p1) := Int.mul_le_mul_of_nonneg_right (by omega) (by omega)
    omega
  have hd := rdiv_spec ((x + p0 - 32768) * (65535 + p1)) 65535 (by omega)
  have D := Lib.hid (fun w' => rdiv_any ((x + p0 - 32768) * (65535 + p1)) 65535 w' (by omega) (by omega) (by omega) (by omega))
  have hq : -4611686018427387904 ≤ rdiv ((x + p0 - 32768) * (65535 + p1)) 65535 ∧ rdiv ((x + p0 - 32768) * (65535 + p1)) 65535 ≤ 4611686018427387904 := by omega
  generalize hq2 : rdiv ((x + p0 - 32768) * (65535 + p1)) 65535 = q at *
  have HQ := Lib.hid hq2; clear hq2 hd
  go_enter Tryd.func63, Tryd.ntmps63
  go_wp2_with fail
  go_quiet (first | (go_at_call 37; exact quiet_tolN (D.out _) (fun _ => ⟨_, World.drewN_drewN _ _ _⟩)) | (go_at_call 40; exact quiet_tol (r17unit_any _ _) ⟨_, rfl⟩))
  go_wp2_with fail
  go_ret
  exact ⟨rfl, Below.drewN' (Below.refl _ _) _⟩
set_option maxRecDepth 100000 in
set_option maxHeartbeats 4000000 in
theorem rsing_7 (b o cc : Nat) (p0 n x : Int) (w : World) (hx : 0 ≤ x ∧ x ≤ 65535) (hn : 1 ≤ n ∧ n ≤ 255) (hp : p0 = n + 1) (c0 : w.cell? ⟨b, o, none⟩ = some (.int .i64 p0)) :
    Calls Tryd.prog 63 #[.int .i64 7, .slice (some ⟨b, o, none⟩) 1 cc, .int .i64 x] w (InPost (posF n x) w) := by
  have E := Lib.hid (show rdiv (rdiv (x * n) 65535 * 65535) n = posF n x from rfl)
  have e1 : 0 ≤ x * n := Int.mul_nonneg hx.1 (by omega)
  have e2 : x * n ≤ 65535 * n := Int.mul_le_mul_of_nonneg_right hx.2 (by omega)
  have hk := (posF_in hn hx).1
  have D := Lib.hid (fun w' => rdiv_any (x * n) 65535 w' (by omega) (by omega) (by omega) (by omega))
  generalize rdiv (x * n) 65535 = k at *
  have D2 := Lib.hid (fun w' => rdiv_any (k * 65535) n w' (by omega) (by omega) (by omega) (by omega))
  have hp1 : p0 - 1 = n := by omega
  have hp2 : 1 ≤ p0 ∧ p0 ≤ 256 := by omega
  clear hp
  go_enter Tryd.func63, Tryd.ntmps63
  go_wp2_with fail
  go_quiet (first | (go_at_call 37; (with_reducible refine quiet_tolN (D.out _) ?_); exact fun _ => ⟨_, World.drewN_drewN _ _ _⟩) | (go_at_call 37; (with_reducible refine quiet_tolN (D2.out _) ?_); exact fun _ => ⟨_, World.drewN_drewN _ _ _⟩))
  go_wp2_with fail
  go_ret
  exact ⟨ret_int E.out, Below.drewN' (Below.refl _ _) _⟩
set_option maxRecDepth 100000 in
set_option maxHeartbeats 4000000 in
theorem rsing_11 (b o cc : Nat) (p0 p1 x d : Int) (w : World) (h1 : -65535 ≤ p1 ∧ p1 ≤ 65535) (hd : -4611686018427300000 ≤ d ∧ d ≤ 4611686018427300000) (hb : b < w.heap.size)
    (c0 : w.cell? ⟨b, o, none⟩ = some (.int .i64 p0)) (c1 : w.cell? ⟨b, o + 1, none⟩ = some (.int .i64 p1)) (TE : ∀ w', Calls Tryd.prog 88 #[.int .i64 x, .int .i64 p0] w' fun e w'' => e = .returned (.int .i64 d) ∧ Below w'.heap.size w' w'') :
    Calls Tryd.prog 63 #[.int .i64 11, .slice (some ⟨b, o, none⟩) 2 cc, .int .i64 x] w (InPost (lim16 (d + p1)) w) := by
  have HTE := Lib.hid TE; clear TE
  have HU := Lib.hid (fun w' => r17unit_any (d + p1) w')
  have HSA := Lib.hid (show ∀ wq, Bl w wq → Bl w wq ∧ wq.cell? ⟨b, o, none⟩ = some (.int .i64 p0) ∧ wq.cell? ⟨b, o + 1, none⟩ = some (.int .i64 p1) from fun wq h => ⟨h, (h.cell (p := ⟨b, o, none⟩) hb).trans c0, (h.cell (p := ⟨b, o + 1, none⟩) hb).trans c1⟩)
  have hBv : Bl w w.drew := (Below.refl w.heap.size w).drew
  have hS0 := HSA.out _ hBv
  have hw : IntKind.i64.wrap (d + p1) = d + p1 := wrap_in _ (by omega)
  go_enter Tryd.func63, Tryd.ntmps63
  go_wp2_with fail
  go_region_held3 (fun wq => Bl w wq ∧ wq.cell? ⟨b, o, none⟩ = some (.int .i64 p0) ∧ wq.cell? ⟨b, o + 1, none⟩ = some (.int .i64 p1))
    (first | assumption | exact hS0 | exact HSA.out _ hBv | go_keep)
    (first | ((with_reducible refine (HTE.out _).mono ?_); rintro e wv ⟨rfl, hbv⟩; have hBv := Bl.call hBv hbv) | ((with_reducible refine (HU.out _).mono ?_); rintro e wv ⟨rfl, rfl⟩))
  go_wp2_with fail
  go_ret
  exact ⟨rfl, hBv⟩
/-- The loop that lists the knots. -/
def K3Rel (ks : List (Int × Int)) (B : Nat) (w : World) (gh : Nat) (v i : Value) (wr : World) : Prop := ∃ j : Nat, j ≤ ks.length ∧ gh = ks.length - j ∧ i = .int .i64 ((2 * j : Nat) : Int) ∧ KRow wr B v (ks.take j) ∧ Below w.heap.size w wr
theorem knots_len (l : List Int) : (knots l).length = l.length / 2 := by simp [knots]
theorem knots_take (l : List Int) (j : Nat) (h : j < l.length / 2) : (knots l).take (j + 1) = (knots l).take j ++ [(prm l (2 * j), prm l (2 * j + 1))] := by
  rw [List.take_add_one, List.getElem?_eq_getElem (by rw [knots_len]; exact h)]
  simp [knots]
set_option maxRecDepth 100000 in
set_option maxHeartbeats 4000000 in
theorem rsing_3 (b o cc : Nat) (l : List Int) (x : Int) (w : World) (hn : l.length % 2 = 0) (hm : l.length ≤ 16) (hb : b < w.heap.size) (hc : ∀ i : Nat, i < l.length → w.cell? ⟨b, o + i, none⟩ = some (.int .i64 (prm l i))) :
    Calls Tryd.prog 63 #[.int .i64 3, .slice (some ⟨b, o, none⟩) l.length cc, .int .i64 x] w (InPost (cat (knots l) x) w) := by
  have HC := Lib.hid hc; clear hc
  have HL := Lib.hid (knots_len l)
  obtain ⟨i0, hi0, hz0, hz1, hz2⟩ := info_parts Tryd.infoKnot
  have HI := Lib.hid hi0; clear hi0
  have HZ0 := Lib.hid hz0; clear hz0
  have HZ1 := Lib.hid hz1; clear hz1
  have HZ2 := Lib.hid hz2; clear hz2
  go_enter Tryd.func63, Tryd.ntmps63
  go_wp2_with fail
  go_loopg [8, 9] (l.length / 2) (K3Rel (knots l) w.heap.size w)
  case atStart => exact ⟨0, Nat.zero_le _, by rw [HL.out]; rfl, rfl, KRow.nil _ _, Below.refl _ _⟩
  case round =>
    obtain ⟨j, hj, rfl, rfl, hrow, hbel⟩ := hrel
    rw [HL.out] at hj
    have hsz := hbel.size
    by_cases hlt : j < l.length / 2
    · obtain ⟨m, hm0⟩ : ∃ m : Nat, 2 * j = m := ⟨_, rfl⟩
      obtain ⟨m1, hm1⟩ : ∃ m1 : Nat, m1 = m + 1 := ⟨_, rfl⟩
      have hT := knots_take l j hlt
      rw [hm0, ← hm1] at hT
      have HT := Lib.hid hT; clear hT
      have hml : m < l.length := by omega
      have hml1 : m1 < l.length := by omega
      have q1 := (hbel.cell (p := ⟨b, o + m, none⟩) hb).trans (HC.out m hml)
      have q2 := (hbel.cell (p := ⟨b, o + m1, none⟩) hb).trans (HC.out m1 hml1)
      have hlw : b < wr.heap.size := by omega
      have HM := Lib.hid (show ((2 * (j + 1) : Nat) : Int) = (m : Int) + 2 by omega)
      rw [hm0]
      have hk0 : (0 : Int) ≤ (m : Int) := by omega
      have hk1 : (m : Int) < (l.length : Int) := by omega
      have hk2 : (0 : Int) ≤ (m1 : Int) := by omega
      have hk3 : (m1 : Int) < (l.length : Int) := by omega
      have hk4 : (m : Int) + 1 = (m1 : Int) := by omega
      have hk5 : IntKind.i64.wrap (m1 : Int) = m1 := wrap_in _ (by omega)
      have hk6 : decide ((m1 : Int) < (l.length : Int)) = true := by simp; omega
      clear hm1
      generalize prm l m = X at *
      generalize prm l m1 = Y at *
      have HRW := Lib.hid hrow; clear hrow
      go_wp2_with fail
      go_region_held3 (fun w' => w'.cell? ⟨b, o + m, none⟩ = some (.int .i64 X) ∧ w'.cell? ⟨b, o + m1, none⟩ = some (.int .i64 Y))
        (first
          | go_keep
          | (go_split_ands; refine ⟨?_, ?_⟩ <;> (rw [hbw4.cell (by simpa using hb)]; assumption)))
        ((refine fpush_step 77 2 75 16 i0 _ Tryd.underlying75 HI.out HZ0.out HZ1.out HZ2.out rfl (by omega) (by omega) _ (by rfl) _ _ (by rfl) w.heap.size _ _ _ (by rfl) ((FRow.alloc HRW.out _).drew) wr.heap.size [X, Y] (by rfl) (by rfl) (cells_new wr 77 [X, Y]) (by simp; omega) (by simp; omega) ?_; intro v' w4 hrow4 hbw4))
      go_wp2
      go_roundg (l.length / 2 - (j + 1))
      case measure => have := HL.out; omega
      case rel =>
        refine ⟨j + 1, by rw [HL.out]; omega, by rw [HL.out], by rw [HM.out], ?_, ((hbel.alloc hsz _).drew).trans hbw4⟩
        unfold KRow
        rw [HT.out, List.length_append, flat2_append]
        exact hrow4
    · obtain rfl : j = l.length / 2 := by omega
      have hta : (knots l).take (l.length / 2) = knots l := by rw [← HL.out, List.take_length]
      rw [hta] at hrow
      have hK := hrow.knots (by rw [HL.out]; omega)
      have hd : decide (((2 * (l.length / 2) : Nat) : Int) + 1 < (l.length : Int)) = false := by simp; omega
      obtain ⟨m, hm0⟩ : ∃ m : Nat, 2 * (l.length / 2) = m := ⟨_, rfl⟩
      rw [hm0] at hd ⊢
      have HBL := Lib.hid hbel
      have HK := Lib.hid hK
      have hmm : m ≤ 16 := by omega
      clear hrow hK hbel hta hm0 hj hlt
      go_wp2_with fail
      refine (rat_any _ (knots l) x _ HK.out).mono ?_
      rintro e w5 ⟨rfl, hb5⟩
      go_wp2_with fail
      go_ret
      exact ⟨rfl, bel_trans HBL.out hb5⟩
end Go.Proofs.YtmbglkholoblaaaDoor
namespace Go.Proofs.YtmbglkholoblaaaDoor
open Go.RowKit

theorem bel_div {P : Program} {f : FuncId} {args : Array Value} {w : World} {v : Value} (h : Calls P f args w fun e w' => e = .returned v ∧ ∃ n, w' = w.drewN n) : Calls P f args w fun e w' => e = .returned v ∧ Below w.heap.size w w' :=
  h.mono fun _ _ ⟨he, n, hw⟩ => ⟨he, by subst hw; exact Below.drewN' (Below.refl _ _) n⟩
set_option maxRecDepth 100000 in
set_option maxHeartbeats 4000000 in
theorem rmix_any (p q : Px) (t : Int) (w : World) : Calls Tryd.prog 85 #[.agg #[.int .i64 p.r, .int .i64 p.g, .int .i64 p.b, .int .i64 p.a], .agg #[.int .i64 q.r, .int .i64 q.g, .int .i64 q.b, .int .i64 q.a], .int .i64 t] w (PxPost (mixP p q t) w) := by
  go_enter Tryd.func85, Tryd.ntmps85
  go_upto_region 1 with fail
  obtain ⟨hb1, hb2, hb3, hB, -⟩ := three_boxes w #[.int .i64 p.r, .int .i64 p.g, .int .i64 p.b, .int .i64 p.a] #[.int .i64 q.r, .int .i64 q.g, .int .i64 q.b, .int .i64 q.a] #[.int .i64 0, .int .i64 0, .int .i64 0, .int .i64 0] 25 25 25 _ rfl
  generalize World.alloc (World.alloc (World.alloc w _) _) _ = w0 at *
  go_cut [2] (MixMid p q t w)
  case first =>
    replace hb1 := hb1.drew; replace hb2 := hb2.drew; replace hb3 := hb3.drew; replace hB := hB.drew
    obtain ⟨⟨i1, i2, i3, i4⟩, if1, if2, if3, if4⟩ := hb1.four
    obtain ⟨⟨j1, j2, j3, j4⟩, jf1, jf2, jf3, jf4⟩ := hb2.four
    go_region_with (first | (go_at_call 36; refine (rlimit_any _ _ _ _ _).mono ?_; rintro e w4 ⟨rfl, hbw4⟩; have hb1 := hb1.below hbw4; have hb2 := hb2.below hbw4; have hb3 := hb3.below hbw4; have hB := bel_trans hB hbw4; obtain ⟨⟨i1, i2, i3, i4⟩, if1, if2, if3, if4⟩ := hb1.four; obtain ⟨⟨j1, j2, j3, j4⟩, jf1, jf2, jf3, jf4⟩ := hb2.four) | (go_at_call 66; refine (rpunit_any _ _).mono ?_; rintro e w5 ⟨rfl, rfl⟩))
    all_goals (try go_wp2_with fail)
    all_goals go_meet
    all_goals exact mixMid_of hb1 hb2 hb3 hB
  case rest =>
    obtain ⟨rfl, hb1, hb2, hb3, hB⟩ := hcut
    have E := Lib.hid (show mixP p q t = if rdiv (lim16 p.a * (65535 - lim16 t) + lim16 q.a * lim16 t) 65535 = 0 then Px.zero else ⟨rdiv (lim16 p.r * (lim16 p.a * (65535 - lim16 t)) + lim16 q.r * (lim16 q.a * lim16 t)) (lim16 p.a * (65535 - lim16 t) + lim16 q.a * lim16 t), rdiv (lim16 p.g * (lim16 p.a * (65535 - lim16 t)) + lim16 q.g * (lim16 q.a * lim16 t)) (lim16 p.a * (65535 - lim16 t) + lim16 q.a * lim16 t), rdiv (lim16 p.b * (lim16 p.a * (65535 - lim16 t)) + lim16 q.b * (lim16 q.a * lim16 t)) (lim16 p.a * (65535 - lim16 t) + lim16 q.a * lim16 t), rdiv (lim16 p.a * (65535 - lim16 t) + lim16 q.a * lim16 t) 65535⟩ from rfl)
    have hR := lim16_bd p.r; have hG := lim16_bd p.g; have hBb := lim16_bd p.b; have hA := lim16_bd p.a
    have hR' := lim16_bd q.r; have hG' := lim16_bd q.g; have hB' := lim16_bd q.b; have hA' := lim16_bd q.a
    have hT := lim16_bd t
    generalize mixP p q t = m at *
    generalize lim16 p.r = R at *; generalize lim16 p.g = G at *; generalize lim16 p.b = B at *; generalize lim16 p.a = A at *
    generalize lim16 q.r = R' at *; generalize lim16 q.g = G' at *; generalize lim16 q.b = B' at *; generalize lim16 q.a = A' at *
    generalize lim16 t = T at *
    obtain ⟨hu, hv, huv⟩ := mix_bd hA hA' hT
    obtain ⟨⟨i1, i2, i3, i4⟩, -⟩ := hb1.four
    obtain ⟨⟨j1, j2, j3, j4⟩, -⟩ := hb2.four
    have HB1 := Lib.hid hb1; have HB2 := Lib.hid hb2; have HB3 := Lib.hid hb3; have HB := Lib.hid hB
    clear hb1 hb2 hb3 hB
    go_wp2_with fail
    go_quiet (fail)
    replace HB1 := Lib.hid (HB1.out.drewN nq); replace HB2 := Lib.hid (HB2.out.drewN nq); replace HB3 := Lib.hid (HB3.out.drewN nq); replace HB := Lib.hid (Below.drewN' HB.out nq)
    clear i1 i2 i3 i4 j1 j2 j3 j4
    generalize hu0 : A * (65535 - T) = u at *
    generalize hv0 : A' * T = v at *
    clear hu0 hv0
    generalize World.drewN wc nq = wd at *
    obtain ⟨hr1, hr2⟩ := mix_sum hR hR' hu hv; obtain ⟨hg1, hg2⟩ := mix_sum hG hG' hu hv; obtain ⟨hbb1, hbb2⟩ := mix_sum hBb hB' hu hv
    go_wp2_with fail
    refine (rdiv_any _ _ _ (by omega) (by omega) (by omega) (by omega)).mono ?_
    rintro e wf ⟨rfl, n1, rfl⟩
    replace HB1 := Lib.hid (HB1.out.drewN n1); replace HB2 := Lib.hid (HB2.out.drewN n1); replace HB3 := Lib.hid (HB3.out.drewN n1); replace HB := Lib.hid (Below.drewN' HB.out n1)
    generalize World.drewN wd n1 = wg at *
    have hal := rdiv_spec (u + v) 65535 (by omega)
    by_cases hα : rdiv (u + v) 65535 = 0
    · rw [hα]
      rw [if_pos hα] at E
      clear hα hal
      obtain ⟨⟨r1, r2, r3, r4⟩, f1, f2, f3, f4⟩ := HB3.out.four
      go_wp2_with fail
      refine bodyPost_ret (v := .agg #[.int .i64 0, .int .i64 0, .int .i64 0, .int .i64 0]) (by simp [results, Tryd.results85, go_sem, r1, r2, r3, r4]) rfl ⟨by rw [E.out]; rfl, ?_⟩
      exact set4_below HB.out (by omega) _ _ _ _ _ _ _ _
    · rw [if_neg hα] at E
      have huv0 : 0 < u + v := by omega
      have ha0 : (rdiv (u + v) 65535 == 0) = false := by simp; omega
      generalize rdiv (u + v) 65535 = α at *
      clear hα hal
      have q1 := wrap_in (R * u) (by omega)
      have q2 := wrap_in (R' * v) (by omega)
      have q3 := wrap_in (R * u + R' * v) (by omega)
      have q4 := wrap_in (G * u) (by omega)
      have q5 := wrap_in (G' * v) (by omega)
      have q6 := wrap_in (G * u + G' * v) (by omega)
      have q7 := wrap_in (B * u) (by omega)
      have q8 := wrap_in (B' * v) (by omega)
      have q9 := wrap_in (B * u + B' * v) (by omega)
      have D1 := Lib.hid (fun w' => bel_div (rdiv_any (R * u + R' * v) (u + v) w' (by omega) (by omega) (by omega) (by omega)))
      have D2 := Lib.hid (fun w' => bel_div (rdiv_any (G * u + G' * v) (u + v) w' (by omega) (by omega) (by omega) (by omega)))
      have D3 := Lib.hid (fun w' => bel_div (rdiv_any (B * u + B' * v) (u + v) w' (by omega) (by omega) (by omega) (by omega)))
      generalize rdiv (R * u + R' * v) (u + v) = qr at *
      generalize rdiv (G * u + G' * v) (u + v) = qg at *
      generalize rdiv (B * u + B' * v) (u + v) = qb at *
      have hb1 := HB1.out; have hb2 := HB2.out; have hb3 := HB3.out
      have HSA := Lib.hid (show ∀ wq, RS (w.heap.size + 1 + 1) wg wq → RS (w.heap.size + 1 + 1) wg wq ∧ wq.cell? ⟨w.heap.size, 0, none⟩ = some (.int .i64 R) ∧ wq.cell? ⟨w.heap.size, 1, none⟩ = some (.int .i64 G) ∧ wq.cell? ⟨w.heap.size, 2, none⟩ = some (.int .i64 B) ∧ wq.cell? ⟨w.heap.size, 3, none⟩ = some (.int .i64 A) ∧ wq.cell? ⟨w.heap.size + 1, 0, none⟩ = some (.int .i64 R') ∧ wq.cell? ⟨w.heap.size + 1, 1, none⟩ = some (.int .i64 G') ∧ wq.cell? ⟨w.heap.size + 1, 2, none⟩ = some (.int .i64 B') ∧ wq.cell? ⟨w.heap.size + 1, 3, none⟩ = some (.int .i64 A') ∧ wq.cell? ⟨w.heap.size + 1 + 1, 0, none⟩ = some (cv wq (w.heap.size + 1 + 1) 0) ∧ wq.cell? ⟨w.heap.size + 1 + 1, 1, none⟩ = some (cv wq (w.heap.size + 1 + 1) 1) ∧ wq.cell? ⟨w.heap.size + 1 + 1, 2, none⟩ = some (cv wq (w.heap.size + 1 + 1) 2) ∧ wq.cell? ⟨w.heap.size + 1 + 1, 3, none⟩ = some (cv wq (w.heap.size + 1 + 1) 3) ∧ wq.frozen? ⟨w.heap.size + 1 + 1, 0, none⟩ = false ∧ wq.frozen? ⟨w.heap.size + 1 + 1, 1, none⟩ = false ∧ wq.frozen? ⟨w.heap.size + 1 + 1, 2, none⟩ = false ∧ wq.frozen? ⟨w.heap.size + 1 + 1, 3, none⟩ = false from
        fun wq h => ⟨h, (h.bx hb1 (by omega)).four.1.1, (h.bx hb1 (by omega)).four.1.2.1, (h.bx hb1 (by omega)).four.1.2.2.1, (h.bx hb1 (by omega)).four.1.2.2.2, (h.bx hb2 (by omega)).four.1.1, (h.bx hb2 (by omega)).four.1.2.1, (h.bx hb2 (by omega)).four.1.2.2.1, (h.bx hb2 (by omega)).four.1.2.2.2, h.cvs.1.1, h.cvs.1.2.1, h.cvs.1.2.2.1, h.cvs.1.2.2.2, h.cvs.2⟩)
      have HSP := Lib.hid (fun wq (h : RS (w.heap.size + 1 + 1) wg wq) a b c d => HSA.out _ (h.put a b c d))
      have hBv : RS (w.heap.size + 1 + 1) wg wg.drew := RS.start hb3
      have hS0 := HSA.out _ hBv
      clear hb1 hb2 hb3 HB1 HB2 HB3
      go_wp2_with fail
      go_region_held3 (fun wq => RS (w.heap.size + 1 + 1) wg wq ∧ wq.cell? ⟨w.heap.size, 0, none⟩ = some (.int .i64 R) ∧ wq.cell? ⟨w.heap.size, 1, none⟩ = some (.int .i64 G) ∧ wq.cell? ⟨w.heap.size, 2, none⟩ = some (.int .i64 B) ∧ wq.cell? ⟨w.heap.size, 3, none⟩ = some (.int .i64 A) ∧ wq.cell? ⟨w.heap.size + 1, 0, none⟩ = some (.int .i64 R') ∧ wq.cell? ⟨w.heap.size + 1, 1, none⟩ = some (.int .i64 G') ∧ wq.cell? ⟨w.heap.size + 1, 2, none⟩ = some (.int .i64 B') ∧ wq.cell? ⟨w.heap.size + 1, 3, none⟩ = some (.int .i64 A') ∧ wq.cell? ⟨w.heap.size + 1 + 1, 0, none⟩ = some (cv wq (w.heap.size + 1 + 1) 0) ∧ wq.cell? ⟨w.heap.size + 1 + 1, 1, none⟩ = some (cv wq (w.heap.size + 1 + 1) 1) ∧ wq.cell? ⟨w.heap.size + 1 + 1, 2, none⟩ = some (cv wq (w.heap.size + 1 + 1) 2) ∧ wq.cell? ⟨w.heap.size + 1 + 1, 3, none⟩ = some (cv wq (w.heap.size + 1 + 1) 3) ∧ wq.frozen? ⟨w.heap.size + 1 + 1, 0, none⟩ = false ∧ wq.frozen? ⟨w.heap.size + 1 + 1, 1, none⟩ = false ∧ wq.frozen? ⟨w.heap.size + 1 + 1, 2, none⟩ = false ∧ wq.frozen? ⟨w.heap.size + 1 + 1, 3, none⟩ = false)
        (first | assumption | exact hS0 | exact HSA.out _ hBv | exact HSP.out _ hBv _ _ _ _ | go_keep)
        (first | ((with_reducible refine (D1.out _).mono ?_); rintro e wv ⟨rfl, hbv⟩; have hBv := RS.call hBv hbv) | ((with_reducible refine (D2.out _).mono ?_); rintro e wv ⟨rfl, hbv⟩; have hBv := RS.call hBv hbv) | ((with_reducible refine (D3.out _).mono ?_); rintro e wv ⟨rfl, hbv⟩; have hBv := RS.call hBv hbv))
      obtain ⟨⟨r1, r2, r3, r4⟩, f1, f2, f3, f4⟩ := hBv.cvs
      go_wp2_with fail
      refine bodyPost_ret (v := .agg #[.int .i64 qr, .int .i64 qg, .int .i64 qb, .int .i64 α]) (by simp [results, Tryd.results85, go_sem, r1, r2, r3, r4]) rfl ⟨by rw [E.out], ?_⟩
      exact set4_below (hBv.bel HB.out (by omega)) (by omega) _ _ _ _ _ _ _ _
end Go.Proofs.YtmbglkholoblaaaDoor
namespace Go.Proofs.YtmbglkholoblaaaDoor
open Go.RowKit

/-- The head of the loop that seeks the stops about t. -/
def RMapRel (ss : List (Int × Px)) (t : Int) (w0 : World) (gh : Nat) (i : Value) (wr : World) : Prop :=
  ∃ k : Nat, k + 1 ≤ ss.length ∧ gh = ss.length - k ∧ i = .int .i64 ((k + 1 : Nat) : Int) ∧ Below w0.heap.size w0 wr ∧ sat ss k ≤ t ∧ mapF ss t = mapGo (sat ss k, sco ss k) (ss.drop (k + 1)) t
set_option maxRecDepth 100000 in
set_option maxHeartbeats 4000000 in
theorem rmapped_first (ss : List (Int × Px)) (k : StOk ss) (v : Value) (t : Int) (w : World) (h : Stps w w.heap.size v ss) (ht : t ≤ sat ss 0) :
    Calls Tryd.prog 62 #[v, .int .i64 t] w (PxPost (mapF ss t) w) := by
  obtain ⟨b, o, c, rfl, hb, hc⟩ := h.form k.pos
  have hn := k.pos; have hn16 := k.few
  have E := Lib.hid (mapF_first ht)
  obtain ⟨c0, c1, c2, c3, c4⟩ := hc 0 hn
  simp only [Nat.zero_mul, Nat.add_zero] at c0 c1 c2 c3 c4
  clear hc h
  generalize sco ss 0 = p at *
  generalize sat ss 0 = s at *
  have hd : decide (t ≤ s) = true := by simp; exact ht
  clear ht
  go_enter Tryd.func62, Tryd.ntmps62
  go_upto_region 1 with fail
  obtain ⟨hb1, hB, -⟩ := one_box w #[.int .i64 0, .int .i64 0, .int .i64 0, .int .i64 0] 25 _ rfl
  replace c0 := (hB.cell (p := ⟨b, _, none⟩) hb).trans c0; replace c1 := (hB.cell (p := ⟨b, _, none⟩) hb).trans c1; replace c2 := (hB.cell (p := ⟨b, _, none⟩) hb).trans c2; replace c3 := (hB.cell (p := ⟨b, _, none⟩) hb).trans c3; replace c4 := (hB.cell (p := ⟨b, _, none⟩) hb).trans c4
  generalize World.alloc w _ = w0 at *
  obtain ⟨⟨r1, r2, r3, r4⟩, f1, f2, f3, f4⟩ := hb1.four
  clear hb1
  go_wp2_with fail
  refine bodyPost_ret (v := .agg #[.int .i64 p.r, .int .i64 p.g, .int .i64 p.b, .int .i64 p.a]) (by simp [results, Tryd.results62, go_sem, r1, r2, r3, r4]) rfl ⟨by rw [E.out], ?_⟩
  exact set4_below hB (Nat.le_refl _) _ _ _ _ _ _ _ _
set_option maxRecDepth 100000 in
set_option maxHeartbeats 8000000 in
theorem rmapped_go (ss : List (Int × Px)) (q : StOk ss) (v : Value) (t : Int) (w : World) (h : Stps w w.heap.size v ss) (ht0 : 0 ≤ t ∧ t ≤ 65535) (ht : ¬ t ≤ sat ss 0) :
    Calls Tryd.prog 62 #[v, .int .i64 t] w (PxPost (mapF ss t) w) := by
  obtain ⟨b, o, c, rfl, hb, hc⟩ := h.form q.pos
  have hn := q.pos; have hn16 := q.few
  have HC := Lib.hid hc; have HQ := Lib.hid q
  have c0 := (hc 0 hn).1
  simp only [Nat.zero_mul, Nat.add_zero] at c0
  have hd : decide (t ≤ sat ss 0) = false := by simp; omega
  have HT := Lib.hid (mapF_go ht)
  have hts : sat ss 0 ≤ t := by omega
  clear hc h q ht
  go_enter Tryd.func62, Tryd.ntmps62
  go_upto_region 1 with fail
  obtain ⟨hb1, hB, -⟩ := one_box w #[.int .i64 0, .int .i64 0, .int .i64 0, .int .i64 0] 25 _ rfl
  replace c0 := (hB.cell (p := ⟨b, _, none⟩) hb).trans c0
  generalize World.alloc w _ = w0 at *
  have HB := Lib.hid hB; have HB1 := Lib.hid hb1; clear hB hb1
  go_wp2_with fail
  clear c0 hd
  go_loopg [5] ss.length (RMapRel ss t w0)
  case atStart => exact ⟨0, by omega, by omega, rfl, Below.refl _ _, hts, HT.out⟩
  case round =>
    obtain ⟨k, hk, rfl, rfl, hbr, hsk, hm⟩ := hrel
    have HM := Lib.hid hm; clear hm hts
    have hBr := bel_trans HB.out hbr
    obtain ⟨j, hj⟩ : ∃ j : Nat, k + 1 = j := ⟨_, rfl⟩
    rw [hj]
    by_cases hlt : j < ss.length
    · obtain ⟨x0, x1, x2, x3, x4⟩ := HC.out k (by omega)
      obtain ⟨y0, y1, y2, y3, y4⟩ := HC.out j hlt
      replace x0 := (hBr.cell (p := ⟨b, _, none⟩) hb).trans x0; replace x1 := (hBr.cell (p := ⟨b, _, none⟩) hb).trans x1; replace x2 := (hBr.cell (p := ⟨b, _, none⟩) hb).trans x2; replace x3 := (hBr.cell (p := ⟨b, _, none⟩) hb).trans x3; replace x4 := (hBr.cell (p := ⟨b, _, none⟩) hb).trans x4
      replace y0 := (hBr.cell (p := ⟨b, _, none⟩) hb).trans y0; replace y1 := (hBr.cell (p := ⟨b, _, none⟩) hb).trans y1; replace y2 := (hBr.cell (p := ⟨b, _, none⟩) hb).trans y2; replace y3 := (hBr.cell (p := ⟨b, _, none⟩) hb).trans y3; replace y4 := (hBr.cell (p := ⟨b, _, none⟩) hb).trans y4
      have hrng := (HQ.out.rng k (by omega)).1; have hrng2 := (HQ.out.rng j hlt).1
      have hj0 : (j : Int) - 1 = (k : Int) := by omega
      have hj1 : (0 : Int) ≤ (j : Int) := by omega
      have hj2 : (j : Int) < (ss.length : Int) := by omega
      have hj3 : (0 : Int) ≤ (k : Int) := by omega
      have hj4 : (k : Int) < (ss.length : Int) := by omega
      have hw0 : IntKind.i64.wrap (k : Int) = k := wrap_in _ (by omega)
      have EH := Lib.hid (show t < sat ss j → mapF ss t = mixP (sco ss k) (sco ss j) (rdiv (65535 * (t - sat ss k)) (sat ss j - sat ss k)) from fun h => by rw [HM.out]; subst hj; exact map_hit hlt h)
      have EN := Lib.hid (show ¬ t < sat ss j → mapF ss t = mapGo (sat ss j, sco ss j) (ss.drop (j + 1)) t from fun h => by rw [HM.out]; subst hj; exact map_next hlt h)
      have HJ := Lib.hid hj; clear hj
      have HBR := Lib.hid hbr; clear hbr
      have hbl : b < wr.heap.size := Nat.lt_of_lt_of_le hb hBr.size
      generalize hs2 : sat ss j = s2 at *
      generalize hp2 : sco ss j = p2 at *
      generalize sat ss k = s1 at *
      generalize sco ss k = p1 at *
      have HS2 := Lib.hid hs2; have HP2 := Lib.hid hp2; clear hs2 hp2
      go_upto_region 7 with fail
      obtain ⟨hb6, hb6b, -⟩ := one_box wr #[.int .i64 s1, .int .i64 p1.r, .int .i64 p1.g, .int .i64 p1.b, .int .i64 p1.a] 63 _ rfl
      have hg6 : wr.heap.size < (World.alloc wr (.cells #[.int .i64 s1, .int .i64 p1.r, .int .i64 p1.g, .int .i64 p1.b, .int .i64 p1.a] 63)).heap.size := hb6.lt
      replace y0 := (hb6b.cell (p := ⟨b, _, none⟩) hbl).trans y0; replace y1 := (hb6b.cell (p := ⟨b, _, none⟩) hbl).trans y1; replace y2 := (hb6b.cell (p := ⟨b, _, none⟩) hbl).trans y2; replace y3 := (hb6b.cell (p := ⟨b, _, none⟩) hbl).trans y3; replace y4 := (hb6b.cell (p := ⟨b, _, none⟩) hbl).trans y4
      generalize World.alloc wr _ = wa at *
      clear x0 x1 x2 x3 x4
      go_upto_region 8 with fail
      obtain ⟨hb7, hb7b, -⟩ := one_box wa #[.int .i64 s2, .int .i64 p2.r, .int .i64 p2.g, .int .i64 p2.b, .int .i64 p2.a] 63 _ rfl
      replace hb6 := hb6.below hb7b
      have hBx := bel_trans hb6b hb7b
      generalize World.alloc wa _ = wx at *
      clear y0 y1 y2 y3 y4 hb6b hb7b
      obtain ⟨z0, z1, z2, z3, z4⟩ := hb7.five
      by_cases a : t < s2
      · have hd : decide (t < s2) = true := by simp; exact a
        have E := Lib.hid (EH.out a)
        go_upto_region 9 with fail
        have hb4 := (HB1.out.below HBR.out).below hBx
        have hBW := bel_trans hBr hBx
        have hgw : w.heap.size < wr.heap.size := (HB1.out.below HBR.out).lt
        have hn6 : wr.heap.size < wa.heap.size := hg6
        have q1 := wrap_in (65535 * (t - s1)) (by omega)
        have q2 := wrap_in (s2 - s1) (by omega)
        have q3 := wrap_in (t - s1) (by omega)
        have D1 := Lib.hid (fun w' => bel_div (rdiv_any (65535 * (t - s1)) (s2 - s1) w' (by omega) (by omega) (by omega) (by omega)))
        generalize rdiv (65535 * (t - s1)) (s2 - s1) = u at *
        have D2 := Lib.hid (fun w' => rmix_any p1 p2 u w')
        generalize mixP p1 p2 u = m at *
        generalize wr.heap.size = g6 at *
        generalize wa.heap.size = g7 at *
        have HSA := Lib.hid (show ∀ wq, RS (w.heap.size) wx wq → RS (w.heap.size) wx wq ∧ wq.cell? ⟨g6, 0, none⟩ = some (.int .i64 s1) ∧ wq.cell? ⟨g6, 1, none⟩ = some (.int .i64 p1.r) ∧ wq.cell? ⟨g6, 2, none⟩ = some (.int .i64 p1.g) ∧ wq.cell? ⟨g6, 3, none⟩ = some (.int .i64 p1.b) ∧ wq.cell? ⟨g6, 4, none⟩ = some (.int .i64 p1.a) ∧ wq.cell? ⟨g7, 0, none⟩ = some (.int .i64 s2) ∧ wq.cell? ⟨g7, 1, none⟩ = some (.int .i64 p2.r) ∧ wq.cell? ⟨g7, 2, none⟩ = some (.int .i64 p2.g) ∧ wq.cell? ⟨g7, 3, none⟩ = some (.int .i64 p2.b) ∧ wq.cell? ⟨g7, 4, none⟩ = some (.int .i64 p2.a) ∧ wq.cell? ⟨w.heap.size, 0, none⟩ = some (cv wq (w.heap.size) 0) ∧ wq.cell? ⟨w.heap.size, 1, none⟩ = some (cv wq (w.heap.size) 1) ∧ wq.cell? ⟨w.heap.size, 2, none⟩ = some (cv wq (w.heap.size) 2) ∧ wq.cell? ⟨w.heap.size, 3, none⟩ = some (cv wq (w.heap.size) 3) ∧ wq.frozen? ⟨w.heap.size, 0, none⟩ = false ∧ wq.frozen? ⟨w.heap.size, 1, none⟩ = false ∧ wq.frozen? ⟨w.heap.size, 2, none⟩ = false ∧ wq.frozen? ⟨w.heap.size, 3, none⟩ = false from
          fun wq h => ⟨h, (h.bx hb6 (by omega)).five.1, (h.bx hb6 (by omega)).five.2.1, (h.bx hb6 (by omega)).five.2.2.1, (h.bx hb6 (by omega)).five.2.2.2.1, (h.bx hb6 (by omega)).five.2.2.2.2, (h.bx hb7 (by omega)).five.1, (h.bx hb7 (by omega)).five.2.1, (h.bx hb7 (by omega)).five.2.2.1, (h.bx hb7 (by omega)).five.2.2.2.1, (h.bx hb7 (by omega)).five.2.2.2.2, h.cvs.1.1, h.cvs.1.2.1, h.cvs.1.2.2.1, h.cvs.1.2.2.2, h.cvs.2⟩)
        have HSP := Lib.hid (fun wq (h : RS (w.heap.size) wx wq) a b c d => HSA.out _ (h.put a b c d))
        have hBv : RS (w.heap.size) wx wx.drew := RS.start hb4
        have hS0 := HSA.out _ hBv
        have HBW := Lib.hid hBW
        clear hb4 hb6 hb7 hBW z0 z1 z2 z3 z4 hBx hBr hbl hb
        go_region_held3 (fun wq => RS (w.heap.size) wx wq ∧ wq.cell? ⟨g6, 0, none⟩ = some (.int .i64 s1) ∧ wq.cell? ⟨g6, 1, none⟩ = some (.int .i64 p1.r) ∧ wq.cell? ⟨g6, 2, none⟩ = some (.int .i64 p1.g) ∧ wq.cell? ⟨g6, 3, none⟩ = some (.int .i64 p1.b) ∧ wq.cell? ⟨g6, 4, none⟩ = some (.int .i64 p1.a) ∧ wq.cell? ⟨g7, 0, none⟩ = some (.int .i64 s2) ∧ wq.cell? ⟨g7, 1, none⟩ = some (.int .i64 p2.r) ∧ wq.cell? ⟨g7, 2, none⟩ = some (.int .i64 p2.g) ∧ wq.cell? ⟨g7, 3, none⟩ = some (.int .i64 p2.b) ∧ wq.cell? ⟨g7, 4, none⟩ = some (.int .i64 p2.a) ∧ wq.cell? ⟨w.heap.size, 0, none⟩ = some (cv wq (w.heap.size) 0) ∧ wq.cell? ⟨w.heap.size, 1, none⟩ = some (cv wq (w.heap.size) 1) ∧ wq.cell? ⟨w.heap.size, 2, none⟩ = some (cv wq (w.heap.size) 2) ∧ wq.cell? ⟨w.heap.size, 3, none⟩ = some (cv wq (w.heap.size) 3) ∧ wq.frozen? ⟨w.heap.size, 0, none⟩ = false ∧ wq.frozen? ⟨w.heap.size, 1, none⟩ = false ∧ wq.frozen? ⟨w.heap.size, 2, none⟩ = false ∧ wq.frozen? ⟨w.heap.size, 3, none⟩ = false)
          (first | assumption | exact hS0 | exact HSA.out _ hBv | exact HSP.out _ hBv _ _ _ _ | go_keep)
          (first | ((with_reducible refine (D1.out _).mono ?_); rintro e wv ⟨rfl, hbv⟩; have hBv := RS.call hBv hbv) | ((with_reducible refine (D2.out _).mono ?_); rintro e wv ⟨rfl, hbv⟩; have hBv := RS.call hBv hbv))
        obtain ⟨⟨r1, r2, r3, r4⟩, f1, f2, f3, f4⟩ := hBv.cvs
        go_wp2_with fail
        refine bodyPost_ret (v := .agg #[.int .i64 m.r, .int .i64 m.g, .int .i64 m.b, .int .i64 m.a]) (by simp [results, Tryd.results62, go_sem, r1, r2, r3, r4]) rfl ⟨by rw [E.out], ?_⟩
        exact set4_below (hBv.bel HBW.out (Nat.le_refl _)) (Nat.le_refl _) _ _ _ _ _ _ _ _
      · have hd : decide (t < s2) = false := by simp; omega
        have E := Lib.hid (EN.out a)
        have HBX := Lib.hid (bel_trans HBR.out hBx)
        clear hb6 hb7
        go_wp2_with fail
        go_roundg (ss.length - j)
        case measure => have := HJ.out; omega
        case rel => exact ⟨j, by omega, rfl, by go_num, HBX.out, by rw [HS2.out]; omega, by rw [HS2.out, HP2.out]; exact E.out⟩
    · have hjn : j = ss.length := by omega
      have E := Lib.hid (show mapF ss t = sco ss k by rw [HM.out]; exact map_last (by omega))
      have hb4 := HB1.out.below hbr
      obtain ⟨x0, x1, x2, x3, x4⟩ := HC.out k (by omega)
      replace x0 := (hBr.cell (p := ⟨b, _, none⟩) hb).trans x0; replace x1 := (hBr.cell (p := ⟨b, _, none⟩) hb).trans x1; replace x2 := (hBr.cell (p := ⟨b, _, none⟩) hb).trans x2; replace x3 := (hBr.cell (p := ⟨b, _, none⟩) hb).trans x3; replace x4 := (hBr.cell (p := ⟨b, _, none⟩) hb).trans x4
      have hi : (ss.length : Int) - 1 = (k : Int) := by omega
      have hi1 : (0 : Int) ≤ (k : Int) := by omega
      have hi2 : (k : Int) < (ss.length : Int) := by omega
      have hw0 : IntKind.i64.wrap (k : Int) = k := wrap_in _ (by omega)
      have hd : decide ((j : Int) < (ss.length : Int)) = false := by simp; omega
      clear hj hjn
      generalize sco ss k = p1 at *
      obtain ⟨⟨r1, r2, r3, r4⟩, f1, f2, f3, f4⟩ := hb4.four
      have HBR := Lib.hid hBr; clear hBr hbr hb4
      go_wp2_with fail
      refine bodyPost_ret (v := .agg #[.int .i64 p1.r, .int .i64 p1.g, .int .i64 p1.b, .int .i64 p1.a]) (by simp [results, Tryd.results62, go_sem, r1, r2, r3, r4]) rfl ⟨by rw [E.out], ?_⟩
      exact set4_below HBR.out (Nat.le_refl _) _ _ _ _ _ _ _ _
theorem rmapped_any (ss : List (Int × Px)) (q : StOk ss) (v : Value) (t : Int) (w : World) (h : Stps w w.heap.size v ss) (ht0 : 0 ≤ t ∧ t ≤ 65535) :
    Calls Tryd.prog 62 #[v, .int .i64 t] w (PxPost (mapF ss t) w) := by
  by_cases ht : t ≤ sat ss 0
  · exact rmapped_first ss q v t w h ht
  · exact rmapped_go ss q v t w h ht0 ht
end Go.Proofs.YtmbglkholoblaaaDoor
