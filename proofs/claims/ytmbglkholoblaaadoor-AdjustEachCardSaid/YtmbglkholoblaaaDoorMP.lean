/- The reference's counts and ends. -/
import Derived.Test.YtmbglkholoblaaaDoorMM
namespace Go.Proofs.YtmbglkholoblaaaDoor
open Go.RowKit

def cLo (k : Int) : Int := if k = 3 then 4 else [0, 0, 5, 4, 2, 3, 1, 1, 9, 3, 0, 2].getD k.toNat 0
def cHi (k : Int) : Int := if k = 3 then 16 else [0, 0, 5, 4, 2, 3, 1, 1, 9, 3, 0, 2].getD k.toNat 0
set_option maxHeartbeats 8000000 in
theorem rcounts_any (k : Int) (h1 : 1 ≤ k) (h2 : k ≤ 11) (w : World) : Calls Tryd.prog 44 #[.int .i64 k] w fun e w' => e = .returned (.tuple #[.int .i64 (cLo k), .int .i64 (cHi k)]) ∧ Below w.heap.size w w' := by
  rcases kinds h1 h2 with rfl | rfl | rfl | rfl | rfl | rfl | rfl | rfl | rfl | rfl | rfl
  all_goals
    go_enter Tryd.func44, Tryd.ntmps44
    go_upto_region 2 with fail
    obtain ⟨hb1, hB, -⟩ := one_box w #[.int .i64 0, .int .i64 0, .int .i64 5, .int .i64 4, .int .i64 2, .int .i64 3, .int .i64 1, .int .i64 1, .int .i64 9, .int .i64 3, .int .i64 0, .int .i64 2] 3 _ rfl
    generalize World.alloc w _ = w0 at *
    have c0 := hb1.cell (j := 0) rfl; have c1 := hb1.cell (j := 1) rfl; have c2 := hb1.cell (j := 2) rfl; have c3 := hb1.cell (j := 3) rfl; have c4 := hb1.cell (j := 4) rfl; have c5 := hb1.cell (j := 5) rfl
    have c6 := hb1.cell (j := 6) rfl; have c7 := hb1.cell (j := 7) rfl; have c8 := hb1.cell (j := 8) rfl; have c9 := hb1.cell (j := 9) rfl; have c10 := hb1.cell (j := 10) rfl; have c11 := hb1.cell (j := 11) rfl
    clear hb1
    first
      | (go_wp2_with fail; go_quiet (fail); go_wp2_with fail; go_ret2; exact ⟨rfl, Below.drewN' hB _⟩)
      | (go_wp2_with fail; go_ret2; exact ⟨rfl, hB⟩)
set_option maxHeartbeats 8000000 in
theorem rends_any (k : Int) (h1 : 1 ≤ k) (h2 : k ≤ 11) (n : Nat) (hn : n ≤ 9223372036854775807) (w : World) : Calls Tryd.prog 45 #[.int .i64 k, .int .i64 n] w fun e w' => e = .returned (.tuple #[.int .i64 (spLo k n), .int .i64 (spHi k n)]) ∧ w = w' := by
  have hc : n = 0 ∨ n = 1 ∨ n = 2 ∨ 3 ≤ n := by omega
  have E := Lib.hid (show 3 ≤ n → ∀ k', (1 ≤ k' ∧ k' ≤ 11) → spLo k' n = spLo k' 3 ∧ spHi k' n = spHi k' 3 from fun h k' hk => by
    unfold spLo spHi
    have a1 : ((n : Int) = 2) = False := by simp; omega
    have a2 : ((n : Int) = 1) = False := by simp; omega
    have a3 : (0 < (n : Int)) = True := by simp; omega
    have b1 : ((3 : Int) = 2) = False := by simp
    have b2 : ((3 : Int) = 1) = False := by simp
    have b3 : (0 < (3 : Int)) = True := by simp
    simp only [a1, a2, a3, b1, b2, b3]
    exact ⟨trivial, trivial⟩)
  rcases kinds h1 h2 with rfl | rfl | rfl | rfl | rfl | rfl | rfl | rfl | rfl | rfl | rfl
  all_goals
    rcases hc with rfl | rfl | rfl | hc
    case inr.inr.inr =>
      rw [(E.out hc _ (by omega)).1, (E.out hc _ (by omega)).2]
      have d1 : ((n : Int) == 2) = false := by simp; omega
      have d2 : ((n : Int) == 1) = false := by simp; omega
      have d3 : decide (0 < (n : Int)) = true := by simp; omega
      go_enter Tryd.func45, Tryd.ntmps45
      go_wp2
      go_ret2
      exact ⟨rfl, rfl⟩
    all_goals
      go_enter Tryd.func45, Tryd.ntmps45
      go_wp2
      go_ret2
      exact ⟨rfl, rfl⟩
end Go.Proofs.YtmbglkholoblaaaDoor
namespace Go.Proofs.YtmbglkholoblaaaDoor
open Go.RowKit

theorem cnt_split {k : Int} (h1 : 1 ≤ k) (h2 : k ≤ 11) (n : Nat) : (((n : Int) < cLo k ∨ cHi k < (n : Int)) ∨ (k = 3 ∧ (n : Int) % 2 = 1)) ↔ cntOk k n = false := by
  rcases kinds h1 h2 with rfl | rfl | rfl | rfl | rfl | rfl | rfl | rfl | rfl | rfl | rfl <;> simp [cLo, cHi, cntOk] <;> omega
theorem wrap_pred {j i : Nat} (h : j = i + 1) (hb : j ≤ 9223372036854775807) : (j : Int) - 1 = (i : Int) ∧ IntKind.i64.wrap (i : Int) = i := ⟨by omega, wrap_in _ (by omega)⟩
def Stay (x : Int) (w : World) (gh : Nat) (i : Value) (wr : World) : Prop := gh = 0 ∧ i = .int .i64 x ∧ wr = w

set_option maxRecDepth 100000 in
set_option maxHeartbeats 16000000 in
theorem rcheck_loops (k : Int) (h1 : 1 ≤ k) (h2 : k ≤ 11) (l : List Int) (ss : List (Int × Px)) (A : Option Addr) (c : Nat) (A' : Option Addr) (c' : Nat) (w : World) (h : Ints w w.heap.size (.slice A l.length c) l) (hs : Stps w w.heap.size (.slice A' ss.length c') ss)
    (lo hi : Int) (hcnt : ¬ (((l.length : Int) < lo ∨ hi < (l.length : Int)) ∨ (k = 3 ∧ (l.length : Int) % 2 = 1))) (hmap : decide (0 < ss.length) = decide (k = 10)) (hsl : ss.length ≤ 16) (hll : l.length ≤ 16) (H2l : k = 2 → l.length = 5) (H3l : k = 3 → 4 ≤ l.length ∧ l.length % 2 = 0) (H9l : k = 9 → l.length = 3) (E : Int)
    (ER : rngB k l ss = false → E = 2) (EO : rngB k l ss = true → ordB k l ss = false → E = 24) (EY : rngB k l ss = true → ordB k l ss = true → E = 0)
    (TC : ∀ w', Calls Tryd.prog 44 #[.int .i64 k] w' fun e w'' => e = .returned (.tuple #[.int .i64 lo, .int .i64 hi]) ∧ Below w'.heap.size w' w'') :
    Calls Tryd.prog 23 #[.int .i64 k, .slice A l.length c, .slice A' ss.length c'] w fun e w' => e = .returned (.int .i64 E) ∧ Below w.heap.size w w' := by
  have HI := Lib.hid h; have HS := Lib.hid hs; have H2 := Lib.hid H2l; have H3 := Lib.hid H3l; have H9 := Lib.hid H9l; have HTC := Lib.hid TC; have HK := Lib.hid (And.intro h1 h2)
  have HER := Lib.hid ER; have HEO := Lib.hid EO; have HEY := Lib.hid EY; have HC0 := Lib.hid hcnt
  clear h hs H2l H3l H9l TC h1 h2 ER EO EY
  obtain ⟨p, hp⟩ : ∃ p, decide (0 < ss.length) = p := ⟨_, rfl⟩
  have d3 : decide (0 < (ss.length : Int)) = p := by rw [← hp]; simp
  have d3' : decide (0 < ss.length) = p := hp
  rw [hp] at hmap
  have d4 : (k == 10) = p := by rw [hmap]; rfl
  have d6 : (p != p) = false := by simp
  clear hp hmap
  have d7 : decide (16 < (ss.length : Int)) = false := by simp; omega
  have da : decide ((l.length : Int) < lo) = false := by simp; omega
  have db : decide (hi < (l.length : Int)) = false := by simp; omega
  have dc : decide (k < 1) = false := by have := HK.out; simp; omega
  have dd : decide (11 < k) = false := by have := HK.out; simp; omega
  clear hcnt
  go_enter Tryd.func23, Tryd.ntmps23
  go_wp2_with fail
  refine (HTC.out _).mono ?_
  rintro e w1 ⟨rfl, hb1⟩
  have HB := Lib.hid hb1
  clear hb1
  go_upto_region 4 with fail
  go_cut [53] (GzMid false w1)
  case first =>
    by_cases hk : k = 3
    · subst hk
      have ht : (l.length : Int).tmod 2 = (l.length : Int) % 2 := Int.tmod_eq_emod_of_nonneg (by omega)
      have d5 : ((l.length : Int) % 2 == 1) = false := by
        have := HC0.out
        simp; omega
      go_wp2_with fail
      go_meet
      exact ⟨rfl, rfl⟩
    · have hkk : (k == 3) = false := by simp [hk]
      go_wp2_with fail
      go_meet
      exact ⟨rfl, rfl⟩
  case rest =>
    obtain ⟨rfl, rfl⟩ := hcut
    clear HC0 da db dc dd d3 d3' d4 d6 HTC
    go_wp2_with fail
    clear d7
    go_loopg [9] l.length (R1Rel k l wc)
    case atStart => exact ⟨0, Nat.zero_le _, rfl, rfl, rfl, fun j' hj' => absurd hj' (by omega)⟩
    case round =>
      obtain ⟨j, hj, rfl, rfl, rfl, hall⟩ := hrel
      have HALL := Lib.hid hall; clear hall
      by_cases hlt : j < l.length
      · obtain ⟨A1, c1, ev1, _, hca⟩ := HI.out
        injection ev1 with u1 u2 u3
        subst u1 u3
        obtain ⟨b, o, rfl, hb, y⟩ := hca j hlt
        replace y := (HB.out.cell (p := ⟨b, _, none⟩) hb).trans y
        have hp : l.getD j 0 = prm l j := rfl
        rw [hp] at y
        have hk0 : (0 : Int) ≤ (j : Int) := by omega
        have hk1 : (j : Int) < (l.length : Int) := by omega
        have SP := Lib.hid (rends_any k HK.out.1 HK.out.2 j (by omega) wr)
        have EL := Lib.hid (fun hn => HER.out (rngB_no1 (k := k) (l := l) (ss := ss) j hlt hn))
        have EA := Lib.hid (show (spLo k j ≤ prm l j ∧ prm l j ≤ spHi k j) → ∀ j' : Nat, j' < j + 1 → spLo k j' ≤ prm l j' ∧ prm l j' ≤ spHi k j' from fun hh j' hj' => by
          rcases Nat.lt_or_ge j' j with d | d
          · exact HALL.out j' d
          · rw [show j' = j by omega]; exact hh)
        clear hca u2 hp
        generalize spLo k j = lo' at *
        generalize spHi k j = hi' at *
        generalize prm l j = p' at *
        go_wp2_with fail
        refine SP.out.mono ?_
        rintro e w2 ⟨rfl, rfl⟩
        by_cases a : p' < lo'
        · have d1 : decide (p' < lo') = true := by simp; exact a
          have EL2 := Lib.hid (EL.out (by omega)); clear a
          go_wp2_with fail
          go_ret
          exact ⟨ret_int EL2.out.symm, HB.out⟩
        · have d1 : decide (p' < lo') = false := by simp; omega
          by_cases b : hi' < p'
          · have d2 : decide (hi' < p') = true := by simp; exact b
            have EL2 := Lib.hid (EL.out (by omega)); clear a b
            go_wp2_with fail
            go_ret
            exact ⟨ret_int EL2.out.symm, HB.out⟩
          · have d2 : decide (hi' < p') = false := by simp; omega
            have EAA := Lib.hid (EA.out (by omega)); clear a b
            go_wp2_with fail
            go_roundg (l.length - (j + 1))
            case measure => omega
            case rel => exact ⟨j + 1, by omega, rfl, by go_num, rfl, EAA.out⟩
      · obtain rfl : j = l.length := by omega
        have GZ := Lib.hid (show gz k l = decide (k = 9 ∧ prm l 0 = 0 ∧ prm l 1 = 0 ∧ prm l 2 = 0) from rfl)
        have E2 := Lib.hid (fun h => HER.out (rngB_no2 (k := k) (l := l) (ss := ss) h))
        have E3 := Lib.hid (fun j h hn => HER.out (rngB_no3 (k := k) (l := l) (ss := ss) j h hn))
        have E4 := Lib.hid (fun h2 h3 => rngB_yes (k := k) (l := l) (ss := ss) HALL.out h2 h3)
        clear hlt hj
        go_upto_region 14 with fail
        obtain ⟨z, hz0⟩ : ∃ z, gz k l = z := ⟨_, rfl⟩
        rw [hz0] at GZ E2 E4
        have HZ := Lib.hid hz0; clear hz0
        go_cut [102] (GzMid z wr)
        case first =>
          by_cases hk : k = 9
          · subst hk
            have hl3 := H9.out rfl
            obtain ⟨b, o, c1, ev, hb, hc⟩ := ints_at HI.out (by omega)
            injection ev with u1 u2 u3
            subst u1 u3
            have c0 := (HB.out.cell (p := ⟨b, o + 0, none⟩) hb).trans (hc 0 (by omega)); have c1 := (HB.out.cell (p := ⟨b, o + 1, none⟩) hb).trans (hc 1 (by omega)); have c2 := (HB.out.cell (p := ⟨b, o + 2, none⟩) hb).trans (hc 2 (by omega))
            rw [Nat.add_zero] at c0
            clear hc u2
            have hz : ∀ x : Int, (x = 0 ∧ (x == 0) = true) ∨ (x ≠ 0 ∧ (x == 0) = false) := fun x => by
              by_cases h : x = 0
              · exact .inl ⟨h, by simp [h]⟩
              · exact .inr ⟨h, by simp [h]⟩
            have z0 := hz (prm l 0); have z1 := hz (prm l 1); have z2 := hz (prm l 2)
            have hq0 : (0 : Int) < (l.length : Int) := by omega
            have hq1 : (1 : Int) < (l.length : Int) := by omega
            have hq2 : (2 : Int) < (l.length : Int) := by omega
            clear hz hl3
            generalize prm l 0 = x0 at *; generalize prm l 1 = x1 at *; generalize prm l 2 = x2 at *
            rcases z0 with ⟨y0, e0⟩ | ⟨y0, e0⟩
            · rcases z1 with ⟨y1, e1⟩ | ⟨y1, e1⟩
              · rcases z2 with ⟨y2, e2⟩ | ⟨y2, e2⟩
                · have hr : z = true := by rw [GZ.out]; exact decide_eq_true ⟨rfl, y0, y1, y2⟩
                  have HR := Lib.hid hr
                  clear y0 y1 y2 hr
                  go_wp2_with fail
                  go_meet
                  exact ⟨by rw [HR.out], rfl⟩
                · have hr : z = false := by rw [GZ.out]; exact decide_eq_false fun h => y2 h.2.2.2
                  have HR := Lib.hid hr
                  clear y0 y1 y2 hr
                  go_wp2_with fail
                  go_meet
                  exact ⟨by rw [HR.out], rfl⟩
              · have hr : z = false := by rw [GZ.out]; exact decide_eq_false fun h => y1 h.2.2.1
                have HR := Lib.hid hr
                clear y0 y1 z2 hr
                go_wp2_with fail
                go_meet
                exact ⟨by rw [HR.out], rfl⟩
            · have hr : z = false := by rw [GZ.out]; exact decide_eq_false fun h => y0 h.2.1
              have HR := Lib.hid hr
              clear y0 z1 z2 hr
              go_wp2_with fail
              go_meet
              exact ⟨by rw [HR.out], rfl⟩
          · have hkk : (k == 9) = false := by simp [hk]
            have HR := Lib.hid (show z = false by rw [GZ.out]; exact decide_eq_false fun h => hk h.1)
            go_wp2_with fail
            go_meet
            exact ⟨by rw [HR.out], rfl⟩
        case rest =>
          obtain ⟨rfl, rfl⟩ := hcut
          clear GZ HZ
          cases z
          rotate_left
          · go_wp2_with fail
            go_ret
            exact ⟨ret_int (E2.out trivial).symm, HB.out⟩
          have E5 := Lib.hid (fun h3 => E4.out rfl h3)
          clear E2 E4 HALL HER
          go_wp2_with fail
          go_loopg [12] ss.length (R2Rel ss wc)
          case atStart => exact ⟨0, Nat.zero_le _, rfl, rfl, Below.refl _ _, fun j' hj' => absurd hj' (by omega)⟩
          case round =>
            obtain ⟨j, hj, rfl, rfl, hbr, hall⟩ := hrel
            have HALL := Lib.hid hall; clear hall
            have HBR := Lib.hid (bel_trans HB.out hbr)
            have HBX := Lib.hid hbr
            clear hbr
            by_cases hlt : j < ss.length
            · obtain ⟨A2, c2, ev2, _, hcb⟩ := HS.out
              injection ev2 with u1 u2 u3
              subst u1 u3
              obtain ⟨b, o, rfl, hb, s0, s1, s2, s3, s4⟩ := hcb j hlt
              replace s0 := (HBR.out.cell (p := ⟨b, _, none⟩) hb).trans s0; replace s1 := (HBR.out.cell (p := ⟨b, _, none⟩) hb).trans s1; replace s2 := (HBR.out.cell (p := ⟨b, _, none⟩) hb).trans s2; replace s3 := (HBR.out.cell (p := ⟨b, _, none⟩) hb).trans s3; replace s4 := (HBR.out.cell (p := ⟨b, _, none⟩) hb).trans s4
              have hk0 : (0 : Int) ≤ (j : Int) := by omega
              have hk1 : (j : Int) < (ss.length : Int) := by omega
              have EL := Lib.hid (E3.out j hlt)
              have EA := Lib.hid (show ((0 ≤ sat ss j ∧ sat ss j ≤ 65535) ∧ (sco ss j).ok) → ∀ j' : Nat, j' < j + 1 → (0 ≤ sat ss j' ∧ sat ss j' ≤ 65535) ∧ (sco ss j').ok from fun hh j' hj' => by
                rcases Nat.lt_or_ge j' j with d | d
                · exact HALL.out j' d
                · rw [show j' = j by omega]; exact hh)
              clear hcb u2
              generalize sat ss j = s at *
              generalize sco ss j = q at *
              have PV := Lib.hid (rpvalid_any q.r q.g q.b q.a wr)
              by_cases a : s < 0
              · have d1 : decide (s < 0) = true := by simp; exact a
                have EL2 := Lib.hid (EL.out (fun h => by have := h.1.1; omega)); clear a
                go_wp2_with fail
                go_ret
                exact ⟨ret_int EL2.out.symm, HBR.out⟩
              · have d1 : decide (s < 0) = false := by simp; omega
                by_cases b' : 65535 < s
                · have d2 : decide (65535 < s) = true := by simp; exact b'
                  have EL2 := Lib.hid (EL.out (fun h => by have := h.1.2; omega)); clear a b'
                  go_wp2_with fail
                  go_ret
                  exact ⟨ret_int EL2.out.symm, HBR.out⟩
                · have d2 : decide (65535 < s) = false := by simp; omega
                  by_cases pk : pxOk q = true
                  · have EAA := Lib.hid (EA.out ⟨by omega, (pxOk_iff q).1 pk⟩)
                    have PK := Lib.hid (show pxOk ⟨q.r, q.g, q.b, q.a⟩ = true from pk)
                    clear pk a b'
                    go_wp2_with fail
                    refine PV.out.mono ?_
                    rintro e w9 ⟨rfl, hb9⟩
                    rw [PK.out]
                    have HB9 := Lib.hid (bel_trans HBX.out hb9); clear hb9
                    go_wp2_with fail
                    go_roundg (ss.length - (j + 1))
                    case measure => omega
                    case rel => exact ⟨j + 1, by omega, rfl, by go_num, HB9.out, EAA.out⟩
                  · have PK := Lib.hid (show pxOk ⟨q.r, q.g, q.b, q.a⟩ = false by simpa using pk)
                    have EL2 := Lib.hid (EL.out (fun h => pk ((pxOk_iff q).2 h.2)))
                    clear pk a b'
                    go_wp2_with fail
                    refine PV.out.mono ?_
                    rintro e w9 ⟨rfl, hb9⟩
                    rw [PK.out]
                    have HB9 := Lib.hid (bel_trans HBR.out hb9); clear hb9
                    go_wp2_with fail
                    go_ret
                    exact ⟨ret_int EL2.out.symm, HB9.out⟩
            · obtain rfl : j = ss.length := by omega
              have ERT := E5.out HALL.out
              have F24 := Lib.hid (HEO.out ERT)
              have F0 := Lib.hid (HEY.out ERT)
              clear ERT E5 HEO HEY HALL hlt hj E3 HBX
              have GZ := Lib.hid (show lz k l = decide (k = 2 ∧ prm l 1 ≤ prm l 0) from rfl)
              have E1 := Lib.hid (fun h => F24.out (ordB_no1 (k := k) (l := l) (ss := ss) h))
              have E3 := Lib.hid (fun h1 h2 h3 => F0.out (ordB_yes (k := k) (l := l) (ss := ss) h1 h2 h3))
              obtain ⟨z, hz0⟩ : ∃ z, lz k l = z := ⟨_, rfl⟩
              rw [hz0] at GZ E1 E3
              have HZ := Lib.hid hz0; clear hz0
              go_upto_region 21 with fail
              go_cut [142] (LzMid z wr)
              case first =>
                by_cases hk : k = 2
                · subst hk
                  have hl5 := H2.out rfl
                  obtain ⟨b, o, c1, ev, hb, hc⟩ := ints_at HI.out (by omega)
                  injection ev with u1 u2 u3
                  subst u1 u3
                  have c0 := (HBR.out.cell (p := ⟨b, o + 0, none⟩) hb).trans (hc 0 (by omega)); have c1 := (HBR.out.cell (p := ⟨b, o + 1, none⟩) hb).trans (hc 1 (by omega))
                  rw [Nat.add_zero] at c0
                  have hq0 : (0 : Int) < (l.length : Int) := by omega
                  have hq1 : (1 : Int) < (l.length : Int) := by omega
                  clear hc u2 hl5
                  generalize prm l 0 = x0 at *; generalize prm l 1 = x1 at *
                  by_cases a : x1 ≤ x0
                  · have d1 : decide (x1 ≤ x0) = true := by simp; exact a
                    have HR := Lib.hid (show z = true by rw [GZ.out]; exact decide_eq_true ⟨rfl, a⟩); clear a
                    go_quiet (fail)
                    go_wp2_with fail
                    go_meet
                    exact ⟨by rw [HR.out], _, rfl⟩
                  · have d1 : decide (x1 ≤ x0) = false := by simp; omega
                    have HR := Lib.hid (show z = false by rw [GZ.out]; exact decide_eq_false fun h => a h.2); clear a
                    go_quiet (fail)
                    go_wp2_with fail
                    go_meet
                    exact ⟨by rw [HR.out], _, rfl⟩
                · have hkk : (k == 2) = false := by simp [hk]
                  have HR := Lib.hid (show z = false by rw [GZ.out]; exact decide_eq_false fun h => hk h.1)
                  go_quiet (fail)
                  go_wp2_with fail
                  go_meet
                  exact ⟨by rw [HR.out], _, rfl⟩
              case rest =>
                obtain ⟨rfl, n0, hw0⟩ := hcut
                have HB0 := Lib.hid (show Below w.heap.size w wc by rw [hw0]; exact Below.drewN' HBR.out _)
                clear hw0 GZ HZ HBR
                cases z
                rotate_left
                · go_wp2_with fail
                  go_ret
                  exact ⟨ret_int (E1.out trivial).symm, HB0.out⟩
                clear E1
                by_cases hk : k = 3
                rotate_left
                · have hkk : (k == 3) = false := by simp [hk]
                  have E4 := Lib.hid (fun h3 => E3.out (by trivial) (fun h => absurd h hk) h3)
                  have EN := Lib.hid (fun j h hn => F24.out (ordB_no3 (k := k) (l := l) (ss := ss) j h hn))
                  clear E3 hk
                  go_wp2_with fail
                  go_loopg [13] 0 (Stay 2 wc)
                  case atStart => exact ⟨rfl, rfl, rfl⟩
                  case round =>
                    obtain ⟨rfl, rfl, rfl⟩ := hrel
                    go_wp2_with fail
                    go_loopg [14] (ss.length - 1) (O2Rel ss wr)
                    case atStart => exact ⟨1, Nat.le_refl _, rfl, rfl, Below.refl _ _, fun j' hj' => absurd hj' (by omega)⟩
                    case round =>
                      obtain ⟨j, hj, rfl, rfl, hbr, hall⟩ := hrel
                      have HALL := Lib.hid hall; clear hall
                      by_cases hlt : j < ss.length
                      · obtain ⟨A2, c2, ev2, _, hcb⟩ := HS.out
                        injection ev2 with u1 u2 u3
                        subst u1 u3
                        obtain ⟨b, o, rfl, hb, s0, -⟩ := hcb j hlt
                        obtain ⟨b', o', e', _, s1, -⟩ := hcb (j - 1) (by omega)
                        injection e' with e'
                        injection e' with e1 e2
                        subst e1 e2
                        obtain ⟨i, hi⟩ : ∃ i : Nat, j = i + 1 := ⟨j - 1, by omega⟩
                        have hbm := bel_trans HB0.out hbr
                        replace s0 := (hbm.cell (p := ⟨b, _, none⟩) hb).trans s0; replace s1 := (hbm.cell (p := ⟨b, _, none⟩) hb).trans s1
                        rw [show j - 1 = i by omega] at s1
                        have hk0 : (0 : Int) ≤ (j : Int) := by omega
                        have hk1 : (j : Int) < (ss.length : Int) := by omega
                        have hk2 : (0 : Int) ≤ (i : Int) := by omega
                        have hk3 : (i : Int) < (ss.length : Int) := by omega
                        have hk4 : (j : Int) - 1 = (i : Int) := by omega
                        have hk5 : IntKind.i64.wrap (i : Int) = i := wrap_in _ (by omega)
                        have EL := Lib.hid (show ¬ sat ss i < sat ss j → E = 24 from fun h => EN.out i (by omega) (by rw [← hi]; omega))
                        have EA := Lib.hid (show sat ss i < sat ss j → ∀ j' : Nat, j' + 1 < j + 1 → sat ss j' < sat ss (j' + 1) from fun h j' hj' => by
                          rcases Nat.lt_or_ge (j' + 1) j with d | d
                          · exact HALL.out j' d
                          · rw [show j' = i by omega, ← hi]; exact h)
                        clear hcb u2 hi hbm
                        generalize sat ss j = s at *
                        generalize sat ss i = s' at *
                        have HBR := Lib.hid hbr; clear hbr
                        by_cases a : s ≤ s'
                        · have d1 : decide (s ≤ s') = true := by simp; exact a
                          have EL2 := Lib.hid (EL.out (by omega)); clear a
                          go_wp2_with fail
                          go_quiet (fail)
                          go_wp2_with fail
                          go_ret
                          exact ⟨ret_int EL2.out.symm, bel_trans HB0.out (Below.drewN' HBR.out _)⟩
                        · have d1 : decide (s ≤ s') = false := by simp; omega
                          have EA2 := Lib.hid (EA.out (by omega)); clear a
                          go_wp2_with fail
                          go_quiet (fail)
                          go_wp2_with fail
                          go_roundg (ss.length - (j + 1))
                          case measure => omega
                          case rel => exact ⟨j + 1, by omega, rfl, by go_num, Below.drewN' HBR.out _, EA2.out⟩
                      · have HBR := Lib.hid hbr; clear hbr
                        have EY := Lib.hid (E4.out (fun i hi => HALL.out i (by omega)))
                        go_wp2_with fail
                        go_ret
                        exact ⟨ret_int EY.out.symm, bel_trans HB0.out HBR.out⟩
                subst hk
                have EN := Lib.hid (fun j h hn => F24.out (ordB_no3 (k := 3) (l := l) (ss := ss) j h hn))
                have hl3 := H3.out rfl
                obtain ⟨b, o, c1, ev, hb, hc⟩ := ints_at HI.out (by omega)
                injection ev with u1 u2 u3
                subst u1 u3
                have HC := Lib.hid hc; clear hc u2
                go_wp2_with fail
                go_loopg [13] (l.length - 2) (O1Rel l wc)
                case atStart => exact ⟨2, by omega, by omega, rfl, Below.refl _ _, fun i' hi' => absurd hi' (by omega)⟩
                case round =>
                  obtain ⟨m, hm, hgh, rfl, hbr, hall⟩ := hrel
                  subst hgh
                  have HALL := Lib.hid hall; clear hall
                  have HBR := Lib.hid hbr
                  by_cases hlt : m < l.length
                  · obtain ⟨i, hi⟩ : ∃ i : Nat, m = 2 * i + 2 := ⟨m / 2 - 1, by omega⟩
                    obtain ⟨m', hm'⟩ : ∃ m' : Nat, m' = 2 * i := ⟨_, rfl⟩
                    have hbm := bel_trans HB0.out hbr
                    have s0 := (hbm.cell (p := ⟨b, o + m, none⟩) hb).trans (HC.out m hlt)
                    have s1 := (hbm.cell (p := ⟨b, o + m', none⟩) hb).trans (HC.out m' (by omega))
                    have hk0 : (0 : Int) ≤ (m : Int) := by omega
                    have hk1 : (m : Int) < (l.length : Int) := by omega
                    have hk2 : (0 : Int) ≤ (m' : Int) := by omega
                    have hk3 : (m' : Int) < (l.length : Int) := by omega
                    have hk4 : (m : Int) - 2 = (m' : Int) := by omega
                    have hk5 : IntKind.i64.wrap (m' : Int) = m' := wrap_in _ (by omega)
                    have EL := Lib.hid (show ¬ prm l m' < prm l m → E = 24 from fun h => F24.out (ordB_no2 rfl i (by omega) (by rw [← hi, ← hm']; exact h)))
                    have EA := Lib.hid (show prm l m' < prm l m → ∀ i' : Nat, 2 * i' + 2 < m + 2 → prm l (2 * i') < prm l (2 * i' + 2) from fun h i' hi' => by
                      rcases Nat.lt_or_ge (2 * i' + 2) m with d | d
                      · exact HALL.out i' d
                      · rw [show i' = i by omega, ← hi, ← hm']; exact h)
                    clear hi hm' hbm hbr
                    generalize prm l m = s at *
                    generalize prm l m' = s' at *
                    by_cases a : s ≤ s'
                    · have d1 : decide (s ≤ s') = true := by simp; exact a
                      have EL2 := Lib.hid (EL.out (by omega)); clear a
                      go_wp2_with fail
                      go_quiet (fail)
                      go_wp2_with fail
                      go_ret
                      exact ⟨ret_int EL2.out.symm, bel_trans HB0.out (Below.drewN' HBR.out _)⟩
                    · have d1 : decide (s ≤ s') = false := by simp; omega
                      have EA2 := Lib.hid (EA.out (by omega)); clear a
                      go_wp2_with fail
                      go_quiet (fail)
                      go_wp2_with fail
                      go_roundg (l.length - (m + 2))
                      case measure => omega
                      case rel => exact ⟨m + 2, by omega, rfl, by go_num, Below.drewN' HBR.out _, EA2.out⟩
                  · obtain rfl : m = l.length := by omega
                    have E4 := Lib.hid (fun h3 => E3.out (by trivial) (fun _ i hi => HALL.out i (by omega)) h3)
                    replace HB0 := Lib.hid (bel_trans HB0.out hbr)
                    clear E3 hbr HBR HALL hlt hm
                    go_wp2_with fail
                    go_loopg [14] (ss.length - 1) (O2Rel ss wr)
                    case atStart => exact ⟨1, Nat.le_refl _, rfl, rfl, Below.refl _ _, fun j' hj' => absurd hj' (by omega)⟩
                    case round =>
                      obtain ⟨j, hj, rfl, rfl, hbr, hall⟩ := hrel
                      have HALL := Lib.hid hall; clear hall
                      by_cases hlt : j < ss.length
                      · obtain ⟨A2, c2, ev2, _, hcb⟩ := HS.out
                        injection ev2 with u1 u2 u3
                        subst u1 u3
                        obtain ⟨b, o, rfl, hb, s0, -⟩ := hcb j hlt
                        obtain ⟨b', o', e', _, s1, -⟩ := hcb (j - 1) (by omega)
                        injection e' with e'
                        injection e' with e1 e2
                        subst e1 e2
                        obtain ⟨i, hi⟩ : ∃ i : Nat, j = i + 1 := ⟨j - 1, by omega⟩
                        have hbm := bel_trans HB0.out hbr
                        replace s0 := (hbm.cell (p := ⟨b, _, none⟩) hb).trans s0; replace s1 := (hbm.cell (p := ⟨b, _, none⟩) hb).trans s1
                        rw [show j - 1 = i by omega] at s1
                        have hk0 : (0 : Int) ≤ (j : Int) := by omega
                        have hk1 : (j : Int) < (ss.length : Int) := by omega
                        have hk2 : (0 : Int) ≤ (i : Int) := by omega
                        have hk3 : (i : Int) < (ss.length : Int) := by omega
                        have hk4 : (j : Int) - 1 = (i : Int) := by omega
                        have hk5 : IntKind.i64.wrap (i : Int) = i := wrap_in _ (by omega)
                        have EL := Lib.hid (show ¬ sat ss i < sat ss j → E = 24 from fun h => EN.out i (by omega) (by rw [← hi]; omega))
                        have EA := Lib.hid (show sat ss i < sat ss j → ∀ j' : Nat, j' + 1 < j + 1 → sat ss j' < sat ss (j' + 1) from fun h j' hj' => by
                          rcases Nat.lt_or_ge (j' + 1) j with d | d
                          · exact HALL.out j' d
                          · rw [show j' = i by omega, ← hi]; exact h)
                        clear hcb u2 hi hbm
                        generalize sat ss j = s at *
                        generalize sat ss i = s' at *
                        have HBR := Lib.hid hbr; clear hbr
                        by_cases a : s ≤ s'
                        · have d1 : decide (s ≤ s') = true := by simp; exact a
                          have EL2 := Lib.hid (EL.out (by omega)); clear a
                          go_wp2_with fail
                          go_quiet (fail)
                          go_wp2_with fail
                          go_ret
                          exact ⟨ret_int EL2.out.symm, bel_trans HB0.out (Below.drewN' HBR.out _)⟩
                        · have d1 : decide (s ≤ s') = false := by simp; omega
                          have EA2 := Lib.hid (EA.out (by omega)); clear a
                          go_wp2_with fail
                          go_quiet (fail)
                          go_wp2_with fail
                          go_roundg (ss.length - (j + 1))
                          case measure => omega
                          case rel => exact ⟨j + 1, by omega, rfl, by go_num, Below.drewN' HBR.out _, EA2.out⟩
                      · have HBR := Lib.hid hbr; clear hbr
                        have EY := Lib.hid (E4.out (fun i hi => HALL.out i (by omega)))
                        go_wp2_with fail
                        go_ret
                        exact ⟨ret_int EY.out.symm, bel_trans HB0.out HBR.out⟩
set_option maxRecDepth 100000 in
set_option maxHeartbeats 4000000 in
/-- The kind is unknown, or a count is wrong. -/
theorem rcheck_kind (k : Int) (A : Option Addr) (n c : Nat) (A' : Option Addr) (n' c' : Nat) (w : World) (h : k < 1 ∨ 11 < k) :
    Calls Tryd.prog 23 #[.int .i64 k, .slice A n c, .slice A' n' c'] w fun e w' => e = .returned (.int .i64 8) ∧ Below w.heap.size w w' := by
  by_cases h1 : k < 1
  · have d1 : decide (k < 1) = true := by simp; exact h1
    clear h h1
    go_enter Tryd.func23, Tryd.ntmps23
    go_wp2
    go_ret
    exact ⟨rfl, Below.refl _ _⟩
  · have d1 : decide (k < 1) = false := by simp; omega
    have d2 : decide (11 < k) = true := by simp; omega
    clear h h1
    go_enter Tryd.func23, Tryd.ntmps23
    go_wp2
    go_ret
    exact ⟨rfl, Below.refl _ _⟩
set_option maxRecDepth 100000 in
set_option maxHeartbeats 8000000 in
theorem rcheck_counts (k : Int) (h1 : 1 ≤ k) (h2 : k ≤ 11) (A : Option Addr) (n c : Nat) (A' : Option Addr) (n' c' : Nat) (hn : n ≤ 9223372036854775807) (w : World) (lo hi : Int)
    (h : (((n : Int) < lo ∨ hi < (n : Int)) ∨ (k = 3 ∧ (n : Int) % 2 = 1)) ∨ decide (0 < n') ≠ decide (k = 10))
    (TC : ∀ w', Calls Tryd.prog 44 #[.int .i64 k] w' fun e w'' => e = .returned (.tuple #[.int .i64 lo, .int .i64 hi]) ∧ Below w'.heap.size w' w'') :
    Calls Tryd.prog 23 #[.int .i64 k, .slice A n c, .slice A' n' c'] w fun e w' => e = .returned (.int .i64 1) ∧ Below w.heap.size w w' := by
  have HTC := Lib.hid TC; clear TC
  have dc : decide (k < 1) = false := by simp; omega
  have dd : decide (11 < k) = false := by simp; omega
  have ht : (n : Int).tmod 2 = (n : Int) % 2 := Int.tmod_eq_emod_of_nonneg (by omega)
  obtain ⟨p, hp⟩ : ∃ p, decide (0 < n') = p := ⟨_, rfl⟩
  obtain ⟨q, hq⟩ : ∃ q, decide (k = 10) = q := ⟨_, rfl⟩
  have d3 : decide (0 < (n' : Int)) = p := by rw [← hp]; simp
  have d3' : decide (0 < n') = p := hp
  have d4 : (k == 10) = q := by rw [← hq]; rfl
  rw [hp, hq] at h
  clear hp hq h1 h2
  by_cases a : (n : Int) < lo
  · have da : decide ((n : Int) < lo) = true := by simp; exact a
    clear h a
    go_enter Tryd.func23, Tryd.ntmps23
    go_wp2_with fail
    refine (HTC.out _).mono ?_
    rintro e w1 ⟨rfl, hb1⟩
    go_wp2_with fail
    go_ret
    exact ⟨rfl, hb1⟩
  have da : decide ((n : Int) < lo) = false := by simp; omega
  by_cases b : hi < (n : Int)
  · have db : decide (hi < (n : Int)) = true := by simp; exact b
    clear h a b
    go_enter Tryd.func23, Tryd.ntmps23
    go_wp2_with fail
    refine (HTC.out _).mono ?_
    rintro e w1 ⟨rfl, hb1⟩
    go_wp2_with fail
    go_ret
    exact ⟨rfl, hb1⟩
  have db : decide (hi < (n : Int)) = false := by simp; omega
  by_cases e3 : k = 3
  · subst e3
    obtain rfl : q = false := by rw [← d4]; rfl
    clear d4
    by_cases od : (n : Int) % 2 = 1
    · have d5 : ((n : Int) % 2 == 1) = true := by simp [od]
      clear h a b od
      go_enter Tryd.func23, Tryd.ntmps23
      go_wp2_with fail
      refine (HTC.out _).mono ?_
      rintro e w1 ⟨rfl, hb1⟩
      go_wp2_with fail
      go_ret
      exact ⟨rfl, hb1⟩
    · have d5 : ((n : Int) % 2 == 1) = false := by simp [od]
      have hpq : p = true := by
        rcases h with ((h | h) | h) | h
        · exact absurd h a
        · exact absurd h b
        · exact absurd h.2 od
        · simpa using h
      subst hpq
      clear h a b od
      go_enter Tryd.func23, Tryd.ntmps23
      go_wp2_with fail
      refine (HTC.out _).mono ?_
      rintro e w1 ⟨rfl, hb1⟩
      go_wp2_with fail
      go_ret
      exact ⟨rfl, hb1⟩
  · have d0 : (k == 3) = false := by simp [e3]
    have hpq : p ≠ q := by
      rcases h with ((h | h) | h) | h
      · exact absurd h a
      · exact absurd h b
      · exact absurd h.1 e3
      · exact h
    clear h a b e3
    cases p <;> cases q <;> first | exact absurd rfl hpq | clear hpq
    all_goals
      go_enter Tryd.func23, Tryd.ntmps23
      go_wp2_with fail
      refine (HTC.out _).mono ?_
      rintro e w1 ⟨rfl, hb1⟩
      go_wp2_with fail
      go_ret
      exact ⟨rfl, hb1⟩
set_option maxRecDepth 100000 in
set_option maxHeartbeats 8000000 in
theorem rcheck_many (k : Int) (h1 : 1 ≤ k) (h2 : k ≤ 11) (A : Option Addr) (n c : Nat) (A' : Option Addr) (n' c' : Nat) (w : World) (lo hi : Int)
    (h : ¬ (((n : Int) < lo ∨ hi < (n : Int)) ∨ (k = 3 ∧ (n : Int) % 2 = 1))) (hmap : decide (0 < n') = decide (k = 10)) (hm : 16 < n')
    (TC : ∀ w', Calls Tryd.prog 44 #[.int .i64 k] w' fun e w'' => e = .returned (.tuple #[.int .i64 lo, .int .i64 hi]) ∧ Below w'.heap.size w' w'') :
    Calls Tryd.prog 23 #[.int .i64 k, .slice A n c, .slice A' n' c'] w fun e w' => e = .returned (.int .i64 3) ∧ Below w.heap.size w w' := by
  have HTC := Lib.hid TC; clear TC
  have hk10 : k = 10 := by
    have : decide (0 < n') = true := by simp; omega
    rw [this] at hmap
    exact of_decide_eq_true hmap.symm
  subst hk10
  have d3 : decide (0 < (n' : Int)) = true := by simp; omega
  have d3' : decide (0 < n') = true := by simp; omega
  have d7 : decide (16 < (n' : Int)) = true := by simp; omega
  have da : decide ((n : Int) < lo) = false := by simp; omega
  have db : decide (hi < (n : Int)) = false := by simp; omega
  clear h hmap hm
  go_enter Tryd.func23, Tryd.ntmps23
  go_wp2_with fail
  refine (HTC.out _).mono ?_
  rintro e w1 ⟨rfl, hb1⟩
  go_wp2_with fail
  go_ret
  exact ⟨rfl, hb1⟩
/-- The reference's Check. -/
theorem r17check_any (k : Int) (l : List Int) (ss : List (Int × Px)) (A : Option Addr) (c : Nat) (A' : Option Addr) (c' : Nat) (w : World) (h : Ints w w.heap.size (.slice A l.length c) l) (hs : Stps w w.heap.size (.slice A' ss.length c') ss) :
    Calls Tryd.prog 23 #[.int .i64 k, .slice A l.length c, .slice A' ss.length c'] w fun e w' => e = .returned (.int .i64 (achk k l ss)) ∧ Below w.heap.size w w' := by
  have hlm : l.length ≤ 9223372036854775807 := by obtain ⟨_, _, _, hm, _⟩ := h; omega
  have hsm : ss.length ≤ 9223372036854775807 := by obtain ⟨_, _, _, hm, _⟩ := hs; omega
  by_cases hk : k < 1 ∨ 11 < k
  · rw [achk_8 hk]; exact rcheck_kind k A _ c A' _ c' w hk
  have h1 : 1 ≤ k := by omega
  have h2 : k ≤ 11 := by omega
  have TC := fun w' => rcounts_any k h1 h2 w'
  by_cases hcnt : cntOk k l.length = false ∨ (decide (0 < ss.length) ≠ decide (k = 10))
  · rw [achk_1 hk hcnt]
    refine rcheck_counts k h1 h2 A _ c A' _ c' hlm w (cLo k) (cHi k) ?_ TC
    rcases hcnt with h | h
    · exact .inl ((cnt_split h1 h2 _).2 h)
    · exact .inr h
  have hcnt' := hcnt
  rw [not_or] at hcnt'
  have hc1 : ¬ (((l.length : Int) < cLo k ∨ cHi k < (l.length : Int)) ∨ (k = 3 ∧ (l.length : Int) % 2 = 1)) := fun h => hcnt'.1 ((cnt_split h1 h2 _).1 h)
  have hc2 : decide (0 < ss.length) = decide (k = 10) := by simpa using hcnt'.2
  have hc3 : cntOk k l.length = true := by simpa using hcnt'.1
  by_cases hm : 16 < ss.length
  · rw [achk_3 hk hcnt hm]
    exact rcheck_many k h1 h2 A _ c A' _ c' w (cLo k) (cHi k) hc1 hc2 hm TC
  exact rcheck_loops k h1 h2 l ss A c A' c' w h hs (cLo k) (cHi k) hc1 hc2 (by omega) (cnt_le hc3) (cnt_2 hc3) (cnt_3 hc3) (cnt_9 hc3) (achk k l ss) (achk_2 hk hcnt hm) (achk_24 hk hcnt hm) (achk_0 hk hcnt hm) TC
end Go.Proofs.YtmbglkholoblaaaDoor
