/- ranged of adjust. -/
import Derived.Test.YtmbglkholoblaaaDoorAdjP
namespace Go.Proofs.YtmbglkholoblaaaDoor
open Go.RowKit

def R1Rel (k : Int) (l : List Int) (w : World) (gh : Nat) (i : Value) (wr : World) : Prop :=
  ∃ j : Nat, j ≤ l.length ∧ gh = l.length - j ∧ i = .int .i64 j ∧ wr = w ∧ ∀ j' : Nat, j' < j → spLo k j' ≤ prm l j' ∧ prm l j' ≤ spHi k j'
def R2Rel (ss : List (Int × Px)) (w : World) (gh : Nat) (i : Value) (wr : World) : Prop :=
  ∃ j : Nat, j ≤ ss.length ∧ gh = ss.length - j ∧ i = .int .i64 j ∧ Below w.heap.size w wr ∧ ∀ j' : Nat, j' < j → (0 ≤ sat ss j' ∧ sat ss j' ≤ 65535) ∧ (sco ss j').ok
/-- Gray weights that are all 0. -/
def gz (k : Int) (l : List Int) : Bool := decide (k = 9 ∧ prm l 0 = 0 ∧ prm l 1 = 0 ∧ prm l 2 = 0)
def GzMid (z : Bool) (w : World) (v : Value) (wx : World) : Prop := v = .bool z ∧ wx = w
theorem rngB_no1 {k : Int} {l : List Int} {ss : List (Int × Px)} (j : Nat) (h : j < l.length) (hn : ¬ (spLo k j ≤ prm l j ∧ prm l j ≤ spHi k j)) : rngB k l ss = false := by
  exact decide_eq_false fun hh => hn (hh.1 j h)
theorem rngB_no2 {k : Int} {l : List Int} {ss : List (Int × Px)} (h : gz k l = true) : rngB k l ss = false := by
  unfold gz at h; exact decide_eq_false fun hh => hh.2.1 (of_decide_eq_true h)
theorem rngB_no3 {k : Int} {l : List Int} {ss : List (Int × Px)} (j : Nat) (h : j < ss.length) (hn : ¬ ((0 ≤ sat ss j ∧ sat ss j ≤ 65535) ∧ (sco ss j).ok)) : rngB k l ss = false := by
  exact decide_eq_false fun hh => hn (hh.2.2 j h)
theorem rngB_yes {k : Int} {l : List Int} {ss : List (Int × Px)} (h1 : ∀ j : Nat, j < l.length → spLo k j ≤ prm l j ∧ prm l j ≤ spHi k j) (h2 : gz k l = false) (h3 : ∀ j : Nat, j < ss.length → (0 ≤ sat ss j ∧ sat ss j ≤ 65535) ∧ (sco ss j).ok) : rngB k l ss = true := by
  unfold gz at h2; exact decide_eq_true ⟨h1, of_decide_eq_false h2, h3⟩

set_option maxRecDepth 100000 in
set_option maxHeartbeats 4000000 in
theorem ranged_any (k : Int) (h1 : 1 ≤ k) (h2 : k ≤ 11) (l : List Int) (ss : List (Int × Px)) (h9 : k = 9 → l.length = 3) (A : Option Addr) (c : Nat) (A' : Option Addr) (c' : Nat) (w : World) (h : Ints w w.heap.size (.slice A l.length c) l) (hs : Stps w w.heap.size (.slice A' ss.length c') ss) :
    Calls Tryd.prog 42 #[.int .i64 k, .slice A l.length c, .slice A' ss.length c'] w fun e w' => e = .returned (.bool (rngB k l ss)) ∧ Below w.heap.size w w' := by
  have hlm : l.length ≤ 9223372036854775807 := by obtain ⟨_, _, _, hm, _⟩ := h; omega
  have hsm : ss.length ≤ 9223372036854775807 := by obtain ⟨_, _, _, hm, _⟩ := hs; omega
  have HI := Lib.hid h; have HS := Lib.hid hs; have H9 := Lib.hid h9
  clear h hs h9
  go_enter Tryd.func42, Tryd.ntmps42
  go_wp2_with fail
  go_loopg [15] l.length (R1Rel k l w)
  case atStart => exact ⟨0, Nat.zero_le _, rfl, rfl, rfl, fun j' hj' => absurd hj' (by omega)⟩
  case round =>
    obtain ⟨j, hj, rfl, rfl, rfl, hall⟩ := hrel
    have HALL := Lib.hid hall; clear hall
    by_cases hlt : j < l.length
    · obtain ⟨A1, c1, ev1, _, hca⟩ := HI.out
      injection ev1 with u1 u2 u3
      subst u1 u3
      obtain ⟨b, o, rfl, hb, y⟩ := hca j hlt
      have hp : l.getD j 0 = prm l j := rfl
      rw [hp] at y
      have hk0 : (0 : Int) ≤ (j : Int) := by omega
      have hk1 : (j : Int) < (l.length : Int) := by omega
      have SP := Lib.hid (span_any k h1 h2 j (by omega) wr)
      have EL := Lib.hid (rngB_no1 (k := k) (l := l) (ss := ss) j hlt)
      have EA := Lib.hid (show (spLo k j ≤ prm l j ∧ prm l j ≤ spHi k j) → ∀ j' : Nat, j' < j + 1 → spLo k j' ≤ prm l j' ∧ prm l j' ≤ spHi k j' from fun hh j' hj' => by
        rcases Nat.lt_or_ge j' j with d | d
        · exact HALL.out j' d
        · rw [show j' = j by omega]; exact hh)
      clear hca u2 hp
      generalize spLo k j = lo at *
      generalize spHi k j = hi at *
      generalize prm l j = p at *
      go_wp2_with fail
      refine SP.out.mono ?_
      rintro e w1 ⟨rfl, rfl⟩
      by_cases a : p < lo
      · have d1 : decide (p < lo) = true := by simp; exact a
        go_wp2_with fail
        go_ret
        exact ⟨ret_bool (EL.out (by omega)).symm, Below.refl _ _⟩
      · have d1 : decide (p < lo) = false := by simp; omega
        by_cases b : hi < p
        · have d2 : decide (hi < p) = true := by simp; exact b
          go_wp2_with fail
          go_ret
          exact ⟨ret_bool (EL.out (by omega)).symm, Below.refl _ _⟩
        · have d2 : decide (hi < p) = false := by simp; omega
          have EAA := Lib.hid (EA.out (by omega))
          go_wp2_with fail
          go_roundg (l.length - (j + 1))
          case measure => omega
          case rel => exact ⟨j + 1, by omega, rfl, by go_num, rfl, EAA.out⟩
    · obtain rfl : j = l.length := by omega
      have GZ := Lib.hid (show gz k l = decide (k = 9 ∧ prm l 0 = 0 ∧ prm l 1 = 0 ∧ prm l 2 = 0) from rfl)
      have E2 := Lib.hid (fun h => rngB_no2 (k := k) (l := l) (ss := ss) h)
      have E3 := Lib.hid (fun j h hn => rngB_no3 (k := k) (l := l) (ss := ss) j h hn)
      have E4 := Lib.hid (fun h2 h3 => rngB_yes (k := k) (l := l) (ss := ss) HALL.out h2 h3)
      go_upto_region 8 with fail
      obtain ⟨z, hz0⟩ : ∃ z, gz k l = z := ⟨_, rfl⟩
      rw [hz0] at GZ E2 E4
      have HZ := Lib.hid hz0; clear hz0
      go_cut [54] (GzMid z wr)
      case first =>
        by_cases hk : k = 9
        · subst hk
          have hl3 := H9.out rfl
          obtain ⟨b, o, c1, ev, hb, hc⟩ := ints_at HI.out (by omega)
          injection ev with u1 u2 u3
          subst u1 u3
          have c0 := hc 0 (by omega); have c1 := hc 1 (by omega); have c2 := hc 2 (by omega)
          rw [Nat.add_zero] at c0
          clear hc u2
          have hz : ∀ x : Int, (x = 0 ∧ (x == 0) = true) ∨ (x ≠ 0 ∧ (x == 0) = false) := fun x => by
            by_cases h : x = 0
            · exact .inl ⟨h, by simp [h]⟩
            · exact .inr ⟨h, by simp [h]⟩
          have z0 := hz (prm l 0); have z1 := hz (prm l 1); have z2 := hz (prm l 2)
          have hq0 : (0 : Int) < (l.length : Int) := by omega
          have hq1 : (1 : Int) < (l.length : Int) := by omega
          have hq2 : (2 : Int) < (l.length : Int) := by omega
          clear hz hl3
          generalize prm l 0 = x0 at *; generalize prm l 1 = x1 at *; generalize prm l 2 = x2 at *
          rcases z0 with ⟨y0, e0⟩ | ⟨y0, e0⟩
          · rcases z1 with ⟨y1, e1⟩ | ⟨y1, e1⟩
            · rcases z2 with ⟨y2, e2⟩ | ⟨y2, e2⟩
              · have hr : z = true := by rw [GZ.out]; exact decide_eq_true ⟨rfl, y0, y1, y2⟩
                have HR := Lib.hid hr
                clear y0 y1 y2 hr
                go_wp2_with fail
                go_meet
                exact ⟨by rw [HR.out], rfl⟩
              · have hr : z = false := by rw [GZ.out]; exact decide_eq_false fun h => y2 h.2.2.2
                have HR := Lib.hid hr
                clear y0 y1 y2 hr
                go_wp2_with fail
                go_meet
                exact ⟨by rw [HR.out], rfl⟩
            · have hr : z = false := by rw [GZ.out]; exact decide_eq_false fun h => y1 h.2.2.1
              have HR := Lib.hid hr
              clear y0 y1 z2 hr
              go_wp2_with fail
              go_meet
              exact ⟨by rw [HR.out], rfl⟩
          · have hr : z = false := by rw [GZ.out]; exact decide_eq_false fun h => y0 h.2.1
            have HR := Lib.hid hr
            clear y0 z1 z2 hr
            go_wp2_with fail
            go_meet
            exact ⟨by rw [HR.out], rfl⟩
        · have hkk : (k == 9) = false := by simp [hk]
          have HR := Lib.hid (show z = false by rw [GZ.out]; exact decide_eq_false fun h => hk h.1)
          go_wp2_with fail
          go_meet
          exact ⟨by rw [HR.out], rfl⟩
      case rest =>
        obtain ⟨rfl, rfl⟩ := hcut
        clear GZ HZ
        cases z
        · have E5 := Lib.hid (fun h3 => E4.out rfl h3)
          clear E2 E4 HALL HI
          have HX := Lib.hid (show Below wc.heap.size wc wc from Below.refl _ _)
          go_wp2_with fail
          go_loopg [57] ss.length (R2Rel ss wc)
          case atStart => exact ⟨0, Nat.zero_le _, rfl, rfl, HX.out, fun j' hj' => absurd hj' (by omega)⟩
          case round =>
            obtain ⟨j, hj, rfl, rfl, hbr, hall⟩ := hrel
            have HALL := Lib.hid hall; clear hall
            by_cases hlt : j < ss.length
            · obtain ⟨A2, c2, ev2, _, hcb⟩ := HS.out
              injection ev2 with u1 u2 u3
              subst u1 u3
              obtain ⟨b, o, rfl, hb, s0, s1, s2, s3, s4⟩ := hcb j hlt
              replace s0 := (hbr.cell (p := ⟨b, _, none⟩) hb).trans s0; replace s1 := (hbr.cell (p := ⟨b, _, none⟩) hb).trans s1; replace s2 := (hbr.cell (p := ⟨b, _, none⟩) hb).trans s2; replace s3 := (hbr.cell (p := ⟨b, _, none⟩) hb).trans s3; replace s4 := (hbr.cell (p := ⟨b, _, none⟩) hb).trans s4
              have hk0 : (0 : Int) ≤ (j : Int) := by omega
              have hk1 : (j : Int) < (ss.length : Int) := by omega
              have EL := Lib.hid (E3.out j hlt)
              have EA := Lib.hid (show ((0 ≤ sat ss j ∧ sat ss j ≤ 65535) ∧ (sco ss j).ok) → ∀ j' : Nat, j' < j + 1 → (0 ≤ sat ss j' ∧ sat ss j' ≤ 65535) ∧ (sco ss j').ok from fun hh j' hj' => by
                rcases Nat.lt_or_ge j' j with d | d
                · exact HALL.out j' d
                · rw [show j' = j by omega]; exact hh)
              clear hcb u2
              generalize sat ss j = s at *
              generalize sco ss j = q at *
              have HBR := Lib.hid hbr; clear hbr
              go_upto_region 13 with fail
              obtain ⟨hb12, hbb, -⟩ := one_box wr #[.int .i64 s, .int .i64 q.r, .int .i64 q.g, .int .i64 q.b, .int .i64 q.a] 63 _ rfl
              generalize World.alloc wr _ = wx at *
              obtain ⟨x0, x1, x2, x3, x4⟩ := hb12.five
              have HBX := Lib.hid (bel_trans HBR.out hbb)
              clear s0 s1 s2 s3 s4 hbb hb12 HBR
              have PV := Lib.hid (pvalid_any q.r q.g q.b q.a wx)
              by_cases a : s < 0
              · have d1 : decide (s < 0) = true := by simp; exact a
                go_wp2_with fail
                go_ret
                exact ⟨ret_bool (EL.out (fun h => by have := h.1.1; omega)).symm, HBX.out⟩
              · have d1 : decide (s < 0) = false := by simp; omega
                by_cases b' : 65535 < s
                · have d2 : decide (65535 < s) = true := by simp; exact b'
                  go_wp2_with fail
                  go_ret
                  exact ⟨ret_bool (EL.out (fun h => by have := h.1.2; omega)).symm, HBX.out⟩
                · have d2 : decide (65535 < s) = false := by simp; omega
                  by_cases pk : pxOk q = true
                  · have EAA := Lib.hid (EA.out ⟨by omega, (pxOk_iff q).1 pk⟩)
                    have PK := Lib.hid (show pxOk ⟨q.r, q.g, q.b, q.a⟩ = true from pk)
                    clear pk a b'
                    go_wp2_with (go_at_call 19; refine PV.out.mono ?_; rintro e w9 ⟨rfl, hb9⟩; rw [PK.out])
                    have HB9 := Lib.hid (bel_trans HBX.out hb9)
                    go_roundg (ss.length - (j + 1))
                    case measure => omega
                    case rel => exact ⟨j + 1, by omega, rfl, by go_num, HB9.out, EAA.out⟩
                  · have PK := Lib.hid (show pxOk ⟨q.r, q.g, q.b, q.a⟩ = false by simpa using pk)
                    have EL2 := Lib.hid (EL.out (fun h => pk ((pxOk_iff q).2 h.2)))
                    clear pk a b'
                    go_wp2_with (go_at_call 19; refine PV.out.mono ?_; rintro e w9 ⟨rfl, hb9⟩; rw [PK.out])
                    have HB9 := Lib.hid (bel_trans HBX.out hb9)
                    go_ret
                    exact ⟨ret_bool EL2.out.symm, HB9.out⟩
            · obtain rfl : j = ss.length := by omega
              have HBR := Lib.hid hbr; clear hbr
              go_wp2_with fail
              go_ret
              exact ⟨ret_bool (E5.out HALL.out).symm, HBR.out⟩
        · go_wp2_with fail
          go_ret
          exact ⟨ret_bool (E2.out trivial).symm, Below.refl _ _⟩
end Go.Proofs.YtmbglkholoblaaaDoor
