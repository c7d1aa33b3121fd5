/- ordered of adjust. -/
import Derived.Test.YtmbglkholoblaaaDoorAdjQ
namespace Go.Proofs.YtmbglkholoblaaaDoor
open Go.RowKit

def O1Rel (l : List Int) (w : World) (gh : Nat) (i : Value) (wr : World) : Prop :=
  ∃ c : Nat, (2 ≤ c ∧ c % 2 = 0 ∧ c ≤ l.length) ∧ gh = l.length - c ∧ i = .int .i64 c ∧ Below w.heap.size w wr ∧ ∀ i' : Nat, 2 * i' + 2 < c → prm l (2 * i') < prm l (2 * i' + 2)
def O2Rel (ss : List (Int × Px)) (w : World) (gh : Nat) (i : Value) (wr : World) : Prop :=
  ∃ j : Nat, 1 ≤ j ∧ gh = ss.length - j ∧ i = .int .i64 j ∧ Below w.heap.size w wr ∧ ∀ j' : Nat, j' + 1 < j → sat ss j' < sat ss (j' + 1)
/-- Levels out of order. -/
def lz (k : Int) (l : List Int) : Bool := decide (k = 2 ∧ prm l 1 ≤ prm l 0)
def LzMid (z : Bool) (w : World) (v : Value) (wx : World) : Prop := v = .bool z ∧ ∃ n, wx = w.drewN n
theorem ordB_no1 {k : Int} {l : List Int} {ss : List (Int × Px)} (h : lz k l = true) : ordB k l ss = false := by
  unfold lz at h; exact decide_eq_false fun hh => hh.1 (of_decide_eq_true h)
theorem ordB_no2 {k : Int} {l : List Int} {ss : List (Int × Px)} (hk : k = 3) (j : Nat) (h : j < l.length / 2 - 1) (hn : ¬ prm l (2 * j) < prm l (2 * j + 2)) : ordB k l ss = false :=
  decide_eq_false fun hh => hn (hh.2.1 hk j h)
theorem ordB_no3 {k : Int} {l : List Int} {ss : List (Int × Px)} (j : Nat) (h : j < ss.length - 1) (hn : ¬ sat ss j < sat ss (j + 1)) : ordB k l ss = false :=
  decide_eq_false fun hh => hn (hh.2.2 j h)
theorem ordB_yes {k : Int} {l : List Int} {ss : List (Int × Px)} (h1 : lz k l = false) (h2 : k = 3 → ∀ i : Nat, i < l.length / 2 - 1 → prm l (2 * i) < prm l (2 * i + 2)) (h3 : ∀ i : Nat, i < ss.length - 1 → sat ss i < sat ss (i + 1)) : ordB k l ss = true := by
  unfold lz at h1; exact decide_eq_true ⟨of_decide_eq_false h1, h2, h3⟩

set_option maxRecDepth 100000 in
set_option maxHeartbeats 8000000 in
theorem ordered_any (k : Int) (l : List Int) (ss : List (Int × Px)) (h2l : k = 2 → l.length = 5) (h3l : k = 3 → 4 ≤ l.length ∧ l.length % 2 = 0) (A : Option Addr) (c : Nat) (A' : Option Addr) (c' : Nat) (w : World) (h : Ints w w.heap.size (.slice A l.length c) l) (hs : Stps w w.heap.size (.slice A' ss.length c') ss) (hll : l.length ≤ 16) (hsl : ss.length ≤ 16) :
    Calls Tryd.prog 43 #[.int .i64 k, .slice A l.length c, .slice A' ss.length c'] w fun e w' => e = .returned (.bool (ordB k l ss)) ∧ Below w.heap.size w w' := by
  have HI := Lib.hid h; have HS := Lib.hid hs; have H2 := Lib.hid h2l; have H3 := Lib.hid h3l
  clear h hs h2l h3l
  have GZ := Lib.hid (show lz k l = decide (k = 2 ∧ prm l 1 ≤ prm l 0) from rfl)
  have E1 := Lib.hid (fun h => ordB_no1 (k := k) (l := l) (ss := ss) h)
  have E3 := Lib.hid (fun h2 h3 => fun h1 => ordB_yes (k := k) (l := l) (ss := ss) h1 h2 h3)
  obtain ⟨z, hz0⟩ : ∃ z, lz k l = z := ⟨_, rfl⟩
  rw [hz0] at GZ E1 E3
  have HZ := Lib.hid hz0; clear hz0
  go_enter Tryd.func43, Tryd.ntmps43
  go_upto_region 1 with fail
  go_cut [19] (LzMid z w)
  case first =>
    by_cases hk : k = 2
    · subst hk
      have hl5 := H2.out rfl
      obtain ⟨b, o, c1, ev, hb, hc⟩ := ints_at HI.out (by omega)
      injection ev with u1 u2 u3
      subst u1 u3
      have c0 := hc 0 (by omega); have c1 := hc 1 (by omega)
      rw [Nat.add_zero] at c0
      have hq0 : (0 : Int) < (l.length : Int) := by omega
      have hq1 : (1 : Int) < (l.length : Int) := by omega
      clear hc u2 hl5
      generalize prm l 0 = x0 at *; generalize prm l 1 = x1 at *
      by_cases a : x1 ≤ x0
      · have d1 : decide (x1 ≤ x0) = true := by simp; exact a
        have HR := Lib.hid (show z = true by rw [GZ.out]; exact decide_eq_true ⟨rfl, a⟩); clear a
        go_quiet (fail)
        go_wp2_with fail
        go_meet
        exact ⟨by rw [HR.out], _, rfl⟩
      · have d1 : decide (x1 ≤ x0) = false := by simp; omega
        have HR := Lib.hid (show z = false by rw [GZ.out]; exact decide_eq_false fun h => a h.2); clear a
        go_quiet (fail)
        go_wp2_with fail
        go_meet
        exact ⟨by rw [HR.out], _, rfl⟩
    · have hkk : (k == 2) = false := by simp [hk]
      have HR := Lib.hid (show z = false by rw [GZ.out]; exact decide_eq_false fun h => hk h.1)
      go_quiet (fail)
      go_wp2_with fail
      go_meet
      exact ⟨by rw [HR.out], _, rfl⟩
  case rest =>
    obtain ⟨rfl, n0, hw0⟩ := hcut
    have HB0 := Lib.hid (show Below w.heap.size w wc by rw [hw0]; exact Below.drewN' (Below.refl _ _) _)
    clear hw0 GZ HZ
    cases z
    rotate_left
    · go_wp2_with fail
      go_ret
      exact ⟨ret_bool (E1.out trivial).symm, HB0.out⟩
    clear E1
    by_cases hk : k = 3
    rotate_left
    · have hkk : (k == 3) = false := by simp [hk]
      have E4 := Lib.hid (fun h3 => E3.out (fun h => absurd h hk) h3 (by trivial))
      clear E3
      go_wp2_with fail
      have HBS := Lib.hid HB0.out
      go_loopg [8] (ss.length - 1) (O2Rel ss wc)
      case atStart => exact ⟨1, Nat.le_refl _, rfl, rfl, Below.refl _ _, fun j' hj' => absurd hj' (by omega)⟩
      case round =>
        obtain ⟨j, hj, rfl, rfl, hbr, hall⟩ := hrel
        have HALL := Lib.hid hall; clear hall
        by_cases hlt : j < ss.length
        · obtain ⟨A2, c2, ev2, _, hcb⟩ := HS.out
          injection ev2 with u1 u2 u3
          subst u1 u3
          obtain ⟨b, o, rfl, hb, s0, -⟩ := hcb j hlt
          obtain ⟨b', o', e', _, s1, -⟩ := hcb (j - 1) (by omega)
          injection e' with e'
          injection e' with e1 e2
          subst e1 e2
          obtain ⟨i, hi⟩ : ∃ i : Nat, j = i + 1 := ⟨j - 1, by omega⟩
          have hbm := bel_trans HBS.out hbr
          replace s0 := (hbm.cell (p := ⟨b, _, none⟩) hb).trans s0; replace s1 := (hbm.cell (p := ⟨b, _, none⟩) hb).trans s1
          rw [show j - 1 = i by omega] at s1
          have hk0 : (0 : Int) ≤ (j : Int) := by omega
          have hk1 : (j : Int) < (ss.length : Int) := by omega
          have hk2 : (0 : Int) ≤ (i : Int) := by omega
          have hk3 : (i : Int) < (ss.length : Int) := by omega
          have hk4 : (j : Int) - 1 = (i : Int) := by omega
          have hk5 : IntKind.i64.wrap (i : Int) = i := wrap_in _ (by omega)
          have EL := Lib.hid (show ¬ sat ss i < sat ss j → ordB k l ss = false from fun h => ordB_no3 i (by omega) (by rw [← hi]; exact h))
          have EA := Lib.hid (show sat ss i < sat ss j → ∀ j' : Nat, j' + 1 < j + 1 → sat ss j' < sat ss (j' + 1) from fun h j' hj' => by
            rcases Nat.lt_or_ge (j' + 1) j with d | d
            · exact HALL.out j' d
            · rw [show j' = i by omega, ← hi]; exact h)
          clear hcb u2 hi hbm
          generalize sat ss j = s at *
          generalize sat ss i = s' at *
          have HBR := Lib.hid hbr; clear hbr
          by_cases a : s ≤ s'
          · have d1 : decide (s ≤ s') = true := by simp; exact a
            have EL2 := Lib.hid (EL.out (by omega)); clear a
            go_wp2_with fail
            go_quiet (fail)
            go_wp2_with fail
            go_ret
            exact ⟨ret_bool EL2.out.symm, bel_trans HBS.out (Below.drewN' HBR.out _)⟩
          · have d1 : decide (s ≤ s') = false := by simp; omega
            have EA2 := Lib.hid (EA.out (by omega)); clear a
            go_wp2_with fail
            go_quiet (fail)
            go_wp2_with fail
            go_roundg (ss.length - (j + 1))
            case measure => omega
            case rel => exact ⟨j + 1, by omega, rfl, by go_num, Below.drewN' HBR.out _, EA2.out⟩
        · have HBR := Lib.hid hbr; clear hbr
          have EY := Lib.hid (E4.out (fun i hi => HALL.out i (by omega)))
          go_wp2_with fail
          go_ret
          exact ⟨ret_bool EY.out.symm, bel_trans HBS.out HBR.out⟩
    · subst hk
      have hl3 := H3.out rfl
      obtain ⟨b, o, c1, ev, hb, hc⟩ := ints_at HI.out (by omega)
      injection ev with u1 u2 u3
      subst u1 u3
      have HC := Lib.hid hc; clear hc u2
      go_wp2_with fail
      go_loopg [7] (l.length - 2) (O1Rel l wc)
      case atStart => exact ⟨2, by omega, by omega, rfl, Below.refl _ _, fun i' hi' => absurd hi' (by omega)⟩
      case round =>
        obtain ⟨m, hm, hgh, rfl, hbr, hall⟩ := hrel
        subst hgh
        have HALL := Lib.hid hall; clear hall
        have HBR := Lib.hid hbr
        by_cases hlt : m < l.length
        · obtain ⟨i, hi⟩ : ∃ i : Nat, m = 2 * i + 2 := ⟨m / 2 - 1, by omega⟩
          obtain ⟨m', hm'⟩ : ∃ m' : Nat, m' = 2 * i := ⟨_, rfl⟩
          have hbm := bel_trans HB0.out hbr
          have s0 := (hbm.cell (p := ⟨b, o + m, none⟩) hb).trans (HC.out m hlt)
          have s1 := (hbm.cell (p := ⟨b, o + m', none⟩) hb).trans (HC.out m' (by omega))
          have hk0 : (0 : Int) ≤ (m : Int) := by omega
          have hk1 : (m : Int) < (l.length : Int) := by omega
          have hk2 : (0 : Int) ≤ (m' : Int) := by omega
          have hk3 : (m' : Int) < (l.length : Int) := by omega
          have hk4 : (m : Int) - 2 = (m' : Int) := by omega
          have hk5 : IntKind.i64.wrap (m' : Int) = m' := wrap_in _ (by omega)
          have EL := Lib.hid (show ¬ prm l m' < prm l m → ordB 3 l ss = false from fun h => ordB_no2 rfl i (by omega) (by rw [← hi, ← hm']; exact h))
          have EA := Lib.hid (show prm l m' < prm l m → ∀ i' : Nat, 2 * i' + 2 < m + 2 → prm l (2 * i') < prm l (2 * i' + 2) from fun h i' hi' => by
            rcases Nat.lt_or_ge (2 * i' + 2) m with d | d
            · exact HALL.out i' d
            · rw [show i' = i by omega, ← hi, ← hm']; exact h)
          clear hi hm' hbm hbr
          generalize prm l m = s at *
          generalize prm l m' = s' at *
          by_cases a : s ≤ s'
          · have d1 : decide (s ≤ s') = true := by simp; exact a
            have EL2 := Lib.hid (EL.out (by omega)); clear a
            go_wp2_with fail
            go_quiet (fail)
            go_wp2_with fail
            go_ret
            exact ⟨ret_bool EL2.out.symm, bel_trans HB0.out (Below.drewN' HBR.out _)⟩
          · have d1 : decide (s ≤ s') = false := by simp; omega
            have EA2 := Lib.hid (EA.out (by omega)); clear a
            go_wp2_with fail
            go_quiet (fail)
            go_wp2_with fail
            go_roundg (l.length - (m + 2))
            case measure => omega
            case rel => exact ⟨m + 2, by omega, rfl, by go_num, Below.drewN' HBR.out _, EA2.out⟩
        · obtain rfl : m = l.length := by omega
          have E4 := Lib.hid (fun h3 => E3.out (fun _ i hi => HALL.out i (by omega)) h3 (by trivial))
          have HB1 := Lib.hid (bel_trans HB0.out hbr)
          clear E3 hbr
          go_wp2_with fail
          have HBS := Lib.hid HB1.out
          go_loopg [8] (ss.length - 1) (O2Rel ss wr)
          case atStart => exact ⟨1, Nat.le_refl _, rfl, rfl, Below.refl _ _, fun j' hj' => absurd hj' (by omega)⟩
          case round =>
            obtain ⟨j, hj, rfl, rfl, hbr, hall⟩ := hrel
            have HALL := Lib.hid hall; clear hall
            by_cases hlt : j < ss.length
            · obtain ⟨A2, c2, ev2, _, hcb⟩ := HS.out
              injection ev2 with u1 u2 u3
              subst u1 u3
              obtain ⟨b, o, rfl, hb, s0, -⟩ := hcb j hlt
              obtain ⟨b', o', e', _, s1, -⟩ := hcb (j - 1) (by omega)
              injection e' with e'
              injection e' with e1 e2
              subst e1 e2
              obtain ⟨i, hi⟩ : ∃ i : Nat, j = i + 1 := ⟨j - 1, by omega⟩
              have hbm := bel_trans HBS.out hbr
              replace s0 := (hbm.cell (p := ⟨b, _, none⟩) hb).trans s0; replace s1 := (hbm.cell (p := ⟨b, _, none⟩) hb).trans s1
              rw [show j - 1 = i by omega] at s1
              have hk0 : (0 : Int) ≤ (j : Int) := by omega
              have hk1 : (j : Int) < (ss.length : Int) := by omega
              have hk2 : (0 : Int) ≤ (i : Int) := by omega
              have hk3 : (i : Int) < (ss.length : Int) := by omega
              have hk4 : (j : Int) - 1 = (i : Int) := by omega
              have hk5 : IntKind.i64.wrap (i : Int) = i := wrap_in _ (by omega)
              have EL := Lib.hid (show ¬ sat ss i < sat ss j → ordB 3 l ss = false from fun h => ordB_no3 i (by omega) (by rw [← hi]; exact h))
              have EA := Lib.hid (show sat ss i < sat ss j → ∀ j' : Nat, j' + 1 < j + 1 → sat ss j' < sat ss (j' + 1) from fun h j' hj' => by
                rcases Nat.lt_or_ge (j' + 1) j with d | d
                · exact HALL.out j' d
                · rw [show j' = i by omega, ← hi]; exact h)
              clear hcb u2 hi hbm
              generalize sat ss j = s at *
              generalize sat ss i = s' at *
              have HBR := Lib.hid hbr; clear hbr
              by_cases a : s ≤ s'
              · have d1 : decide (s ≤ s') = true := by simp; exact a
                have EL2 := Lib.hid (EL.out (by omega)); clear a
                go_wp2_with fail
                go_quiet (fail)
                go_wp2_with fail
                go_ret
                exact ⟨ret_bool EL2.out.symm, bel_trans HBS.out (Below.drewN' HBR.out _)⟩
              · have d1 : decide (s ≤ s') = false := by simp; omega
                have EA2 := Lib.hid (EA.out (by omega)); clear a
                go_wp2_with fail
                go_quiet (fail)
                go_wp2_with fail
                go_roundg (ss.length - (j + 1))
                case measure => omega
                case rel => exact ⟨j + 1, by omega, rfl, by go_num, Below.drewN' HBR.out _, EA2.out⟩
            · have HBR := Lib.hid hbr; clear hbr
              have EY := Lib.hid (E4.out (fun i hi => HALL.out i (by omega)))
              go_wp2_with fail
              go_ret
              exact ⟨ret_bool EY.out.symm, bel_trans HBS.out HBR.out⟩
end Go.Proofs.YtmbglkholoblaaaDoor
