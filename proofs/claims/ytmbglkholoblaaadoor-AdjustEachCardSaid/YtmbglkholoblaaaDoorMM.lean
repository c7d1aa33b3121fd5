/- ordered of adjust. -/
import Derived.Test.YtmbglkholoblaaaDoorML
import Derived.ChangeKeysEq
namespace Go.Proofs.YtmbglkholoblaaaDoor
open Go.RowKit

def O1Rel (l : List Int) (w : World) (gh : Nat) (i : Value) (wr : World) : Prop :=
  ∃ c : Nat, (2 ≤ c ∧ c % 2 = 0 ∧ c ≤ l.length) ∧ gh = l.length - c ∧ i = .int .i64 c ∧ Below w.heap.size w wr ∧ ∀ i' : Nat, 2 * i' + 2 < c → prm l (2 * i') < prm l (2 * i' + 2)
def O2Rel (ss : List (Int × Px)) (w : World) (gh : Nat) (i : Value) (wr : World) : Prop :=
  ∃ j : Nat, 1 ≤ j ∧ gh = ss.length - j ∧ i = .int .i64 j ∧ Below w.heap.size w wr ∧ ∀ j' : Nat, j' + 1 < j → sat ss j' < sat ss (j' + 1)
/-- Levels out of order. -/
def lz (k : Int) (l : List Int) : Bool := decide (k = 2 ∧ prm l 1 ≤ prm l 0)
def LzMid (z : Bool) (w : World) (v : Value) (wx : World) : Prop := v = .bool z ∧ ∃ n, wx = w.drewN n
theorem ordB_no1 {k : Int} {l : List Int} {ss : List (Int × Px)} (h : lz k l = true) : ordB k l ss = false := by
  unfold lz at h; exact decide_eq_false fun hh => hh.1 (of_decide_eq_true h)
theorem ordB_no2 {k : Int} {l : List Int} {ss : List (Int × Px)} (hk : k = 3) (j : Nat) (h : j < l.length / 2 - 1) (hn : ¬ prm l (2 * j) < prm l (2 * j + 2)) : ordB k l ss = false :=
  decide_eq_false fun hh => hn (hh.2.1 hk j h)
theorem ordB_no3 {k : Int} {l : List Int} {ss : List (Int × Px)} (j : Nat) (h : j < ss.length - 1) (hn : ¬ sat ss j < sat ss (j + 1)) : ordB k l ss = false :=
  decide_eq_false fun hh => hn (hh.2.2 j h)
theorem ordB_yes {k : Int} {l : List Int} {ss : List (Int × Px)} (h1 : lz k l = false) (h2 : k = 3 → ∀ i : Nat, i < l.length / 2 - 1 → prm l (2 * i) < prm l (2 * i + 2)) (h3 : ∀ i : Nat, i < ss.length - 1 → sat ss i < sat ss (i + 1)) : ordB k l ss = true := by
  unfold lz at h1; exact decide_eq_true ⟨of_decide_eq_false h1, h2, h3⟩

set_option maxRecDepth 100000 in
set_option maxHeartbeats 8000000 in
theorem ordered_any (k : Int) (l : List Int) (ss : List (Int × Px)) (h2l : k = 2 → l.length = 5) (h3l : k = 3 → 4 ≤ l.length ∧ l.length % 2 = 0) (A : Option Addr) (c : Nat) (A' : Option Addr) (c' : Nat) (w : World) (h : Ints w w.heap.size (.slice A l.length c) l) (hs : Stps w w.heap.size (.slice A' ss.length c') ss) (hll : l.length ≤ 16) (hsl : ss.length ≤ 16) :
    Calls Tryd.prog 43 #[.int .i64 k, .slice A l.length c, .slice A' ss.length c'] w fun e w' => e = .returned (.bool (ordB k l ss)) ∧ Below w.heap.size w w' := by
  have HI := Lib.hid h; have HS := Lib.hid hs; have H2 := Lib.hid h2l; have H3 := Lib.hid h3l
  clear h hs h2l h3l
  have GZ := Lib.hid (show lz k l = decide (k = 2 ∧ prm l 1 ≤ prm l 0) from rfl)
  have E1 := Lib.hid (fun h => ordB_no1 (k := k) (l := l) (ss := ss) h)
  have E3 := Lib.hid (fun h2 h3 => fun h1 => ordB_yes (k := k) (l := l) (ss := ss) h1 h2 h3)
  obtain ⟨z, hz0⟩ : ∃ z, lz k l = z := ⟨_, rfl⟩
  rw [hz0] at GZ E1 E3
  have HZ := Lib.hid hz0; clear hz0
  go_enter Tryd.func43, Tryd.ntmps43
  go_upto_region 1 with fail
  go_cut [19] (LzMid z w)
  case first =>
    by_cases hk : k = 2
    · subst hk
      have hl5 := H2.out rfl
      obtain ⟨b, o, c1, ev, hb, hc⟩ := ints_at HI.out (by omega)
      injection ev with u1 u2 u3
      subst u1 u3
      have c0 := hc 0 (by omega); have c1 := hc 1 (by omega)
      rw [Nat.add_zero] at c0
      have hq0 : (0 : Int) < (l.length : Int) := by omega
      have hq1 : (1 : Int) < (l.length : Int) := by omega
      clear hc u2 hl5
      generalize prm l 0 = x0 at *; generalize prm l 1 = x1 at *
      by_cases a : x1 ≤ x0
      · have d1 : decide (x1 ≤ x0) = true := by simp; exact a
        have HR := Lib.hid (show z = true by rw [GZ.out]; exact decide_eq_true ⟨rfl, a⟩); clear a
        go_quiet (fail)
        go_wp2_with fail
        go_meet
        exact ⟨by rw [HR.out], _, rfl⟩
      · have d1 : decide (x1 ≤ x0) = false := by simp; omega
        have HR := Lib.hid (show z = false by rw [GZ.out]; exact decide_eq_false fun h => a h.2); clear a
        go_quiet (fail)
        go_wp2_with fail
        go_meet
        exact ⟨by rw [HR.out], _, rfl⟩
    · have hkk : (k == 2) = false := by simp [hk]
      have HR := Lib.hid (show z = false by rw [GZ.out]; exact decide_eq_false fun h => hk h.1)
      go_quiet (fail)
      go_wp2_with fail
      go_meet
      exact ⟨by rw [HR.out], _, rfl⟩
  case rest =>
    obtain ⟨rfl, n0, hw0⟩ := hcut
    have HB0 := Lib.hid (show Below w.heap.size w wc by rw [hw0]; exact Below.drewN' (Below.refl _ _) _)
    clear hw0 GZ HZ
    cases z
    rotate_left
    · go_wp2_with fail
      go_ret
      exact ⟨ret_bool (E1.out trivial).symm, HB0.out⟩
    clear E1
    by_cases hk : k = 3
    rotate_left
    · have hkk : (k == 3) = false := by simp [hk]
      have E4 := Lib.hid (fun h3 => E3.out (fun h => absurd h hk) h3 (by trivial))
      clear E3
      go_wp2_with fail
      have HBS := Lib.hid HB0.out
      go_loopg [8] (ss.length - 1) (O2Rel ss wc)
      case atStart => exact ⟨1, Nat.le_refl _, rfl, rfl, Below.refl _ _, fun j' hj' => absurd hj' (by omega)⟩
      case round =>
        obtain ⟨j, hj, rfl, rfl, hbr, hall⟩ := hrel
        have HALL := Lib.hid hall; clear hall
        by_cases hlt : j < ss.length
        · obtain ⟨A2, c2, ev2, _, hcb⟩ := HS.out
          injection ev2 with u1 u2 u3
          subst u1 u3
          obtain ⟨b, o, rfl, hb, s0, -⟩ := hcb j hlt
          obtain ⟨b', o', e', _, s1, -⟩ := hcb (j - 1) (by omega)
          injection e' with e'
          injection e' with e1 e2
          subst e1 e2
          obtain ⟨i, hi⟩ : ∃ i : Nat, j = i + 1 := ⟨j - 1, by omega⟩
          have hbm := bel_trans HBS.out hbr
          replace s0 := (hbm.cell (p := ⟨b, _, none⟩) hb).trans s0; replace s1 := (hbm.cell (p := ⟨b, _, none⟩) hb).trans s1
          rw [show j - 1 = i by omega] at s1
          have hk0 : (0 : Int) ≤ (j : Int) := by omega
          have hk1 : (j : Int) < (ss.length : Int) := by omega
          have hk2 : (0 : Int) ≤ (i : Int) := by omega
          have hk3 : (i : Int) < (ss.length : Int) := by omega
          have hk4 : (j : Int) - 1 = (i : Int) := by omega
          have hk5 : IntKind.i64.wrap (i : Int) = i := wrap_in _ (by omega)
          have EL := Lib.hid (show ¬ sat ss i < sat ss j → ordB k l ss = false from fun h => ordB_no3 i (by omega) (by rw [← hi]; exact h))
          have EA := Lib.hid (show sat ss i < sat ss j → ∀ j' : Nat, j' + 1 < j + 1 → sat ss j' < sat ss (j' + 1) from fun h j' hj' => by
            rcases Nat.lt_or_ge (j' + 1) j with d | d
            · exact HALL.out j' d
            · rw [show j' = i by omega, ← hi]; exact h)
          clear hcb u2 hi hbm
          generalize sat ss j = s at *
          generalize sat ss i = s' at *
          have HBR := Lib.hid hbr; clear hbr
          by_cases a : s ≤ s'
          · have d1 : decide (s ≤ s') = true := by simp; exact a
            have EL2 := Lib.hid (EL.out (by omega)); clear a
            go_wp2_with fail
            go_quiet (fail)
            go_wp2_with fail
            go_ret
            exact ⟨ret_bool EL2.out.symm, bel_trans HBS.out (Below.drewN' HBR.out _)⟩
          · have d1 : decide (s ≤ s') = false := by simp; omega
            have EA2 := Lib.hid (EA.out (by omega)); clear a
            go_wp2_with fail
            go_quiet (fail)
            go_wp2_with fail
            go_roundg (ss.length - (j + 1))
            case measure => omega
            case rel => exact ⟨j + 1, by omega, rfl, by go_num, Below.drewN' HBR.out _, EA2.out⟩
        · have HBR := Lib.hid hbr; clear hbr
          have EY := Lib.hid (E4.out (fun i hi => HALL.out i (by omega)))
          go_wp2_with fail
          go_ret
          exact ⟨ret_bool EY.out.symm, bel_trans HBS.out HBR.out⟩
    · subst hk
      have hl3 := H3.out rfl
      obtain ⟨b, o, c1, ev, hb, hc⟩ := ints_at HI.out (by omega)
      injection ev with u1 u2 u3
      subst u1 u3
      have HC := Lib.hid hc; clear hc u2
      go_wp2_with fail
      go_loopg [7] (l.length - 2) (O1Rel l wc)
      case atStart => exact ⟨2, by omega, by omega, rfl, Below.refl _ _, fun i' hi' => absurd hi' (by omega)⟩
      case round =>
        obtain ⟨m, hm, hgh, rfl, hbr, hall⟩ := hrel
        subst hgh
        have HALL := Lib.hid hall; clear hall
        have HBR := Lib.hid hbr
        by_cases hlt : m < l.length
        · obtain ⟨i, hi⟩ : ∃ i : Nat, m = 2 * i + 2 := ⟨m / 2 - 1, by omega⟩
          obtain ⟨m', hm'⟩ : ∃ m' : Nat, m' = 2 * i := ⟨_, rfl⟩
          have hbm := bel_trans HB0.out hbr
          have s0 := (hbm.cell (p := ⟨b, o + m, none⟩) hb).trans (HC.out m hlt)
          have s1 := (hbm.cell (p := ⟨b, o + m', none⟩) hb).trans (HC.out m' (by omega))
          have hk0 : (0 : Int) ≤ (m : Int) := by omega
          have hk1 : (m : Int) < (l.length : Int) := by omega
          have hk2 : (0 : Int) ≤ (m' : Int) := by omega
          have hk3 : (m' : Int) < (l.length : Int) := by omega
          have hk4 : (m : Int) - 2 = (m' : Int) := by omega
          have hk5 : IntKind.i64.wrap (m' : Int) = m' := wrap_in _ (by omega)
          have EL := Lib.hid (show ¬ prm l m' < prm l m → ordB 3 l ss = false from fun h => ordB_no2 rfl i (by omega) (by rw [← hi, ← hm']; exact h))
          have EA := Lib.hid (show prm l m' < prm l m → ∀ i' : Nat, 2 * i' + 2 < m + 2 → prm l (2 * i') < prm l (2 * i' + 2) from fun h i' hi' => by
            rcases Nat.lt_or_ge (2 * i' + 2) m with d | d
            · exact HALL.out i' d
            · rw [show i' = i by omega, ← hi, ← hm']; exact h)
          clear hi hm' hbm hbr
          generalize prm l m = s at *
          generalize prm l m' = s' at *
          by_cases a : s ≤ s'
          · have d1 : decide (s ≤ s') = true := by simp; exact a
            have EL2 := Lib.hid (EL.out (by omega)); clear a
            go_wp2_with fail
            go_quiet (fail)
            go_wp2_with fail
            go_ret
            exact ⟨ret_bool EL2.out.symm, bel_trans HB0.out (Below.drewN' HBR.out _)⟩
          · have d1 : decide (s ≤ s') = false := by simp; omega
            have EA2 := Lib.hid (EA.out (by omega)); clear a
            go_wp2_with fail
            go_quiet (fail)
            go_wp2_with fail
            go_roundg (l.length - (m + 2))
            case measure => omega
            case rel => exact ⟨m + 2, by omega, rfl, by go_num, Below.drewN' HBR.out _, EA2.out⟩
        · obtain rfl : m = l.length := by omega
          have E4 := Lib.hid (fun h3 => E3.out (fun _ i hi => HALL.out i (by omega)) h3 (by trivial))
          have HB1 := Lib.hid (bel_trans HB0.out hbr)
          clear E3 hbr
          go_wp2_with fail
          have HBS := Lib.hid HB1.out
          go_loopg [8] (ss.length - 1) (O2Rel ss wr)
          case atStart => exact ⟨1, Nat.le_refl _, rfl, rfl, Below.refl _ _, fun j' hj' => absurd hj' (by omega)⟩
          case round =>
            obtain ⟨j, hj, rfl, rfl, hbr, hall⟩ := hrel
            have HALL := Lib.hid hall; clear hall
            by_cases hlt : j < ss.length
            · obtain ⟨A2, c2, ev2, _, hcb⟩ := HS.out
              injection ev2 with u1 u2 u3
              subst u1 u3
              obtain ⟨b, o, rfl, hb, s0, -⟩ := hcb j hlt
              obtain ⟨b', o', e', _, s1, -⟩ := hcb (j - 1) (by omega)
              injection e' with e'
              injection e' with e1 e2
              subst e1 e2
              obtain ⟨i, hi⟩ : ∃ i : Nat, j = i + 1 := ⟨j - 1, by omega⟩
              have hbm := bel_trans HBS.out hbr
              replace s0 := (hbm.cell (p := ⟨b, _, none⟩) hb).trans s0; replace s1 := (hbm.cell (p := ⟨b, _, none⟩) hb).trans s1
              rw [show j - 1 = i by omega] at s1
              have hk0 : (0 : Int) ≤ (j : Int) := by omega
              have hk1 : (j : Int) < (ss.length : Int) := by omega
              have hk2 : (0 : Int) ≤ (i : Int) := by omega
              have hk3 : (i : Int) < (ss.length : Int) := by omega
              have hk4 : (j : Int) - 1 = (i : Int) := by omega
              have hk5 : IntKind.i64.wrap (i : Int) = i := wrap_in _ (by omega)
              have EL := Lib.hid (show ¬ sat ss i < sat ss j → ordB 3 l ss = false from fun h => ordB_no3 i (by omega) (by rw [← hi]; exact h))
              have EA := Lib.hid (show sat ss i < sat ss j → ∀ j' : Nat, j' + 1 < j + 1 → sat ss j' < sat ss (j' + 1) from fun h j' hj' => by
                rcases Nat.lt_or_ge (j' + 1) j with d | d
                · exact HALL.out j' d
                · rw [show j' = i by omega, ← hi]; exact h)
              clear hcb u2 hi hbm
              generalize sat ss j = s at *
              generalize sat ss i = s' at *
              have HBR := Lib.hid hbr; clear hbr
              by_cases a : s ≤ s'
              · have d1 : decide (s ≤ s') = true := by simp; exact a
                have EL2 := Lib.hid (EL.out (by omega)); clear a
                go_wp2_with fail
                go_quiet (fail)
                go_wp2_with fail
                go_ret
                exact ⟨ret_bool EL2.out.symm, bel_trans HBS.out (Below.drewN' HBR.out _)⟩
              · have d1 : decide (s ≤ s') = false := by simp; omega
                have EA2 := Lib.hid (EA.out (by omega)); clear a
                go_wp2_with fail
                go_quiet (fail)
                go_wp2_with fail
                go_roundg (ss.length - (j + 1))
                case measure => omega
                case rel => exact ⟨j + 1, by omega, rfl, by go_num, Below.drewN' HBR.out _, EA2.out⟩
            · have HBR := Lib.hid hbr; clear hbr
              have EY := Lib.hid (E4.out (fun i hi => HALL.out i (by omega)))
              go_wp2_with fail
              go_ret
              exact ⟨ret_bool EY.out.symm, bel_trans HBS.out HBR.out⟩
end Go.Proofs.YtmbglkholoblaaaDoor
namespace Go.Proofs.YtmbglkholoblaaaDoor
open Go.RowKit

theorem cnt_le {k : Int} {n : Nat} (h : cntOk k n = true) : n ≤ 16 := by
  unfold cntOk at h
  repeat' split at h
  all_goals (have := of_decide_eq_true h; omega)
theorem cnt_2 {k : Int} {n : Nat} (h : cntOk k n = true) (hk : k = 2) : n = 5 := by subst hk; exact of_decide_eq_true h
theorem cnt_3 {k : Int} {n : Nat} (h : cntOk k n = true) (hk : k = 3) : 4 ≤ n ∧ n % 2 = 0 := by subst hk; have : 4 ≤ n ∧ n ≤ 16 ∧ n % 2 = 0 := of_decide_eq_true h; omega
theorem cnt_9 {k : Int} {n : Nat} (h : cntOk k n = true) (hk : k = 9) : n = 3 := by subst hk; exact of_decide_eq_true h
section
variable {k : Int} {l : List Int} {ss : List (Int × Px)}
theorem achk_8 (h : k < 1 ∨ 11 < k) : achk k l ss = 8 := by unfold achk; rw [if_pos h]
theorem achk_1 (h : ¬ (k < 1 ∨ 11 < k)) (h2 : cntOk k l.length = false ∨ (decide (0 < ss.length) ≠ decide (k = 10))) : achk k l ss = 1 := by unfold achk; rw [if_neg h, if_pos h2]
theorem achk_3 (h : ¬ (k < 1 ∨ 11 < k)) (h2 : ¬ (cntOk k l.length = false ∨ (decide (0 < ss.length) ≠ decide (k = 10)))) (h3 : 16 < ss.length) : achk k l ss = 3 := by unfold achk; rw [if_neg h, if_neg h2, if_pos h3]
theorem achk_2 (h : ¬ (k < 1 ∨ 11 < k)) (h2 : ¬ (cntOk k l.length = false ∨ (decide (0 < ss.length) ≠ decide (k = 10)))) (h3 : ¬ 16 < ss.length) (h4 : rngB k l ss = false) : achk k l ss = 2 := by unfold achk; rw [if_neg h, if_neg h2, if_neg h3, if_pos h4]
theorem achk_24 (h : ¬ (k < 1 ∨ 11 < k)) (h2 : ¬ (cntOk k l.length = false ∨ (decide (0 < ss.length) ≠ decide (k = 10)))) (h3 : ¬ 16 < ss.length) (h4 : rngB k l ss = true) (h5 : ordB k l ss = false) : achk k l ss = 24 := by unfold achk; rw [if_neg h, if_neg h2, if_neg h3, if_neg (by simp [h4]), if_pos h5]
theorem achk_0 (h : ¬ (k < 1 ∨ 11 < k)) (h2 : ¬ (cntOk k l.length = false ∨ (decide (0 < ss.length) ≠ decide (k = 10)))) (h3 : ¬ 16 < ss.length) (h4 : rngB k l ss = true) (h5 : ordB k l ss = true) : achk k l ss = 0 := by unfold achk; rw [if_neg h, if_neg h2, if_neg h3, if_neg (by simp [h4]), if_neg (by simp [h5])]
end
set_option maxRecDepth 100000 in
set_option maxHeartbeats 4000000 in
theorem acheck_core (k : Int) (A : Option Addr) (n c : Nat) (A' : Option Addr) (n' c' : Nat) (w : World) (E : Int) (cb rb ob : Bool) (hn' : n' ≤ 9223372036854775807)
    (hE8 : k < 1 ∨ 11 < k → E = 8) (hE : ¬ (k < 1 ∨ 11 < k) → E = if cb = false ∨ (decide (0 < n') ≠ decide (k = 10)) then 1 else if 16 < n' then 3 else if rb = false then 2 else if ob = false then 24 else 0)
    (TC : ¬ (k < 1 ∨ 11 < k) → ∀ w', Calls Tryd.prog 41 #[.int .i64 k, .int .i64 n] w' fun e w'' => e = .returned (.bool cb) ∧ w' = w'')
    (TR : ¬ (k < 1 ∨ 11 < k) → cb = true → Calls Tryd.prog 42 #[.int .i64 k, .slice A n c, .slice A' n' c'] w fun e w'' => e = .returned (.bool rb) ∧ Below w.heap.size w w'')
    (TO : ¬ (k < 1 ∨ 11 < k) → cb = true → n' ≤ 16 → ∀ w', Below w.heap.size w w' → Calls Tryd.prog 43 #[.int .i64 k, .slice A n c, .slice A' n' c'] w' fun e w'' => e = .returned (.bool ob) ∧ Below w'.heap.size w' w'') :
    Calls Tryd.prog 20 #[.int .i64 k, .slice A n c, .slice A' n' c'] w fun e w' => e = .returned (.int .i64 E) ∧ Below w.heap.size w w' := by
  by_cases h1 : k < 1
  · obtain rfl := hE8 (.inl h1)
    have d1 : decide (k < 1) = true := by simp; exact h1
    clear hE8 hE TC TR TO h1
    go_enter Tryd.func20, Tryd.ntmps20
    go_wp2
    go_ret
    exact ⟨rfl, Below.refl _ _⟩
  by_cases h2 : 11 < k
  · obtain rfl := hE8 (.inr h2)
    have d1 : decide (k < 1) = false := by simp; omega
    have d2 : decide (11 < k) = true := by simp; exact h2
    clear hE8 hE TC TR TO h1 h2
    go_enter Tryd.func20, Tryd.ntmps20
    go_wp2
    go_ret
    exact ⟨rfl, Below.refl _ _⟩
  have hk : ¬ (k < 1 ∨ 11 < k) := by omega
  have hE' := hE hk
  have HTC := Lib.hid (TC hk); have HTR := Lib.hid (TR hk); have HTO := Lib.hid (TO hk)
  have d1 : decide (k < 1) = false := by simp; omega
  have d2 : decide (11 < k) = false := by simp; omega
  clear hE8 hE TC TR TO h1 h2 hk
  cases cb
  · rw [if_pos (.inl rfl)] at hE'
    subst hE'
    go_enter Tryd.func20, Tryd.ntmps20
    go_wp2_with fail
    refine (HTC.out _).mono ?_
    rintro e w1 ⟨rfl, rfl⟩
    go_wp2_with fail
    go_ret
    exact ⟨rfl, Below.refl _ _⟩
  obtain ⟨p, hp⟩ : ∃ p, decide (0 < n') = p := ⟨_, rfl⟩
  obtain ⟨q, hq⟩ : ∃ q, decide (k = 10) = q := ⟨_, rfl⟩
  have d3 : decide (0 < (n' : Int)) = p := by rw [← hp]; simp
  have d4 : (k == 10) = q := by rw [← hq]; rfl
  have d5 : decide (0 < n') = p := hp
  rw [hp, hq] at hE'
  clear hp hq
  by_cases hpq : p = q
  rotate_left
  · rw [if_pos (.inr hpq)] at hE'
    subst hE'
    have d6 : (p == q) = false := by simp [hpq]
    clear hpq
    go_enter Tryd.func20, Tryd.ntmps20
    go_wp2_with fail
    refine (HTC.out _).mono ?_
    rintro e w1 ⟨rfl, rfl⟩
    go_wp2_with fail
    go_ret
    exact ⟨rfl, Below.refl _ _⟩
  subst hpq
  have d6 : (p != p) = false := by simp
  rw [if_neg (by simp)] at hE'
  by_cases h16 : 16 < n'
  · rw [if_pos h16] at hE'
    subst hE'
    have d7 : decide (16 < (n' : Int)) = true := by simp; omega
    clear h16
    go_enter Tryd.func20, Tryd.ntmps20
    go_wp2_with fail
    refine (HTC.out _).mono ?_
    rintro e w1 ⟨rfl, rfl⟩
    go_wp2_with fail
    go_ret
    exact ⟨rfl, Below.refl _ _⟩
  rw [if_neg h16] at hE'
  have d7 : decide (16 < (n' : Int)) = false := by simp; omega
  have HO := Lib.hid (HTO.out rfl (by omega))
  have HR := Lib.hid (HTR.out rfl)
  clear h16 HTO HTR
  cases rb
  · rw [if_pos rfl] at hE'
    subst hE'
    go_enter Tryd.func20, Tryd.ntmps20
    go_wp2_with fail
    refine (HTC.out _).mono ?_
    rintro e w1 ⟨rfl, rfl⟩
    go_wp2_with fail
    refine HR.out.mono ?_
    rintro e w2 ⟨rfl, hb2⟩
    go_wp2_with fail
    go_ret
    exact ⟨rfl, hb2⟩
  rw [if_neg (by simp)] at hE'
  cases ob
  all_goals
    simp at hE'
    subst hE'
    go_enter Tryd.func20, Tryd.ntmps20
    go_wp2_with fail
    refine (HTC.out _).mono ?_
    rintro e w1 ⟨rfl, rfl⟩
    go_wp2_with fail
    refine HR.out.mono ?_
    rintro e w2 ⟨rfl, hb2⟩
    go_wp2_with fail
    refine (HO.out _ hb2).mono ?_
    rintro e w3 ⟨rfl, hb3⟩
    go_wp2_with fail
    go_ret
    exact ⟨rfl, bel_trans hb2 hb3⟩
/-- Check. -/
theorem acheck_any (k : Int) (l : List Int) (ss : List (Int × Px)) (A : Option Addr) (c : Nat) (A' : Option Addr) (c' : Nat) (w : World) (h : Ints w w.heap.size (.slice A l.length c) l) (hs : Stps w w.heap.size (.slice A' ss.length c') ss) :
    Calls Tryd.prog 20 #[.int .i64 k, .slice A l.length c, .slice A' ss.length c'] w fun e w' => e = .returned (.int .i64 (achk k l ss)) ∧ Below w.heap.size w w' := by
  have hlm : l.length ≤ 9223372036854775807 := by obtain ⟨_, _, _, hm, _⟩ := h; omega
  have hsm : ss.length ≤ 9223372036854775807 := by obtain ⟨_, _, _, hm, _⟩ := hs; omega
  refine acheck_core k A l.length c A' ss.length c' w (achk k l ss) (cntOk k l.length) (rngB k l ss) (ordB k l ss) hsm achk_8 (fun hk => by unfold achk; rw [if_neg hk]) (fun hk w' => counted_any k (by omega) (by omega) _ hlm w')
    (fun hk hc => ranged_any k (by omega) (by omega) l ss (cnt_9 hc) A c A' c' w h hs)
    (fun hk hc hn w' hb => ordered_any k l ss (cnt_2 hc) (cnt_3 hc) A c A' c' w' ((h.below hb).more hb.size) (hs.on hb) (cnt_le hc) hn)
end Go.Proofs.YtmbglkholoblaaaDoor
namespace Go.Proofs.YtmbglkholoblaaaDoor
open Go.RowKit

/-- A pixel and an error are returned. -/
def PePost (p : Px) (err : Int) (w : World) (e : Ending) (w' : World) : Prop := e = .returned (.tuple #[.agg #[.int .i64 p.r, .int .i64 p.g, .int .i64 p.b, .int .i64 p.a], .int .i64 err]) ∧ Below w.heap.size w w'
set_option maxRecDepth 100000 in
set_option maxHeartbeats 4000000 in
theorem pixel_no (k : Int) (A : Option Addr) (n c : Nat) (A' : Option Addr) (n' c' : Nat) (p : Px) (w : World) (E E2 : Int)
    (hE : (E ≠ 0 ∧ E2 = E) ∨ (E = 0 ∧ E2 = 2 ∧ pxOk p = false))
    (TC : ∀ w', Below w.heap.size w w' → Calls Tryd.prog 20 #[.int .i64 k, .slice A n c, .slice A' n' c'] w' fun e w'' => e = .returned (.int .i64 E) ∧ Below w'.heap.size w' w'') :
    Calls Tryd.prog 12 #[.int .i64 k, .slice A n c, .slice A' n' c', .agg #[.int .i64 p.r, .int .i64 p.g, .int .i64 p.b, .int .i64 p.a]] w (PePost Px.zero E2 w) := by
  have HTC := Lib.hid TC; clear TC
  go_enter Tryd.func12, Tryd.ntmps12
  go_upto_region 1 with fail
  obtain ⟨hb7, hb8, hB⟩ := two_boxes w #[.int .i64 p.r, .int .i64 p.g, .int .i64 p.b, .int .i64 p.a] #[.int .i64 0, .int .i64 0, .int .i64 0, .int .i64 0] 25 25 _ rfl
  generalize World.alloc (World.alloc w _) _ = w0 at *
  go_wp2_with fail
  refine (HTC.out _ hB).mono ?_
  rintro e w1 ⟨rfl, hbb⟩
  replace hb7 := hb7.below hbb; replace hb8 := hb8.below hbb; replace hB := bel_trans hB hbb
  clear hbb
  rcases hE with ⟨hE, rfl⟩ | ⟨rfl, rfl, hp⟩
  · have hne : (E2 != 0) = true := by simp [hE]
    clear hE
    obtain ⟨⟨r1, r2, r3, r4⟩, f1, f2, f3, f4⟩ := hb8.four
    clear hb7 hb8
    go_wp2_with fail
    refine bodyPost_ret (v := .tuple #[.agg #[.int .i64 0, .int .i64 0, .int .i64 0, .int .i64 0], .int .i64 E2]) (by simp [results, Tryd.results12, go_sem, r1, r2, r3, r4]) rfl ⟨rfl, ?_⟩
    exact set4_below hB (by omega) _ _ _ _ _ _ _ _
  · have HP := Lib.hid (show pxOk ⟨p.r, p.g, p.b, p.a⟩ = false from hp); clear hp
    obtain ⟨⟨i1, i2, i3, i4⟩, -⟩ := hb7.four
    go_wp2_with fail
    refine (pvalid_any _ _ _ _ _).mono ?_
    rintro e w2 ⟨rfl, hbb⟩
    rw [HP.out]
    replace hB := bel_trans hB hbb
    obtain ⟨⟨r1, r2, r3, r4⟩, f1, f2, f3, f4⟩ := (hb8.below hbb).four
    clear hb7 hb8 i1 i2 i3 i4 hbb
    go_wp2_with fail
    refine bodyPost_ret (v := .tuple #[.agg #[.int .i64 0, .int .i64 0, .int .i64 0, .int .i64 0], .int .i64 2]) (by simp [results, Tryd.results12, go_sem, r1, r2, r3, r4]) rfl ⟨rfl, ?_⟩
    exact set4_below hB (by omega) _ _ _ _ _ _ _ _
set_option maxRecDepth 100000 in
set_option maxHeartbeats 4000000 in
theorem pixel_yes (k : Int) (A : Option Addr) (n c : Nat) (A' : Option Addr) (n' c' : Nat) (p m : Px) (f : Px → Int × Int × Int) (w : World) (hp : pxOk p = true)
    (TC : ∀ w', Below w.heap.size w w' → Calls Tryd.prog 20 #[.int .i64 k, .slice A n c, .slice A' n' c'] w' fun e w'' => e = .returned (.int .i64 0) ∧ Below w'.heap.size w' w'')
    (TL : ∀ w', Below w.heap.size w w' → Calls Tryd.prog 28 #[.int .i64 k, .slice A n c, .slice A' n' c'] w' (ClPost f w'))
    (TA : ∀ F caps w', Ent F → FnP F caps f w' → Calls Tryd.prog 27 #[.func (.func F) #[] caps, .agg #[.int .i64 p.r, .int .i64 p.g, .int .i64 p.b, .int .i64 p.a]] w' (PxPost m w')) :
    Calls Tryd.prog 12 #[.int .i64 k, .slice A n c, .slice A' n' c', .agg #[.int .i64 p.r, .int .i64 p.g, .int .i64 p.b, .int .i64 p.a]] w (PePost m 0 w) := by
  have HTC := Lib.hid TC; have HTL := Lib.hid TL; have HTA := Lib.hid TA; clear TC TL TA
  have HP := Lib.hid (show pxOk ⟨p.r, p.g, p.b, p.a⟩ = true from hp); clear hp
  go_enter Tryd.func12, Tryd.ntmps12
  go_upto_region 1 with fail
  obtain ⟨hb7, hb8, hB⟩ := two_boxes w #[.int .i64 p.r, .int .i64 p.g, .int .i64 p.b, .int .i64 p.a] #[.int .i64 0, .int .i64 0, .int .i64 0, .int .i64 0] 25 25 _ rfl
  generalize World.alloc (World.alloc w _) _ = w0 at *
  go_wp2_with fail
  refine (HTC.out _ hB).mono ?_
  rintro e w1 ⟨rfl, hbb⟩
  replace hb7 := hb7.below hbb; replace hb8 := hb8.below hbb; replace hB := bel_trans hB hbb
  clear hbb
  obtain ⟨⟨i1, i2, i3, i4⟩, -⟩ := hb7.four
  go_wp2_with fail
  refine (pvalid_any _ _ _ _ _).mono ?_
  rintro e w2 ⟨rfl, hbb⟩
  rw [HP.out]
  replace hb7 := hb7.below hbb; replace hb8 := hb8.below hbb; replace hB := bel_trans hB hbb
  have hz := hb8.lt
  clear hbb i1 i2 i3 i4
  go_upto_region 6 with fail
  have HSA := Lib.hid (show ∀ wq, RS (w.heap.size + 1) w2 wq → RS (w.heap.size + 1) w2 wq ∧ wq.cell? ⟨w.heap.size, 0, none⟩ = some (.int .i64 p.r) ∧ wq.cell? ⟨w.heap.size, 1, none⟩ = some (.int .i64 p.g) ∧ wq.cell? ⟨w.heap.size, 2, none⟩ = some (.int .i64 p.b) ∧ wq.cell? ⟨w.heap.size, 3, none⟩ = some (.int .i64 p.a) ∧
      wq.cell? ⟨w.heap.size + 1, 0, none⟩ = some (cv wq (w.heap.size + 1) 0) ∧ wq.cell? ⟨w.heap.size + 1, 1, none⟩ = some (cv wq (w.heap.size + 1) 1) ∧ wq.cell? ⟨w.heap.size + 1, 2, none⟩ = some (cv wq (w.heap.size + 1) 2) ∧ wq.cell? ⟨w.heap.size + 1, 3, none⟩ = some (cv wq (w.heap.size + 1) 3) ∧
      wq.frozen? ⟨w.heap.size + 1, 0, none⟩ = false ∧ wq.frozen? ⟨w.heap.size + 1, 1, none⟩ = false ∧ wq.frozen? ⟨w.heap.size + 1, 2, none⟩ = false ∧ wq.frozen? ⟨w.heap.size + 1, 3, none⟩ = false from
    fun wq h => ⟨h, (h.bx hb7 (by omega)).four.1.1, (h.bx hb7 (by omega)).four.1.2.1, (h.bx hb7 (by omega)).four.1.2.2.1, (h.bx hb7 (by omega)).four.1.2.2.2, h.cvs.1.1, h.cvs.1.2.1, h.cvs.1.2.2.1, h.cvs.1.2.2.2, h.cvs.2⟩)
  have HSP := Lib.hid (fun wq (h : RS (w.heap.size + 1) w2 wq) a b c d => HSA.out _ (h.put a b c d))
  have HCL := Lib.hid (show ∀ wq, RS (w.heap.size + 1) w2 wq → Calls Tryd.prog 28 #[.int .i64 k, .slice A n c, .slice A' n' c'] wq (ClPost f wq) from fun wq h => HTL.out wq (h.bel hB (by omega)))
  have hBv : RS (w.heap.size + 1) w2 w2.drew := RS.start hb8
  have hS0 := HSA.out _ hBv
  have HB := Lib.hid hB
  clear hB hb7 hb8 HTL HTC
  go_region_held3 (fun wq => RS (w.heap.size + 1) w2 wq ∧ wq.cell? ⟨w.heap.size, 0, none⟩ = some (.int .i64 p.r) ∧ wq.cell? ⟨w.heap.size, 1, none⟩ = some (.int .i64 p.g) ∧ wq.cell? ⟨w.heap.size, 2, none⟩ = some (.int .i64 p.b) ∧ wq.cell? ⟨w.heap.size, 3, none⟩ = some (.int .i64 p.a) ∧
      wq.cell? ⟨w.heap.size + 1, 0, none⟩ = some (cv wq (w.heap.size + 1) 0) ∧ wq.cell? ⟨w.heap.size + 1, 1, none⟩ = some (cv wq (w.heap.size + 1) 1) ∧ wq.cell? ⟨w.heap.size + 1, 2, none⟩ = some (cv wq (w.heap.size + 1) 2) ∧ wq.cell? ⟨w.heap.size + 1, 3, none⟩ = some (cv wq (w.heap.size + 1) 3) ∧
      wq.frozen? ⟨w.heap.size + 1, 0, none⟩ = false ∧ wq.frozen? ⟨w.heap.size + 1, 1, none⟩ = false ∧ wq.frozen? ⟨w.heap.size + 1, 2, none⟩ = false ∧ wq.frozen? ⟨w.heap.size + 1, 3, none⟩ = false)
    (first | assumption | exact hS0 | exact HSA.out _ hBv | exact HSP.out _ hBv _ _ _ _ | go_keep)
    (first | ((with_reducible refine (HCL.out _ hBv).mono ?_); rintro e wv ⟨F, caps, rfl, hent, hfn, hbv⟩; have hBv := RS.call hBv hbv; have happ := HTA.out F caps wv hent hfn) | ((with_reducible refine happ.mono ?_); rintro e wv ⟨rfl, hbv⟩; have hBv := RS.call hBv hbv))
  obtain ⟨⟨r1, r2, r3, r4⟩, f1, f2, f3, f4⟩ := hBv.cvs
  go_wp2_with fail
  refine bodyPost_ret (v := .tuple #[.agg #[.int .i64 m.r, .int .i64 m.g, .int .i64 m.b, .int .i64 m.a], .int .i64 0]) (by simp [results, Tryd.results12, go_sem, r1, r2, r3, r4]) rfl ⟨rfl, ?_⟩
  exact set4_below (hBv.bel HB.out (by omega)) (by omega) _ _ _ _ _ _ _ _
/-- Pixel. -/
theorem apixel_any (k : Int) (l : List Int) (ss : List (Int × Px)) (A : Option Addr) (c : Nat) (A' : Option Addr) (c' : Nat) (p : Px) (w : World) (hT : Tab w) (h : Ints w w.heap.size (.slice A l.length c) l) (hs : Stps w w.heap.size (.slice A' ss.length c') ss) :
    Calls Tryd.prog 12 #[.int .i64 k, .slice A l.length c, .slice A' ss.length c', .agg #[.int .i64 p.r, .int .i64 p.g, .int .i64 p.b, .int .i64 p.a]] w (PePost (pixF k l ss p) (perr k l ss p) w) := by
  have TC := fun w' (hb : Below w.heap.size w w') => acheck_any k l ss A c A' c' w' ((h.below hb).more hb.size) (hs.on hb)
  by_cases hE : achk k l ss = 0
  · rw [hE] at TC
    cases hp : pxOk p
    · have e : perr k l ss p = 2 := by unfold perr; rw [if_pos hE, hp]; rfl
      have e2 : pixF k l ss p = Px.zero := by unfold pixF; rw [e]; rfl
      rw [e, e2]
      exact pixel_no k A _ c A' _ c' p w 0 2 (.inr ⟨rfl, rfl, hp⟩) TC
    · have e : perr k l ss p = 0 := by unfold perr; rw [if_pos hE, hp]; rfl
      have e2 : pixF k l ss p = appF k l ss p := by unfold pixF; rw [e]; rfl
      rw [e, e2]
      have a := (achk_iff k l ss).1 hE
      refine pixel_yes k A _ c A' _ c' p _ (colF k l ss) w hp TC (fun w' hb => colors_any k l ss w' a (hT.below hb) A _ c A' _ c' ((h.below hb).more hb.size) (hs.on hb)) (fun F caps w' hent hf => ?_)
      unfold appF
      by_cases ha : p.a = 0
      · rw [if_pos ha]; exact applied_no F caps p ha w'
      · rw [if_neg ha]; exact applied_yes F caps (colF k l ss) p ((pxOk_iff p).1 hp) ha w' hent hf
  · have e : perr k l ss p = achk k l ss := by unfold perr; rw [if_neg hE]
    have e2 : pixF k l ss p = Px.zero := by unfold pixF; rw [e, if_neg hE]
    rw [e, e2]
    exact pixel_no k A _ c A' _ c' p w _ _ (.inl ⟨hE, rfl⟩) TC
end Go.Proofs.YtmbglkholoblaaaDoor
namespace Go.Proofs.YtmbglkholoblaaaDoor
open Go.RowKit

theorem Stps.nil (w : World) (B : Nat) : Stps w B (.slice none 0 0) [] := ⟨none, 0, rfl, by simp, fun i hi => absurd hi (by simp)⟩
set_option maxHeartbeats 1000000 in
theorem lgray_any (c : Int) (w : World) : Calls Tryd.prog 32 #[.int .i64 c] w fun e w' => e = .returned (.agg #[.int .i64 c, .int .i64 c, .int .i64 c, .int .i64 65535]) ∧ Below w.heap.size w w' := by
  go_enter Tryd.func32, Tryd.ntmps32
  go_upto_region 1 with fail
  obtain ⟨hb1, hB, -⟩ := one_box w #[.int .i64 0, .int .i64 0, .int .i64 0, .int .i64 0] 25 _ rfl
  generalize World.alloc w _ = w0 at *
  obtain ⟨⟨r1, r2, r3, r4⟩, f1, f2, f3, f4⟩ := hb1.four
  go_wp2_with fail
  refine bodyPost_ret (v := .agg #[.int .i64 c, .int .i64 c, .int .i64 c, .int .i64 65535]) (by simp [results, Tryd.results32, go_sem, r1, r2, r3, r4]) rfl ⟨rfl, ?_⟩
  exact set4_below hB (Nat.le_refl _) _ _ _ _ _ _ _ _
set_option maxHeartbeats 2000000 in
theorem is_core (k : Int) (v : Value) (p q : Px) (w : World) (T : ∀ w', Below w.heap.size w w' → Calls Tryd.prog 12 #[.int .i64 k, v, .slice none 0 0, .agg #[.int .i64 p.r, .int .i64 p.g, .int .i64 p.b, .int .i64 p.a]] w' (PePost q 0 w')) :
    Calls Tryd.prog 31 #[.int .i64 k, v, .agg #[.int .i64 p.r, .int .i64 p.g, .int .i64 p.b, .int .i64 p.a], .agg #[.int .i64 q.r, .int .i64 q.g, .int .i64 q.b, .int .i64 q.a]] w fun e w' => e = .returned (.bool true) ∧ Below w.heap.size w w' := by
  have HT := Lib.hid T; clear T
  go_enter Tryd.func31, Tryd.ntmps31
  go_upto_region 1 with fail
  obtain ⟨hb6, hb7, hB⟩ := two_boxes w #[.int .i64 p.r, .int .i64 p.g, .int .i64 p.b, .int .i64 p.a] #[.int .i64 q.r, .int .i64 q.g, .int .i64 q.b, .int .i64 q.a] 25 25 _ rfl
  generalize World.alloc (World.alloc w _) _ = w0 at *
  obtain ⟨⟨i1, i2, i3, i4⟩, -⟩ := hb6.four
  go_wp2_with fail
  refine (HT.out _ hB).mono ?_
  rintro e w1 ⟨rfl, hbb⟩
  replace hb7 := hb7.below hbb; replace hB := bel_trans hB hbb
  clear hbb i1 i2 i3 i4 hb6
  go_upto_region 2 with fail
  obtain ⟨hb9, hbb, -⟩ := one_box w1 #[.int .i64 q.r, .int .i64 q.g, .int .i64 q.b, .int .i64 q.a] 25 _ rfl
  generalize World.alloc w1 _ = w2 at *
  replace hb7 := hb7.below hbb; replace hB := bel_trans hB hbb
  obtain ⟨⟨i1, i2, i3, i4⟩, -⟩ := hb7.four
  obtain ⟨⟨j1, j2, j3, j4⟩, -⟩ := hb9.four
  clear hb7 hb9 hbb
  go_wp2_with fail
  go_ret
  exact ⟨by simp, hB⟩
theorem is_true (k : Int) (l : List Int) (A : Option Addr) (c : Nat) (p q : Px) (w : World) (hT : Tab w) (h : Ints w w.heap.size (.slice A l.length c) l) (hE : perr k l [] p = 0) (hq : pixF k l [] p = q) :
    Calls Tryd.prog 31 #[.int .i64 k, .slice A l.length c, .agg #[.int .i64 p.r, .int .i64 p.g, .int .i64 p.b, .int .i64 p.a], .agg #[.int .i64 q.r, .int .i64 q.g, .int .i64 q.b, .int .i64 q.a]] w fun e w' => e = .returned (.bool true) ∧ Below w.heap.size w w' :=
  is_core k _ p q w (fun w' hb => by
    have := apixel_any k l [] A c none 0 p w' (hT.below hb) ((h.below hb).more hb.size) (Stps.nil _ _)
    rw [hE, hq] at this
    exact this)
/-- A list of parameters that was just laid. -/
theorem made_ints (w : World) (xs : List Int) (hl : xs.length ≤ 1000000) : Ints (w.alloc (.cells (xs.map (Value.int .i64)).toArray 3)) (w.alloc (.cells (xs.map (Value.int .i64)).toArray 3)).heap.size (.slice (some ⟨w.heap.size, 0, none⟩) xs.length xs.length) xs := (IRow.made w w.heap.size xs (Nat.le_refl _) hl).ints
end Go.Proofs.YtmbglkholoblaaaDoor
namespace Go.Proofs.YtmbglkholoblaaaDoor
open Go.RowKit

theorem eq1 (d : Nat) (w : World) (x y : Int) : (Op.equalIn (d + 1) 3 (.int .i64 x) (.int .i64 y)).run Tryd.prog w = .ok (x == y) w := by
  simp [Op.equalIn, go_sem]
theorem eq3 (w : World) (a b c a' b' c' : Int) : (Op.equalIn 10000 31 (.agg #[.int .i64 a, .int .i64 b, .int .i64 c]) (.agg #[.int .i64 a', .int .i64 b', .int .i64 c'])).run Tryd.prog w = .ok (a == a' && (b == b' && c == c')) w := by
  obtain ⟨i0, hi0, hz0, hz1, hz2⟩ := info_parts Tryd.infoInt
  have hc : Tryd.prog.cellsOf 3 = 1 := by kernel_rfl
  rw [show (10000 : Nat) = 9999 + 1 from rfl, run_equalIn_array w 9999 _ _ Tryd.underlying31 hi0, hc]
  show (Op.eqItems 9999 3 1 _ _ [0, 1, 2]).run Tryd.prog w = _
  have hstep : ∀ (x y : Int) (w : World), (Op.equalIn 9999 3 (.int .i64 x) (.int .i64 y)).run Tryd.prog w = .ok (x == y) w := fun x y w => by
    exact eq1 9998 w x y
  generalize (9999 : Nat) = d at *
  simp [Op.eqItems, part, go_sem, hstep]
  by_cases h1 : a = a' <;> by_cases h2 : b = b' <;> by_cases h3 : c = c' <;> simp [h1, h2, h3]
end Go.Proofs.YtmbglkholoblaaaDoor
