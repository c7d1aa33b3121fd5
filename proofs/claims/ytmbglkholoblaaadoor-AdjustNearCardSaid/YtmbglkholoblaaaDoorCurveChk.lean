/- curve.Check and its reference: the error of any curve. -/
import Derived.Test.YtmbglkholoblaaaDoorKnotMem
namespace Go.Proofs.YtmbglkholoblaaaDoor
open Go.RowKit

set_option maxHeartbeats 400000 in
theorem unit_any (x : Int) (w : World) :
    Calls Tryd.prog 93 #[.int .i64 x] w fun e w' => e = .returned (.int .i64 (min 65535 (max x 0))) ∧ w = w' := by
  go_enter Tryd.func93, Tryd.ntmps93
  go_wp2_with (go_at_call 69; refine (clamp_any _ _ _ _).mono ?_; rintro e w' ⟨rfl, rfl⟩)
  go_ret
  exact ⟨rfl, rfl⟩
def uok (x : Int) : Bool := decide (0 ≤ x ∧ x ≤ 65535)
theorem uok_t (x : Int) (h : 0 ≤ x ∧ x ≤ 65535) : uok x = true := by unfold uok; simp; omega
theorem uok_f (x : Int) (h : ¬ (0 ≤ x ∧ x ≤ 65535)) : uok x = false := by unfold uok; simp; omega
set_option maxHeartbeats 400000 in
theorem runitb_any (x : Int) (w : World) :
    Calls Tryd.prog 96 #[.int .i64 x] w fun e w' => e = .returned (.bool (uok x)) ∧ w = w' := by
  by_cases h : 0 ≤ x
  · go_enter Tryd.func96, Tryd.ntmps96
    go_wp2
    go_ret
    exact ⟨ret_bool (by unfold uok; simp [h]), rfl⟩
  · go_enter Tryd.func96, Tryd.ntmps96
    go_wp2
    go_ret
    exact ⟨ret_bool (by unfold uok; simp; omega), rfl⟩

/-- The loop's head. -/
def ChkRel (ks : List (Int × Int)) (w : World) (i : Value) (wr : World) : Prop :=
  ∃ k : Nat, k ≤ ks.length ∧ i = .int .i64 k ∧ chkFrom (px ks k) (ks.drop k) = chkFrom (-1) ks ∧ Below w.heap.size w wr

theorem clamp_ne (x : Int) (h : ¬ (0 ≤ x ∧ x ≤ 65535)) : (x != min 65535 (max x 0)) = true := by simp; omega
theorem clamp_eq (x : Int) (h : 0 ≤ x ∧ x ≤ 65535) : (x != min 65535 (max x 0)) = false := by simp; omega

set_option maxHeartbeats 2000000 in
theorem check_any (v : Value) (ks : List (Int × Int)) (w : World) (h : Knots w w.heap.size v ks) :
    Calls Tryd.prog 92 #[v] w fun e w' => e = .returned (.int .i64 (chk ks)) ∧ Below w.heap.size w w' := by
  by_cases h2 : ks.length < 2
  · obtain ⟨A, c, rfl, _, _⟩ := h
    have HC := Lib.hid (show chk ks = 1 by unfold chk; rw [if_pos h2])
    go_enter Tryd.func92, Tryd.ntmps92
    go_wp2
    go_ret
    exact ⟨ret_int HC.out.symm, Below.refl _ _⟩
  by_cases h16 : 16 < ks.length
  · obtain ⟨A, c, rfl, hl, _⟩ := h
    have HC := Lib.hid (show chk ks = 3 by unfold chk; rw [if_neg h2, if_pos h16])
    go_enter Tryd.func92, Tryd.ntmps92
    go_wp2
    go_ret
    exact ⟨ret_int HC.out.symm, Below.refl _ _⟩
  have HC := Lib.hid (show chk ks = chkFrom (-1) ks by unfold chk; rw [if_neg h2, if_neg h16])
  obtain ⟨b, o, c, rfl, hb, hcell⟩ := h.form (by omega)
  have HK := Lib.hid hcell
  clear hcell h
  have hn2 : 2 ≤ ks.length := by omega
  have hn16 : ks.length ≤ 16 := by omega
  clear h2 h16
  go_enter Tryd.func92, Tryd.ntmps92
  go_wp2
  go_loopw [13] (ChkRel ks w) (fun i _ => ks.length - (intOf i).toNat)
  case atStart => exact ⟨0, Nat.zero_le _, rfl, rfl, Below.refl _ _⟩
  case round =>
    obtain ⟨k, hk, rfl, hck, hbel⟩ := hrel
    have HCK := Lib.hid hck; clear hck
    have hsz := hbel.size
    by_cases hlt : k < ks.length
    · have hcx := (hbel.cell (p := ⟨b, o + k * 2, none⟩) hb).trans (HK.out k hlt).1
      have hcy := (hbel.cell (p := ⟨b, o + k * 2 + 1, none⟩) hb).trans (HK.out k hlt).2
      have hbw : b < wr.heap.size := by omega
      have HB := Lib.hid (chk_bad ks k hlt)
      have HO := Lib.hid (chk_ord ks k hlt)
      have HN := Lib.hid (chk_next ks k hlt)
      have hpx : Hid (∀ j, k = j + 1 → px ks k = kx ks j) := by rintro j rfl; rfl
      generalize hX : kx ks k = X at *
      generalize hY : ky ks k = Y at *
      have HX := Lib.hid hX; clear hX
      have HY := Lib.hid hY; clear hY
      by_cases gX : 0 ≤ X ∧ X ≤ 65535
      · have tX := clamp_eq X gX
        by_cases gY : 0 ≤ Y ∧ Y ≤ 65535
        · have tY := clamp_eq Y gY
          have G : Hid (0 ≤ X ∧ X ≤ 65535 ∧ 0 ≤ Y ∧ Y ≤ 65535) := ⟨gX.1, gX.2, gY.1, gY.2⟩
          by_cases h0 : k = 0
          · subst h0
            have E := Lib.hid (HN.out G.out (by show ¬ X ≤ -1; omega))
            simp only [Nat.zero_mul, Nat.add_zero] at hcx hcy
            go_wp2
            go_quiet ((go_at_call 93; exact Calls.quiet_of_same ((unit_any _ _).mono fun _ _ hh => ⟨hh.1, hh.2.symm⟩)))
            go_wp2
            go_quiet (fail)
            go_wp2
            go_roundw
            case rel => exact ⟨1, by omega, by go_num, by rw [← HCK.out, ← E.out], by repeat (first | exact hbel | refine Below.drewN' ?_ _ | refine Below.alloc ?_ (by first | omega | (simp; omega)) _)⟩
            case measure => simp [intOf]; omega
          · obtain ⟨j, rfl⟩ : ∃ j, k = j + 1 := ⟨k - 1, by omega⟩
            have hpc := (hbel.cell (p := ⟨b, o + j * 2, none⟩) hb).trans (HK.out j (by omega)).1
            have hpp := hpx.out j rfl
            rw [hpp] at HO HN HCK
            generalize kx ks j = P at *
            clear hpp hpx
            by_cases ho : X ≤ P
            · have E := Lib.hid (HO.out G.out ho)
              go_wp2
              go_quiet ((go_at_call 93; exact Calls.quiet_of_same ((unit_any _ _).mono fun _ _ hh => ⟨hh.1, hh.2.symm⟩)))
              go_wp2
              go_quiet (fail)
              go_wp2
              go_ret
              exact ⟨ret_int (by rw [HC.out, ← HCK.out, E.out]), by repeat (first | exact hbel | refine Below.drewN' ?_ _ | refine Below.alloc ?_ (by first | omega | (simp; omega)) _)⟩
            · have E := Lib.hid (HN.out G.out ho)
              go_wp2
              go_quiet ((go_at_call 93; exact Calls.quiet_of_same ((unit_any _ _).mono fun _ _ hh => ⟨hh.1, hh.2.symm⟩)))
              go_wp2
              go_quiet (fail)
              go_wp2
              go_roundw
              case rel => exact ⟨j + 1 + 1, by omega, by go_num, by rw [← HCK.out, ← E.out], by repeat (first | exact hbel | refine Below.drewN' ?_ _ | refine Below.alloc ?_ (by first | omega | (simp; omega)) _)⟩
              case measure => simp [intOf]; omega
        · have tY := clamp_ne Y gY
          have E := Lib.hid (HB.out (by omega))
          go_wp2
          go_quiet ((go_at_call 93; exact Calls.quiet_of_same ((unit_any _ _).mono fun _ _ hh => ⟨hh.1, hh.2.symm⟩)))
          go_wp2
          go_ret
          exact ⟨ret_int (by rw [HC.out, ← HCK.out, E.out]), by repeat (first | exact hbel | refine Below.drewN' ?_ _ | refine Below.alloc ?_ (by first | omega | (simp; omega)) _)⟩
      · have tX := clamp_ne X gX
        have E := Lib.hid (HB.out (by omega))
        go_wp2
        go_quiet ((go_at_call 93; exact Calls.quiet_of_same ((unit_any _ _).mono fun _ _ hh => ⟨hh.1, hh.2.symm⟩)))
        go_wp2
        go_ret
        exact ⟨ret_int (by rw [HC.out, ← HCK.out, E.out]), by repeat (first | exact hbel | refine Below.drewN' ?_ _ | refine Below.alloc ?_ (by first | omega | (simp; omega)) _)⟩
    · obtain rfl : k = ks.length := by omega
      have E := Lib.hid (chk_end ks)
      go_wp2
      go_ret
      exact ⟨ret_int (by rw [HC.out, ← HCK.out, E.out]), hbel⟩
end Go.Proofs.YtmbglkholoblaaaDoor
