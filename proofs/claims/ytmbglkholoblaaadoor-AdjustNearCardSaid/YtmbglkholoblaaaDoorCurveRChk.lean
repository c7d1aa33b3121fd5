/- The reference's Check: the same error. -/
import Derived.Test.YtmbglkholoblaaaDoorCurveChk
namespace Go.Proofs.YtmbglkholoblaaaDoor
open Go.RowKit

set_option maxHeartbeats 2000000 in
theorem rcheck_any (v : Value) (ks : List (Int × Int)) (w : World) (h : Knots w w.heap.size v ks) :
    Calls Tryd.prog 95 #[v] w fun e w' => e = .returned (.int .i64 (chk ks)) ∧ Below w.heap.size w w' := by
  by_cases h2 : ks.length < 2
  · obtain ⟨A, c, rfl, _, _⟩ := h
    have HC := Lib.hid (show chk ks = 1 by unfold chk; rw [if_pos h2])
    go_enter Tryd.func95, Tryd.ntmps95
    go_wp2
    go_ret
    exact ⟨ret_int HC.out.symm, Below.refl _ _⟩
  by_cases h16 : 16 < ks.length
  · obtain ⟨A, c, rfl, hl, _⟩ := h
    have HC := Lib.hid (show chk ks = 3 by unfold chk; rw [if_neg h2, if_pos h16])
    go_enter Tryd.func95, Tryd.ntmps95
    go_wp2
    go_ret
    exact ⟨ret_int HC.out.symm, Below.refl _ _⟩
  have HC := Lib.hid (show chk ks = chkFrom (-1) ks by unfold chk; rw [if_neg h2, if_neg h16])
  obtain ⟨b, o, c, rfl, hb, hcell⟩ := h.form (by omega)
  have HK := Lib.hid hcell
  clear hcell h
  have hn2 : 2 ≤ ks.length := by omega
  have hn16 : ks.length ≤ 16 := by omega
  clear h2 h16
  go_enter Tryd.func95, Tryd.ntmps95
  go_wp2
  go_loopw [3] (ChkRel ks w) (fun i _ => ks.length - (intOf i).toNat)
  case atStart => exact ⟨0, Nat.zero_le _, rfl, rfl, Below.refl _ _⟩
  case round =>
    obtain ⟨k, hk, rfl, hck, hbel⟩ := hrel
    have HCK := Lib.hid hck; clear hck
    have hsz := hbel.size
    by_cases hlt : k < ks.length
    · have hcx := (hbel.cell (p := ⟨b, o + k * 2, none⟩) hb).trans (HK.out k hlt).1
      have hcy := (hbel.cell (p := ⟨b, o + k * 2 + 1, none⟩) hb).trans (HK.out k hlt).2
      have HB := Lib.hid (chk_bad ks k hlt)
      have HO := Lib.hid (chk_ord ks k hlt)
      have HN := Lib.hid (chk_next ks k hlt)
      have hpx : Hid (∀ j, k = j + 1 → px ks k = kx ks j) := by rintro j rfl; rfl
      generalize hX : kx ks k = X at *
      generalize hY : ky ks k = Y at *
      have HX := Lib.hid hX; clear hX
      have HY := Lib.hid hY; clear hY
      by_cases gX : 0 ≤ X ∧ X ≤ 65535
      · have tX := uok_t X gX
        by_cases gY : 0 ≤ Y ∧ Y ≤ 65535
        · have tY := uok_t Y gY
          have G : Hid (0 ≤ X ∧ X ≤ 65535 ∧ 0 ≤ Y ∧ Y ≤ 65535) := ⟨gX.1, gX.2, gY.1, gY.2⟩
          by_cases h0 : k = 0
          · subst h0
            have E := Lib.hid (HN.out G.out (by show ¬ X ≤ -1; omega))
            simp only [Nat.zero_mul, Nat.add_zero] at hcx hcy
            go_wp2_with (go_at_call 96; refine (runitb_any _ _).mono ?_; rintro e w' ⟨rfl, rfl⟩)
            go_quiet (fail)
            go_wp2
            go_roundw
            case rel => exact ⟨1, by omega, by go_num, by rw [← HCK.out, ← E.out], by repeat (first | exact hbel | refine Below.drewN' ?_ _)⟩
            case measure => simp [intOf]; omega
          · obtain ⟨j, rfl⟩ : ∃ j, k = j + 1 := ⟨k - 1, by omega⟩
            have hpc := (hbel.cell (p := ⟨b, o + j * 2, none⟩) hb).trans (HK.out j (by omega)).1
            have hpp := hpx.out j rfl
            rw [hpp] at HO HN HCK
            generalize kx ks j = P at *
            clear hpp hpx
            by_cases ho : X ≤ P
            · have E := Lib.hid (HO.out G.out ho)
              go_wp2_with (go_at_call 96; refine (runitb_any _ _).mono ?_; rintro e w' ⟨rfl, rfl⟩)
              go_quiet (fail)
              go_wp2
              go_ret
              exact ⟨ret_int (by rw [HC.out, ← HCK.out, E.out]), by repeat (first | exact hbel | refine Below.drewN' ?_ _)⟩
            · have E := Lib.hid (HN.out G.out ho)
              go_wp2_with (go_at_call 96; refine (runitb_any _ _).mono ?_; rintro e w' ⟨rfl, rfl⟩)
              go_quiet (fail)
              go_wp2
              go_roundw
              case rel => exact ⟨j + 1 + 1, by omega, by go_num, by rw [← HCK.out, ← E.out], by repeat (first | exact hbel | refine Below.drewN' ?_ _)⟩
              case measure => simp [intOf]; omega
        · have tY := uok_f Y gY
          have E := Lib.hid (HB.out (by omega))
          go_wp2_with (go_at_call 96; refine (runitb_any _ _).mono ?_; rintro e w' ⟨rfl, rfl⟩)
          go_ret
          exact ⟨ret_int (by rw [HC.out, ← HCK.out, E.out]), by repeat (first | exact hbel | refine Below.drewN' ?_ _)⟩
      · have tX := uok_f X gX
        have E := Lib.hid (HB.out (by omega))
        go_wp2_with (go_at_call 96; refine (runitb_any _ _).mono ?_; rintro e w' ⟨rfl, rfl⟩)
        go_ret
        exact ⟨ret_int (by rw [HC.out, ← HCK.out, E.out]), by repeat (first | exact hbel | refine Below.drewN' ?_ _)⟩
    · obtain rfl : k = ks.length := by omega
      have E := Lib.hid (chk_end ks)
      go_wp2
      go_ret
      exact ⟨ret_int (by rw [HC.out, ← HCK.out, E.out]), hbel⟩
end Go.Proofs.YtmbglkholoblaaaDoor
