/- The reference's Check of an image: the same error. -/
import Derived.Test.YtgdefgpbaccneaaImgChk
namespace Go.Proofs.Ytgdefgpbaccneaa
open Go.RowKit

set_option maxHeartbeats 2000000 in
theorem richeck_any (W H : Int) (A : Option Addr) (n c : Nat) (ps : List Px) (w : World) (h : Pixs w w.heap.size (.slice A n c) ps) :
    Calls Try.prog 19 #[.agg #[.int .i64 W, .int .i64 H, .slice A n c]] w fun e w' => e = .returned (.int .i64 (ichk W H ps)) ∧ Below w.heap.size w w' := by
  obtain rfl := h.len
  have hmx := h.max
  by_cases h1 : 0 ≤ W
  case neg =>
    have E := Lib.hid (show ichk W H ps = 15 by unfold ichk; rw [if_neg (fun e => by have := e.1; unfold sized at this; rw [decide_eq_true_eq] at this; omega)])
    go_enter Try.func19, Try.ntmps19
    go_wp2_with fail
    go_ret
    exact ⟨ret_int E.out.symm, bel_alloc (Below.refl _ _) _⟩
  by_cases h2 : W ≤ 256
  case neg =>
    have E := Lib.hid (show ichk W H ps = 15 by unfold ichk; rw [if_neg (fun e => by have := e.1; unfold sized at this; rw [decide_eq_true_eq] at this; omega)])
    go_enter Try.func19, Try.ntmps19
    go_wp2_with fail
    go_ret
    exact ⟨ret_int E.out.symm, bel_alloc (Below.refl _ _) _⟩
  by_cases h3 : 0 ≤ H
  case neg =>
    have E := Lib.hid (show ichk W H ps = 15 by unfold ichk; rw [if_neg (fun e => by have := e.1; unfold sized at this; rw [decide_eq_true_eq] at this; omega)])
    go_enter Try.func19, Try.ntmps19
    go_wp2_with fail
    go_ret
    exact ⟨ret_int E.out.symm, bel_alloc (Below.refl _ _) _⟩
  by_cases h4 : H ≤ 256
  case neg =>
    have E := Lib.hid (show ichk W H ps = 15 by unfold ichk; rw [if_neg (fun e => by have := e.1; unfold sized at this; rw [decide_eq_true_eq] at this; omega)])
    go_enter Try.func19, Try.ntmps19
    go_wp2_with fail
    go_ret
    exact ⟨ret_int E.out.symm, bel_alloc (Below.refl _ _) _⟩
  have hwh : 0 ≤ W * H ∧ W * H ≤ 65536 := by
    have e1 : W * H ≤ 256 * 256 := Int.mul_le_mul (by omega) (by omega) (by omega) (by omega)
    have e0 : 0 ≤ W * H := Int.mul_nonneg (by omega) (by omega)
    omega
  by_cases hz : (W = 0 ↔ H = 0)
  case neg =>
    have E := Lib.hid (show ichk W H ps = 15 by unfold ichk; rw [if_neg (fun e => by have := e.1; unfold sized at this; rw [decide_eq_true_eq] at this; exact hz this.2.2.2.2)])
    rcases (show (W = 0 ∧ H ≠ 0) ∨ (W ≠ 0 ∧ H = 0) by omega) with ⟨rfl, z2⟩ | ⟨z1, rfl⟩
    · have z2' : (H == 0) = false := by simp [z2]
      clear hz
      go_enter Try.func19, Try.ntmps19
      go_wp2_with fail
      go_ret
      exact ⟨ret_int E.out.symm, bel_alloc (Below.refl _ _) _⟩
    · have z1' : (W == 0) = false := by simp [z1]
      clear hz
      go_enter Try.func19, Try.ntmps19
      go_wp2_with fail
      go_ret
      exact ⟨ret_int E.out.symm, bel_alloc (Below.refl _ _) _⟩
  have hs : sized W H = true := by unfold sized; rw [decide_eq_true_eq]; exact ⟨h1, h2, h3, h4, hz⟩
  have hzz : ((W == 0) = true ∧ (H == 0) = true) ∨ ((W == 0) = false ∧ (H == 0) = false) := by
    by_cases e : W = 0
    · left; simp [e, hz.1 e]
    · right; simp [e]; omega
  clear hz
  by_cases hl : (ps.length : Int) = W * H
  case neg =>
    have E := Lib.hid (show ichk W H ps = 15 by unfold ichk; rw [if_neg (fun e => hl e.2)])
    have hne : ((ps.length : Int) != W * H) = true := by simp [hl]
    clear hs h hl
    rcases hzz with ⟨z1, z2⟩ | ⟨z1, z2⟩
    all_goals
      go_enter Try.func19, Try.ntmps19
      go_wp2_with fail
      go_ret
      exact ⟨ret_int E.out.symm, bel_alloc (Below.refl _ _) _⟩
  have E := Lib.hid (show ichk W H ps = if allOk ps then 0 else 2 by unfold ichk; rw [if_pos ⟨hs, hl⟩])
  have hne : ((ps.length : Int) != W * H) = false := by simp [hl]
  have hln : ps.length ≤ 65536 := by omega
  clear hs hl
  have HP := Lib.hid h; clear h
  have HP0 := Lib.hid (HP.out.alloc (.cells #[.int .i64 W, .int .i64 H, .slice A ps.length c] 24))
  have hB0 : Below w.heap.size w (w.alloc (.cells #[.int .i64 W, .int .i64 H, .slice A ps.length c] 24)) := bel_alloc (Below.refl _ _) _
  rcases hzz with ⟨z1, z2⟩ | ⟨z1, z2⟩
  all_goals
    go_enter Try.func19, Try.ntmps19
    go_wp2_with fail
    go_loopw [3] (ChkIRel ps (w.alloc (.cells #[.int .i64 W, .int .i64 H, .slice A ps.length c] 24))) (fun i _ => ps.length - (intOf i).toNat)
    case atStart => exact ⟨0, Nat.zero_le _, rfl, fun j hj => absurd hj (by omega), Below.refl _ _⟩
    case round =>
      obtain ⟨k, hk, rfl, hj, hbel⟩ := hrel
      have HJ := Lib.hid hj; clear hj
      have hbx : wr.cell? ⟨w.heap.size, 2, none⟩ = some (.slice A ps.length c) := (hbel.cell (p := ⟨w.heap.size, 2, none⟩) (by simp)).trans (by simp)
      by_cases hlt : k < ps.length
      · have hP := HP0.out.on hbel
        obtain ⟨A', c', ev, _, hc⟩ := hP
        obtain ⟨b, o, rfl, hb, c1, c2, c3, c4⟩ := hc k hlt
        injection ev with ev1 _ ev3
        subst ev1
        clear hc ev3
        have HNO := Lib.hid (allOk_no ps k hlt)
        generalize hp : pat ps k = p at *
        have HPK := Lib.hid hp; clear hp
        obtain ⟨r, g, bl, al⟩ := p
        simp only at c1 c2 c3 c4
        by_cases hok : (Px.mk r g bl al).ok
        · have HOK := Lib.hid ((pxOk_iff _).2 hok)
          have HO := Lib.hid hok; clear hok
          go_wp2_with fail
          refine (rpvalid_any _ _ _ _ _).mono ?_
          rintro e w4 ⟨rfl, hb4⟩
          rw [HOK.out]
          go_wp2_with fail
          go_roundw
          case rel =>
            refine ⟨k + 1, by omega, by go_num, fun j hj => ?_, bel_trans hbel hb4⟩
            by_cases e : j = k
            · subst e; rw [HPK.out]; exact HO.out
            · exact HJ.out j (by omega)
          case measure => simp [intOf]; omega
        · have HOK := Lib.hid (show pxOk ⟨r, g, bl, al⟩ = false by rw [Bool.eq_false_iff]; intro e; exact hok ((pxOk_iff _).1 e))
          have E2 := Lib.hid (HNO.out hok)
          go_wp2_with fail
          refine (rpvalid_any _ _ _ _ _).mono ?_
          rintro e w4 ⟨rfl, hb4⟩
          rw [HOK.out]
          go_wp2_with fail
          go_ret
          exact ⟨ret_int (by rw [E.out, E2.out]; rfl), bel_trans hB0 (bel_trans hbel hb4)⟩
      · have E2 := Lib.hid (show allOk ps = true by rw [allOk_iff]; intro i hi; exact HJ.out i (by omega))
        go_wp2_with fail
        go_ret
        exact ⟨ret_int (by rw [E.out, E2.out]; rfl), bel_trans hB0 hbel⟩
end Go.Proofs.Ytgdefgpbaccneaa
