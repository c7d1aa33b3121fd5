/- raster.Check and its reference: the error of any image. -/
import Derived.Test.YtmbglkholoblaaaDoorPix
import Derived.Test.YtmbglkholoblaaaDoorImgMem
namespace Go.Proofs.YtmbglkholoblaaaDoor
open Go.RowKit

set_option maxHeartbeats 1000000 in
theorem sized_any (w h : Int) (W : World) :
    Calls Tryd.prog 71 #[.int .i64 w, .int .i64 h] W fun e w' => e = .returned (.bool (sized w h)) ∧ W = w' := by
  by_cases h1 : 0 ≤ w
  case neg =>
    have E := Lib.hid (show sized w h = false by unfold sized; rw [decide_eq_false_iff_not]; omega)
    go_enter Tryd.func71, Tryd.ntmps71
    go_wp2
    go_ret
    exact ⟨ret_bool E.out.symm, rfl⟩
  by_cases h2 : w ≤ 256
  case neg =>
    have E := Lib.hid (show sized w h = false by unfold sized; rw [decide_eq_false_iff_not]; omega)
    go_enter Tryd.func71, Tryd.ntmps71
    go_wp2
    go_ret
    exact ⟨ret_bool E.out.symm, rfl⟩
  by_cases h3 : 0 ≤ h
  case neg =>
    have E := Lib.hid (show sized w h = false by unfold sized; rw [decide_eq_false_iff_not]; omega)
    go_enter Tryd.func71, Tryd.ntmps71
    go_wp2
    go_ret
    exact ⟨ret_bool E.out.symm, rfl⟩
  by_cases h4 : h ≤ 256
  case neg =>
    have E := Lib.hid (show sized w h = false by unfold sized; rw [decide_eq_false_iff_not]; omega)
    go_enter Tryd.func71, Tryd.ntmps71
    go_wp2
    go_ret
    exact ⟨ret_bool E.out.symm, rfl⟩
  by_cases h5 : w = 0
  · by_cases h6 : h = 0
    · subst h5 h6
      have E := Lib.hid (show sized 0 0 = true by decide)
      go_enter Tryd.func71, Tryd.ntmps71
      go_wp2
      go_ret
      exact ⟨ret_bool E.out.symm, rfl⟩
    · have h6' : (h == 0) = false := by simp [h6]
      subst h5
      have E := Lib.hid (show sized 0 h = false by unfold sized; rw [decide_eq_false_iff_not]; omega)
      go_enter Tryd.func71, Tryd.ntmps71
      go_wp2
      go_ret
      exact ⟨ret_bool E.out.symm, rfl⟩
  · have h5' : (w == 0) = false := by simp [h5]
    by_cases h6 : h = 0
    · subst h6
      have E := Lib.hid (show sized w 0 = false by unfold sized; rw [decide_eq_false_iff_not]; omega)
      go_enter Tryd.func71, Tryd.ntmps71
      go_wp2
      go_ret
      exact ⟨ret_bool E.out.symm, rfl⟩
    · have h6' : (h == 0) = false := by simp [h6]
      have E := Lib.hid (show sized w h = true by unfold sized; rw [decide_eq_true_eq]; omega)
      go_enter Tryd.func71, Tryd.ntmps71
      go_wp2
      go_ret
      exact ⟨ret_bool E.out.symm, rfl⟩

theorem wh_bd (w h : Int) (h1 : sized w h = true) : 0 ≤ w * h ∧ w * h ≤ 65536 := by
  unfold sized at h1
  rw [decide_eq_true_eq] at h1
  have e1 : w * h ≤ 256 * 256 := Int.mul_le_mul (by omega) (by omega) (by omega) (by omega)
  have e0 : 0 ≤ w * h := Int.mul_nonneg (by omega) (by omega)
  omega

/-- The loop's head. -/
def ChkIRel (ps : List Px) (w : World) (i : Value) (wr : World) : Prop :=
  ∃ k : Nat, k ≤ ps.length ∧ i = .int .i64 k ∧ (∀ j, j < k → (pat ps j).ok) ∧ Below w.heap.size w wr

theorem px_eta (p : Px) : (⟨p.r, p.g, p.b, p.a⟩ : Px) = p := rfl

set_option maxHeartbeats 2000000 in
theorem icheck_any (W H : Int) (A : Option Addr) (n c : Nat) (ps : List Px) (w : World) (h : Pixs w w.heap.size (.slice A n c) ps) :
    Calls Tryd.prog 46 #[.agg #[.int .i64 W, .int .i64 H, .slice A n c]] w fun e w' => e = .returned (.int .i64 (ichk W H ps)) ∧ Below w.heap.size w w' := by
  obtain rfl := h.len
  have hmx := h.max
  by_cases hs : sized W H = true
  case neg =>
    have hs' : sized W H = false := by simpa using hs
    have E := Lib.hid (show ichk W H ps = 15 by unfold ichk; rw [if_neg (fun e => hs e.1)])
    have HS := Lib.hid hs'; clear hs hs' h
    go_enter Tryd.func46, Tryd.ntmps46
    go_wp2_with fail
    refine (sized_any _ _ _).mono ?_
    rintro e w1 ⟨rfl, rfl⟩
    rw [HS.out]
    go_wp2_with fail
    go_ret
    exact ⟨ret_int E.out.symm, bel_alloc (Below.refl _ _) _⟩
  have hwh := wh_bd W H hs
  by_cases hl : (ps.length : Int) = W * H
  case neg =>
    have E := Lib.hid (show ichk W H ps = 15 by unfold ichk; rw [if_neg (fun e => hl e.2)])
    have hne : ((ps.length : Int) != W * H) = true := by simp [hl]
    have HS := Lib.hid hs; clear hs h hl
    go_enter Tryd.func46, Tryd.ntmps46
    go_wp2_with fail
    refine (sized_any _ _ _).mono ?_
    rintro e w1 ⟨rfl, rfl⟩
    rw [HS.out]
    go_wp2_with fail
    go_ret
    exact ⟨ret_int E.out.symm, bel_alloc (Below.refl _ _) _⟩
  have E := Lib.hid (show ichk W H ps = if allOk ps then 0 else 2 by unfold ichk; rw [if_pos ⟨hs, hl⟩])
  have hne : ((ps.length : Int) != W * H) = false := by simp [hl]
  have hln : ps.length ≤ 65536 := by omega
  have HS := Lib.hid hs; clear hs hl
  have HP := Lib.hid h; clear h
  go_enter Tryd.func46, Tryd.ntmps46
  go_wp2_with fail
  refine (sized_any _ _ _).mono ?_
  rintro e w1 ⟨rfl, rfl⟩
  rw [HS.out]
  go_wp2_with fail
  have HP0 := Lib.hid (HP.out.alloc (.cells #[.int .i64 W, .int .i64 H, .slice A ps.length c] 45))
  have hB0 : Below w.heap.size w (w.alloc (.cells #[.int .i64 W, .int .i64 H, .slice A ps.length c] 45)) := bel_alloc (Below.refl _ _) _
  go_loopw [25] (ChkIRel ps (w.alloc (.cells #[.int .i64 W, .int .i64 H, .slice A ps.length c] 45))) (fun i _ => ps.length - (intOf i).toNat)
  case atStart => exact ⟨0, Nat.zero_le _, rfl, fun j hj => absurd hj (by omega), Below.refl _ _⟩
  case round =>
    obtain ⟨k, hk, rfl, hj, hbel⟩ := hrel
    have HJ := Lib.hid hj; clear hj
    by_cases hlt : k < ps.length
    · have hP := HP0.out.on hbel
      obtain ⟨A', c', ev, _, hc⟩ := hP
      obtain ⟨b, o, rfl, hb, c1, c2, c3, c4⟩ := hc k hlt
      injection ev with ev1 _ ev3
      subst ev1
      clear hc ev3
      have HNO := Lib.hid (allOk_no ps k hlt)
      generalize hp : pat ps k = p at *
      have HPK := Lib.hid hp; clear hp
      obtain ⟨r, g, bl, al⟩ := p
      simp only at c1 c2 c3 c4
      by_cases hok : (Px.mk r g bl al).ok
      · have HOK := Lib.hid ((pxOk_iff _).2 hok)
        have HO := Lib.hid hok; clear hok
        go_wp2_with fail
        refine (pvalid_any _ _ _ _ _).mono ?_
        rintro e w4 ⟨rfl, hb4⟩
        rw [HOK.out]
        go_wp2_with fail
        go_roundw
        case rel =>
          refine ⟨k + 1, by omega, by go_num, fun j hj => ?_, (hbel.alloc hbel.size _).trans (hb4.mono (by have := hbel.size; simp at this ⊢; omega))⟩
          by_cases e : j = k
          · subst e; rw [HPK.out]; exact HO.out
          · exact HJ.out j (by omega)
        case measure => simp [intOf]; omega
      · have HOK := Lib.hid (show pxOk ⟨r, g, bl, al⟩ = false by rw [Bool.eq_false_iff]; intro e; exact hok ((pxOk_iff _).1 e))
        have E2 := Lib.hid (HNO.out hok)
        go_wp2_with fail
        refine (pvalid_any _ _ _ _ _).mono ?_
        rintro e w4 ⟨rfl, hb4⟩
        rw [HOK.out]
        go_wp2_with fail
        go_ret
        exact ⟨ret_int (by rw [E.out, E2.out]; rfl), bel_trans hB0 ((hbel.alloc hbel.size _).trans (hb4.mono (by have := hbel.size; simp at this ⊢; omega)))⟩
    · have E2 := Lib.hid (show allOk ps = true by rw [allOk_iff]; intro i hi; exact HJ.out i (by omega))
      go_wp2_with fail
      go_ret
      exact ⟨ret_int (by rw [E.out, E2.out]; rfl), bel_trans hB0 hbel⟩
end Go.Proofs.YtmbglkholoblaaaDoor
