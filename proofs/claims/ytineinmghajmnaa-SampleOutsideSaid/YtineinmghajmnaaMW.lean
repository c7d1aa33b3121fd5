/- The reference's Check of an image: the same error. -/
import Derived.Test.YtineinmghajmnaaMB
import Derived.Test.YtineinmghajmnaaMV
import Derived.Test.YtineinmghajmnaaMG
namespace Go.Proofs.Ytineinmghajmnaa
open Go.RowKit

set_option maxHeartbeats 2000000 in
theorem richeck_any (W H : Int) (A : Option Addr) (n c : Nat) (ps : List Px) (w : World) (h : Pixs w w.heap.size (.slice A n c) ps) :
    Calls Try.prog 33 #[.agg #[.int .i64 W, .int .i64 H, .slice A n c]] w fun e w' => e = .returned (.int .i64 (ichk W H ps)) ∧ Below w.heap.size w w' := by
  obtain rfl := h.len
  have hmx := h.max
  by_cases h1 : 0 ≤ W
  case neg =>
    have E := Lib.hid (show ichk W H ps = 15 by unfold ichk; rw [if_neg (fun e => by have := e.1; unfold sized at this; rw [decide_eq_true_eq] at this; omega)])
    go_enter Try.func33, Try.ntmps33
    go_wp2_with fail
    go_ret
    exact ⟨ret_int E.out.symm, bel_alloc (Below.refl _ _) _⟩
  by_cases h2 : W ≤ 256
  case neg =>
    have E := Lib.hid (show ichk W H ps = 15 by unfold ichk; rw [if_neg (fun e => by have := e.1; unfold sized at this; rw [decide_eq_true_eq] at this; omega)])
    go_enter Try.func33, Try.ntmps33
    go_wp2_with fail
    go_ret
    exact ⟨ret_int E.out.symm, bel_alloc (Below.refl _ _) _⟩
  by_cases h3 : 0 ≤ H
  case neg =>
    have E := Lib.hid (show ichk W H ps = 15 by unfold ichk; rw [if_neg (fun e => by have := e.1; unfold sized at this; rw [decide_eq_true_eq] at this; omega)])
    go_enter Try.func33, Try.ntmps33
    go_wp2_with fail
    go_ret
    exact ⟨ret_int E.out.symm, bel_alloc (Below.refl _ _) _⟩
  by_cases h4 : H ≤ 256
  case neg =>
    have E := Lib.hid (show ichk W H ps = 15 by unfold ichk; rw [if_neg (fun e => by have := e.1; unfold sized at this; rw [decide_eq_true_eq] at this; omega)])
    go_enter Try.func33, Try.ntmps33
    go_wp2_with fail
    go_ret
    exact ⟨ret_int E.out.symm, bel_alloc (Below.refl _ _) _⟩
  have hwh : 0 ≤ W * H ∧ W * H ≤ 65536 := by
    have e1 : W * H ≤ 256 * 256 := Int.mul_le_mul (by omega) (by omega) (by omega) (by omega)
    have e0 : 0 ≤ W * H := Int.mul_nonneg (by omega) (by omega)
    omega
  by_cases hz : (W = 0 ↔ H = 0)
  case neg =>
    have E := Lib.hid (show ichk W H ps = 15 by unfold ichk; rw [if_neg (fun e => by have := e.1; unfold sized at this; rw [decide_eq_true_eq] at this; exact hz this.2.2.2.2)])
    rcases (show (W = 0 ∧ H ≠ 0) ∨ (W ≠ 0 ∧ H = 0) by omega) with ⟨rfl, z2⟩ | ⟨z1, rfl⟩
    · have z2' : (H == 0) = false := by simp [z2]
      clear hz
      go_enter Try.func33, Try.ntmps33
      go_wp2_with fail
      go_ret
      exact ⟨ret_int E.out.symm, bel_alloc (Below.refl _ _) _⟩
    · have z1' : (W == 0) = false := by simp [z1]
      clear hz
      go_enter Try.func33, Try.ntmps33
      go_wp2_with fail
      go_ret
      exact ⟨ret_int E.out.symm, bel_alloc (Below.refl _ _) _⟩
  have hs : sized W H = true := by unfold sized; rw [decide_eq_true_eq]; exact ⟨h1, h2, h3, h4, hz⟩
  have hzz : ((W == 0) = true ∧ (H == 0) = true) ∨ ((W == 0) = false ∧ (H == 0) = false) := by
    by_cases e : W = 0
    · left; simp [e, hz.1 e]
    · right; simp [e]; omega
  clear hz
  by_cases hl : (ps.length : Int) = W * H
  case neg =>
    have E := Lib.hid (show ichk W H ps = 15 by unfold ichk; rw [if_neg (fun e => hl e.2)])
    have hne : ((ps.length : Int) != W * H) = true := by simp [hl]
    clear hs h hl
    rcases hzz with ⟨z1, z2⟩ | ⟨z1, z2⟩
    all_goals
      go_enter Try.func33, Try.ntmps33
      go_wp2_with fail
      go_ret
      exact ⟨ret_int E.out.symm, bel_alloc (Below.refl _ _) _⟩
  have E := Lib.hid (show ichk W H ps = if allOk ps then 0 else 2 by unfold ichk; rw [if_pos ⟨hs, hl⟩])
  have hne : ((ps.length : Int) != W * H) = false := by simp [hl]
  have hln : ps.length ≤ 65536 := by omega
  clear hs hl
  have HP := Lib.hid h; clear h
  have HP0 := Lib.hid (HP.out.alloc (.cells #[.int .i64 W, .int .i64 H, .slice A ps.length c] 24))
  have hB0 : Below w.heap.size w (w.alloc (.cells #[.int .i64 W, .int .i64 H, .slice A ps.length c] 24)) := bel_alloc (Below.refl _ _) _
  rcases hzz with ⟨z1, z2⟩ | ⟨z1, z2⟩
  all_goals
    go_enter Try.func33, Try.ntmps33
    go_wp2_with fail
    go_loopw [3] (ChkIRel ps (w.alloc (.cells #[.int .i64 W, .int .i64 H, .slice A ps.length c] 24))) (fun i _ => ps.length - (intOf i).toNat)
    case atStart => exact ⟨0, Nat.zero_le _, rfl, fun j hj => absurd hj (by omega), Below.refl _ _⟩
    case round =>
      obtain ⟨k, hk, rfl, hj, hbel⟩ := hrel
      have HJ := Lib.hid hj; clear hj
      have hbx : wr.cell? ⟨w.heap.size, 2, none⟩ = some (.slice A ps.length c) := (hbel.cell (p := ⟨w.heap.size, 2, none⟩) (by simp)).trans (by simp)
      by_cases hlt : k < ps.length
      · have hP := HP0.out.on hbel
        obtain ⟨A', c', ev, _, hc⟩ := hP
        obtain ⟨b, o, rfl, hb, c1, c2, c3, c4⟩ := hc k hlt
        injection ev with ev1 _ ev3
        subst ev1
        clear hc ev3
        have HNO := Lib.hid (allOk_no ps k hlt)
        generalize hp : pat ps k = p at *
        have HPK := Lib.hid hp; clear hp
        obtain ⟨r, g, bl, al⟩ := p
        simp only at c1 c2 c3 c4
        by_cases hok : (Px.mk r g bl al).ok
        · have HOK := Lib.hid ((pxOk_iff _).2 hok)
          have HO := Lib.hid hok; clear hok
          go_wp2_with fail
          refine (rpvalid_any _ _ _ _ _).mono ?_
          rintro e w4 ⟨rfl, hb4⟩
          rw [HOK.out]
          go_wp2_with fail
          go_roundw
          case rel =>
            refine ⟨k + 1, by omega, by go_num, fun j hj => ?_, bel_trans hbel hb4⟩
            by_cases e : j = k
            · subst e; rw [HPK.out]; exact HO.out
            · exact HJ.out j (by omega)
          case measure => simp [intOf]; omega
        · have HOK := Lib.hid (show pxOk ⟨r, g, bl, al⟩ = false by rw [Bool.eq_false_iff]; intro e; exact hok ((pxOk_iff _).1 e))
          have E2 := Lib.hid (HNO.out hok)
          go_wp2_with fail
          refine (rpvalid_any _ _ _ _ _).mono ?_
          rintro e w4 ⟨rfl, hb4⟩
          rw [HOK.out]
          go_wp2_with fail
          go_ret
          exact ⟨ret_int (by rw [E.out, E2.out]; rfl), bel_trans hB0 (bel_trans hbel hb4)⟩
      · have E2 := Lib.hid (show allOk ps = true by rw [allOk_iff]; intro i hi; exact HJ.out i (by omega))
        go_wp2_with fail
        go_ret
        exact ⟨ret_int (by rw [E.out, E2.out]; rfl), bel_trans hB0 hbel⟩
end Go.Proofs.Ytineinmghajmnaa
namespace Go.Proofs.Ytineinmghajmnaa
open Go.RowKit
theorem srcP_ok {W H : Int} {ps : List Px} (io : IOk W H ps) (edge : Bool) (x y : Int) : (srcP W H ps edge x y).ok := by
  unfold srcP
  split
  · exact pick_ok io _ _
  · exact pick_ok io _ _
theorem rsamp_any (W H : Int) (A : Option Addr) (c : Nat) (ps : List Px) (kind x y : Int) (edge : Bool) (w : World) (io : IOk W H ps) (hv : vld kind = true) (hp : Pixs w w.heap.size (.slice A ps.length c) ps) :
    Calls Try.prog 34 #[.agg #[.int .i64 W, .int .i64 H, .slice A ps.length c], .int .i64 kind, .int .i64 x, .int .i64 y, .bool edge] w (PxPost (samp (srcP W H ps edge) kind (cl x) (cl y)) w) := by
  unfold samp
  have e1 : min (max x (-1099511627776)) 1099511627776 = cl x := by unfold cl; omega
  have e2 : min (max y (-1099511627776)) 1099511627776 = cl y := by unfold cl; omega
  have b1 : -1099511627776 ≤ cl x ∧ cl x ≤ 1099511627776 := by unfold cl; omega
  have b2 : -1099511627776 ≤ cl y ∧ cl y ≤ 1099511627776 := by unfold cl; omega
  by_cases hk : kind = 0
  · subst hk
    rw [if_pos rfl]
    refine rsamp_near W H x y (cl x) (cl y) (cl x / 65536) (cl y / 65536) _ edge _ w e1 e2 (fun w => ?_) (fun w => ?_) (fun w' hb => rpick14_any W H A c ps _ _ edge w' io (hp.on hb))
    · refine (rfloor_any (cl x) 65536 w (by omega) (by omega) (by omega) (by omega)).mono ?_
      rintro e w' ⟨rfl, n, rfl⟩
      exact ⟨rfl, Below.drewN' (Below.refl _ _) n⟩
    · refine (rfloor_any (cl y) 65536 w (by omega) (by omega) (by omega) (by omega)).mono ?_
      rintro e w' ⟨rfl, n, rfl⟩
      exact ⟨rfl, Below.drewN' (Below.refl _ _) n⟩
  · rw [if_neg hk]
    exact rsamp_taps W H kind x y (cl x) (cl y) _ edge _ w e1 e2 (by simpa using hk) hv (srcP_ok io edge) (fun X Y w' hb => rpick14_any W H A c ps X Y edge w' io (hp.on hb))
set_option maxRecDepth 100000 in
set_option maxHeartbeats 4000000 in
theorem rsat_no (W H : Int) (v : Value) (kind x y E : Int) (V : Bool) (w : World) (tt : V = false ∨ (V = true ∧ (E != 0) = true))
    (TV : ∀ w, Calls Try.prog 32 #[.int .i64 kind] w fun e w' => e = .returned (.bool V) ∧ w = w')
    (TC : ∀ w', Below w.heap.size w w' → Calls Try.prog 33 #[.agg #[.int .i64 W, .int .i64 H, v]] w' fun e w'' => e = .returned (.int .i64 E) ∧ Below w'.heap.size w' w'') :
    Calls Try.prog 13 #[.agg #[.int .i64 W, .int .i64 H, v], .int .i64 kind, .int .i64 x, .int .i64 y] w (PxPost Px.zero w) := by
  replace TV := Lib.hid TV; replace TC := Lib.hid TC
  go_enter Try.func13, Try.ntmps13
  go_upto_region 1 with fail
  have K := Lib.hid (fr_two w #[.int .i64 W, .int .i64 H, v] #[.int .i64 0, .int .i64 0, .int .i64 0, .int .i64 0] 24 27 _ rfl)
  generalize World.alloc (World.alloc w _) _ = w0 at *
  obtain ⟨⟨i1, i2, i3⟩, -⟩ := K.out.1.1.three
  rcases tt with rfl | ⟨rfl, hE⟩
  · go_wp2_with fail
    refine (TV.out _).mono ?_
    rintro e w1 ⟨rfl, rfl⟩
    obtain ⟨⟨r1, r2, r3, r4⟩, f1, f2, f3, f4⟩ := K.out.1.2.1.four
    have HB := Lib.hid K.out.2
    clear K i1 i2 i3
    go_wp2_with fail
    refine bodyPost_ret (v := .agg #[.int .i64 0, .int .i64 0, .int .i64 0, .int .i64 0]) (by simp [results, Try.results13, go_sem, r1, r2, r3, r4]) rfl ⟨rfl, ?_⟩
    exact set4_below HB.out (by omega) _ _ _ _ _ _ _ _
  · go_wp2_with fail
    refine (TV.out _).mono ?_
    rintro e w1 ⟨rfl, rfl⟩
    go_wp2_with fail
    refine (TC.out _ K.out.2).mono ?_
    rintro e w1 ⟨rfl, hb⟩
    replace K := Lib.hid (K.out.below hb)
    obtain ⟨⟨r1, r2, r3, r4⟩, f1, f2, f3, f4⟩ := K.out.1.2.1.four
    have HB := Lib.hid K.out.2
    clear K i1 i2 i3 hb
    go_wp2_with fail
    refine bodyPost_ret (v := .agg #[.int .i64 0, .int .i64 0, .int .i64 0, .int .i64 0]) (by simp [results, Try.results13, go_sem, r1, r2, r3, r4]) rfl ⟨rfl, ?_⟩
    exact set4_below HB.out (by omega) _ _ _ _ _ _ _ _
set_option maxRecDepth 100000 in
set_option maxHeartbeats 4000000 in
theorem rsat_yes (W H : Int) (v : Value) (kind x y : Int) (u : Px) (w : World)
    (TV : ∀ w, Calls Try.prog 32 #[.int .i64 kind] w fun e w' => e = .returned (.bool true) ∧ w = w')
    (TC : ∀ w', Below w.heap.size w w' → Calls Try.prog 33 #[.agg #[.int .i64 W, .int .i64 H, v]] w' fun e w'' => e = .returned (.int .i64 0) ∧ Below w'.heap.size w' w'')
    (TA : ∀ w', Below w.heap.size w w' → Calls Try.prog 34 #[.agg #[.int .i64 W, .int .i64 H, v], .int .i64 kind, .int .i64 x, .int .i64 y, .bool false] w' (PxPost u w')) :
    Calls Try.prog 13 #[.agg #[.int .i64 W, .int .i64 H, v], .int .i64 kind, .int .i64 x, .int .i64 y] w (PxPost u w) := by
  replace TV := Lib.hid TV; replace TC := Lib.hid TC; replace TA := Lib.hid TA
  go_enter Try.func13, Try.ntmps13
  go_upto_region 1 with fail
  have K := Lib.hid (fr_two w #[.int .i64 W, .int .i64 H, v] #[.int .i64 0, .int .i64 0, .int .i64 0, .int .i64 0] 24 27 _ rfl)
  generalize World.alloc (World.alloc w _) _ = w0 at *
  obtain ⟨⟨i1, i2, i3⟩, -⟩ := K.out.1.1.three
  go_wp2_with fail
  refine (TV.out _).mono ?_
  rintro e w1 ⟨rfl, rfl⟩
  go_wp2_with fail
  refine (TC.out _ K.out.2).mono ?_
  rintro e w1 ⟨rfl, hb⟩
  replace K := Lib.hid (K.out.below hb)
  clear i1 i2 i3 hb
  obtain ⟨⟨i1, i2, i3⟩, -⟩ := K.out.1.1.three
  have TAw := Lib.hid (TA.out w1 K.out.2)
  go_wp2_with fail
  refine (TAw.out).mono ?_
  rintro e w4 ⟨rfl, hb⟩
  replace K := Lib.hid (K.out.below hb)
  obtain ⟨⟨r1, r2, r3, r4⟩, f1, f2, f3, f4⟩ := K.out.1.2.1.four
  have HB := Lib.hid K.out.2
  clear K hb TAw i1 i2 i3
  go_wp2_with fail
  refine bodyPost_ret (v := .agg #[.int .i64 u.r, .int .i64 u.g, .int .i64 u.b, .int .i64 u.a]) (by simp [results, Try.results13, go_sem, r1, r2, r3, r4]) rfl ⟨rfl, ?_⟩
  exact set4_below HB.out (by omega) _ _ _ _ _ _ _ _
theorem srcP_f (W H : Int) (ps : List Px) : srcP W H ps false = pick W H ps := by
  funext x y; unfold srcP; rw [if_neg (by decide)]
theorem rsat_any (W H : Int) (A : Option Addr) (c : Nat) (ps : List Px) (kind x y : Int) (w : World) (hp : Pixs w w.heap.size (.slice A ps.length c) ps) :
    Calls Try.prog 13 #[.agg #[.int .i64 W, .int .i64 H, .slice A ps.length c], .int .i64 kind, .int .i64 x, .int .i64 y] w (PxPost (sAt W H ps kind x y) w) := by
  have TV := rkvalid_any kind
  have TC := fun w' (hb : Below w.heap.size w w') => richeck_any W H A ps.length c ps w' (hp.on hb)
  unfold sAt
  by_cases hv : vld kind = true
  rotate_left
  · rw [if_neg (fun h => hv h.1)]
    rw [Bool.not_eq_true] at hv
    rw [hv] at TV
    exact rsat_no W H _ kind x y _ false w (.inl rfl) TV TC
  rw [hv] at TV
  by_cases h1 : ichk W H ps = 0
  rotate_left
  · rw [if_neg (fun h => h1 h.2)]
    exact rsat_no W H _ kind x y _ true w (.inr ⟨rfl, by simpa using h1⟩) TV TC
  rw [if_pos ⟨hv, h1⟩]
  rw [h1] at TC
  have io := (ichk_iff W H ps).1 h1
  refine rsat_yes W H _ kind x y _ w TV TC (fun w' hb => ?_)
  have := rsamp_any W H A c ps kind x y false w' io hv (hp.on hb)
  rw [srcP_f] at this
  exact this
end Go.Proofs.Ytineinmghajmnaa
