/- The reference's Div with a divisor of either sign. -/
import Derived.Test.YtineinmghajmnaaMN
namespace Go.Proofs.Ytineinmghajmnaa
open Go.RowKit
attribute [local go_sem 2000] run_max2m run_min2m
theorem wrap_in28 (n : Int) (h : -9223372036854775808 ≤ n ∧ n ≤ 9223372036854775807) : IntKind.i64.wrap n = n := by rw [IntKind.wrap_i64]; omega
set_option maxHeartbeats 400000 in
theorem rfloor_neg (a b : Int) (w : World) (ha : -4611686018427387904 ≤ a) (ha' : a ≤ 4611686018427387904) (hb : b < 0) (hb' : -4611686018427387904 ≤ b) :
    Calls Try.prog 64 #[.int .i64 a, .int .i64 b] w fun e w' => e = .returned (.int .i64 (-a / -b)) ∧ ∃ n, w' = w.drewN n := by
  have hbn := div_bounds (-a) (-b) (by omega) (by omega) (by omega)
  have h0 : (b == 0) = false := by simp; omega
  have h0' : ¬ b = 0 := by omega
  have hmn : (a == -9223372036854775808) = false := by simp; omega
  have em : a.tmod b = -((-a).tmod (-b)) := by rw [Int.neg_tmod, Int.tmod_neg, Int.neg_neg]
  have ed : a.tdiv b = (-a).tdiv (-b) := by rw [Int.neg_tdiv, Int.tdiv_neg, Int.neg_neg]
  by_cases hz : (-a).tmod (-b) = 0
  · have e := tdiv_eq_zero (-a) (-b) (by omega) hz
    have hz1 : a.tmod b = 0 := by rw [em, hz]; rfl
    have hz2 : (a.tmod b != 0) = false := by rw [em, hz]; rfl
    rw [← ed] at e
    have E := Lib.hid e
    have hb2 : -4611686018427387905 ≤ a.tdiv b ∧ a.tdiv b ≤ 4611686018427387905 := by omega
    have q1 := wrap_in28 (a.tdiv b) (by omega)
    clear e em ed hz hbn
    generalize -a / -b = R at *
    go_enter Try.func64, Try.ntmps64
    go_wp2
    go_quiet (fail)
    go_wp2
    all_goals (go_ret; first | exact ⟨ret_int E.out, _, rfl⟩ | exact ⟨rfl, _, rfl⟩)
  · have hz2 : (a.tmod b != 0) = true := by rw [em]; simp; omega
    have hz3 : ¬ a.tmod b = 0 := by rw [em]; omega
    have hb1 : ¬ b = -1 := by intro e; subst e; exact hz (Int.tmod_one _)
    have hb3 : (b == -1) = false := by rw [beq_eq_false_iff_ne]; exact hb1
    by_cases hn : 0 < a
    · have e := tdiv_eq_neg (-a) (-b) (by omega) (by omega) hz
      rw [← ed] at e
      have hb2 : -4611686018427387903 ≤ a.tdiv b ∧ a.tdiv b ≤ 4611686018427387905 := by omega
      have E := Lib.hid e
      have hm0 : 0 ≤ a.tmod b := Int.tmod_nonneg b (by omega)
      have hd1 : decide (a.tmod b < 0) = false := by simp; omega
      have hd3 : decide (a % b < 0) = false := by rw [← Int.tmod_eq_emod_of_nonneg (by omega)]; exact hd1
      have hz4 : ¬ a % b = 0 := by rw [← Int.tmod_eq_emod_of_nonneg (by omega)]; exact hz3
      have hz5 : (a % b != 0) = true := by simp [hz4]
      have hd2 : decide (b < 0) = true := by simp; omega
      have q1 := wrap_in28 (a.tdiv b) (by omega)
      clear e em ed hz hbn
      generalize -a / -b = R at *
      go_enter Try.func64, Try.ntmps64
      go_wp2
      go_quiet (fail)
      go_wp2
      all_goals (go_ret; first | exact ⟨ret_int E.out, _, rfl⟩ | exact ⟨rfl, _, rfl⟩)
    · have ha0 : a < 0 := by
        rcases Int.lt_or_eq_of_le (show a ≤ 0 by omega) with c | c
        · exact c
        · subst c; exact absurd (by simp) hz
      have e := tdiv_eq_pos (-a) (-b) (by omega)
      rw [← ed] at e
      have E := Lib.hid e
      have hb2 : -4611686018427387905 ≤ a.tdiv b ∧ a.tdiv b ≤ 4611686018427387905 := by omega
      have hm0 : 0 ≤ (-a).tmod (-b) := Int.tmod_nonneg _ (by omega)
      have hd1 : decide (a.tmod b < 0) = true := by rw [em]; simp; omega
      have hd2 : decide (b < 0) = true := by simp; omega
      have q1 := wrap_in28 (a.tdiv b) (by omega)
      clear e em ed hz hbn hm0
      generalize -a / -b = R at *
      go_enter Try.func64, Try.ntmps64
      go_wp2
      go_quiet (fail)
      go_wp2
      all_goals (go_ret; first | exact ⟨ret_int E.out, _, rfl⟩ | exact ⟨rfl, _, rfl⟩)
theorem ret_u28 {a b : Int} (h : a = b) : Ending.returned (.int .u64 a) = Ending.returned (.int .u64 b) := by rw [h]
set_option maxHeartbeats 400000 in
theorem rabs_neg (a n : Int) (w : World) (ha : a ≤ 0) (ha' : -4611686018427387904 ≤ a) (hn : -a = n) :
    Calls Try.prog 84 #[.int .i64 a] w fun e w' => e = .returned (.int .u64 n) ∧ w = w' := by
  have hU : IntKind.u64.wrap (-IntKind.u64.wrap a) = n := by rw [IntKind.wrap_u64, IntKind.wrap_u64]; omega
  rcases Int.lt_or_eq_of_le ha with h | h
  · go_enter Try.func84, Try.ntmps84
    go_wp2
    all_goals (go_ret; first | exact ⟨ret_u28 hU, rfl⟩ | exact ⟨rfl, rfl⟩)
  · subst h
    obtain rfl : n = 0 := by omega
    exact rabs_any 0 w (by omega) (by omega)
set_option maxHeartbeats 400000 in
theorem rdiv_core (a b Q R r m z y : Int) (w : World) (h0 : (b == 0) = false) (hmn : (a == -9223372036854775808) = false) (hQ : -4611686018427387905 ≤ Q ∧ Q ≤ 4611686018427387905) (hz : b * Q = z) (hy : a - z = y) (hbQ : -9223372036854775808 ≤ z ∧ z ≤ 9223372036854775807)
    (hr1 : -9223372036854775808 ≤ y ∧ y ≤ 9223372036854775807) (hr : 0 ≤ r ∧ r ≤ m) (hm : m ≤ 4611686018427387904) (up : Bool) (hup : decide (m - r ≤ r) = up) (hR : R = if up then Q + 1 else Q)
    (FL : ∀ w, Calls Try.prog 64 #[.int .i64 a, .int .i64 b] w fun e w' => e = .returned (.int .i64 Q) ∧ ∃ n, w' = w.drewN n)
    (A1 : ∀ w, Calls Try.prog 84 #[.int .i64 y] w fun e w' => e = .returned (.int .u64 r) ∧ w = w')
    (A2 : ∀ w, Calls Try.prog 84 #[.int .i64 b] w fun e w' => e = .returned (.int .u64 m) ∧ w = w') :
    Calls Try.prog 51 #[.int .i64 a, .int .i64 b] w fun e w' => e = .returned (.int .i64 R) ∧ ∃ n, w' = w.drewN n := by
  have q1 : IntKind.i64.wrap (b * Q) = z := by rw [hz]; exact wrap_in28 z hbQ
  have q2 : IntKind.i64.wrap (a - z) = y := by rw [hy]; exact wrap_in28 y hr1
  clear hz hy
  replace FL := Lib.hid FL; replace A1 := Lib.hid A1; replace A2 := Lib.hid A2
  have q3 : IntKind.u64.wrap (m - r) = m - r := by rw [IntKind.wrap_u64]; omega
  cases up
  · have e : R = Q := by rw [hR]; rfl
    clear hR
    subst e
    go_enter Try.func51, Try.ntmps51
    go_wp2_with (first | (go_at_call 64; refine (FL.out _).mono ?_; rintro e w' ⟨rfl, n, rfl⟩) | (go_at_call 84; (first | with_reducible refine (A1.out _).mono ?_ | with_reducible refine (A2.out _).mono ?_); rintro e w' ⟨rfl, rfl⟩))
    go_ret
    exact ⟨rfl, _, rfl⟩
  · have E := Lib.hid (show R = Q + 1 by rw [hR]; rfl)
    clear hR
    go_enter Try.func51, Try.ntmps51
    go_wp2_with (first | (go_at_call 64; refine (FL.out _).mono ?_; rintro e w' ⟨rfl, n, rfl⟩) | (go_at_call 84; (first | with_reducible refine (A1.out _).mono ?_ | with_reducible refine (A2.out _).mono ?_); rintro e w' ⟨rfl, rfl⟩))
    go_ret
    exact ⟨ret_int E.out.symm, _, rfl⟩
theorem rdiv_neg (a b : Int) (w : World) (ha : -4611686018427387904 ≤ a) (ha' : a ≤ 4611686018427387904) (hb : b < 0) (hb' : -4611686018427387904 ≤ b) :
    Calls Try.prog 51 #[.int .i64 a, .int .i64 b] w fun e w' => e = .returned (.int .i64 (rdiv (-a) (-b))) ∧ ∃ n, w' = w.drewN n := by
  have hbn := div_bounds (-a) (-b) (by omega) (by omega) (by omega)
  have h2 := div_mul (-a) (-b) (by omega)
  have en : -b * (-a / -b) = -(b * (-a / -b)) := by grind
  have FL := fun w => rfloor_neg a b w ha ha' hb hb'
  have up1 := rdiv_up (-a) (-b) (by omega)
  have dn1 := rdiv_down (-a) (-b) (by omega)
  rw [en] at h2 up1 dn1
  generalize rdiv (-a) (-b) = R at *
  generalize -a / -b = Q at *
  refine rdiv_core a b Q R (-(a - b * Q)) (-b) _ _ w (by simp; omega) (by simp; omega) (by omega) rfl rfl (by omega) (by omega) (by omega) (by omega) _ rfl ?_ FL (fun w => rabs_neg _ _ w (by omega) (by omega) rfl) (fun w => rabs_neg b _ w (by omega) (by omega) rfl)
  by_cases c : -b - -(a - b * Q) ≤ -(a - b * Q)
  · rw [if_pos (by simpa using c)]; exact (up1 (by omega)).symm
  · rw [if_neg (by simpa using c)]; exact (dn1 (by omega)).symm
theorem rsdiv_any (a b : Int) (w : World) (ha : -4611686018427387904 ≤ a) (ha' : a ≤ 4611686018427387904) (h0 : b ≠ 0) (hb : -4611686018427387904 ≤ b) (hb' : b ≤ 4611686018427387904) :
    Calls Try.prog 51 #[.int .i64 a, .int .i64 b] w fun e w' => e = .returned (.int .i64 (sdiv a b)) ∧ ∃ n, w' = w.drewN n := by
  unfold sdiv
  by_cases h : 0 < b
  · rw [if_pos h]; exact rdiv_any a b w ha ha' h hb'
  · rw [if_neg h]; exact rdiv_neg a b w ha ha' (by omega) hb
end Go.Proofs.Ytineinmghajmnaa
namespace Go.Proofs.Ytineinmghajmnaa
open Go.RowKit
attribute [local go_sem 2000] run_max2m run_min2m
set_option maxRecDepth 100000 in
set_option maxHeartbeats 8000000 in
theorem rbox_e1 (a b c d e f rx ry rw rh E1 : Int) (w : World)
    (CK1 : ∀ w, Calls Try.prog 74 #[.agg #[.int .i64 a, .int .i64 b, .int .i64 c, .int .i64 d, .int .i64 e, .int .i64 f]] w fun z w' => z = .returned (.int .i64 E1) ∧ Below w.heap.size w w')
    (t1 : (E1 != 0) = true)
    : Calls Try.prog 46 #[.agg #[.int .i64 a, .int .i64 b, .int .i64 c, .int .i64 d, .int .i64 e, .int .i64 f], .agg #[.int .i64 rx, .int .i64 ry, .int .i64 rw, .int .i64 rh]] w fun z w' => z = .returned (.tuple #[.agg #[.int .i64 0, .int .i64 0, .int .i64 0, .int .i64 0], .int .i64 E1]) ∧ Below w.heap.size w w' := by
  replace CK1 := Lib.hid CK1
  go_enter Try.func46, Try.ntmps46
  go_wp2_with fail
  obtain ⟨k1, k2, k3, hB⟩ := box_boxes w a b c d e f rx ry rw rh _ rfl
  refine (CK1.out _).mono ?_
  rintro z wa ⟨rfl, hb⟩
  replace k1 := Lib.hid (k1.below hb); replace k2 := Lib.hid (k2.below hb); replace k3 := Lib.hid (k3.below hb); replace hB := Lib.hid (bel_trans hB hb)
  clear hb CK1
  obtain ⟨⟨r0, r1, r2, r3⟩, s0, s1, s2, s3⟩ := k3.out.four
  go_wp2_with fail
  refine bodyPost_ret (v := .tuple #[.agg #[.int .i64 0, .int .i64 0, .int .i64 0, .int .i64 0], .int .i64 E1]) (by simp [results, Try.results46, go_sem, *]) rfl ⟨rfl, ?_⟩
  repeat' (first | with_reducible exact hB.out | with_reducible apply Below.drew | with_reducible apply Below.drewN' | with_reducible apply Below.setCell)
  all_goals (show w.heap.size ≤ w.heap.size + 1 + 1; omega)
set_option maxRecDepth 100000 in
set_option maxHeartbeats 8000000 in
theorem rbox_e2 (a b c d e f rx ry rw rh  : Int) (w : World)
    (CK1 : ∀ w, Calls Try.prog 74 #[.agg #[.int .i64 a, .int .i64 b, .int .i64 c, .int .i64 d, .int .i64 e, .int .i64 f]] w fun z w' => z = .returned (.int .i64 0) ∧ Below w.heap.size w w')
    (VA : ∀ w, Calls Try.prog 39 #[.agg #[.int .i64 rx, .int .i64 ry, .int .i64 rw, .int .i64 rh]] w fun z w' => z = .returned (.bool false) ∧ Below w.heap.size w w')
    : Calls Try.prog 46 #[.agg #[.int .i64 a, .int .i64 b, .int .i64 c, .int .i64 d, .int .i64 e, .int .i64 f], .agg #[.int .i64 rx, .int .i64 ry, .int .i64 rw, .int .i64 rh]] w fun z w' => z = .returned (.tuple #[.agg #[.int .i64 0, .int .i64 0, .int .i64 0, .int .i64 0], .int .i64 2]) ∧ Below w.heap.size w w' := by
  replace CK1 := Lib.hid CK1
  replace VA := Lib.hid VA
  go_enter Try.func46, Try.ntmps46
  go_wp2_with fail
  obtain ⟨k1, k2, k3, hB⟩ := box_boxes w a b c d e f rx ry rw rh _ rfl
  refine (CK1.out _).mono ?_
  rintro z wa ⟨rfl, hb⟩
  replace k1 := Lib.hid (k1.below hb); replace k2 := Lib.hid (k2.below hb); replace k3 := Lib.hid (k3.below hb); replace hB := Lib.hid (bel_trans hB hb)
  clear hb CK1
  obtain ⟨⟨d0, d1, d2, d3⟩, g0, g1, g2, g3⟩ := k2.out.four
  go_wp2_with fail
  clear d0 d1 d2 d3 g0 g1 g2 g3
  refine (VA.out _).mono ?_
  rintro z wb ⟨rfl, hb⟩
  replace k1 := Lib.hid (k1.out.below hb); replace k2 := Lib.hid (k2.out.below hb); replace k3 := Lib.hid (k3.out.below hb); replace hB := Lib.hid (bel_trans hB.out hb)
  clear hb VA
  obtain ⟨⟨r0, r1, r2, r3⟩, s0, s1, s2, s3⟩ := k3.out.four
  go_wp2_with fail
  refine bodyPost_ret (v := .tuple #[.agg #[.int .i64 0, .int .i64 0, .int .i64 0, .int .i64 0], .int .i64 2]) (by simp [results, Try.results46, go_sem, *]) rfl ⟨rfl, ?_⟩
  repeat' (first | with_reducible exact hB.out | with_reducible apply Below.drew | with_reducible apply Below.drewN' | with_reducible apply Below.setCell)
  all_goals (show w.heap.size ≤ w.heap.size + 1 + 1; omega)
set_option maxRecDepth 100000 in
set_option maxHeartbeats 8000000 in
theorem rbox_e3 (a b c d e f rx ry rw rh  : Int) (w : World)
    (CK1 : ∀ w, Calls Try.prog 74 #[.agg #[.int .i64 a, .int .i64 b, .int .i64 c, .int .i64 d, .int .i64 e, .int .i64 f]] w fun z w' => z = .returned (.int .i64 0) ∧ Below w.heap.size w w')
    (VA : ∀ w, Calls Try.prog 39 #[.agg #[.int .i64 rx, .int .i64 ry, .int .i64 rw, .int .i64 rh]] w fun z w' => z = .returned (.bool true) ∧ Below w.heap.size w w')
    (EM : ∀ w, Calls Try.prog 41 #[.agg #[.int .i64 rx, .int .i64 ry, .int .i64 rw, .int .i64 rh]] w fun z w' => z = .returned (.bool true) ∧ Below w.heap.size w w')
    : Calls Try.prog 46 #[.agg #[.int .i64 a, .int .i64 b, .int .i64 c, .int .i64 d, .int .i64 e, .int .i64 f], .agg #[.int .i64 rx, .int .i64 ry, .int .i64 rw, .int .i64 rh]] w fun z w' => z = .returned (.tuple #[.agg #[.int .i64 0, .int .i64 0, .int .i64 0, .int .i64 0], .int .i64 0]) ∧ Below w.heap.size w w' := by
  replace CK1 := Lib.hid CK1
  replace VA := Lib.hid VA
  replace EM := Lib.hid EM
  go_enter Try.func46, Try.ntmps46
  go_wp2_with fail
  obtain ⟨k1, k2, k3, hB⟩ := box_boxes w a b c d e f rx ry rw rh _ rfl
  refine (CK1.out _).mono ?_
  rintro z wa ⟨rfl, hb⟩
  replace k1 := Lib.hid (k1.below hb); replace k2 := Lib.hid (k2.below hb); replace k3 := Lib.hid (k3.below hb); replace hB := Lib.hid (bel_trans hB hb)
  clear hb CK1
  obtain ⟨⟨d0, d1, d2, d3⟩, g0, g1, g2, g3⟩ := k2.out.four
  go_wp2_with fail
  clear d0 d1 d2 d3 g0 g1 g2 g3
  refine (VA.out _).mono ?_
  rintro z wb ⟨rfl, hb⟩
  replace k1 := Lib.hid (k1.out.below hb); replace k2 := Lib.hid (k2.out.below hb); replace k3 := Lib.hid (k3.out.below hb); replace hB := Lib.hid (bel_trans hB.out hb)
  clear hb VA
  obtain ⟨⟨d0, d1, d2, d3⟩, g0, g1, g2, g3⟩ := k2.out.four
  go_wp2_with fail
  clear d0 d1 d2 d3 g0 g1 g2 g3
  refine (EM.out _).mono ?_
  rintro z wc ⟨rfl, hb⟩
  replace k1 := Lib.hid (k1.out.below hb); replace k2 := Lib.hid (k2.out.below hb); replace k3 := Lib.hid (k3.out.below hb); replace hB := Lib.hid (bel_trans hB.out hb)
  clear hb EM
  obtain ⟨⟨r0, r1, r2, r3⟩, s0, s1, s2, s3⟩ := k3.out.four
  go_wp2_with fail
  refine bodyPost_ret (v := .tuple #[.agg #[.int .i64 0, .int .i64 0, .int .i64 0, .int .i64 0], .int .i64 0]) (by simp [results, Try.results46, go_sem, *]) rfl ⟨rfl, ?_⟩
  repeat' (first | with_reducible exact hB.out | with_reducible apply Below.drew | with_reducible apply Below.drewN' | with_reducible apply Below.setCell)
  all_goals (show w.heap.size ≤ w.heap.size + 1 + 1; omega)
end Go.Proofs.Ytineinmghajmnaa
namespace Go.Proofs.Ytineinmghajmnaa
open Go.RowKit
theorem af_bel1 (w : World) (o : Obj) : Below w.heap.size w (w.alloc o) := bel_alloc (Below.refl _ _) _
def af_rvalid (x y w h : Int) : Bool := af_sideOk x w && af_sideOk y h
def af_rempty (x y w h : Int) : Bool := !af_rvalid x y w h || w == 0 || h == 0
theorem af_rvalid_iff (x y w h : Int) : af_rvalid x y w h = true ↔ ((-1048576 ≤ x ∧ x ≤ 1048576) ∧ 0 ≤ w ∧ w ≤ 1048576 - x) ∧ ((-1048576 ≤ y ∧ y ≤ 1048576) ∧ 0 ≤ h ∧ h ≤ 1048576 - y) := by
  unfold af_rvalid af_sideOk; simp
theorem af_rvalid_no {x y w h : Int} (hn : ¬ (((-1048576 ≤ x ∧ x ≤ 1048576) ∧ 0 ≤ w ∧ w ≤ 1048576 - x) ∧ ((-1048576 ≤ y ∧ y ≤ 1048576) ∧ 0 ≤ h ∧ h ≤ 1048576 - y))) : af_rvalid x y w h = false := by
  rw [Bool.eq_false_iff]; exact fun e => hn ((af_rvalid_iff x y w h).1 e)
theorem box4r {w w4 : World} {t : TypeId} {x y p q : Value} (hb : Below (w.alloc (.cells #[x, y, p, q] t)).heap.size (w.alloc (.cells #[x, y, p, q] t)) w4) :
    w4.cell? ⟨w.heap.size, 0, none⟩ = some x ∧ w4.cell? ⟨w.heap.size, 1, none⟩ = some y ∧ w4.cell? ⟨w.heap.size, 2, none⟩ = some p ∧ w4.cell? ⟨w.heap.size, 3, none⟩ = some q := (((Bx.new w t #[x, y, p, q]).below hb).four).1
set_option maxHeartbeats 1000000 in
theorem af_rvalid_any (x y p q : Int) (w : World) : Calls Try.prog 39 #[.agg #[.int .i64 x, .int .i64 y, .int .i64 p, .int .i64 q]] w fun e w' => e = .returned (.bool (af_rvalid x y p q)) ∧ Below w.heap.size w w' := by
  by_cases h0 : -1048576 ≤ x
  case neg =>
    have E := Lib.hid (af_rvalid_no (x := x) (y := y) (w := p) (h := q) (by omega))
    go_enter Try.func39, Try.ntmps39
    go_wp2_with fail
    go_ret
    first | exact ⟨ret_bool E.out.symm, af_bel1 _ _⟩ | exact ⟨ret_bool (by rw [E.out]; simp; omega), af_bel1 _ _⟩
  by_cases h1 : x ≤ 1048576
  case neg =>
    have E := Lib.hid (af_rvalid_no (x := x) (y := y) (w := p) (h := q) (by omega))
    go_enter Try.func39, Try.ntmps39
    go_wp2_with fail
    go_ret
    first | exact ⟨ret_bool E.out.symm, af_bel1 _ _⟩ | exact ⟨ret_bool (by rw [E.out]; simp; omega), af_bel1 _ _⟩
  by_cases h2 : -1048576 ≤ y
  case neg =>
    have E := Lib.hid (af_rvalid_no (x := x) (y := y) (w := p) (h := q) (by omega))
    go_enter Try.func39, Try.ntmps39
    go_wp2_with fail
    go_ret
    first | exact ⟨ret_bool E.out.symm, af_bel1 _ _⟩ | exact ⟨ret_bool (by rw [E.out]; simp; omega), af_bel1 _ _⟩
  by_cases h3 : y ≤ 1048576
  case neg =>
    have E := Lib.hid (af_rvalid_no (x := x) (y := y) (w := p) (h := q) (by omega))
    go_enter Try.func39, Try.ntmps39
    go_wp2_with fail
    go_ret
    first | exact ⟨ret_bool E.out.symm, af_bel1 _ _⟩ | exact ⟨ret_bool (by rw [E.out]; simp; omega), af_bel1 _ _⟩
  by_cases h4 : 0 ≤ p
  case neg =>
    have E := Lib.hid (af_rvalid_no (x := x) (y := y) (w := p) (h := q) (by omega))
    go_enter Try.func39, Try.ntmps39
    go_wp2_with fail
    go_ret
    first | exact ⟨ret_bool E.out.symm, af_bel1 _ _⟩ | exact ⟨ret_bool (by rw [E.out]; simp; omega), af_bel1 _ _⟩
  by_cases h5 : 0 ≤ q
  case neg =>
    have E := Lib.hid (af_rvalid_no (x := x) (y := y) (w := p) (h := q) (by omega))
    go_enter Try.func39, Try.ntmps39
    go_wp2_with fail
    go_ret
    first | exact ⟨ret_bool E.out.symm, af_bel1 _ _⟩ | exact ⟨ret_bool (by rw [E.out]; simp; omega), af_bel1 _ _⟩
  by_cases h6 : p ≤ 1048576 - x
  case neg =>
    have E := Lib.hid (af_rvalid_no (x := x) (y := y) (w := p) (h := q) (by omega))
    go_enter Try.func39, Try.ntmps39
    go_wp2_with fail
    go_ret
    first | exact ⟨ret_bool E.out.symm, af_bel1 _ _⟩ | exact ⟨ret_bool (by rw [E.out]; simp; omega), af_bel1 _ _⟩
  by_cases h7 : q ≤ 1048576 - y
  case neg =>
    have E := Lib.hid (af_rvalid_no (x := x) (y := y) (w := p) (h := q) (by omega))
    go_enter Try.func39, Try.ntmps39
    go_wp2_with fail
    go_ret
    first | exact ⟨ret_bool E.out.symm, af_bel1 _ _⟩ | exact ⟨ret_bool (by rw [E.out]; simp; omega), af_bel1 _ _⟩
  have E := Lib.hid ((af_rvalid_iff x y p q).2 (by omega))
  go_enter Try.func39, Try.ntmps39
  go_wp2_with fail
  go_ret
  first | exact ⟨ret_bool E.out.symm, af_bel1 _ _⟩ | exact ⟨ret_bool (by rw [E.out]; simp; omega), af_bel1 _ _⟩
set_option maxHeartbeats 1000000 in
theorem af_rempty_any (x y p q : Int) (w : World) : Calls Try.prog 41 #[.agg #[.int .i64 x, .int .i64 y, .int .i64 p, .int .i64 q]] w fun e w' => e = .returned (.bool (af_rempty x y p q)) ∧ Below w.heap.size w w' := by
  have S := Lib.hid (af_rvalid_any x y p q)
  unfold af_rempty
  cases hv : af_rvalid x y p q
  · rw [hv] at S
    go_enter Try.func41, Try.ntmps41
    go_wp2_with fail
    refine (S.out _).mono ?_
    rintro e w4 ⟨rfl, hb⟩
    go_wp2_with fail
    go_ret
    exact ⟨rfl, bel_trans (af_bel1 _ _) hb⟩
  · rw [hv] at S
    cases h : (p == 0)
    all_goals
      generalize hq : (q == 0) = B
      have t1 := h; have t2 := hq
      go_enter Try.func41, Try.ntmps41
      go_wp2_with fail
      refine (S.out _).mono ?_
      rintro e w4 ⟨rfl, hb⟩
      have K := Lib.hid (box4r hb)
      obtain ⟨c0, c1, c2, c3⟩ := K.out
      go_wp2_with fail
      go_ret
      exact ⟨rfl, bel_trans (af_bel1 _ _) hb⟩
end Go.Proofs.Ytineinmghajmnaa
