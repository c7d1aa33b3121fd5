/- Contracts of package pixel and of its reference: Limit, Valid, Dist. -/
import Derived.Test.YtmbglkholoblaaaDoorMem
import Derived.Test.YtmbglkholoblaaaDoorImgMath
import Derived.Deep.RegionHeld3
namespace Go.Proofs.YtmbglkholoblaaaDoor
open Go.RowKit

/-- A number limited to a unit value. -/
def lim16 (x : Int) : Int := min 65535 (max x 0)
theorem lim16_id (x : Int) (h : 0 ≤ x ∧ x ≤ 65535) : lim16 x = x := by unfold lim16; omega
theorem lim16_bd (x : Int) : 0 ≤ lim16 x ∧ lim16 x ≤ 65535 := by unfold lim16; omega
theorem lim16_ne (x : Int) (h : ¬ (0 ≤ x ∧ x ≤ 65535)) : lim16 x ≠ x := by unfold lim16; omega

set_option maxHeartbeats 400000 in
theorem punit_any (x : Int) (w : World) :
    Calls Tryd.prog 64 #[.int .i64 x] w fun e w' => e = .returned (.int .i64 (lim16 x)) ∧ w = w' := by
  go_enter Tryd.func64, Tryd.ntmps64
  go_wp2_with (go_at_call 69; refine (clamp_any _ _ _ _).mono ?_; rintro e w' ⟨rfl, rfl⟩)
  go_ret
  exact ⟨rfl, rfl⟩

set_option maxHeartbeats 400000 in
theorem rpunit_any (x : Int) (w : World) :
    Calls Tryd.prog 66 #[.int .i64 x] w fun e w' => e = .returned (.int .i64 (lim16 x)) ∧ w = w' := by
  go_enter Tryd.func66, Tryd.ntmps66
  go_wp2_with (go_at_call 89; refine (rclamp_any _ _ _ _).mono ?_; rintro e w' ⟨rfl, rfl⟩)
  go_ret
  exact ⟨rfl, rfl⟩

set_option maxHeartbeats 2000000 in
theorem limit_any (r g b a : Int) (w : World) :
    Calls Tryd.prog 33 #[.agg #[.int .i64 r, .int .i64 g, .int .i64 b, .int .i64 a]] w fun e w' => e = .returned (.agg #[.int .i64 (lim16 r), .int .i64 (lim16 g), .int .i64 (lim16 b), .int .i64 (lim16 a)]) ∧ Below w.heap.size w w' := by
  go_enter Tryd.func33, Tryd.ntmps33
  go_wp2_with fail
  go_region_held3 (fun w' => w'.cell? ⟨w.heap.size, 0, none⟩ = some (.int .i64 r) ∧ w'.cell? ⟨w.heap.size, 1, none⟩ = some (.int .i64 g) ∧ w'.cell? ⟨w.heap.size, 2, none⟩ = some (.int .i64 b) ∧ w'.cell? ⟨w.heap.size, 3, none⟩ = some (.int .i64 a))
    (go_keep)
    ((go_at_call 64; refine (punit_any _ _).mono ?_; rintro e w4 ⟨rfl, rfl⟩))
  go_wp2_with fail
  refine bodyPost_ret (v := .agg #[.int .i64 (lim16 r), .int .i64 (lim16 g), .int .i64 (lim16 b), .int .i64 (lim16 a)]) (by simp [results, Tryd.results33, go_sem]) rfl ⟨rfl, ?_⟩
  repeat (first | exact Below.refl _ _ | refine Below.drew ?_ | refine Below.drewN' ?_ _ | refine bel_alloc ?_ _)

set_option maxHeartbeats 2000000 in
theorem rlimit_any (r g b a : Int) (w : World) :
    Calls Tryd.prog 36 #[.agg #[.int .i64 r, .int .i64 g, .int .i64 b, .int .i64 a]] w fun e w' => e = .returned (.agg #[.int .i64 (lim16 r), .int .i64 (lim16 g), .int .i64 (lim16 b), .int .i64 (lim16 a)]) ∧ Below w.heap.size w w' := by
  go_enter Tryd.func36, Tryd.ntmps36
  go_wp2_with fail
  go_region_held3 (fun w' => w'.cell? ⟨w.heap.size, 0, none⟩ = some (.int .i64 r) ∧ w'.cell? ⟨w.heap.size, 1, none⟩ = some (.int .i64 g) ∧ w'.cell? ⟨w.heap.size, 2, none⟩ = some (.int .i64 b) ∧ w'.cell? ⟨w.heap.size, 3, none⟩ = some (.int .i64 a))
    (go_keep)
    ((go_at_call 66; refine (rpunit_any _ _).mono ?_; rintro e w4 ⟨rfl, rfl⟩))
  go_wp2_with fail
  refine bodyPost_ret (v := .agg #[.int .i64 (lim16 r), .int .i64 (lim16 g), .int .i64 (lim16 b), .int .i64 (lim16 a)]) (by simp [results, Tryd.results36, go_sem]) rfl ⟨rfl, ?_⟩
  repeat (first | exact Below.refl _ _ | refine Below.drew ?_ | refine Below.drewN' ?_ _ | refine bel_alloc ?_ _)

set_option maxHeartbeats 2000000 in
theorem pvalid_any (r g b a : Int) (w : World) :
    Calls Tryd.prog 19 #[.agg #[.int .i64 r, .int .i64 g, .int .i64 b, .int .i64 a]] w fun e w' => e = .returned (.bool (pxOk ⟨r, g, b, a⟩)) ∧ Below w.heap.size w w' := by
  by_cases hr : 0 ≤ r ∧ r ≤ 65535
  case neg =>
    have tr : (r == lim16 r) = false := by rw [beq_eq_false_iff_ne]; exact (lim16_ne r hr).symm
    have E := Lib.hid (show pxOk ⟨r, g, b, a⟩ = false by rw [Bool.eq_false_iff]; intro e; rw [pxOk_iff] at e; obtain ⟨e1, e2, e3, e4⟩ := e; exact absurd e1 hr)
    go_enter Tryd.func19, Tryd.ntmps19
    go_wp2_with fail
    go_region_held3 (fun w' => w'.cell? ⟨w.heap.size, 0, none⟩ = some (.int .i64 r) ∧ w'.cell? ⟨w.heap.size, 1, none⟩ = some (.int .i64 g) ∧ w'.cell? ⟨w.heap.size, 2, none⟩ = some (.int .i64 b) ∧ w'.cell? ⟨w.heap.size, 3, none⟩ = some (.int .i64 a))
      (first | go_keep | (go_split_ands; refine ⟨?_, ?_, ?_, ?_⟩ <;> (rw [hbw4.cell (by simp)]; assumption)))
      ((go_at_call 33; refine (limit_any _ _ _ _ _).mono ?_; rintro e w4 ⟨rfl, hbw4⟩))
    go_wp2_with fail
    go_ret
    exact ⟨ret_bool E.out.symm, ((bel_alloc (Below.refl _ _) _).drew).trans (hbw4.mono (by simp))⟩
  by_cases hg : 0 ≤ g ∧ g ≤ 65535
  case neg =>
    have tr : (r == lim16 r) = true := by rw [beq_iff_eq]; exact (lim16_id r hr).symm
    have tg : (g == lim16 g) = false := by rw [beq_eq_false_iff_ne]; exact (lim16_ne g hg).symm
    have E := Lib.hid (show pxOk ⟨r, g, b, a⟩ = false by rw [Bool.eq_false_iff]; intro e; rw [pxOk_iff] at e; obtain ⟨e1, e2, e3, e4⟩ := e; exact absurd e2 hg)
    go_enter Tryd.func19, Tryd.ntmps19
    go_wp2_with fail
    go_region_held3 (fun w' => w'.cell? ⟨w.heap.size, 0, none⟩ = some (.int .i64 r) ∧ w'.cell? ⟨w.heap.size, 1, none⟩ = some (.int .i64 g) ∧ w'.cell? ⟨w.heap.size, 2, none⟩ = some (.int .i64 b) ∧ w'.cell? ⟨w.heap.size, 3, none⟩ = some (.int .i64 a))
      (first | go_keep | (go_split_ands; refine ⟨?_, ?_, ?_, ?_⟩ <;> (rw [hbw4.cell (by simp)]; assumption)))
      ((go_at_call 33; refine (limit_any _ _ _ _ _).mono ?_; rintro e w4 ⟨rfl, hbw4⟩))
    go_wp2_with fail
    go_ret
    exact ⟨ret_bool E.out.symm, ((bel_alloc (Below.refl _ _) _).drew).trans (hbw4.mono (by simp))⟩
  by_cases hb : 0 ≤ b ∧ b ≤ 65535
  case neg =>
    have tr : (r == lim16 r) = true := by rw [beq_iff_eq]; exact (lim16_id r hr).symm
    have tg : (g == lim16 g) = true := by rw [beq_iff_eq]; exact (lim16_id g hg).symm
    have tb : (b == lim16 b) = false := by rw [beq_eq_false_iff_ne]; exact (lim16_ne b hb).symm
    have E := Lib.hid (show pxOk ⟨r, g, b, a⟩ = false by rw [Bool.eq_false_iff]; intro e; rw [pxOk_iff] at e; obtain ⟨e1, e2, e3, e4⟩ := e; exact absurd e3 hb)
    go_enter Tryd.func19, Tryd.ntmps19
    go_wp2_with fail
    go_region_held3 (fun w' => w'.cell? ⟨w.heap.size, 0, none⟩ = some (.int .i64 r) ∧ w'.cell? ⟨w.heap.size, 1, none⟩ = some (.int .i64 g) ∧ w'.cell? ⟨w.heap.size, 2, none⟩ = some (.int .i64 b) ∧ w'.cell? ⟨w.heap.size, 3, none⟩ = some (.int .i64 a))
      (first | go_keep | (go_split_ands; refine ⟨?_, ?_, ?_, ?_⟩ <;> (rw [hbw4.cell (by simp)]; assumption)))
      ((go_at_call 33; refine (limit_any _ _ _ _ _).mono ?_; rintro e w4 ⟨rfl, hbw4⟩))
    go_wp2_with fail
    go_ret
    exact ⟨ret_bool E.out.symm, ((bel_alloc (Below.refl _ _) _).drew).trans (hbw4.mono (by simp))⟩
  by_cases ha : 0 ≤ a ∧ a ≤ 65535
  case neg =>
    have tr : (r == lim16 r) = true := by rw [beq_iff_eq]; exact (lim16_id r hr).symm
    have tg : (g == lim16 g) = true := by rw [beq_iff_eq]; exact (lim16_id g hg).symm
    have tb : (b == lim16 b) = true := by rw [beq_iff_eq]; exact (lim16_id b hb).symm
    have ta : (a == lim16 a) = false := by rw [beq_eq_false_iff_ne]; exact (lim16_ne a ha).symm
    have E := Lib.hid (show pxOk ⟨r, g, b, a⟩ = false by rw [Bool.eq_false_iff]; intro e; rw [pxOk_iff] at e; obtain ⟨e1, e2, e3, e4⟩ := e; exact absurd e4 ha)
    go_enter Tryd.func19, Tryd.ntmps19
    go_wp2_with fail
    go_region_held3 (fun w' => w'.cell? ⟨w.heap.size, 0, none⟩ = some (.int .i64 r) ∧ w'.cell? ⟨w.heap.size, 1, none⟩ = some (.int .i64 g) ∧ w'.cell? ⟨w.heap.size, 2, none⟩ = some (.int .i64 b) ∧ w'.cell? ⟨w.heap.size, 3, none⟩ = some (.int .i64 a))
      (first | go_keep | (go_split_ands; refine ⟨?_, ?_, ?_, ?_⟩ <;> (rw [hbw4.cell (by simp)]; assumption)))
      ((go_at_call 33; refine (limit_any _ _ _ _ _).mono ?_; rintro e w4 ⟨rfl, hbw4⟩))
    go_wp2_with fail
    go_ret
    exact ⟨ret_bool E.out.symm, ((bel_alloc (Below.refl _ _) _).drew).trans (hbw4.mono (by simp))⟩
  case pos =>
    have tr : (r == lim16 r) = true := by rw [beq_iff_eq]; exact (lim16_id r hr).symm
    have tg : (g == lim16 g) = true := by rw [beq_iff_eq]; exact (lim16_id g hg).symm
    have tb : (b == lim16 b) = true := by rw [beq_iff_eq]; exact (lim16_id b hb).symm
    have ta : (a == lim16 a) = true := by rw [beq_iff_eq]; exact (lim16_id a ha).symm
    have E := Lib.hid (show pxOk ⟨r, g, b, a⟩ = true by rw [pxOk_iff]; exact ⟨hr, hg, hb, ha⟩)
    go_enter Tryd.func19, Tryd.ntmps19
    go_wp2_with fail
    go_region_held3 (fun w' => w'.cell? ⟨w.heap.size, 0, none⟩ = some (.int .i64 r) ∧ w'.cell? ⟨w.heap.size, 1, none⟩ = some (.int .i64 g) ∧ w'.cell? ⟨w.heap.size, 2, none⟩ = some (.int .i64 b) ∧ w'.cell? ⟨w.heap.size, 3, none⟩ = some (.int .i64 a))
      (first | go_keep | (go_split_ands; refine ⟨?_, ?_, ?_, ?_⟩ <;> (rw [hbw4.cell (by simp)]; assumption)))
      ((go_at_call 33; refine (limit_any _ _ _ _ _).mono ?_; rintro e w4 ⟨rfl, hbw4⟩))
    go_wp2_with fail
    go_ret
    exact ⟨ret_bool E.out.symm, ((bel_alloc (Below.refl _ _) _).drew).trans (hbw4.mono (by simp))⟩

set_option maxHeartbeats 2000000 in
theorem rpvalid_any (r g b a : Int) (w : World) :
    Calls Tryd.prog 29 #[.agg #[.int .i64 r, .int .i64 g, .int .i64 b, .int .i64 a]] w fun e w' => e = .returned (.bool (pxOk ⟨r, g, b, a⟩)) ∧ Below w.heap.size w w' := by
  by_cases hr : 0 ≤ r ∧ r ≤ 65535
  case neg =>
    have tr : (lim16 r == r) = false := by rw [beq_eq_false_iff_ne]; exact lim16_ne r hr
    have E := Lib.hid (show pxOk ⟨r, g, b, a⟩ = false by rw [Bool.eq_false_iff]; intro e; rw [pxOk_iff] at e; obtain ⟨e1, e2, e3, e4⟩ := e; exact absurd e1 hr)
    go_enter Tryd.func29, Tryd.ntmps29
    go_wp2_with fail
    go_region_held3 (fun w' => w'.cell? ⟨w.heap.size, 0, none⟩ = some (.int .i64 r) ∧ w'.cell? ⟨w.heap.size, 1, none⟩ = some (.int .i64 g) ∧ w'.cell? ⟨w.heap.size, 2, none⟩ = some (.int .i64 b) ∧ w'.cell? ⟨w.heap.size, 3, none⟩ = some (.int .i64 a))
      (first | go_keep | (go_split_ands; refine ⟨?_, ?_, ?_, ?_⟩ <;> (rw [hbw4.cell (by simp)]; assumption)))
      ((go_at_call 36; refine (rlimit_any _ _ _ _ _).mono ?_; rintro e w4 ⟨rfl, hbw4⟩))
    go_wp2_with fail
    go_ret
    exact ⟨ret_bool E.out.symm, ((bel_alloc (Below.refl _ _) _).drew).trans (hbw4.mono (by simp))⟩
  by_cases hg : 0 ≤ g ∧ g ≤ 65535
  case neg =>
    have tr : (lim16 r == r) = true := by rw [beq_iff_eq]; exact lim16_id r hr
    have tg : (lim16 g == g) = false := by rw [beq_eq_false_iff_ne]; exact lim16_ne g hg
    have E := Lib.hid (show pxOk ⟨r, g, b, a⟩ = false by rw [Bool.eq_false_iff]; intro e; rw [pxOk_iff] at e; obtain ⟨e1, e2, e3, e4⟩ := e; exact absurd e2 hg)
    go_enter Tryd.func29, Tryd.ntmps29
    go_wp2_with fail
    go_region_held3 (fun w' => w'.cell? ⟨w.heap.size, 0, none⟩ = some (.int .i64 r) ∧ w'.cell? ⟨w.heap.size, 1, none⟩ = some (.int .i64 g) ∧ w'.cell? ⟨w.heap.size, 2, none⟩ = some (.int .i64 b) ∧ w'.cell? ⟨w.heap.size, 3, none⟩ = some (.int .i64 a))
      (first | go_keep | (go_split_ands; refine ⟨?_, ?_, ?_, ?_⟩ <;> (rw [hbw4.cell (by simp)]; assumption)))
      ((go_at_call 36; refine (rlimit_any _ _ _ _ _).mono ?_; rintro e w4 ⟨rfl, hbw4⟩))
    go_wp2_with fail
    go_ret
    exact ⟨ret_bool E.out.symm, ((bel_alloc (Below.refl _ _) _).drew).trans (hbw4.mono (by simp))⟩
  by_cases hb : 0 ≤ b ∧ b ≤ 65535
  case neg =>
    have tr : (lim16 r == r) = true := by rw [beq_iff_eq]; exact lim16_id r hr
    have tg : (lim16 g == g) = true := by rw [beq_iff_eq]; exact lim16_id g hg
    have tb : (lim16 b == b) = false := by rw [beq_eq_false_iff_ne]; exact lim16_ne b hb
    have E := Lib.hid (show pxOk ⟨r, g, b, a⟩ = false by rw [Bool.eq_false_iff]; intro e; rw [pxOk_iff] at e; obtain ⟨e1, e2, e3, e4⟩ := e; exact absurd e3 hb)
    go_enter Tryd.func29, Tryd.ntmps29
    go_wp2_with fail
    go_region_held3 (fun w' => w'.cell? ⟨w.heap.size, 0, none⟩ = some (.int .i64 r) ∧ w'.cell? ⟨w.heap.size, 1, none⟩ = some (.int .i64 g) ∧ w'.cell? ⟨w.heap.size, 2, none⟩ = some (.int .i64 b) ∧ w'.cell? ⟨w.heap.size, 3, none⟩ = some (.int .i64 a))
      (first | go_keep | (go_split_ands; refine ⟨?_, ?_, ?_, ?_⟩ <;> (rw [hbw4.cell (by simp)]; assumption)))
      ((go_at_call 36; refine (rlimit_any _ _ _ _ _).mono ?_; rintro e w4 ⟨rfl, hbw4⟩))
    go_wp2_with fail
    go_ret
    exact ⟨ret_bool E.out.symm, ((bel_alloc (Below.refl _ _) _).drew).trans (hbw4.mono (by simp))⟩
  by_cases ha : 0 ≤ a ∧ a ≤ 65535
  case neg =>
    have tr : (lim16 r == r) = true := by rw [beq_iff_eq]; exact lim16_id r hr
    have tg : (lim16 g == g) = true := by rw [beq_iff_eq]; exact lim16_id g hg
    have tb : (lim16 b == b) = true := by rw [beq_iff_eq]; exact lim16_id b hb
    have ta : (lim16 a == a) = false := by rw [beq_eq_false_iff_ne]; exact lim16_ne a ha
    have E := Lib.hid (show pxOk ⟨r, g, b, a⟩ = false by rw [Bool.eq_false_iff]; intro e; rw [pxOk_iff] at e; obtain ⟨e1, e2, e3, e4⟩ := e; exact absurd e4 ha)
    go_enter Tryd.func29, Tryd.ntmps29
    go_wp2_with fail
    go_region_held3 (fun w' => w'.cell? ⟨w.heap.size, 0, none⟩ = some (.int .i64 r) ∧ w'.cell? ⟨w.heap.size, 1, none⟩ = some (.int .i64 g) ∧ w'.cell? ⟨w.heap.size, 2, none⟩ = some (.int .i64 b) ∧ w'.cell? ⟨w.heap.size, 3, none⟩ = some (.int .i64 a))
      (first | go_keep | (go_split_ands; refine ⟨?_, ?_, ?_, ?_⟩ <;> (rw [hbw4.cell (by simp)]; assumption)))
      ((go_at_call 36; refine (rlimit_any _ _ _ _ _).mono ?_; rintro e w4 ⟨rfl, hbw4⟩))
    go_wp2_with fail
    go_ret
    exact ⟨ret_bool E.out.symm, ((bel_alloc (Below.refl _ _) _).drew).trans (hbw4.mono (by simp))⟩
  case pos =>
    have tr : (lim16 r == r) = true := by rw [beq_iff_eq]; exact lim16_id r hr
    have tg : (lim16 g == g) = true := by rw [beq_iff_eq]; exact lim16_id g hg
    have tb : (lim16 b == b) = true := by rw [beq_iff_eq]; exact lim16_id b hb
    have ta : (lim16 a == a) = true := by rw [beq_iff_eq]; exact lim16_id a ha
    have E := Lib.hid (show pxOk ⟨r, g, b, a⟩ = true by rw [pxOk_iff]; exact ⟨hr, hg, hb, ha⟩)
    go_enter Tryd.func29, Tryd.ntmps29
    go_wp2_with fail
    go_region_held3 (fun w' => w'.cell? ⟨w.heap.size, 0, none⟩ = some (.int .i64 r) ∧ w'.cell? ⟨w.heap.size, 1, none⟩ = some (.int .i64 g) ∧ w'.cell? ⟨w.heap.size, 2, none⟩ = some (.int .i64 b) ∧ w'.cell? ⟨w.heap.size, 3, none⟩ = some (.int .i64 a))
      (first | go_keep | (go_split_ands; refine ⟨?_, ?_, ?_, ?_⟩ <;> (rw [hbw4.cell (by simp)]; assumption)))
      ((go_at_call 36; refine (rlimit_any _ _ _ _ _).mono ?_; rintro e w4 ⟨rfl, hbw4⟩))
    go_wp2_with fail
    go_ret
    exact ⟨ret_bool E.out.symm, ((bel_alloc (Below.refl _ _) _).drew).trans (hbw4.mono (by simp))⟩
end Go.Proofs.YtmbglkholoblaaaDoor
