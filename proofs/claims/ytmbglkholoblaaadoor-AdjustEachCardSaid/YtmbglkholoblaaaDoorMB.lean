/- Contracts of package pixel and of its reference: Limit, Valid, Dist. -/
import Derived.Test.YtmbglkholoblaaaDoorMA
import Derived.Deep.RegionHeld3
namespace Go.Proofs.YtmbglkholoblaaaDoor
open Go.RowKit

/-- A number limited to a unit value. -/
def lim16 (x : Int) : Int := min 65535 (max x 0)
theorem lim16_id (x : Int) (h : 0 ≤ x ∧ x ≤ 65535) : lim16 x = x := by unfold lim16; omega
theorem lim16_bd (x : Int) : 0 ≤ lim16 x ∧ lim16 x ≤ 65535 := by unfold lim16; omega
theorem lim16_ne (x : Int) (h : ¬ (0 ≤ x ∧ x ≤ 65535)) : lim16 x ≠ x := by unfold lim16; omega

set_option maxHeartbeats 400000 in
theorem punit_any (x : Int) (w : World) :
    Calls Tryd.prog 64 #[.int .i64 x] w fun e w' => e = .returned (.int .i64 (lim16 x)) ∧ w = w' := by
  go_enter Tryd.func64, Tryd.ntmps64
  go_wp2_with (go_at_call 69; refine (clamp_any _ _ _ _).mono ?_; rintro e w' ⟨rfl, rfl⟩)
  go_ret
  exact ⟨rfl, rfl⟩

set_option maxHeartbeats 400000 in
theorem rpunit_any (x : Int) (w : World) :
    Calls Tryd.prog 66 #[.int .i64 x] w fun e w' => e = .returned (.int .i64 (lim16 x)) ∧ w = w' := by
  go_enter Tryd.func66, Tryd.ntmps66
  go_wp2_with (go_at_call 89; refine (rclamp_any _ _ _ _).mono ?_; rintro e w' ⟨rfl, rfl⟩)
  go_ret
  exact ⟨rfl, rfl⟩

set_option maxHeartbeats 2000000 in
theorem limit_any (r g b a : Int) (w : World) :
    Calls Tryd.prog 33 #[.agg #[.int .i64 r, .int .i64 g, .int .i64 b, .int .i64 a]] w fun e w' => e = .returned (.agg #[.int .i64 (lim16 r), .int .i64 (lim16 g), .int .i64 (lim16 b), .int .i64 (lim16 a)]) ∧ Below w.heap.size w w' := by
  go_enter Tryd.func33, Tryd.ntmps33
  go_wp2_with fail
  go_region_held3 (fun w' => w'.cell? ⟨w.heap.size, 0, none⟩ = some (.int .i64 r) ∧ w'.cell? ⟨w.heap.size, 1, none⟩ = some (.int .i64 g) ∧ w'.cell? ⟨w.heap.size, 2, none⟩ = some (.int .i64 b) ∧ w'.cell? ⟨w.heap.size, 3, none⟩ = some (.int .i64 a))
    (go_keep)
    ((go_at_call 64; refine (punit_any _ _).mono ?_; rintro e w4 ⟨rfl, rfl⟩))
  go_wp2_with fail
  refine bodyPost_ret (v := .agg #[.int .i64 (lim16 r), .int .i64 (lim16 g), .int .i64 (lim16 b), .int .i64 (lim16 a)]) (by simp [results, Tryd.results33, go_sem]) rfl ⟨rfl, ?_⟩
  repeat (first | exact Below.refl _ _ | refine Below.drew ?_ | refine Below.drewN' ?_ _ | refine bel_alloc ?_ _)

set_option maxHeartbeats 2000000 in
theorem rlimit_any (r g b a : Int) (w : World) :
    Calls Tryd.prog 36 #[.agg #[.int .i64 r, .int .i64 g, .int .i64 b, .int .i64 a]] w fun e w' => e = .returned (.agg #[.int .i64 (lim16 r), .int .i64 (lim16 g), .int .i64 (lim16 b), .int .i64 (lim16 a)]) ∧ Below w.heap.size w w' := by
  go_enter Tryd.func36, Tryd.ntmps36
  go_wp2_with fail
  go_region_held3 (fun w' => w'.cell? ⟨w.heap.size, 0, none⟩ = some (.int .i64 r) ∧ w'.cell? ⟨w.heap.size, 1, none⟩ = some (.int .i64 g) ∧ w'.cell? ⟨w.heap.size, 2, none⟩ = some (.int .i64 b) ∧ w'.cell? ⟨w.heap.size, 3, none⟩ = some (.int .i64 a))
    (go_keep)
    ((go_at_call 66; refine (rpunit_any _ _).mono ?_; rintro e w4 ⟨rfl, rfl⟩))
  go_wp2_with fail
  refine bodyPost_ret (v := .agg #[.int .i64 (lim16 r), .int .i64 (lim16 g), .int .i64 (lim16 b), .int .i64 (lim16 a)]) (by simp [results, Tryd.results36, go_sem]) rfl ⟨rfl, ?_⟩
  repeat (first | exact Below.refl _ _ | refine Below.drew ?_ | refine Below.drewN' ?_ _ | refine bel_alloc ?_ _)

set_option maxHeartbeats 2000000 in
theorem pvalid_any (r g b a : Int) (w : World) :
    Calls Tryd.prog 19 #[.agg #[.int .i64 r, .int .i64 g, .int .i64 b, .int .i64 a]] w fun e w' => e = .returned (.bool (pxOk ⟨r, g, b, a⟩)) ∧ Below w.heap.size w w' := by
  by_cases hr : 0 ≤ r ∧ r ≤ 65535
  case neg =>
    have tr : (r == lim16 r) = false := by rw [beq_eq_false_iff_ne]; exact (lim16_ne r hr).symm
    have E := Lib.hid (show pxOk ⟨r, g, b, a⟩ = false by rw [Bool.eq_false_iff]; intro e; rw [pxOk_iff] at e; obtain ⟨e1, e2, e3, e4⟩ := e; exact absurd e1 hr)
    go_enter Tryd.func19, Tryd.ntmps19
    go_wp2_with fail
    go_region_held3 (fun w' => w'.cell? ⟨w.heap.size, 0, none⟩ = some (.int .i64 r) ∧ w'.cell? ⟨w.heap.size, 1, none⟩ = some (.int .i64 g) ∧ w'.cell? ⟨w.heap.size, 2, none⟩ = some (.int .i64 b) ∧ w'.cell? ⟨w.heap.size, 3, none⟩ = some (.int .i64 a))
      (first | go_keep | (go_split_ands; refine ⟨?_, ?_, ?_, ?_⟩ <;> (rw [hbw4.cell (by simp)]; assumption)))
      ((go_at_call 33; refine (limit_any _ _ _ _ _).mono ?_; rintro e w4 ⟨rfl, hbw4⟩))
    go_wp2_with fail
    go_ret
    exact ⟨ret_bool E.out.symm, ((bel_alloc (Below.refl _ _) _).drew).trans (hbw4.mono (by simp))⟩
  by_cases hg : 0 ≤ g ∧ g ≤ 65535
  case neg =>
    have tr : (r == lim16 r) = true := by rw [beq_iff_eq]; exact (lim16_id r hr).symm
    have tg : (g == lim16 g) = false := by rw [beq_eq_false_iff_ne]; exact (lim16_ne g hg).symm
    have E := Lib.hid (show pxOk ⟨r, g, b, a⟩ = false by rw [Bool.eq_false_iff]; intro e; rw [pxOk_iff] at e; obtain ⟨e1, e2, e3, e4⟩ := e; exact absurd e2 hg)
    go_enter Tryd.func19, Tryd.ntmps19
    go_wp2_with fail
    go_region_held3 (fun w' => w'.cell? ⟨w.heap.size, 0, none⟩ = some (.int .i64 r) ∧ w'.cell? ⟨w.heap.size, 1, none⟩ = some (.int .i64 g) ∧ w'.cell? ⟨w.heap.size, 2, none⟩ = some (.int .i64 b) ∧ w'.cell? ⟨w.heap.size, 3, none⟩ = some (.int .i64 a))
      (first | go_keep | (go_split_ands; refine ⟨?_, ?_, ?_, ?_⟩ <;> (rw [hbw4.cell (by simp)]; assumption)))
      ((go_at_call 33; refine (limit_any _ _ _ _ _).mono ?_; rintro e w4 ⟨rfl, hbw4⟩))
    go_wp2_with fail
    go_ret
    exact ⟨ret_bool E.out.symm, ((bel_alloc (Below.refl _ _) _).drew).trans (hbw4.mono (by simp))⟩
  by_cases hb : 0 ≤ b ∧ b ≤ 65535
  case neg =>
    have tr : (r == lim16 r) = true := by rw [beq_iff_eq]; exact (lim16_id r hr).symm
    have tg : (g == lim16 g) = true := by rw [beq_iff_eq]; exact (lim16_id g hg).symm
    have tb : (b == lim16 b) = false := by rw [beq_eq_false_iff_ne]; exact (lim16_ne b hb).symm
    have E := Lib.hid (show pxOk ⟨r, g, b, a⟩ = false by rw [Bool.eq_false_iff]; intro e; rw [pxOk_iff] at e; obtain ⟨e1, e2, e3, e4⟩ := e; exact absurd e3 hb)
    go_enter Tryd.func19, Tryd.ntmps19
    go_wp2_with fail
    go_region_held3 (fun w' => w'.cell? ⟨w.heap.size, 0, none⟩ = some (.int .i64 r) ∧ w'.cell? ⟨w.heap.size, 1, none⟩ = some (.int .i64 g) ∧ w'.cell? ⟨w.heap.size, 2, none⟩ = some (.int .i64 b) ∧ w'.cell? ⟨w.heap.size, 3, none⟩ = some (.int .i64 a))
      (first | go_keep | (go_split_ands; refine ⟨?_, ?_, ?_, ?_⟩ <;> (rw [hbw4.cell (by simp)]; assumption)))
      ((go_at_call 33; refine (limit_any _ _ _ _ _).mono ?_; rintro e w4 ⟨rfl, hbw4⟩))
    go_wp2_with fail
    go_ret
    exact ⟨ret_bool E.out.symm, ((bel_alloc (Below.refl _ _) _).drew).trans (hbw4.mono (by simp))⟩
  by_cases ha : 0 ≤ a ∧ a ≤ 65535
  case neg =>
    have tr : (r == lim16 r) = true := by rw [beq_iff_eq]; exact (lim16_id r hr).symm
    have tg : (g == lim16 g) = true := by rw [beq_iff_eq]; exact (lim16_id g hg).symm
    have tb : (b == lim16 b) = true := by rw [beq_iff_eq]; exact (lim16_id b hb).symm
    have ta : (a == lim16 a) = false := by rw [beq_eq_false_iff_ne]; exact (lim16_ne a ha).symm
    have E := Lib.hid (show pxOk ⟨r, g, b, a⟩ = false by rw [Bool.eq_false_iff]; intro e; rw [pxOk_iff] at e; obtain ⟨e1, e2, e3, e4⟩ := e; exact absurd e4 ha)
    go_enter Tryd.func19, Tryd.ntmps19
    go_wp2_with fail
    go_region_held3 (fun w' => w'.cell? ⟨w.heap.size, 0, none⟩ = some (.int .i64 r) ∧ w'.cell? ⟨w.heap.size, 1, none⟩ = some (.int .i64 g) ∧ w'.cell? ⟨w.heap.size, 2, none⟩ = some (.int .i64 b) ∧ w'.cell? ⟨w.heap.size, 3, none⟩ = some (.int .i64 a))
      (first | go_keep | (go_split_ands; refine ⟨?_, ?_, ?_, ?_⟩ <;> (rw [hbw4.cell (by simp)]; assumption)))
      ((go_at_call 33; refine (limit_any _ _ _ _ _).mono ?_; rintro e w4 ⟨rfl, hbw4⟩))
    go_wp2_with fail
    go_ret
    exact ⟨ret_bool E.out.symm, ((bel_alloc (Below.refl _ _) _).drew).trans (hbw4.mono (by simp))⟩
  case pos =>
    have tr : (r == lim16 r) = true := by rw [beq_iff_eq]; exact (lim16_id r hr).symm
    have tg : (g == lim16 g) = true := by rw [beq_iff_eq]; exact (lim16_id g hg).symm
    have tb : (b == lim16 b) = true := by rw [beq_iff_eq]; exact (lim16_id b hb).symm
    have ta : (a == lim16 a) = true := by rw [beq_iff_eq]; exact (lim16_id a ha).symm
    have E := Lib.hid (show pxOk ⟨r, g, b, a⟩ = true by rw [pxOk_iff]; exact ⟨hr, hg, hb, ha⟩)
    go_enter Tryd.func19, Tryd.ntmps19
    go_wp2_with fail
    go_region_held3 (fun w' => w'.cell? ⟨w.heap.size, 0, none⟩ = some (.int .i64 r) ∧ w'.cell? ⟨w.heap.size, 1, none⟩ = some (.int .i64 g) ∧ w'.cell? ⟨w.heap.size, 2, none⟩ = some (.int .i64 b) ∧ w'.cell? ⟨w.heap.size, 3, none⟩ = some (.int .i64 a))
      (first | go_keep | (go_split_ands; refine ⟨?_, ?_, ?_, ?_⟩ <;> (rw [hbw4.cell (by simp)]; assumption)))
      ((go_at_call 33; refine (limit_any _ _ _ _ _).mono ?_; rintro e w4 ⟨rfl, hbw4⟩))
    go_wp2_with fail
    go_ret
    exact ⟨ret_bool E.out.symm, ((bel_alloc (Below.refl _ _) _).drew).trans (hbw4.mono (by simp))⟩

set_option maxHeartbeats 2000000 in
theorem rpvalid_any (r g b a : Int) (w : World) :
    Calls Tryd.prog 29 #[.agg #[.int .i64 r, .int .i64 g, .int .i64 b, .int .i64 a]] w fun e w' => e = .returned (.bool (pxOk ⟨r, g, b, a⟩)) ∧ Below w.heap.size w w' := by
  by_cases hr : 0 ≤ r ∧ r ≤ 65535
  case neg =>
    have tr : (lim16 r == r) = false := by rw [beq_eq_false_iff_ne]; exact lim16_ne r hr
    have E := Lib.hid (show pxOk ⟨r, g, b, a⟩ = false by rw [Bool.eq_false_iff]; intro e; rw [pxOk_iff] at e; obtain ⟨e1, e2, e3, e4⟩ := e; exact absurd e1 hr)
    go_enter Tryd.func29, Tryd.ntmps29
    go_wp2_with fail
    go_region_held3 (fun w' => w'.cell? ⟨w.heap.size, 0, none⟩ = some (.int .i64 r) ∧ w'.cell? ⟨w.heap.size, 1, none⟩ = some (.int .i64 g) ∧ w'.cell? ⟨w.heap.size, 2, none⟩ = some (.int .i64 b) ∧ w'.cell? ⟨w.heap.size, 3, none⟩ = some (.int .i64 a))
      (first | go_keep | (go_split_ands; refine ⟨?_, ?_, ?_, ?_⟩ <;> (rw [hbw4.cell (by simp)]; assumption)))
      ((go_at_call 36; refine (rlimit_any _ _ _ _ _).mono ?_; rintro e w4 ⟨rfl, hbw4⟩))
    go_wp2_with fail
    go_ret
    exact ⟨ret_bool E.out.symm, ((bel_alloc (Below.refl _ _) _).drew).trans (hbw4.mono (by simp))⟩
  by_cases hg : 0 ≤ g ∧ g ≤ 65535
  case neg =>
    have tr : (lim16 r == r) = true := by rw [beq_iff_eq]; exact lim16_id r hr
    have tg : (lim16 g == g) = false := by rw [beq_eq_false_iff_ne]; exact lim16_ne g hg
    have E := Lib.hid (show pxOk ⟨r, g, b, a⟩ = false by rw [Bool.eq_false_iff]; intro e; rw [pxOk_iff] at e; obtain ⟨e1, e2, e3, e4⟩ := e; exact absurd e2 hg)
    go_enter Tryd.func29, Tryd.ntmps29
    go_wp2_with fail
    go_region_held3 (fun w' => w'.cell? ⟨w.heap.size, 0, none⟩ = some (.int .i64 r) ∧ w'.cell? ⟨w.heap.size, 1, none⟩ = some (.int .i64 g) ∧ w'.cell? ⟨w.heap.size, 2, none⟩ = some (.int .i64 b) ∧ w'.cell? ⟨w.heap.size, 3, none⟩ = some (.int .i64 a))
      (first | go_keep | (go_split_ands; refine ⟨?_, ?_, ?_, ?_⟩ <;> (rw [hbw4.cell (by simp)]; assumption)))
      ((go_at_call 36; refine (rlimit_any _ _ _ _ _).mono ?_; rintro e w4 ⟨rfl, hbw4⟩))
    go_wp2_with fail
    go_ret
    exact ⟨ret_bool E.out.symm, ((bel_alloc (Below.refl _ _) _).drew).trans (hbw4.mono (by simp))⟩
  by_cases hb : 0 ≤ b ∧ b ≤ 65535
  case neg =>
    have tr : (lim16 r == r) = true := by rw [beq_iff_eq]; exact lim16_id r hr
    have tg : (lim16 g == g) = true := by rw [beq_iff_eq]; exact lim16_id g hg
    have tb : (lim16 b == b) = false := by rw [beq_eq_false_iff_ne]; exact lim16_ne b hb
    have E := Lib.hid (show pxOk ⟨r, g, b, a⟩ = false by rw [Bool.eq_false_iff]; intro e; rw [pxOk_iff] at e; obtain ⟨e1, e2, e3, e4⟩ := e; exact absurd e3 hb)
    go_enter Tryd.func29, Tryd.ntmps29
    go_wp2_with fail
    go_region_held3 (fun w' => w'.cell? ⟨w.heap.size, 0, none⟩ = some (.int .i64 r) ∧ w'.cell? ⟨w.heap.size, 1, none⟩ = some (.int .i64 g) ∧ w'.cell? ⟨w.heap.size, 2, none⟩ = some (.int .i64 b) ∧ w'.cell? ⟨w.heap.size, 3, none⟩ = some (.int .i64 a))
      (first | go_keep | (go_split_ands; refine ⟨?_, ?_, ?_, ?_⟩ <;> (rw [hbw4.cell (by simp)]; assumption)))
      ((go_at_call 36; refine (rlimit_any _ _ _ _ _).mono ?_; rintro e w4 ⟨rfl, hbw4⟩))
    go_wp2_with fail
    go_ret
    exact ⟨ret_bool E.out.symm, ((bel_alloc (Below.refl _ _) _).drew).trans (hbw4.mono (by simp))⟩
  by_cases ha : 0 ≤ a ∧ a ≤ 65535
  case neg =>
    have tr : (lim16 r == r) = true := by rw [beq_iff_eq]; exact lim16_id r hr
    have tg : (lim16 g == g) = true := by rw [beq_iff_eq]; exact lim16_id g hg
    have tb : (lim16 b == b) = true := by rw [beq_iff_eq]; exact lim16_id b hb
    have ta : (lim16 a == a) = false := by rw [beq_eq_false_iff_ne]; exact lim16_ne a ha
    have E := Lib.hid (show pxOk ⟨r, g, b, a⟩ = false by rw [Bool.eq_false_iff]; intro e; rw [pxOk_iff] at e; obtain ⟨e1, e2, e3, e4⟩ := e; exact absurd e4 ha)
    go_enter Tryd.func29, Tryd.ntmps29
    go_wp2_with fail
    go_region_held3 (fun w' => w'.cell? ⟨w.heap.size, 0, none⟩ = some (.int .i64 r) ∧ w'.cell? ⟨w.heap.size, 1, none⟩ = some (.int .i64 g) ∧ w'.cell? ⟨w.heap.size, 2, none⟩ = some (.int .i64 b) ∧ w'.cell? ⟨w.heap.size, 3, none⟩ = some (.int .i64 a))
      (first | go_keep | (go_split_ands; refine ⟨?_, ?_, ?_, ?_⟩ <;> (rw [hbw4.cell (by simp)]; assumption)))
      ((go_at_call 36; refine (rlimit_any _ _ _ _ _).mono ?_; rintro e w4 ⟨rfl, hbw4⟩))
    go_wp2_with fail
    go_ret
    exact ⟨ret_bool E.out.symm, ((bel_alloc (Below.refl _ _) _).drew).trans (hbw4.mono (by simp))⟩
  case pos =>
    have tr : (lim16 r == r) = true := by rw [beq_iff_eq]; exact lim16_id r hr
    have tg : (lim16 g == g) = true := by rw [beq_iff_eq]; exact lim16_id g hg
    have tb : (lim16 b == b) = true := by rw [beq_iff_eq]; exact lim16_id b hb
    have ta : (lim16 a == a) = true := by rw [beq_iff_eq]; exact lim16_id a ha
    have E := Lib.hid (show pxOk ⟨r, g, b, a⟩ = true by rw [pxOk_iff]; exact ⟨hr, hg, hb, ha⟩)
    go_enter Tryd.func29, Tryd.ntmps29
    go_wp2_with fail
    go_region_held3 (fun w' => w'.cell? ⟨w.heap.size, 0, none⟩ = some (.int .i64 r) ∧ w'.cell? ⟨w.heap.size, 1, none⟩ = some (.int .i64 g) ∧ w'.cell? ⟨w.heap.size, 2, none⟩ = some (.int .i64 b) ∧ w'.cell? ⟨w.heap.size, 3, none⟩ = some (.int .i64 a))
      (first | go_keep | (go_split_ands; refine ⟨?_, ?_, ?_, ?_⟩ <;> (rw [hbw4.cell (by simp)]; assumption)))
      ((go_at_call 36; refine (rlimit_any _ _ _ _ _).mono ?_; rintro e w4 ⟨rfl, hbw4⟩))
    go_wp2_with fail
    go_ret
    exact ⟨ret_bool E.out.symm, ((bel_alloc (Below.refl _ _) _).drew).trans (hbw4.mono (by simp))⟩
end Go.Proofs.YtmbglkholoblaaaDoor
namespace Go.Proofs.YtmbglkholoblaaaDoor
open Go.RowKit

set_option maxHeartbeats 1000000 in
theorem sized_any (w h : Int) (W : World) :
    Calls Tryd.prog 71 #[.int .i64 w, .int .i64 h] W fun e w' => e = .returned (.bool (sized w h)) ∧ W = w' := by
  by_cases h1 : 0 ≤ w
  case neg =>
    have E := Lib.hid (show sized w h = false by unfold sized; rw [decide_eq_false_iff_not]; omega)
    go_enter Tryd.func71, Tryd.ntmps71
    go_wp2
    go_ret
    exact ⟨ret_bool E.out.symm, rfl⟩
  by_cases h2 : w ≤ 256
  case neg =>
    have E := Lib.hid (show sized w h = false by unfold sized; rw [decide_eq_false_iff_not]; omega)
    go_enter Tryd.func71, Tryd.ntmps71
    go_wp2
    go_ret
    exact ⟨ret_bool E.out.symm, rfl⟩
  by_cases h3 : 0 ≤ h
  case neg =>
    have E := Lib.hid (show sized w h = false by unfold sized; rw [decide_eq_false_iff_not]; omega)
    go_enter Tryd.func71, Tryd.ntmps71
    go_wp2
    go_ret
    exact ⟨ret_bool E.out.symm, rfl⟩
  by_cases h4 : h ≤ 256
  case neg =>
    have E := Lib.hid (show sized w h = false by unfold sized; rw [decide_eq_false_iff_not]; omega)
    go_enter Tryd.func71, Tryd.ntmps71
    go_wp2
    go_ret
    exact ⟨ret_bool E.out.symm, rfl⟩
  by_cases h5 : w = 0
  · by_cases h6 : h = 0
    · subst h5 h6
      have E := Lib.hid (show sized 0 0 = true by decide)
      go_enter Tryd.func71, Tryd.ntmps71
      go_wp2
      go_ret
      exact ⟨ret_bool E.out.symm, rfl⟩
    · have h6' : (h == 0) = false := by simp [h6]
      subst h5
      have E := Lib.hid (show sized 0 h = false by unfold sized; rw [decide_eq_false_iff_not]; omega)
      go_enter Tryd.func71, Tryd.ntmps71
      go_wp2
      go_ret
      exact ⟨ret_bool E.out.symm, rfl⟩
  · have h5' : (w == 0) = false := by simp [h5]
    by_cases h6 : h = 0
    · subst h6
      have E := Lib.hid (show sized w 0 = false by unfold sized; rw [decide_eq_false_iff_not]; omega)
      go_enter Tryd.func71, Tryd.ntmps71
      go_wp2
      go_ret
      exact ⟨ret_bool E.out.symm, rfl⟩
    · have h6' : (h == 0) = false := by simp [h6]
      have E := Lib.hid (show sized w h = true by unfold sized; rw [decide_eq_true_eq]; omega)
      go_enter Tryd.func71, Tryd.ntmps71
      go_wp2
      go_ret
      exact ⟨ret_bool E.out.symm, rfl⟩

theorem wh_bd (w h : Int) (h1 : sized w h = true) : 0 ≤ w * h ∧ w * h ≤ 65536 := by
  unfold sized at h1
  rw [decide_eq_true_eq] at h1
  have e1 : w * h ≤ 256 * 256 := Int.mul_le_mul (by omega) (by omega) (by omega) (by omega)
  have e0 : 0 ≤ w * h := Int.mul_nonneg (by omega) (by omega)
  omega

/-- The loop's head. -/
def ChkIRel (ps : List Px) (w : World) (i : Value) (wr : World) : Prop :=
  ∃ k : Nat, k ≤ ps.length ∧ i = .int .i64 k ∧ (∀ j, j < k → (pat ps j).ok) ∧ Below w.heap.size w wr

theorem px_eta (p : Px) : (⟨p.r, p.g, p.b, p.a⟩ : Px) = p := rfl

set_option maxHeartbeats 2000000 in
theorem icheck_any (W H : Int) (A : Option Addr) (n c : Nat) (ps : List Px) (w : World) (h : Pixs w w.heap.size (.slice A n c) ps) :
    Calls Tryd.prog 46 #[.agg #[.int .i64 W, .int .i64 H, .slice A n c]] w fun e w' => e = .returned (.int .i64 (ichk W H ps)) ∧ Below w.heap.size w w' := by
  obtain rfl := h.len
  have hmx := h.max
  by_cases hs : sized W H = true
  case neg =>
    have hs' : sized W H = false := by simpa using hs
    have E := Lib.hid (show ichk W H ps = 15 by unfold ichk; rw [if_neg (fun e => hs e.1)])
    have HS := Lib.hid hs'; clear hs hs' h
    go_enter Tryd.func46, Tryd.ntmps46
    go_wp2_with fail
    refine (sized_any _ _ _).mono ?_
    rintro e w1 ⟨rfl, rfl⟩
    rw [HS.out]
    go_wp2_with fail
    go_ret
    exact ⟨ret_int E.out.symm, bel_alloc (Below.refl _ _) _⟩
  have hwh := wh_bd W H hs
  by_cases hl : (ps.length : Int) = W * H
  case neg =>
    have E := Lib.hid (show ichk W H ps = 15 by unfold ichk; rw [if_neg (fun e => hl e.2)])
    have hne : ((ps.length : Int) != W * H) = true := by simp [hl]
    have HS := Lib.hid hs; clear hs h hl
    go_enter Tryd.func46, Tryd.ntmps46
    go_wp2_with fail
    refine (sized_any _ _ _).mono ?_
    rintro e w1 ⟨rfl, rfl⟩
    rw [HS.out]
    go_wp2_with fail
    go_ret
    exact ⟨ret_int E.out.symm, bel_alloc (Below.refl _ _) _⟩
  have E := Lib.hid (show ichk W H ps = if allOk ps then 0 else 2 by unfold ichk; rw [if_pos ⟨hs, hl⟩])
  have hne : ((ps.length : Int) != W * H) = false := by simp [hl]
  have hln : ps.length ≤ 65536 := by omega
  have HS := Lib.hid hs; clear hs hl
  have HP := Lib.hid h; clear h
  go_enter Tryd.func46, Tryd.ntmps46
  go_wp2_with fail
  refine (sized_any _ _ _).mono ?_
  rintro e w1 ⟨rfl, rfl⟩
  rw [HS.out]
  go_wp2_with fail
  have HP0 := Lib.hid (HP.out.alloc (.cells #[.int .i64 W, .int .i64 H, .slice A ps.length c] 45))
  have hB0 : Below w.heap.size w (w.alloc (.cells #[.int .i64 W, .int .i64 H, .slice A ps.length c] 45)) := bel_alloc (Below.refl _ _) _
  go_loopw [25] (ChkIRel ps (w.alloc (.cells #[.int .i64 W, .int .i64 H, .slice A ps.length c] 45))) (fun i _ => ps.length - (intOf i).toNat)
  case atStart => exact ⟨0, Nat.zero_le _, rfl, fun j hj => absurd hj (by omega), Below.refl _ _⟩
  case round =>
    obtain ⟨k, hk, rfl, hj, hbel⟩ := hrel
    have HJ := Lib.hid hj; clear hj
    by_cases hlt : k < ps.length
    · have hP := HP0.out.on hbel
      obtain ⟨A', c', ev, _, hc⟩ := hP
      obtain ⟨b, o, rfl, hb, c1, c2, c3, c4⟩ := hc k hlt
      injection ev with ev1 _ ev3
      subst ev1
      clear hc ev3
      have HNO := Lib.hid (allOk_no ps k hlt)
      generalize hp : pat ps k = p at *
      have HPK := Lib.hid hp; clear hp
      obtain ⟨r, g, bl, al⟩ := p
      simp only at c1 c2 c3 c4
      by_cases hok : (Px.mk r g bl al).ok
      · have HOK := Lib.hid ((pxOk_iff _).2 hok)
        have HO := Lib.hid hok; clear hok
        go_wp2_with fail
        refine (pvalid_any _ _ _ _ _).mono ?_
        rintro e w4 ⟨rfl, hb4⟩
        rw [HOK.out]
        go_wp2_with fail
        go_roundw
        case rel =>
          refine ⟨k + 1, by omega, by go_num, fun j hj => ?_, (hbel.alloc hbel.size _).trans (hb4.mono (by have := hbel.size; simp at this ⊢; omega))⟩
          by_cases e : j = k
          · subst e; rw [HPK.out]; exact HO.out
          · exact HJ.out j (by omega)
        case measure => simp [intOf]; omega
      · have HOK := Lib.hid (show pxOk ⟨r, g, bl, al⟩ = false by rw [Bool.eq_false_iff]; intro e; exact hok ((pxOk_iff _).1 e))
        have E2 := Lib.hid (HNO.out hok)
        go_wp2_with fail
        refine (pvalid_any _ _ _ _ _).mono ?_
        rintro e w4 ⟨rfl, hb4⟩
        rw [HOK.out]
        go_wp2_with fail
        go_ret
        exact ⟨ret_int (by rw [E.out, E2.out]; rfl), bel_trans hB0 ((hbel.alloc hbel.size _).trans (hb4.mono (by have := hbel.size; simp at this ⊢; omega)))⟩
    · have E2 := Lib.hid (show allOk ps = true by rw [allOk_iff]; intro i hi; exact HJ.out i (by omega))
      go_wp2_with fail
      go_ret
      exact ⟨ret_int (by rw [E.out, E2.out]; rfl), bel_trans hB0 hbel⟩
end Go.Proofs.YtmbglkholoblaaaDoor
namespace Go.Proofs.YtmbglkholoblaaaDoor
open Go.RowKit

set_option maxHeartbeats 2000000 in
theorem richeck_any (W H : Int) (A : Option Addr) (n c : Nat) (ps : List Px) (w : World) (h : Pixs w w.heap.size (.slice A n c) ps) :
    Calls Tryd.prog 47 #[.agg #[.int .i64 W, .int .i64 H, .slice A n c]] w fun e w' => e = .returned (.int .i64 (ichk W H ps)) ∧ Below w.heap.size w w' := by
  obtain rfl := h.len
  have hmx := h.max
  by_cases h1 : 0 ≤ W
  case neg =>
    have E := Lib.hid (show ichk W H ps = 15 by unfold ichk; rw [if_neg (fun e => by have := e.1; unfold sized at this; rw [decide_eq_true_eq] at this; omega)])
    go_enter Tryd.func47, Tryd.ntmps47
    go_wp2_with fail
    go_ret
    exact ⟨ret_int E.out.symm, bel_alloc (Below.refl _ _) _⟩
  by_cases h2 : W ≤ 256
  case neg =>
    have E := Lib.hid (show ichk W H ps = 15 by unfold ichk; rw [if_neg (fun e => by have := e.1; unfold sized at this; rw [decide_eq_true_eq] at this; omega)])
    go_enter Tryd.func47, Tryd.ntmps47
    go_wp2_with fail
    go_ret
    exact ⟨ret_int E.out.symm, bel_alloc (Below.refl _ _) _⟩
  by_cases h3 : 0 ≤ H
  case neg =>
    have E := Lib.hid (show ichk W H ps = 15 by unfold ichk; rw [if_neg (fun e => by have := e.1; unfold sized at this; rw [decide_eq_true_eq] at this; omega)])
    go_enter Tryd.func47, Tryd.ntmps47
    go_wp2_with fail
    go_ret
    exact ⟨ret_int E.out.symm, bel_alloc (Below.refl _ _) _⟩
  by_cases h4 : H ≤ 256
  case neg =>
    have E := Lib.hid (show ichk W H ps = 15 by unfold ichk; rw [if_neg (fun e => by have := e.1; unfold sized at this; rw [decide_eq_true_eq] at this; omega)])
    go_enter Tryd.func47, Tryd.ntmps47
    go_wp2_with fail
    go_ret
    exact ⟨ret_int E.out.symm, bel_alloc (Below.refl _ _) _⟩
  have hwh : 0 ≤ W * H ∧ W * H ≤ 65536 := by
    have e1 : W * H ≤ 256 * 256 := Int.mul_le_mul (by omega) (by omega) (by omega) (by omega)
    have e0 : 0 ≤ W * H := Int.mul_nonneg (by omega) (by omega)
    omega
  by_cases hz : (W = 0 ↔ H = 0)
  case neg =>
    have E := Lib.hid (show ichk W H ps = 15 by unfold ichk; rw [if_neg (fun e => by have := e.1; unfold sized at this; rw [decide_eq_true_eq] at this; exact hz this.2.2.2.2)])
    rcases (show (W = 0 ∧ H ≠ 0) ∨ (W ≠ 0 ∧ H = 0) by omega) with ⟨rfl, z2⟩ | ⟨z1, rfl⟩
    · have z2' : (H == 0) = false := by simp [z2]
      clear hz
      go_enter Tryd.func47, Tryd.ntmps47
      go_wp2_with fail
      go_ret
      exact ⟨ret_int E.out.symm, bel_alloc (Below.refl _ _) _⟩
    · have z1' : (W == 0) = false := by simp [z1]
      clear hz
      go_enter Tryd.func47, Tryd.ntmps47
      go_wp2_with fail
      go_ret
      exact ⟨ret_int E.out.symm, bel_alloc (Below.refl _ _) _⟩
  have hs : sized W H = true := by unfold sized; rw [decide_eq_true_eq]; exact ⟨h1, h2, h3, h4, hz⟩
  have hzz : ((W == 0) = true ∧ (H == 0) = true) ∨ ((W == 0) = false ∧ (H == 0) = false) := by
    by_cases e : W = 0
    · left; simp [e, hz.1 e]
    · right; simp [e]; omega
  clear hz
  by_cases hl : (ps.length : Int) = W * H
  case neg =>
    have E := Lib.hid (show ichk W H ps = 15 by unfold ichk; rw [if_neg (fun e => hl e.2)])
    have hne : ((ps.length : Int) != W * H) = true := by simp [hl]
    clear hs h hl
    rcases hzz with ⟨z1, z2⟩ | ⟨z1, z2⟩
    all_goals
      go_enter Tryd.func47, Tryd.ntmps47
      go_wp2_with fail
      go_ret
      exact ⟨ret_int E.out.symm, bel_alloc (Below.refl _ _) _⟩
  have E := Lib.hid (show ichk W H ps = if allOk ps then 0 else 2 by unfold ichk; rw [if_pos ⟨hs, hl⟩])
  have hne : ((ps.length : Int) != W * H) = false := by simp [hl]
  have hln : ps.length ≤ 65536 := by omega
  clear hs hl
  have HP := Lib.hid h; clear h
  have HP0 := Lib.hid (HP.out.alloc (.cells #[.int .i64 W, .int .i64 H, .slice A ps.length c] 45))
  have hB0 : Below w.heap.size w (w.alloc (.cells #[.int .i64 W, .int .i64 H, .slice A ps.length c] 45)) := bel_alloc (Below.refl _ _) _
  rcases hzz with ⟨z1, z2⟩ | ⟨z1, z2⟩
  all_goals
    go_enter Tryd.func47, Tryd.ntmps47
    go_wp2_with fail
    go_loopw [3] (ChkIRel ps (w.alloc (.cells #[.int .i64 W, .int .i64 H, .slice A ps.length c] 45))) (fun i _ => ps.length - (intOf i).toNat)
    case atStart => exact ⟨0, Nat.zero_le _, rfl, fun j hj => absurd hj (by omega), Below.refl _ _⟩
    case round =>
      obtain ⟨k, hk, rfl, hj, hbel⟩ := hrel
      have HJ := Lib.hid hj; clear hj
      have hbx : wr.cell? ⟨w.heap.size, 2, none⟩ = some (.slice A ps.length c) := (hbel.cell (p := ⟨w.heap.size, 2, none⟩) (by simp)).trans (by simp)
      by_cases hlt : k < ps.length
      · have hP := HP0.out.on hbel
        obtain ⟨A', c', ev, _, hc⟩ := hP
        obtain ⟨b, o, rfl, hb, c1, c2, c3, c4⟩ := hc k hlt
        injection ev with ev1 _ ev3
        subst ev1
        clear hc ev3
        have HNO := Lib.hid (allOk_no ps k hlt)
        generalize hp : pat ps k = p at *
        have HPK := Lib.hid hp; clear hp
        obtain ⟨r, g, bl, al⟩ := p
        simp only at c1 c2 c3 c4
        by_cases hok : (Px.mk r g bl al).ok
        · have HOK := Lib.hid ((pxOk_iff _).2 hok)
          have HO := Lib.hid hok; clear hok
          go_wp2_with fail
          refine (rpvalid_any _ _ _ _ _).mono ?_
          rintro e w4 ⟨rfl, hb4⟩
          rw [HOK.out]
          go_wp2_with fail
          go_roundw
          case rel =>
            refine ⟨k + 1, by omega, by go_num, fun j hj => ?_, bel_trans hbel hb4⟩
            by_cases e : j = k
            · subst e; rw [HPK.out]; exact HO.out
            · exact HJ.out j (by omega)
          case measure => simp [intOf]; omega
        · have HOK := Lib.hid (show pxOk ⟨r, g, bl, al⟩ = false by rw [Bool.eq_false_iff]; intro e; exact hok ((pxOk_iff _).1 e))
          have E2 := Lib.hid (HNO.out hok)
          go_wp2_with fail
          refine (rpvalid_any _ _ _ _ _).mono ?_
          rintro e w4 ⟨rfl, hb4⟩
          rw [HOK.out]
          go_wp2_with fail
          go_ret
          exact ⟨ret_int (by rw [E.out, E2.out]; rfl), bel_trans hB0 (bel_trans hbel hb4)⟩
      · have E2 := Lib.hid (show allOk ps = true by rw [allOk_iff]; intro i hi; exact HJ.out i (by omega))
        go_wp2_with fail
        go_ret
        exact ⟨ret_int (by rw [E.out, E2.out]; rfl), bel_trans hB0 hbel⟩
end Go.Proofs.YtmbglkholoblaaaDoor
