/- Contracts of package affine and of its reference, second part: Check and Apply. -/
import Derived.Test.YtanlnigebbcajaaDoorAff1
import Derived.Test.YtanlnigebbcajaaDoorBox
namespace Go.Proofs.YtanlnigebbcajaaDoor
open Go.RowKit
attribute [local go_sem 2000] run_max2m run_min2m
def okE (A : Af) : Int := if A.ok then 0 else 2
theorem beq_f {a b : Int} (h : a ≠ b) : (a == b) = false := by rw [beq_eq_false_iff_ne]; exact h
theorem beq_t {a b : Int} (h : a = b) : (a == b) = true := by rw [beq_iff_eq]; exact h
theorem chk_cases (a b c d e f : Int) : (okE ⟨a, b, c, d, e, f⟩ = 2 ∧ a ≠ coef a) ∨ (okE ⟨a, b, c, d, e, f⟩ = 2 ∧ a = coef a ∧ b ≠ coef b) ∨ (okE ⟨a, b, c, d, e, f⟩ = 2 ∧ a = coef a ∧ b = coef b ∧ c ≠ coef c) ∨ (okE ⟨a, b, c, d, e, f⟩ = 2 ∧ a = coef a ∧ b = coef b ∧ c = coef c ∧ d ≠ coef d)
    ∨ (okE ⟨a, b, c, d, e, f⟩ = 2 ∧ a = coef a ∧ b = coef b ∧ c = coef c ∧ d = coef d ∧ e ≠ far e) ∨ (okE ⟨a, b, c, d, e, f⟩ = 2 ∧ a = coef a ∧ b = coef b ∧ c = coef c ∧ d = coef d ∧ e = far e ∧ f ≠ far f) ∨ (okE ⟨a, b, c, d, e, f⟩ = 0 ∧ a = coef a ∧ b = coef b ∧ c = coef c ∧ d = coef d ∧ e = far e ∧ f = far f) := by
  have key : (Af.mk a b c d e f).ok ↔ (a = coef a ∧ b = coef b ∧ c = coef c ∧ d = coef d ∧ e = far e ∧ f = far f) := by
    unfold Af.ok
    rw [← coef_eq, ← coef_eq, ← coef_eq, ← coef_eq, ← far_eq, ← far_eq]
    constructor
    · rintro ⟨h1, h2, h3, h4, h5, h6⟩; exact ⟨h1.symm, h2.symm, h3.symm, h4.symm, h5.symm, h6.symm⟩
    · rintro ⟨h1, h2, h3, h4, h5, h6⟩; exact ⟨h1.symm, h2.symm, h3.symm, h4.symm, h5.symm, h6.symm⟩
  unfold okE
  by_cases h : (Af.mk a b c d e f).ok
  · rw [if_pos h]
    have := key.1 h
    exact .inr (.inr (.inr (.inr (.inr (.inr ⟨rfl, this⟩)))))
  · rw [if_neg h]
    rw [key] at h
    by_cases h1 : a = coef a
    · by_cases h2 : b = coef b
      · by_cases h3 : c = coef c
        · by_cases h4 : d = coef d
          · by_cases h5 : e = far e
            · by_cases h6 : f = far f
              · exact absurd ⟨h1, h2, h3, h4, h5, h6⟩ h
              · exact .inr (.inr (.inr (.inr (.inr (.inl ⟨rfl, h1, h2, h3, h4, h5, h6⟩)))))
            · exact .inr (.inr (.inr (.inr (.inl ⟨rfl, h1, h2, h3, h4, h5⟩))))
          · exact .inr (.inr (.inr (.inl ⟨rfl, h1, h2, h3, h4⟩)))
        · exact .inr (.inr (.inl ⟨rfl, h1, h2, h3⟩))
      · exact .inr (.inl ⟨rfl, h1, h2⟩)
    · exact .inl ⟨rfl, h1⟩

set_option maxHeartbeats 4000000 in
theorem acheck_any (a b c d e f : Int) (w : World) :
    Calls Tryd.prog 11 #[.agg #[.int .i64 a, .int .i64 b, .int .i64 c, .int .i64 d, .int .i64 e, .int .i64 f]] w fun z w' => z = .returned (.int .i64 (okE ⟨a, b, c, d, e, f⟩)) ∧ Below w.heap.size w w' := by
  rcases chk_cases a b c d e f with ⟨E, h0⟩ | ⟨E, h0, h1⟩ | ⟨E, h0, h1, h2⟩ | ⟨E, h0, h1, h2, h3⟩ | ⟨E, h0, h1, h2, h3, h4⟩ | ⟨E, h0, h1, h2, h3, h4, h5⟩ | ⟨E, h0, h1, h2, h3, h4, h5⟩
  · have E := Lib.hid E
    have t0 : (a == coef a) = false := beq_f h0
    clear h0
    go_enter Tryd.func11, Tryd.ntmps11
    go_wp2_with fail
    go_region_held3 (fun w' => w'.cell? ⟨w.heap.size, 0, none⟩ = some (.int .i64 a) ∧ w'.cell? ⟨w.heap.size, 1, none⟩ = some (.int .i64 b) ∧ w'.cell? ⟨w.heap.size, 2, none⟩ = some (.int .i64 c) ∧ w'.cell? ⟨w.heap.size, 3, none⟩ = some (.int .i64 d) ∧ w'.cell? ⟨w.heap.size, 4, none⟩ = some (.int .i64 e) ∧ w'.cell? ⟨w.heap.size, 5, none⟩ = some (.int .i64 f))
      (first | go_keep | (go_split_ands; refine ⟨?_, ?_, ?_, ?_, ?_, ?_⟩ <;> (rw [hbw4.cell (by simp)]; assumption)))
      ((go_at_call 32; refine (limited_any _ _ _ _ _ _ _).mono ?_; rintro z w4 ⟨rfl, hbw4⟩))
    go_wp2_with fail
    go_ret
    exact ⟨ret_int E.out.symm, ((bel_alloc (Below.refl _ _) _).drew).trans (hbw4.mono (by simp))⟩
  · have E := Lib.hid E
    have t0 : (a == coef a) = true := beq_t h0
    have t1 : (b == coef b) = false := beq_f h1
    clear h0 h1
    go_enter Tryd.func11, Tryd.ntmps11
    go_wp2_with fail
    go_region_held3 (fun w' => w'.cell? ⟨w.heap.size, 0, none⟩ = some (.int .i64 a) ∧ w'.cell? ⟨w.heap.size, 1, none⟩ = some (.int .i64 b) ∧ w'.cell? ⟨w.heap.size, 2, none⟩ = some (.int .i64 c) ∧ w'.cell? ⟨w.heap.size, 3, none⟩ = some (.int .i64 d) ∧ w'.cell? ⟨w.heap.size, 4, none⟩ = some (.int .i64 e) ∧ w'.cell? ⟨w.heap.size, 5, none⟩ = some (.int .i64 f))
      (first | go_keep | (go_split_ands; refine ⟨?_, ?_, ?_, ?_, ?_, ?_⟩ <;> (rw [hbw4.cell (by simp)]; assumption)))
      ((go_at_call 32; refine (limited_any _ _ _ _ _ _ _).mono ?_; rintro z w4 ⟨rfl, hbw4⟩))
    go_wp2_with fail
    go_ret
    exact ⟨ret_int E.out.symm, ((bel_alloc (Below.refl _ _) _).drew).trans (hbw4.mono (by simp))⟩
  · have E := Lib.hid E
    have t0 : (a == coef a) = true := beq_t h0
    have t1 : (b == coef b) = true := beq_t h1
    have t2 : (c == coef c) = false := beq_f h2
    clear h0 h1 h2
    go_enter Tryd.func11, Tryd.ntmps11
    go_wp2_with fail
    go_region_held3 (fun w' => w'.cell? ⟨w.heap.size, 0, none⟩ = some (.int .i64 a) ∧ w'.cell? ⟨w.heap.size, 1, none⟩ = some (.int .i64 b) ∧ w'.cell? ⟨w.heap.size, 2, none⟩ = some (.int .i64 c) ∧ w'.cell? ⟨w.heap.size, 3, none⟩ = some (.int .i64 d) ∧ w'.cell? ⟨w.heap.size, 4, none⟩ = some (.int .i64 e) ∧ w'.cell? ⟨w.heap.size, 5, none⟩ = some (.int .i64 f))
      (first | go_keep | (go_split_ands; refine ⟨?_, ?_, ?_, ?_, ?_, ?_⟩ <;> (rw [hbw4.cell (by simp)]; assumption)))
      ((go_at_call 32; refine (limited_any _ _ _ _ _ _ _).mono ?_; rintro z w4 ⟨rfl, hbw4⟩))
    go_wp2_with fail
    go_ret
    exact ⟨ret_int E.out.symm, ((bel_alloc (Below.refl _ _) _).drew).trans (hbw4.mono (by simp))⟩
  · have E := Lib.hid E
    have t0 : (a == coef a) = true := beq_t h0
    have t1 : (b == coef b) = true := beq_t h1
    have t2 : (c == coef c) = true := beq_t h2
    have t3 : (d == coef d) = false := beq_f h3
    clear h0 h1 h2 h3
    go_enter Tryd.func11, Tryd.ntmps11
    go_wp2_with fail
    go_region_held3 (fun w' => w'.cell? ⟨w.heap.size, 0, none⟩ = some (.int .i64 a) ∧ w'.cell? ⟨w.heap.size, 1, none⟩ = some (.int .i64 b) ∧ w'.cell? ⟨w.heap.size, 2, none⟩ = some (.int .i64 c) ∧ w'.cell? ⟨w.heap.size, 3, none⟩ = some (.int .i64 d) ∧ w'.cell? ⟨w.heap.size, 4, none⟩ = some (.int .i64 e) ∧ w'.cell? ⟨w.heap.size, 5, none⟩ = some (.int .i64 f))
      (first | go_keep | (go_split_ands; refine ⟨?_, ?_, ?_, ?_, ?_, ?_⟩ <;> (rw [hbw4.cell (by simp)]; assumption)))
      ((go_at_call 32; refine (limited_any _ _ _ _ _ _ _).mono ?_; rintro z w4 ⟨rfl, hbw4⟩))
    go_wp2_with fail
    go_ret
    exact ⟨ret_int E.out.symm, ((bel_alloc (Below.refl _ _) _).drew).trans (hbw4.mono (by simp))⟩
  · have E := Lib.hid E
    have t0 : (a == coef a) = true := beq_t h0
    have t1 : (b == coef b) = true := beq_t h1
    have t2 : (c == coef c) = true := beq_t h2
    have t3 : (d == coef d) = true := beq_t h3
    have t4 : (e == far e) = false := beq_f h4
    clear h0 h1 h2 h3 h4
    go_enter Tryd.func11, Tryd.ntmps11
    go_wp2_with fail
    go_region_held3 (fun w' => w'.cell? ⟨w.heap.size, 0, none⟩ = some (.int .i64 a) ∧ w'.cell? ⟨w.heap.size, 1, none⟩ = some (.int .i64 b) ∧ w'.cell? ⟨w.heap.size, 2, none⟩ = some (.int .i64 c) ∧ w'.cell? ⟨w.heap.size, 3, none⟩ = some (.int .i64 d) ∧ w'.cell? ⟨w.heap.size, 4, none⟩ = some (.int .i64 e) ∧ w'.cell? ⟨w.heap.size, 5, none⟩ = some (.int .i64 f))
      (first | go_keep | (go_split_ands; refine ⟨?_, ?_, ?_, ?_, ?_, ?_⟩ <;> (rw [hbw4.cell (by simp)]; assumption)))
      ((go_at_call 32; refine (limited_any _ _ _ _ _ _ _).mono ?_; rintro z w4 ⟨rfl, hbw4⟩))
    go_wp2_with fail
    go_ret
    exact ⟨ret_int E.out.symm, ((bel_alloc (Below.refl _ _) _).drew).trans (hbw4.mono (by simp))⟩
  · have E := Lib.hid E
    have t0 : (a == coef a) = true := beq_t h0
    have t1 : (b == coef b) = true := beq_t h1
    have t2 : (c == coef c) = true := beq_t h2
    have t3 : (d == coef d) = true := beq_t h3
    have t4 : (e == far e) = true := beq_t h4
    have t5 : (f == far f) = false := beq_f h5
    clear h0 h1 h2 h3 h4 h5
    go_enter Tryd.func11, Tryd.ntmps11
    go_wp2_with fail
    go_region_held3 (fun w' => w'.cell? ⟨w.heap.size, 0, none⟩ = some (.int .i64 a) ∧ w'.cell? ⟨w.heap.size, 1, none⟩ = some (.int .i64 b) ∧ w'.cell? ⟨w.heap.size, 2, none⟩ = some (.int .i64 c) ∧ w'.cell? ⟨w.heap.size, 3, none⟩ = some (.int .i64 d) ∧ w'.cell? ⟨w.heap.size, 4, none⟩ = some (.int .i64 e) ∧ w'.cell? ⟨w.heap.size, 5, none⟩ = some (.int .i64 f))
      (first | go_keep | (go_split_ands; refine ⟨?_, ?_, ?_, ?_, ?_, ?_⟩ <;> (rw [hbw4.cell (by simp)]; assumption)))
      ((go_at_call 32; refine (limited_any _ _ _ _ _ _ _).mono ?_; rintro z w4 ⟨rfl, hbw4⟩))
    go_wp2_with fail
    go_ret
    exact ⟨ret_int E.out.symm, ((bel_alloc (Below.refl _ _) _).drew).trans (hbw4.mono (by simp))⟩
  · have E := Lib.hid E
    have t0 : (a == coef a) = true := beq_t h0
    have t1 : (b == coef b) = true := beq_t h1
    have t2 : (c == coef c) = true := beq_t h2
    have t3 : (d == coef d) = true := beq_t h3
    have t4 : (e == far e) = true := beq_t h4
    have t5 : (f == far f) = true := beq_t h5
    clear h0 h1 h2 h3 h4 h5
    go_enter Tryd.func11, Tryd.ntmps11
    go_wp2_with fail
    go_region_held3 (fun w' => w'.cell? ⟨w.heap.size, 0, none⟩ = some (.int .i64 a) ∧ w'.cell? ⟨w.heap.size, 1, none⟩ = some (.int .i64 b) ∧ w'.cell? ⟨w.heap.size, 2, none⟩ = some (.int .i64 c) ∧ w'.cell? ⟨w.heap.size, 3, none⟩ = some (.int .i64 d) ∧ w'.cell? ⟨w.heap.size, 4, none⟩ = some (.int .i64 e) ∧ w'.cell? ⟨w.heap.size, 5, none⟩ = some (.int .i64 f))
      (first | go_keep | (go_split_ands; refine ⟨?_, ?_, ?_, ?_, ?_, ?_⟩ <;> (rw [hbw4.cell (by simp)]; assumption)))
      ((go_at_call 32; refine (limited_any _ _ _ _ _ _ _).mono ?_; rintro z w4 ⟨rfl, hbw4⟩))
    go_wp2_with fail
    go_ret
    exact ⟨ret_int E.out.symm, ((bel_alloc (Below.refl _ _) _).drew).trans (hbw4.mono (by simp))⟩
set_option maxHeartbeats 4000000 in
theorem racheck_any (a b c d e f : Int) (w : World) :
    Calls Tryd.prog 12 #[.agg #[.int .i64 a, .int .i64 b, .int .i64 c, .int .i64 d, .int .i64 e, .int .i64 f]] w fun z w' => z = .returned (.int .i64 (okE ⟨a, b, c, d, e, f⟩)) ∧ Below w.heap.size w w' := by
  rcases chk_cases a b c d e f with ⟨E, h0⟩ | ⟨E, h0, h1⟩ | ⟨E, h0, h1, h2⟩ | ⟨E, h0, h1, h2, h3⟩ | ⟨E, h0, h1, h2, h3, h4⟩ | ⟨E, h0, h1, h2, h3, h4, h5⟩ | ⟨E, h0, h1, h2, h3, h4, h5⟩
  · have E := Lib.hid E
    have t0 : (coef a == a) = false := beq_f (Ne.symm h0)
    clear h0
    go_enter Tryd.func12, Tryd.ntmps12
    go_wp2_with fail
    go_region_held3 (fun w' => w'.cell? ⟨w.heap.size, 0, none⟩ = some (.int .i64 a) ∧ w'.cell? ⟨w.heap.size, 1, none⟩ = some (.int .i64 b) ∧ w'.cell? ⟨w.heap.size, 2, none⟩ = some (.int .i64 c) ∧ w'.cell? ⟨w.heap.size, 3, none⟩ = some (.int .i64 d) ∧ w'.cell? ⟨w.heap.size, 4, none⟩ = some (.int .i64 e) ∧ w'.cell? ⟨w.heap.size, 5, none⟩ = some (.int .i64 f))
      (first | go_keep | (go_split_ands; refine ⟨?_, ?_, ?_, ?_, ?_, ?_⟩ <;> (rw [hbw4.cell (by simp)]; assumption)))
      ((go_at_call 33; refine (rlimited_any _ _ _ _ _ _ _).mono ?_; rintro z w4 ⟨rfl, hbw4⟩))
    go_wp2_with fail
    go_ret
    exact ⟨ret_int E.out.symm, ((bel_alloc (Below.refl _ _) _).drew).trans (hbw4.mono (by simp))⟩
  · have E := Lib.hid E
    have t0 : (coef a == a) = true := beq_t h0.symm
    have t1 : (coef b == b) = false := beq_f (Ne.symm h1)
    clear h0 h1
    go_enter Tryd.func12, Tryd.ntmps12
    go_wp2_with fail
    go_region_held3 (fun w' => w'.cell? ⟨w.heap.size, 0, none⟩ = some (.int .i64 a) ∧ w'.cell? ⟨w.heap.size, 1, none⟩ = some (.int .i64 b) ∧ w'.cell? ⟨w.heap.size, 2, none⟩ = some (.int .i64 c) ∧ w'.cell? ⟨w.heap.size, 3, none⟩ = some (.int .i64 d) ∧ w'.cell? ⟨w.heap.size, 4, none⟩ = some (.int .i64 e) ∧ w'.cell? ⟨w.heap.size, 5, none⟩ = some (.int .i64 f))
      (first | go_keep | (go_split_ands; refine ⟨?_, ?_, ?_, ?_, ?_, ?_⟩ <;> (rw [hbw4.cell (by simp)]; assumption)))
      ((go_at_call 33; refine (rlimited_any _ _ _ _ _ _ _).mono ?_; rintro z w4 ⟨rfl, hbw4⟩))
    go_wp2_with fail
    go_ret
    exact ⟨ret_int E.out.symm, ((bel_alloc (Below.refl _ _) _).drew).trans (hbw4.mono (by simp))⟩
  · have E := Lib.hid E
    have t0 : (coef a == a) = true := beq_t h0.symm
    have t1 : (coef b == b) = true := beq_t h1.symm
    have t2 : (coef c == c) = false := beq_f (Ne.symm h2)
    clear h0 h1 h2
    go_enter Tryd.func12, Tryd.ntmps12
    go_wp2_with fail
    go_region_held3 (fun w' => w'.cell? ⟨w.heap.size, 0, none⟩ = some (.int .i64 a) ∧ w'.cell? ⟨w.heap.size, 1, none⟩ = some (.int .i64 b) ∧ w'.cell? ⟨w.heap.size, 2, none⟩ = some (.int .i64 c) ∧ w'.cell? ⟨w.heap.size, 3, none⟩ = some (.int .i64 d) ∧ w'.cell? ⟨w.heap.size, 4, none⟩ = some (.int .i64 e) ∧ w'.cell? ⟨w.heap.size, 5, none⟩ = some (.int .i64 f))
      (first | go_keep | (go_split_ands; refine ⟨?_, ?_, ?_, ?_, ?_, ?_⟩ <;> (rw [hbw4.cell (by simp)]; assumption)))
      ((go_at_call 33; refine (rlimited_any _ _ _ _ _ _ _).mono ?_; rintro z w4 ⟨rfl, hbw4⟩))
    go_wp2_with fail
    go_ret
    exact ⟨ret_int E.out.symm, ((bel_alloc (Below.refl _ _) _).drew).trans (hbw4.mono (by simp))⟩
  · have E := Lib.hid E
    have t0 : (coef a == a) = true := beq_t h0.symm
    have t1 : (coef b == b) = true := beq_t h1.symm
    have t2 : (coef c == c) = true := beq_t h2.symm
    have t3 : (coef d == d) = false := beq_f (Ne.symm h3)
    clear h0 h1 h2 h3
    go_enter Tryd.func12, Tryd.ntmps12
    go_wp2_with fail
    go_region_held3 (fun w' => w'.cell? ⟨w.heap.size, 0, none⟩ = some (.int .i64 a) ∧ w'.cell? ⟨w.heap.size, 1, none⟩ = some (.int .i64 b) ∧ w'.cell? ⟨w.heap.size, 2, none⟩ = some (.int .i64 c) ∧ w'.cell? ⟨w.heap.size, 3, none⟩ = some (.int .i64 d) ∧ w'.cell? ⟨w.heap.size, 4, none⟩ = some (.int .i64 e) ∧ w'.cell? ⟨w.heap.size, 5, none⟩ = some (.int .i64 f))
      (first | go_keep | (go_split_ands; refine ⟨?_, ?_, ?_, ?_, ?_, ?_⟩ <;> (rw [hbw4.cell (by simp)]; assumption)))
      ((go_at_call 33; refine (rlimited_any _ _ _ _ _ _ _).mono ?_; rintro z w4 ⟨rfl, hbw4⟩))
    go_wp2_with fail
    go_ret
    exact ⟨ret_int E.out.symm, ((bel_alloc (Below.refl _ _) _).drew).trans (hbw4.mono (by simp))⟩
  · have E := Lib.hid E
    have t0 : (coef a == a) = true := beq_t h0.symm
    have t1 : (coef b == b) = true := beq_t h1.symm
    have t2 : (coef c == c) = true := beq_t h2.symm
    have t3 : (coef d == d) = true := beq_t h3.symm
    have t4 : (far e == e) = false := beq_f (Ne.symm h4)
    clear h0 h1 h2 h3 h4
    go_enter Tryd.func12, Tryd.ntmps12
    go_wp2_with fail
    go_region_held3 (fun w' => w'.cell? ⟨w.heap.size, 0, none⟩ = some (.int .i64 a) ∧ w'.cell? ⟨w.heap.size, 1, none⟩ = some (.int .i64 b) ∧ w'.cell? ⟨w.heap.size, 2, none⟩ = some (.int .i64 c) ∧ w'.cell? ⟨w.heap.size, 3, none⟩ = some (.int .i64 d) ∧ w'.cell? ⟨w.heap.size, 4, none⟩ = some (.int .i64 e) ∧ w'.cell? ⟨w.heap.size, 5, none⟩ = some (.int .i64 f))
      (first | go_keep | (go_split_ands; refine ⟨?_, ?_, ?_, ?_, ?_, ?_⟩ <;> (rw [hbw4.cell (by simp)]; assumption)))
      ((go_at_call 33; refine (rlimited_any _ _ _ _ _ _ _).mono ?_; rintro z w4 ⟨rfl, hbw4⟩))
    go_wp2_with fail
    go_ret
    exact ⟨ret_int E.out.symm, ((bel_alloc (Below.refl _ _) _).drew).trans (hbw4.mono (by simp))⟩
  · have E := Lib.hid E
    have t0 : (coef a == a) = true := beq_t h0.symm
    have t1 : (coef b == b) = true := beq_t h1.symm
    have t2 : (coef c == c) = true := beq_t h2.symm
    have t3 : (coef d == d) = true := beq_t h3.symm
    have t4 : (far e == e) = true := beq_t h4.symm
    have t5 : (far f == f) = false := beq_f (Ne.symm h5)
    clear h0 h1 h2 h3 h4 h5
    go_enter Tryd.func12, Tryd.ntmps12
    go_wp2_with fail
    go_region_held3 (fun w' => w'.cell? ⟨w.heap.size, 0, none⟩ = some (.int .i64 a) ∧ w'.cell? ⟨w.heap.size, 1, none⟩ = some (.int .i64 b) ∧ w'.cell? ⟨w.heap.size, 2, none⟩ = some (.int .i64 c) ∧ w'.cell? ⟨w.heap.size, 3, none⟩ = some (.int .i64 d) ∧ w'.cell? ⟨w.heap.size, 4, none⟩ = some (.int .i64 e) ∧ w'.cell? ⟨w.heap.size, 5, none⟩ = some (.int .i64 f))
      (first | go_keep | (go_split_ands; refine ⟨?_, ?_, ?_, ?_, ?_, ?_⟩ <;> (rw [hbw4.cell (by simp)]; assumption)))
      ((go_at_call 33; refine (rlimited_any _ _ _ _ _ _ _).mono ?_; rintro z w4 ⟨rfl, hbw4⟩))
    go_wp2_with fail
    go_ret
    exact ⟨ret_int E.out.symm, ((bel_alloc (Below.refl _ _) _).drew).trans (hbw4.mono (by simp))⟩
  · have E := Lib.hid E
    have t0 : (coef a == a) = true := beq_t h0.symm
    have t1 : (coef b == b) = true := beq_t h1.symm
    have t2 : (coef c == c) = true := beq_t h2.symm
    have t3 : (coef d == d) = true := beq_t h3.symm
    have t4 : (far e == e) = true := beq_t h4.symm
    have t5 : (far f == f) = true := beq_t h5.symm
    clear h0 h1 h2 h3 h4 h5
    go_enter Tryd.func12, Tryd.ntmps12
    go_wp2_with fail
    go_region_held3 (fun w' => w'.cell? ⟨w.heap.size, 0, none⟩ = some (.int .i64 a) ∧ w'.cell? ⟨w.heap.size, 1, none⟩ = some (.int .i64 b) ∧ w'.cell? ⟨w.heap.size, 2, none⟩ = some (.int .i64 c) ∧ w'.cell? ⟨w.heap.size, 3, none⟩ = some (.int .i64 d) ∧ w'.cell? ⟨w.heap.size, 4, none⟩ = some (.int .i64 e) ∧ w'.cell? ⟨w.heap.size, 5, none⟩ = some (.int .i64 f))
      (first | go_keep | (go_split_ands; refine ⟨?_, ?_, ?_, ?_, ?_, ?_⟩ <;> (rw [hbw4.cell (by simp)]; assumption)))
      ((go_at_call 33; refine (rlimited_any _ _ _ _ _ _ _).mono ?_; rintro z w4 ⟨rfl, hbw4⟩))
    go_wp2_with fail
    go_ret
    exact ⟨ret_int E.out.symm, ((bel_alloc (Below.refl _ _) _).drew).trans (hbw4.mono (by simp))⟩
end Go.Proofs.YtanlnigebbcajaaDoor
