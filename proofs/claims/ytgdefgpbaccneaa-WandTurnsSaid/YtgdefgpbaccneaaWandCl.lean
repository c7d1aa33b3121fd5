/- The unit tests and the closures of package wand. -/
import Derived.Test.YtgdefgpbaccneaaDist
import Derived.Test.YtgdefgpbaccneaaRDist
namespace Go.Proofs.Ytgdefgpbaccneaa
open Go.RowKit

/-- A unit value. -/
def uok (n : Int) : Bool := decide (0 ≤ n ∧ n ≤ 65535)
theorem uok_iff (n : Int) : uok n = true ↔ 0 ≤ n ∧ n ≤ 65535 := by unfold uok; simp
theorem uok_no (n : Int) (h : ¬ (0 ≤ n ∧ n ≤ 65535)) : uok n = false := by rw [Bool.eq_false_iff]; intro e; exact h ((uok_iff n).1 e)
def simV (c : Px) (t : Int) (p : Px) : Int := if dist p c ≤ t then 65535 else 0
def softV (c : Px) (n f : Int) (p : Px) : Int := if dist p c ≤ n then 65535 else if f ≤ dist p c then 0 else rdiv (65535 * (f - dist p c)) (f - n)

set_option maxHeartbeats 400000 in
theorem wunit_any (n : Int) (w : World) :
    Calls Try.prog 23 #[.int .i64 n] w fun e w' => e = .returned (.bool (uok n)) ∧ w = w' := by
  by_cases h1 : 0 ≤ n
  · by_cases h2 : n ≤ 65535
    · have E := Lib.hid ((uok_iff n).2 ⟨h1, h2⟩)
      go_enter Try.func23, Try.ntmps23
      go_wp2
      go_ret
      exact ⟨ret_bool E.out.symm, rfl⟩
    · have E := Lib.hid (uok_no n (fun e => h2 e.2))
      go_enter Try.func23, Try.ntmps23
      go_wp2
      go_ret
      exact ⟨ret_bool E.out.symm, rfl⟩
  · have E := Lib.hid (uok_no n (fun e => h1 e.1))
    go_enter Try.func23, Try.ntmps23
    go_wp2
    go_ret
    exact ⟨ret_bool E.out.symm, rfl⟩
set_option maxHeartbeats 400000 in
theorem runit_any (n : Int) (w : World) :
    Calls Try.prog 25 #[.int .i64 n] w fun e w' => e = .returned (.bool (uok n)) ∧ w = w' := by
  by_cases h1 : 0 ≤ n
  · by_cases h2 : n ≤ 65535
    · have E := Lib.hid ((uok_iff n).2 ⟨h1, h2⟩)
      go_enter Try.func25, Try.ntmps25
      go_wp2
      go_ret
      exact ⟨ret_bool E.out.symm, rfl⟩
    · have E := Lib.hid (uok_no n (fun e => h2 e.2))
      go_enter Try.func25, Try.ntmps25
      go_wp2
      go_ret
      exact ⟨ret_bool E.out.symm, rfl⟩
  · have E := Lib.hid (uok_no n (fun e => h1 e.1))
    go_enter Try.func25, Try.ntmps25
    go_wp2
    go_ret
    exact ⟨ret_bool E.out.symm, rfl⟩

/-- A pixel lies in a block. -/
def PxAt (w : World) (b : Nat) (p : Px) : Prop :=
  b < w.heap.size ∧ w.cell? ⟨b, 0, none⟩ = some (.int .i64 p.r) ∧ w.cell? ⟨b, 1, none⟩ = some (.int .i64 p.g) ∧ w.cell? ⟨b, 2, none⟩ = some (.int .i64 p.b) ∧ w.cell? ⟨b, 3, none⟩ = some (.int .i64 p.a)
theorem PxAt.below {w w' : World} {b : Nat} {p : Px} (h : PxAt w b p) (hb : Below w.heap.size w w') : PxAt w' b p := by
  obtain ⟨h0, h1, h2, h3, h4⟩ := h
  exact ⟨Nat.lt_of_lt_of_le h0 hb.size, (hb.cell (p := ⟨b, 0, none⟩) h0).trans h1, (hb.cell (p := ⟨b, 1, none⟩) h0).trans h2, (hb.cell (p := ⟨b, 2, none⟩) h0).trans h3, (hb.cell (p := ⟨b, 3, none⟩) h0).trans h4⟩

set_option maxHeartbeats 2000000 in
theorem simcl_any (p c : Px) (t : Int) (bc bt : Nat) (w : World) (hc : PxAt w bc c) (hbt : bt < w.heap.size) (ht : w.cell? ⟨bt, 0, none⟩ = some (.int .i64 t)) :
    Calls Try.prog 32 #[.agg #[.int .i64 p.r, .int .i64 p.g, .int .i64 p.b, .int .i64 p.a], .pointer (some ⟨bc, 0, none⟩), .pointer (some ⟨bt, 0, none⟩)] w
      fun e w' => e = .returned (.int .i64 (simV c t p)) ∧ Below w.heap.size w w' := by
  obtain ⟨pr, pg, pb, pa⟩ := p
  obtain ⟨cr, cg, cb, ca⟩ := c
  obtain ⟨hbc, c0, c1, c2, c3⟩ := hc
  simp only at c0 c1 c2 c3 ⊢
  have E := Lib.hid (show simV ⟨cr, cg, cb, ca⟩ t ⟨pr, pg, pb, pa⟩ = if dist ⟨pr, pg, pb, pa⟩ ⟨cr, cg, cb, ca⟩ ≤ t then 65535 else 0 from rfl)
  go_enter Try.func32, Try.ntmps32
  go_wp2_with fail
  go_region_held3 (fun w' => w.heap.size < w'.heap.size ∧ w'.cell? ⟨w.heap.size, 0, none⟩ = some (.int .i64 pr) ∧ w'.cell? ⟨w.heap.size, 1, none⟩ = some (.int .i64 pg) ∧ w'.cell? ⟨w.heap.size, 2, none⟩ = some (.int .i64 pb) ∧ w'.cell? ⟨w.heap.size, 3, none⟩ = some (.int .i64 pa) ∧
      w'.cell? ⟨bc, 0, none⟩ = some (.int .i64 cr) ∧ w'.cell? ⟨bc, 1, none⟩ = some (.int .i64 cg) ∧ w'.cell? ⟨bc, 2, none⟩ = some (.int .i64 cb) ∧ w'.cell? ⟨bc, 3, none⟩ = some (.int .i64 ca) ∧ w'.cell? ⟨bt, 0, none⟩ = some (.int .i64 t))
    (first | go_keep | (go_split_ands; refine ⟨Nat.lt_of_lt_of_le (by assumption) hbw4.size, ?_, ?_, ?_, ?_, ?_, ?_, ?_, ?_, ?_⟩ <;> (rw [hbw4.cell (by first | (simp; done) | (simp; omega))]; assumption)))
    ((go_at_call 20; refine (dist_any _ _ _ _ _ _ _ _ _).mono ?_; rintro e w4 ⟨rfl, hbw4⟩))
  go_wp2_with fail
  all_goals
    go_ret
    refine ⟨ret_int ?_, ((bel_alloc (Below.refl _ _) _).drew).trans (hbw4.mono (by simp))⟩
    rw [E.out]
    first | rw [if_pos (by omega)] | rw [if_neg (by omega)]

set_option maxHeartbeats 2000000 in
theorem softcl_any (p c : Px) (n f : Int) (bc bn bf : Nat) (w : World) (hn : 0 ≤ n ∧ n ≤ 65535) (hf : 0 ≤ f ∧ f ≤ 65535) (hnf : n < f) (hc : PxAt w bc c) (hbn : bn < w.heap.size) (htn : w.cell? ⟨bn, 0, none⟩ = some (.int .i64 n)) (hbf : bf < w.heap.size) (htf : w.cell? ⟨bf, 0, none⟩ = some (.int .i64 f)) :
    Calls Try.prog 34 #[.agg #[.int .i64 p.r, .int .i64 p.g, .int .i64 p.b, .int .i64 p.a], .pointer (some ⟨bc, 0, none⟩), .pointer (some ⟨bn, 0, none⟩), .pointer (some ⟨bf, 0, none⟩)] w
      fun e w' => e = .returned (.int .i64 (softV c n f p)) ∧ Below w.heap.size w w' := by
  obtain ⟨pr, pg, pb, pa⟩ := p
  obtain ⟨cr, cg, cb, ca⟩ := c
  obtain ⟨hbc, c0, c1, c2, c3⟩ := hc
  simp only at c0 c1 c2 c3 ⊢
  have E := Lib.hid (show softV ⟨cr, cg, cb, ca⟩ n f ⟨pr, pg, pb, pa⟩ = if dist ⟨pr, pg, pb, pa⟩ ⟨cr, cg, cb, ca⟩ ≤ n then 65535 else if f ≤ dist ⟨pr, pg, pb, pa⟩ ⟨cr, cg, cb, ca⟩ then 0 else rdiv (65535 * (f - dist ⟨pr, pg, pb, pa⟩ ⟨cr, cg, cb, ca⟩)) (f - n) from rfl)
  have hd := dist_bd ⟨pr, pg, pb, pa⟩ ⟨cr, cg, cb, ca⟩
  go_enter Try.func34, Try.ntmps34
  go_wp2_with fail
  refine (dist_any _ _ _ _ _ _ _ _ _).mono ?_
  rintro e w4 ⟨rfl, hbw4⟩
  have hB : Below w.heap.size w w4 := (bel_alloc (Below.refl _ _) _).trans (hbw4.mono (by simp))
  have hn4 := (hB.cell (p := ⟨bn, 0, none⟩) hbn).trans htn
  have hf4 := (hB.cell (p := ⟨bf, 0, none⟩) hbf).trans htf
  go_wp2_with fail
  all_goals try (refine (div_any _ _ _ (by omega) (by omega) (by omega) (by omega)).mono ?_; rintro e w5 ⟨rfl, rfl⟩; go_wp2_with fail)
  all_goals
    go_ret
    refine ⟨ret_int ?_, hB⟩
    rw [E.out]
    first | rw [if_pos (by omega)] | rw [if_neg (by omega), if_pos (by omega)] | rw [if_neg (by omega), if_neg (by omega)]

set_option maxHeartbeats 2000000 in
theorem opqcl_any (p : Px) (w : World) :
    Calls Try.prog 37 #[.agg #[.int .i64 p.r, .int .i64 p.g, .int .i64 p.b, .int .i64 p.a]] w
      fun e w' => e = .returned (.int .i64 p.a) ∧ Below w.heap.size w w' := by
  go_enter Try.func37, Try.ntmps37
  go_wp2_with fail
  go_ret
  exact ⟨rfl, bel_alloc (Below.refl _ _) _⟩
end Go.Proofs.Ytgdefgpbaccneaa
