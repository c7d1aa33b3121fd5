/- Rectangles: rect.Valid, rect.Empty and their references. -/
import Derived.Test.YtineinmghajmnaaMB
import Derived.Test.YtineinmghajmnaaMA
namespace Go.Proofs.Ytineinmghajmnaa
open Go.RowKit

/-- A side of a rectangle. -/
def sideOk (x w : Int) : Bool := decide ((-1048576 ≤ x ∧ x ≤ 1048576) ∧ 0 ≤ w ∧ w ≤ 1048576 - x)
def rvalid (x y w h : Int) : Bool := sideOk x w && sideOk y h
def rempty (x y w h : Int) : Bool := !rvalid x y w h || w == 0 || h == 0
theorem rvalid_iff (x y w h : Int) : rvalid x y w h = true ↔ ((-1048576 ≤ x ∧ x ≤ 1048576) ∧ 0 ≤ w ∧ w ≤ 1048576 - x) ∧ ((-1048576 ≤ y ∧ y ≤ 1048576) ∧ 0 ≤ h ∧ h ≤ 1048576 - y) := by
  unfold rvalid sideOk; simp
theorem rvalid_no {x y w h : Int} (hn : ¬ (((-1048576 ≤ x ∧ x ≤ 1048576) ∧ 0 ≤ w ∧ w ≤ 1048576 - x) ∧ ((-1048576 ≤ y ∧ y ≤ 1048576) ∧ 0 ≤ h ∧ h ≤ 1048576 - y))) : rvalid x y w h = false := by
  rw [Bool.eq_false_iff]; exact fun e => hn ((rvalid_iff x y w h).1 e)
theorem box4 {w w4 : World} {t : TypeId} {x y p q : Value} (hb : Below (w.alloc (.cells #[x, y, p, q] t)).heap.size (w.alloc (.cells #[x, y, p, q] t)) w4) :
    w4.cell? ⟨w.heap.size, 0, none⟩ = some x ∧ w4.cell? ⟨w.heap.size, 1, none⟩ = some y ∧ w4.cell? ⟨w.heap.size, 2, none⟩ = some p ∧ w4.cell? ⟨w.heap.size, 3, none⟩ = some q := (((Bx.new w t #[x, y, p, q]).below hb).four).1
set_option maxHeartbeats 400000 in
theorem span_any (x y : Int) (w : World) : Calls Try.prog 69 #[.int .i64 x, .int .i64 y] w fun e w' => e = .returned (.bool (sideOk x y)) ∧ w = w' := by
  rcases (show x < -1048576 ∨ (-1048576 ≤ x ∧ 1048576 < x) ∨ (-1048576 ≤ x ∧ x ≤ 1048576 ∧ y < 0) ∨ (-1048576 ≤ x ∧ x ≤ 1048576 ∧ 0 ≤ y ∧ 1048576 - x < y) ∨ (-1048576 ≤ x ∧ x ≤ 1048576 ∧ 0 ≤ y ∧ y ≤ 1048576 - x) by omega) with h | h | h | h | h
  · have E := Lib.hid (show sideOk x y = false by unfold sideOk; simp; omega)
    go_enter Try.func69, Try.ntmps69
    go_wp2
    go_ret
    first | exact ⟨ret_bool E.out.symm, rfl⟩ | exact ⟨ret_bool (by rw [E.out]; simp; omega), rfl⟩
  · have E := Lib.hid (show sideOk x y = false by unfold sideOk; simp; omega)
    go_enter Try.func69, Try.ntmps69
    go_wp2
    go_ret
    first | exact ⟨ret_bool E.out.symm, rfl⟩ | exact ⟨ret_bool (by rw [E.out]; simp; omega), rfl⟩
  · have E := Lib.hid (show sideOk x y = false by unfold sideOk; simp; omega)
    go_enter Try.func69, Try.ntmps69
    go_wp2
    go_ret
    first | exact ⟨ret_bool E.out.symm, rfl⟩ | exact ⟨ret_bool (by rw [E.out]; simp; omega), rfl⟩
  · have E := Lib.hid (show sideOk x y = false by unfold sideOk; simp; omega)
    go_enter Try.func69, Try.ntmps69
    go_wp2
    go_ret
    first | exact ⟨ret_bool E.out.symm, rfl⟩ | exact ⟨ret_bool (by rw [E.out]; simp; omega), rfl⟩
  · have E := Lib.hid (show sideOk x y = true by unfold sideOk; simp; omega)
    go_enter Try.func69, Try.ntmps69
    go_wp2
    go_ret
    first | exact ⟨ret_bool E.out.symm, rfl⟩ | exact ⟨ret_bool (by rw [E.out]; simp; omega), rfl⟩
set_option maxHeartbeats 400000 in
theorem valid_any (x y p q : Int) (w : World) : Calls Try.prog 35 #[.agg #[.int .i64 x, .int .i64 y, .int .i64 p, .int .i64 q]] w fun e w' => e = .returned (.bool (rvalid x y p q)) ∧ Below w.heap.size w w' := by
  have S1 := Lib.hid (span_any x p); have S2 := Lib.hid (span_any y q)
  unfold rvalid
  cases h : sideOk x p
  all_goals
    rw [h] at S1
    generalize sideOk y q = B at *
    go_enter Try.func35, Try.ntmps35
    go_wp2_with ((go_at_call 69; (first | with_reducible refine (S1.out _).mono ?_ | with_reducible refine (S2.out _).mono ?_); rintro e w4 ⟨rfl, rfl⟩))
    go_ret
    exact ⟨rfl, bel1 _ _⟩
set_option maxHeartbeats 1000000 in
theorem empty_any (x y p q : Int) (w : World) : Calls Try.prog 24 #[.agg #[.int .i64 x, .int .i64 y, .int .i64 p, .int .i64 q]] w fun e w' => e = .returned (.bool (rempty x y p q)) ∧ Below w.heap.size w w' := by
  have S := Lib.hid (valid_any x y p q)
  unfold rempty
  cases hv : rvalid x y p q
  · rw [hv] at S
    go_enter Try.func24, Try.ntmps24
    go_wp2_with fail
    refine (S.out _).mono ?_
    rintro e w4 ⟨rfl, hb⟩
    go_wp2_with fail
    go_ret
    exact ⟨rfl, bel_trans (bel1 _ _) hb⟩
  · rw [hv] at S
    cases h : (p == 0)
    all_goals
      generalize hq : (q == 0) = B
      have t1 := h; have t2 := hq
      go_enter Try.func24, Try.ntmps24
      go_wp2_with fail
      refine (S.out _).mono ?_
      rintro e w4 ⟨rfl, hb⟩
      have K := Lib.hid (box4 hb)
      obtain ⟨c0, c1, c2, c3⟩ := K.out
      go_wp2_with fail
      go_ret
      exact ⟨rfl, bel_trans (bel1 _ _) hb⟩
set_option maxHeartbeats 1000000 in
theorem rvalid_any (x y p q : Int) (w : World) : Calls Try.prog 39 #[.agg #[.int .i64 x, .int .i64 y, .int .i64 p, .int .i64 q]] w fun e w' => e = .returned (.bool (rvalid x y p q)) ∧ Below w.heap.size w w' := by
  by_cases h0 : -1048576 ≤ x
  case neg =>
    have E := Lib.hid (rvalid_no (x := x) (y := y) (w := p) (h := q) (by omega))
    go_enter Try.func39, Try.ntmps39
    go_wp2_with fail
    go_ret
    first | exact ⟨ret_bool E.out.symm, bel1 _ _⟩ | exact ⟨ret_bool (by rw [E.out]; simp; omega), bel1 _ _⟩
  by_cases h1 : x ≤ 1048576
  case neg =>
    have E := Lib.hid (rvalid_no (x := x) (y := y) (w := p) (h := q) (by omega))
    go_enter Try.func39, Try.ntmps39
    go_wp2_with fail
    go_ret
    first | exact ⟨ret_bool E.out.symm, bel1 _ _⟩ | exact ⟨ret_bool (by rw [E.out]; simp; omega), bel1 _ _⟩
  by_cases h2 : -1048576 ≤ y
  case neg =>
    have E := Lib.hid (rvalid_no (x := x) (y := y) (w := p) (h := q) (by omega))
    go_enter Try.func39, Try.ntmps39
    go_wp2_with fail
    go_ret
    first | exact ⟨ret_bool E.out.symm, bel1 _ _⟩ | exact ⟨ret_bool (by rw [E.out]; simp; omega), bel1 _ _⟩
  by_cases h3 : y ≤ 1048576
  case neg =>
    have E := Lib.hid (rvalid_no (x := x) (y := y) (w := p) (h := q) (by omega))
    go_enter Try.func39, Try.ntmps39
    go_wp2_with fail
    go_ret
    first | exact ⟨ret_bool E.out.symm, bel1 _ _⟩ | exact ⟨ret_bool (by rw [E.out]; simp; omega), bel1 _ _⟩
  by_cases h4 : 0 ≤ p
  case neg =>
    have E := Lib.hid (rvalid_no (x := x) (y := y) (w := p) (h := q) (by omega))
    go_enter Try.func39, Try.ntmps39
    go_wp2_with fail
    go_ret
    first | exact ⟨ret_bool E.out.symm, bel1 _ _⟩ | exact ⟨ret_bool (by rw [E.out]; simp; omega), bel1 _ _⟩
  by_cases h5 : 0 ≤ q
  case neg =>
    have E := Lib.hid (rvalid_no (x := x) (y := y) (w := p) (h := q) (by omega))
    go_enter Try.func39, Try.ntmps39
    go_wp2_with fail
    go_ret
    first | exact ⟨ret_bool E.out.symm, bel1 _ _⟩ | exact ⟨ret_bool (by rw [E.out]; simp; omega), bel1 _ _⟩
  by_cases h6 : p ≤ 1048576 - x
  case neg =>
    have E := Lib.hid (rvalid_no (x := x) (y := y) (w := p) (h := q) (by omega))
    go_enter Try.func39, Try.ntmps39
    go_wp2_with fail
    go_ret
    first | exact ⟨ret_bool E.out.symm, bel1 _ _⟩ | exact ⟨ret_bool (by rw [E.out]; simp; omega), bel1 _ _⟩
  by_cases h7 : q ≤ 1048576 - y
  case neg =>
    have E := Lib.hid (rvalid_no (x := x) (y := y) (w := p) (h := q) (by omega))
    go_enter Try.func39, Try.ntmps39
    go_wp2_with fail
    go_ret
    first | exact ⟨ret_bool E.out.symm, bel1 _ _⟩ | exact ⟨ret_bool (by rw [E.out]; simp; omega), bel1 _ _⟩
  have E := Lib.hid ((rvalid_iff x y p q).2 (by omega))
  go_enter Try.func39, Try.ntmps39
  go_wp2_with fail
  go_ret
  first | exact ⟨ret_bool E.out.symm, bel1 _ _⟩ | exact ⟨ret_bool (by rw [E.out]; simp; omega), bel1 _ _⟩
set_option maxHeartbeats 1000000 in
theorem rempty_any (x y p q : Int) (w : World) : Calls Try.prog 41 #[.agg #[.int .i64 x, .int .i64 y, .int .i64 p, .int .i64 q]] w fun e w' => e = .returned (.bool (rempty x y p q)) ∧ Below w.heap.size w w' := by
  have S := Lib.hid (rvalid_any x y p q)
  unfold rempty
  cases hv : rvalid x y p q
  · rw [hv] at S
    go_enter Try.func41, Try.ntmps41
    go_wp2_with fail
    refine (S.out _).mono ?_
    rintro e w4 ⟨rfl, hb⟩
    go_wp2_with fail
    go_ret
    exact ⟨rfl, bel_trans (bel1 _ _) hb⟩
  · rw [hv] at S
    cases h : (p == 0)
    all_goals
      generalize hq : (q == 0) = B
      have t1 := h; have t2 := hq
      go_enter Try.func41, Try.ntmps41
      go_wp2_with fail
      refine (S.out _).mono ?_
      rintro e w4 ⟨rfl, hb⟩
      have K := Lib.hid (box4 hb)
      obtain ⟨c0, c1, c2, c3⟩ := K.out
      go_wp2_with fail
      go_ret
      exact ⟨rfl, bel_trans (bel1 _ _) hb⟩
end Go.Proofs.Ytineinmghajmnaa
namespace Go.Proofs.Ytineinmghajmnaa
open Go.RowKit
attribute [local go_sem 2000] run_max2m run_min2m
/-- A rectangle. -/
structure Rk where
  x : Int
  y : Int
  w : Int
  h : Int
deriving DecidableEq
def Rk.zero : Rk := ⟨0, 0, 0, 0⟩
/-- A rectangle is returned. -/
def RkPost (r : Rk) (w : World) (e : Ending) (w' : World) : Prop := e = .returned (.agg #[.int .i64 r.x, .int .i64 r.y, .int .i64 r.w, .int .i64 r.h]) ∧ Below w.heap.size w w'
def rkB (x0 y0 x1 y1 : Int) : Rk :=
  if max x0 (-1048576) ≥ min x1 1048576 ∨ max y0 (-1048576) ≥ min y1 1048576 then Rk.zero
  else ⟨max x0 (-1048576), max y0 (-1048576), min x1 1048576 - max x0 (-1048576), min y1 1048576 - max y0 (-1048576)⟩
def Rk.empty (r : Rk) : Bool := rempty r.x r.y r.w r.h
def Rk.within (a b : Rk) : Bool := a.empty || (!b.empty && (decide (b.x ≤ a.x) && decide (a.x + a.w ≤ b.x + b.w) && decide (b.y ≤ a.y) && decide (a.y + a.h ≤ b.y + b.h)))
def Rk.meet (a b : Rk) : Rk := if (a.empty || b.empty) = true then Rk.zero else rkB (max a.x b.x) (max a.y b.y) (min (a.x + a.w) (b.x + b.w)) (min (a.y + a.h) (b.y + b.h))
def lim4 (n : Int) : Int := min (max n (-4194304)) 4194304
def Rk.grow (a : Rk) (n : Int) : Rk := if a.empty = true then Rk.zero else rkB (a.x - lim4 n) (a.y - lim4 n) (a.x + a.w + lim4 n) (a.y + a.h + lim4 n)
theorem full_bd {x y p q : Int} (h : rempty x y p q = false) : ((-1048576 ≤ x ∧ x ≤ 1048576) ∧ 1 ≤ p ∧ p ≤ 1048576 - x) ∧ ((-1048576 ≤ y ∧ y ≤ 1048576) ∧ 1 ≤ q ∧ q ≤ 1048576 - y) := by
  unfold rempty at h
  simp only [Bool.or_eq_false_iff, Bool.not_eq_false'] at h
  obtain ⟨⟨h1, h2⟩, h3⟩ := h
  have := (rvalid_iff x y p q).1 h1
  simp at h2 h3
  omega
theorem empty_of {x y p q : Int} (h : ¬ (((-1048576 ≤ x ∧ x ≤ 1048576) ∧ 1 ≤ p ∧ p ≤ 1048576 - x) ∧ ((-1048576 ≤ y ∧ y ≤ 1048576) ∧ 1 ≤ q ∧ q ≤ 1048576 - y))) : rempty x y p q = true := by
  rw [← Bool.not_eq_false]
  exact fun e => h (full_bd e)
/-- A rectangle between two corners: it lies in the world. -/
theorem rkB_ok (x0 y0 x1 y1 : Int) : rkB x0 y0 x1 y1 = Rk.zero ∨ (rkB x0 y0 x1 y1).empty = false := by
  unfold rkB
  split
  · exact .inl rfl
  · right
    rename_i h
    show rempty _ _ _ _ = false
    rw [← Bool.not_eq_true]
    intro e
    unfold rempty at e
    rw [show rvalid (max x0 (-1048576)) (max y0 (-1048576)) (min x1 1048576 - max x0 (-1048576)) (min y1 1048576 - max y0 (-1048576)) = true from (rvalid_iff _ _ _ _).2 (by omega)] at e
    simp at e
    omega
/-- Boxes, one behind the other. -/
def Bxs (w : World) (g : Nat) : List (TypeId × Array Value) → Prop
  | [] => True
  | (t, vs) :: l => Bx w g t vs ∧ Bxs w (g + 1) l
theorem Bxs.below {w w' : World} (hb : Below w.heap.size w w') : ∀ {l : List (TypeId × Array Value)} {g : Nat}, Bxs w g l → Bxs w' g l
  | [], _, _ => trivial
  | (_, _) :: _, _, h => ⟨h.1.below hb, Bxs.below hb h.2⟩
/-- A function's boxes, and that nothing older was written. -/
def Fr (w0 : World) (l : List (TypeId × Array Value)) (w : World) : Prop := Bxs w w0.heap.size l ∧ Below w0.heap.size w0 w
theorem Fr.below {w0 w w' : World} {l : List (TypeId × Array Value)} (h : Fr w0 l w) (hb : Below w.heap.size w w') : Fr w0 l w' := ⟨Bxs.below hb h.1, bel_trans h.2 hb⟩
theorem Fr.drew {w0 w : World} {l : List (TypeId × Array Value)} (h : Fr w0 l w) : Fr w0 l w.drew := h.below (Below.drew (Below.refl _ _))
theorem Fr.drewN {w0 w : World} {l : List (TypeId × Array Value)} (h : Fr w0 l w) (n : Nat) : Fr w0 l (w.drewN n) := h.below (Below.drewN' (Below.refl _ _) n)
theorem fr_one (w : World) (vs : Array Value) (t : TypeId) (w0 : World) (hw : w0 = w.alloc (.cells vs t)) : Fr w [(t, vs)] w0 := by
  obtain ⟨a, b, -⟩ := one_box w vs t w0 hw
  exact ⟨⟨a, trivial⟩, b⟩
theorem fr_two (w : World) (vs us : Array Value) (t u : TypeId) (w0 : World) (hw : w0 = (w.alloc (.cells vs t)).alloc (.cells us u)) : Fr w [(t, vs), (u, us)] w0 := by
  obtain ⟨a, b, c⟩ := two_boxes w vs us t u w0 hw
  exact ⟨⟨a, b, trivial⟩, c⟩
theorem fr_three (w : World) (vs us ts : Array Value) (t u v : TypeId) (w0 : World) (hw : w0 = ((w.alloc (.cells vs t)).alloc (.cells us u)).alloc (.cells ts v)) : Fr w [(t, vs), (u, us), (v, ts)] w0 := by
  obtain ⟨a, b, c, d, -⟩ := three_boxes w vs us ts t u v w0 hw
  exact ⟨⟨a, b, c, trivial⟩, d⟩

set_option maxHeartbeats 1000000 in
theorem between_core (x0 y0 x1 y1 a b c d r0 r1 r2 r3 : Int) (w : World) (ea : max x0 (-1048576) = a) (eb : max y0 (-1048576) = b) (ec : min x1 1048576 = c) (ed : min y1 1048576 = d)
    (tt : (c ≤ a ∧ r0 = 0 ∧ r1 = 0 ∧ r2 = 0 ∧ r3 = 0) ∨ (¬ c ≤ a ∧ d ≤ b ∧ r0 = 0 ∧ r1 = 0 ∧ r2 = 0 ∧ r3 = 0) ∨ (¬ c ≤ a ∧ ¬ d ≤ b ∧ r0 = a ∧ r1 = b ∧ IntKind.i64.wrap (c - a) = r2 ∧ IntKind.i64.wrap (d - b) = r3)) :
    Calls Try.prog 55 #[.int .i64 x0, .int .i64 y0, .int .i64 x1, .int .i64 y1] w (RkPost ⟨r0, r1, r2, r3⟩ w) := by
  have TT := Lib.hid tt; clear tt
  go_enter Try.func55, Try.ntmps55
  go_upto_region 1 with fail
  obtain ⟨hb1, hB, -⟩ := one_box w #[.int .i64 0, .int .i64 0, .int .i64 0, .int .i64 0] 33 _ rfl
  generalize World.alloc w _ = w0 at *
  obtain ⟨⟨q1, q2, q3, q4⟩, qf1, qf2, qf3, qf4⟩ := hb1.four
  clear hb1
  have HB := Lib.hid hB; clear hB
  rcases TT.out with ⟨t1, rfl, rfl, rfl, rfl⟩ | ⟨t1, t2, rfl, rfl, rfl, rfl⟩ | ⟨t1, t2, rfl, rfl, e2, e3⟩
  all_goals
    clear TT
    go_wp2_with fail
    refine bodyPost_ret (v := .agg #[.int .i64 _, .int .i64 _, .int .i64 _, .int .i64 _]) (by simp [results, Try.results55, go_sem, *]) rfl ⟨rfl, ?_⟩
    exact set4_below HB.out (Nat.le_refl _) _ _ _ _ _ _ _ _
theorem between_any (x0 y0 x1 y1 : Int) (w : World) :
    Calls Try.prog 55 #[.int .i64 x0, .int .i64 y0, .int .i64 x1, .int .i64 y1] w (RkPost (rkB x0 y0 x1 y1) w) := by
  unfold rkB
  by_cases h1 : min x1 1048576 ≤ max x0 (-1048576)
  · rw [if_pos (.inl h1)]
    exact between_core x0 y0 x1 y1 _ _ _ _ 0 0 0 0 w rfl rfl rfl rfl (.inl ⟨h1, rfl, rfl, rfl, rfl⟩)
  · by_cases h2 : min y1 1048576 ≤ max y0 (-1048576)
    · rw [if_pos (.inr h2)]
      exact between_core x0 y0 x1 y1 _ _ _ _ 0 0 0 0 w rfl rfl rfl rfl (.inr (.inl ⟨h1, h2, rfl, rfl, rfl, rfl⟩))
    · rw [if_neg (fun h => h.elim h1 h2)]
      exact between_core x0 y0 x1 y1 _ _ _ _ _ _ _ _ w rfl rfl rfl rfl (.inr (.inr ⟨h1, h2, rfl, rfl, wrap_in _ (by omega), wrap_in _ (by omega)⟩))
set_option maxHeartbeats 2000000 in
theorem meet_any (x y p q x' y' p' q' : Int) (w : World) : Calls Try.prog 26 #[.agg #[.int .i64 x, .int .i64 y, .int .i64 p, .int .i64 q], .agg #[.int .i64 x', .int .i64 y', .int .i64 p', .int .i64 q']] w (RkPost (Rk.meet ⟨x, y, p, q⟩ ⟨x', y', p', q'⟩) w) := by
  have E1 := Lib.hid (show ∀ w, Calls Try.prog 24 #[.agg #[.int .i64 x, .int .i64 y, .int .i64 p, .int .i64 q]] w fun e w' => e = .returned (.bool (rempty x y p q)) ∧ Below w.heap.size w w' from fun w => empty_any x y p q w)
  have E2 := Lib.hid (show ∀ w, Calls Try.prog 24 #[.agg #[.int .i64 x', .int .i64 y', .int .i64 p', .int .i64 q']] w fun e w' => e = .returned (.bool (rempty x' y' p' q')) ∧ Below w.heap.size w w' from fun w => empty_any x' y' p' q' w)
  have B := Lib.hid (between_any (max x x') (max y y') (min (x + p) (x' + p')) (min (y + q) (y' + q')))
  have W := Lib.hid (show Rk.meet ⟨x, y, p, q⟩ ⟨x', y', p', q'⟩ = if (rempty x y p q || rempty x' y' p' q') = true then Rk.zero else rkB (max x x') (max y y') (min (x + p) (x' + p')) (min (y + q) (y' + q')) from rfl)
  generalize Rk.meet ⟨x, y, p, q⟩ ⟨x', y', p', q'⟩ = r at *
  generalize rkB (max x x') (max y y') (min (x + p) (x' + p')) (min (y + q) (y' + q')) = s at *
  cases h1 : rempty x y p q
  rotate_left
  · rw [h1] at E1 W
    clear h1
    have R : r = Rk.zero := W.out
    subst R
    go_enter Try.func26, Try.ntmps26
    go_upto_region 1 with fail
    have K := Lib.hid (fr_three w #[.int .i64 x, .int .i64 y, .int .i64 p, .int .i64 q] #[.int .i64 x', .int .i64 y', .int .i64 p', .int .i64 q'] #[.int .i64 0, .int .i64 0, .int .i64 0, .int .i64 0] 33 33 33 _ rfl)
    generalize World.alloc (World.alloc (w.alloc _) _) _ = w0 at *
    obtain ⟨⟨a1, a2, a3, a4⟩, -⟩ := K.out.1.1.four
    go_wp2_with fail
    refine (E1.out _).mono ?_
    rintro e w1 ⟨rfl, hb⟩
    replace K := Lib.hid (K.out.below hb)
    clear hb
    clear a1 a2 a3 a4
    have HB := Lib.hid K.out.2
    obtain ⟨⟨r1, r2, r3, r4⟩, f1, f2, f3, f4⟩ := K.out.1.2.2.1.four
    go_wp2_with fail
    refine bodyPost_ret (v := .agg #[.int .i64 0, .int .i64 0, .int .i64 0, .int .i64 0]) (by simp [results, Try.results26, go_sem, *]) rfl ⟨rfl, ?_⟩
    exact set4_below HB.out (by omega) _ _ _ _ _ _ _ _
  rw [h1] at E1 W
  cases h2 : rempty x' y' p' q'
  rotate_left
  · rw [h2] at E2 W
    clear h1 h2
    have R : r = Rk.zero := W.out
    subst R
    go_enter Try.func26, Try.ntmps26
    go_upto_region 1 with fail
    have K := Lib.hid (fr_three w #[.int .i64 x, .int .i64 y, .int .i64 p, .int .i64 q] #[.int .i64 x', .int .i64 y', .int .i64 p', .int .i64 q'] #[.int .i64 0, .int .i64 0, .int .i64 0, .int .i64 0] 33 33 33 _ rfl)
    generalize World.alloc (World.alloc (w.alloc _) _) _ = w0 at *
    obtain ⟨⟨a1, a2, a3, a4⟩, -⟩ := K.out.1.1.four
    go_wp2_with fail
    refine (E1.out _).mono ?_
    rintro e w1 ⟨rfl, hb⟩
    replace K := Lib.hid (K.out.below hb)
    clear hb
    clear a1 a2 a3 a4
    obtain ⟨⟨b1, b2, b3, b4⟩, -⟩ := K.out.1.2.1.four
    go_wp2_with fail
    refine (E2.out _).mono ?_
    rintro e w1 ⟨rfl, hb⟩
    replace K := Lib.hid (K.out.below hb)
    clear hb
    clear b1 b2 b3 b4
    have HB := Lib.hid K.out.2
    obtain ⟨⟨r1, r2, r3, r4⟩, f1, f2, f3, f4⟩ := K.out.1.2.2.1.four
    go_wp2_with fail
    refine bodyPost_ret (v := .agg #[.int .i64 0, .int .i64 0, .int .i64 0, .int .i64 0]) (by simp [results, Try.results26, go_sem, *]) rfl ⟨rfl, ?_⟩
    exact set4_below HB.out (by omega) _ _ _ _ _ _ _ _
  rw [h2] at E2 W
  have d1 := full_bd h1; have d2 := full_bd h2
  clear h1 h2
  have R : r = s := W.out
  subst R
  have v1 := wrap_in (x + p) (by omega); have v2 := wrap_in (x' + p') (by omega); have v3 := wrap_in (y + q) (by omega); have v4 := wrap_in (y' + q') (by omega)
  clear d1 d2
  go_enter Try.func26, Try.ntmps26
  go_upto_region 1 with fail
  have K := Lib.hid (fr_three w #[.int .i64 x, .int .i64 y, .int .i64 p, .int .i64 q] #[.int .i64 x', .int .i64 y', .int .i64 p', .int .i64 q'] #[.int .i64 0, .int .i64 0, .int .i64 0, .int .i64 0] 33 33 33 _ rfl)
  generalize World.alloc (World.alloc (w.alloc _) _) _ = w0 at *
  obtain ⟨⟨a1, a2, a3, a4⟩, -⟩ := K.out.1.1.four
  go_wp2_with fail
  refine (E1.out _).mono ?_
  rintro e w1 ⟨rfl, hb⟩
  replace K := Lib.hid (K.out.below hb)
  clear hb
  clear a1 a2 a3 a4
  obtain ⟨⟨b1, b2, b3, b4⟩, -⟩ := K.out.1.2.1.four
  go_wp2_with fail
  refine (E2.out _).mono ?_
  rintro e w1 ⟨rfl, hb⟩
  replace K := Lib.hid (K.out.below hb)
  clear hb
  clear b1 b2 b3 b4
  obtain ⟨⟨a1, a2, a3, a4⟩, -⟩ := K.out.1.1.four
  obtain ⟨⟨b1, b2, b3, b4⟩, -⟩ := K.out.1.2.1.four
  go_wp2_with fail
  with_reducible refine (B.out _).mono ?_
  rintro e w1 ⟨rfl, hb⟩
  replace K := Lib.hid (K.out.below hb)
  clear hb a1 a2 a3 a4 b1 b2 b3 b4
  have HB := Lib.hid K.out.2
  obtain ⟨⟨r1, r2, r3, r4⟩, f1, f2, f3, f4⟩ := K.out.1.2.2.1.four
  go_wp2_with fail
  refine bodyPost_ret (v := .agg #[.int .i64 r.x, .int .i64 r.y, .int .i64 r.w, .int .i64 r.h]) (by simp [results, Try.results26, go_sem, *]) rfl ⟨rfl, ?_⟩
  exact set4_below HB.out (by omega) _ _ _ _ _ _ _ _
set_option maxHeartbeats 2000000 in
theorem grow_any (x y p q n : Int) (w : World) : Calls Try.prog 44 #[.agg #[.int .i64 x, .int .i64 y, .int .i64 p, .int .i64 q], .int .i64 n] w (RkPost (Rk.grow ⟨x, y, p, q⟩ n) w) := by
  have E1 := Lib.hid (show ∀ w, Calls Try.prog 24 #[.agg #[.int .i64 x, .int .i64 y, .int .i64 p, .int .i64 q]] w fun e w' => e = .returned (.bool (rempty x y p q)) ∧ Below w.heap.size w w' from fun w => empty_any x y p q w)
  have W := Lib.hid (show Rk.grow ⟨x, y, p, q⟩ n = if rempty x y p q = true then Rk.zero else rkB (x - lim4 n) (y - lim4 n) (x + p + lim4 n) (y + q + lim4 n) from rfl)
  have B := Lib.hid (between_any (x - lim4 n) (y - lim4 n) (x + p + lim4 n) (y + q + lim4 n))
  generalize Rk.grow ⟨x, y, p, q⟩ n = r at *
  generalize rkB (x - lim4 n) (y - lim4 n) (x + p + lim4 n) (y + q + lim4 n) = s at *
  have hm : min (max n (-4194304)) 4194304 = lim4 n := rfl
  have hm2 : -4194304 ≤ lim4 n ∧ lim4 n ≤ 4194304 := by unfold lim4; omega
  generalize lim4 n = m at *
  cases h1 : rempty x y p q
  rotate_left
  · rw [h1] at E1 W
    clear h1
    have R : r = Rk.zero := W.out
    subst R
    go_enter Try.func44, Try.ntmps44
    go_upto_region 1 with fail
    have K := Lib.hid (fr_two w #[.int .i64 x, .int .i64 y, .int .i64 p, .int .i64 q] #[.int .i64 0, .int .i64 0, .int .i64 0, .int .i64 0] 33 33 _ rfl)
    generalize World.alloc (w.alloc _) _ = w0 at *
    obtain ⟨⟨a1, a2, a3, a4⟩, -⟩ := K.out.1.1.four
    go_wp2_with fail
    refine (E1.out _).mono ?_
    rintro e w1 ⟨rfl, hb⟩
    replace K := Lib.hid (K.out.below hb)
    clear hb
    clear a1 a2 a3 a4
    have HB := Lib.hid K.out.2
    obtain ⟨⟨r1, r2, r3, r4⟩, f1, f2, f3, f4⟩ := K.out.1.2.1.four
    go_wp2_with fail
    refine bodyPost_ret (v := .agg #[.int .i64 0, .int .i64 0, .int .i64 0, .int .i64 0]) (by simp [results, Try.results44, go_sem, *]) rfl ⟨rfl, ?_⟩
    exact set4_below HB.out (by omega) _ _ _ _ _ _ _ _
  rw [h1] at E1 W
  have d1 := full_bd h1
  clear h1
  have R : r = s := W.out
  subst R
  have v1 := wrap_in (x + p) (by omega); have v2 := wrap_in (y + q) (by omega); have v3 := wrap_in (x - m) (by omega); have v4 := wrap_in (y - m) (by omega); have v5 := wrap_in (x + p + m) (by omega); have v6 := wrap_in (y + q + m) (by omega)
  clear d1 hm2
  go_enter Try.func44, Try.ntmps44
  go_upto_region 1 with fail
  have K := Lib.hid (fr_two w #[.int .i64 x, .int .i64 y, .int .i64 p, .int .i64 q] #[.int .i64 0, .int .i64 0, .int .i64 0, .int .i64 0] 33 33 _ rfl)
  generalize World.alloc (w.alloc _) _ = w0 at *
  obtain ⟨⟨a1, a2, a3, a4⟩, -⟩ := K.out.1.1.four
  go_wp2_with fail
  refine (E1.out _).mono ?_
  rintro e w1 ⟨rfl, hb⟩
  replace K := Lib.hid (K.out.below hb)
  clear hb
  clear a1 a2 a3 a4
  obtain ⟨⟨a1, a2, a3, a4⟩, -⟩ := K.out.1.1.four
  go_wp2_with fail
  with_reducible refine (B.out _).mono ?_
  rintro e w1 ⟨rfl, hb⟩
  replace K := Lib.hid (K.out.below hb)
  clear hb a1 a2 a3 a4
  have HB := Lib.hid K.out.2
  obtain ⟨⟨r1, r2, r3, r4⟩, f1, f2, f3, f4⟩ := K.out.1.2.1.four
  go_wp2_with fail
  refine bodyPost_ret (v := .agg #[.int .i64 r.x, .int .i64 r.y, .int .i64 r.w, .int .i64 r.h]) (by simp [results, Try.results44, go_sem, *]) rfl ⟨rfl, ?_⟩
  exact set4_below HB.out (by omega) _ _ _ _ _ _ _ _
end Go.Proofs.Ytineinmghajmnaa
namespace Go.Proofs.Ytineinmghajmnaa
open Go.RowKit
attribute [local go_sem 2000] run_max2m run_min2m
/-- Two numbers are returned. -/
def SpPost (a b : Int) (w : World) (e : Ending) (w' : World) : Prop := e = .returned (.tuple #[.int .i64 a, .int .i64 b]) ∧ Below w.heap.size w w'
theorem empty_cases {x y p q : Int} (h : rempty x y p q = true) : rvalid x y p q = false ∨ (rvalid x y p q = true ∧ (p == 0) = true) ∨ (rvalid x y p q = true ∧ (p == 0) = false ∧ (q == 0) = true) := by
  unfold rempty at h
  cases h1 : rvalid x y p q <;> cases h2 : (p == 0) <;> cases h3 : (q == 0) <;> simp_all
theorem full_cases {x y p q : Int} (h : rempty x y p q = false) : rvalid x y p q = true ∧ (p == 0) = false ∧ (q == 0) = false := by
  unfold rempty at h
  cases h1 : rvalid x y p q <;> cases h2 : (p == 0) <;> cases h3 : (q == 0) <;> simp_all
set_option maxHeartbeats 2000000 in
theorem rspan_empty (x y p q k : Int) (w : World) (h : rempty x y p q = true) : Calls Try.prog 80 #[.agg #[.int .i64 x, .int .i64 y, .int .i64 p, .int .i64 q], .int .i64 k] w (SpPost 0 (-1) w) := by
  have V := Lib.hid (rvalid_any x y p q)
  rcases empty_cases h with h1 | ⟨h1, h2⟩ | ⟨h1, h2, h3⟩
  all_goals
    clear h
    go_enter Try.func80, Try.ntmps80
    go_upto_region 1 with fail
    obtain ⟨hb1, hB, -⟩ := one_box w #[.int .i64 x, .int .i64 y, .int .i64 p, .int .i64 q] 33 _ rfl
    generalize World.alloc w _ = w0 at *
    obtain ⟨⟨i1, i2, i3, i4⟩, -⟩ := hb1.four
    go_wp2_with fail
    refine (V.out _).mono ?_
    rintro e w1 ⟨rfl, hb⟩
    rw [h1]
    replace hb1 := hb1.below hb; replace hB := bel_trans hB hb
    clear i1 i2 i3 i4 hb
    obtain ⟨⟨i1, i2, i3, i4⟩, -⟩ := hb1.four
    have HB := Lib.hid hB
    clear hb1 hB V
    go_wp2_with fail
    refine bodyPost_ret (v := .tuple #[.int .i64 0, .int .i64 (-1)]) (by simp [results, Try.results80, go_sem]) rfl ⟨rfl, HB.out⟩
set_option maxHeartbeats 2000000 in
theorem rspan_0 (x y p q : Int) (w : World) (h : rempty x y p q = false) : Calls Try.prog 80 #[.agg #[.int .i64 x, .int .i64 y, .int .i64 p, .int .i64 q], .int .i64 0] w (SpPost x (x + p - 1) w) := by
  have V := Lib.hid (rvalid_any x y p q)
  have hbd := full_bd h
  obtain ⟨h1, h2, h3⟩ := full_cases h
  have e1 := wrap_in (x + p) (by omega); have e2 := wrap_in (x + p - 1) (by omega)
  clear h hbd
  go_enter Try.func80, Try.ntmps80
  go_upto_region 1 with fail
  obtain ⟨hb1, hB, -⟩ := one_box w #[.int .i64 x, .int .i64 y, .int .i64 p, .int .i64 q] 33 _ rfl
  generalize World.alloc w _ = w0 at *
  obtain ⟨⟨i1, i2, i3, i4⟩, -⟩ := hb1.four
  go_wp2_with fail
  refine (V.out _).mono ?_
  rintro e w1 ⟨rfl, hb⟩
  rw [h1]
  replace hb1 := hb1.below hb; replace hB := bel_trans hB hb
  clear i1 i2 i3 i4 hb
  obtain ⟨⟨i1, i2, i3, i4⟩, -⟩ := hb1.four
  have HB := Lib.hid hB
  clear hb1 hB V
  go_wp2_with fail
  go_quiet (fail)
  go_wp2_with fail
  refine bodyPost_ret (v := .tuple #[.int .i64 x, .int .i64 (x + p - 1)]) (by simp [results, Try.results80, go_sem]) rfl ⟨rfl, Below.drewN' HB.out _⟩
set_option maxHeartbeats 2000000 in
theorem rspan_1 (x y p q : Int) (w : World) (h : rempty x y p q = false) : Calls Try.prog 80 #[.agg #[.int .i64 x, .int .i64 y, .int .i64 p, .int .i64 q], .int .i64 1] w (SpPost y (y + q - 1) w) := by
  have V := Lib.hid (rvalid_any x y p q)
  have hbd := full_bd h
  obtain ⟨h1, h2, h3⟩ := full_cases h
  have e1 := wrap_in (y + q) (by omega); have e2 := wrap_in (y + q - 1) (by omega)
  clear h hbd
  go_enter Try.func80, Try.ntmps80
  go_upto_region 1 with fail
  obtain ⟨hb1, hB, -⟩ := one_box w #[.int .i64 x, .int .i64 y, .int .i64 p, .int .i64 q] 33 _ rfl
  generalize World.alloc w _ = w0 at *
  obtain ⟨⟨i1, i2, i3, i4⟩, -⟩ := hb1.four
  go_wp2_with fail
  refine (V.out _).mono ?_
  rintro e w1 ⟨rfl, hb⟩
  rw [h1]
  replace hb1 := hb1.below hb; replace hB := bel_trans hB hb
  clear i1 i2 i3 i4 hb
  obtain ⟨⟨i1, i2, i3, i4⟩, -⟩ := hb1.four
  have HB := Lib.hid hB
  clear hb1 hB V
  go_wp2_with fail
  go_quiet (fail)
  go_wp2_with fail
  refine bodyPost_ret (v := .tuple #[.int .i64 y, .int .i64 (y + q - 1)]) (by simp [results, Try.results80, go_sem]) rfl ⟨rfl, Below.drewN' HB.out _⟩
/-- The ends of a rectangle on an axis. -/
def Rk.x0 (r : Rk) : Int := if r.empty = true then 0 else r.x
def Rk.x1 (r : Rk) : Int := if r.empty = true then -1 else r.x + r.w - 1
def Rk.y0 (r : Rk) : Int := if r.empty = true then 0 else r.y
def Rk.y1 (r : Rk) : Int := if r.empty = true then -1 else r.y + r.h - 1
theorem rspanx (r : Rk) (w : World) : Calls Try.prog 80 #[.agg #[.int .i64 r.x, .int .i64 r.y, .int .i64 r.w, .int .i64 r.h], .int .i64 0] w (SpPost r.x0 r.x1 w) := by
  unfold Rk.x0 Rk.x1
  cases h : r.empty
  · exact rspan_0 r.x r.y r.w r.h w h
  · exact rspan_empty r.x r.y r.w r.h 0 w h
theorem rspany (r : Rk) (w : World) : Calls Try.prog 80 #[.agg #[.int .i64 r.x, .int .i64 r.y, .int .i64 r.w, .int .i64 r.h], .int .i64 1] w (SpPost r.y0 r.y1 w) := by
  unfold Rk.y0 Rk.y1
  cases h : r.empty
  · exact rspan_1 r.x r.y r.w r.h w h
  · exact rspan_empty r.x r.y r.w r.h 1 w h
theorem span_bd (r : Rk) : (-1048576 ≤ r.x0 ∧ r.x0 ≤ 1048576) ∧ (-1048576 ≤ r.x1 ∧ r.x1 ≤ 1048576) ∧ (-1048576 ≤ r.y0 ∧ r.y0 ≤ 1048576) ∧ -1048576 ≤ r.y1 ∧ r.y1 ≤ 1048576 := by
  unfold Rk.x0 Rk.x1 Rk.y0 Rk.y1
  cases h : r.empty
  · have := full_bd h
    simp only [Bool.false_eq_true, if_false]
    omega
  · simp
/-- A rectangle of its first and last coordinates. -/
def rof (x0 x1 y0 y1 : Int) : Rk := if x1 < x0 ∨ y1 < y0 then Rk.zero else ⟨x0, y0, x1 - x0 + 1, y1 - y0 + 1⟩
set_option maxHeartbeats 2000000 in
theorem rof_any (x0 x1 y0 y1 : Int) (w : World) (hx0 : -1099511627776 ≤ x0 ∧ x0 ≤ 1099511627776) (hx1 : -1099511627776 ≤ x1 ∧ x1 ≤ 1099511627776) (hy0 : -1099511627776 ≤ y0 ∧ y0 ≤ 1099511627776) (hy1 : -1099511627776 ≤ y1 ∧ y1 ≤ 1099511627776) :
    Calls Try.prog 94 #[.int .i64 x0, .int .i64 x1, .int .i64 y0, .int .i64 y1] w (RkPost (rof x0 x1 y0 y1) w) := by
  have e1 := wrap_in (x1 - x0) (by omega); have e2 := wrap_in (x1 - x0 + 1) (by omega); have e3 := wrap_in (y1 - y0) (by omega); have e4 := wrap_in (y1 - y0 + 1) (by omega)
  have HE := Lib.hid (show rof x0 x1 y0 y1 = if x1 < x0 ∨ y1 < y0 then Rk.zero else ⟨x0, y0, x1 - x0 + 1, y1 - y0 + 1⟩ from rfl)
  clear hx0 hx1 hy0 hy1
  rcases (show x1 < x0 ∨ (¬ x1 < x0 ∧ y1 < y0) ∨ (¬ x1 < x0 ∧ ¬ y1 < y0) by omega) with t1 | ⟨t1, t2⟩ | ⟨t1, t2⟩
  · replace HE := Lib.hid (HE.out.trans (if_pos (.inl t1)))
    go_enter Try.func94, Try.ntmps94
    go_upto_region 1 with fail
    obtain ⟨hb1, hB, -⟩ := one_box w #[.int .i64 0, .int .i64 0, .int .i64 0, .int .i64 0] 33 _ rfl
    generalize World.alloc w _ = w0 at *
    obtain ⟨⟨q1, q2, q3, q4⟩, qf1, qf2, qf3, qf4⟩ := hb1.four
    have HB := Lib.hid hB
    clear hb1 hB
    go_wp2_with fail
    refine bodyPost_ret (v := .agg #[.int .i64 0, .int .i64 0, .int .i64 0, .int .i64 0]) (by simp [results, Try.results94, go_sem, q1, q2, q3, q4]) rfl ⟨by rw [HE.out]; rfl, ?_⟩
    exact set4_below HB.out (Nat.le_refl _) _ _ _ _ _ _ _ _
  · replace HE := Lib.hid (HE.out.trans (if_pos (.inr t2)))
    go_enter Try.func94, Try.ntmps94
    go_upto_region 1 with fail
    obtain ⟨hb1, hB, -⟩ := one_box w #[.int .i64 0, .int .i64 0, .int .i64 0, .int .i64 0] 33 _ rfl
    generalize World.alloc w _ = w0 at *
    obtain ⟨⟨q1, q2, q3, q4⟩, qf1, qf2, qf3, qf4⟩ := hb1.four
    have HB := Lib.hid hB
    clear hb1 hB
    go_wp2_with fail
    refine bodyPost_ret (v := .agg #[.int .i64 0, .int .i64 0, .int .i64 0, .int .i64 0]) (by simp [results, Try.results94, go_sem, q1, q2, q3, q4]) rfl ⟨by rw [HE.out]; rfl, ?_⟩
    exact set4_below HB.out (Nat.le_refl _) _ _ _ _ _ _ _ _
  · replace HE := Lib.hid (HE.out.trans (if_neg (fun h => h.elim t1 t2)))
    go_enter Try.func94, Try.ntmps94
    go_upto_region 1 with fail
    obtain ⟨hb1, hB, -⟩ := one_box w #[.int .i64 0, .int .i64 0, .int .i64 0, .int .i64 0] 33 _ rfl
    generalize World.alloc w _ = w0 at *
    obtain ⟨⟨q1, q2, q3, q4⟩, qf1, qf2, qf3, qf4⟩ := hb1.four
    have HB := Lib.hid hB
    clear hb1 hB
    go_wp2_with fail
    refine bodyPost_ret (v := .agg #[.int .i64 x0, .int .i64 y0, .int .i64 (x1 - x0 + 1), .int .i64 (y1 - y0 + 1)]) (by simp [results, Try.results94, go_sem, q1, q2, q3, q4]) rfl ⟨by rw [HE.out], ?_⟩
    exact set4_below HB.out (Nat.le_refl _) _ _ _ _ _ _ _ _
theorem within_eq (a b : Rk) : a.within b = if a.empty = true then true else decide (b.x0 ≤ a.x0 ∧ a.x0 ≤ b.x1 ∧ b.y0 ≤ a.y0 ∧ a.y0 ≤ b.y1) && decide (b.x0 ≤ a.x1 ∧ a.x1 ≤ b.x1 ∧ b.y0 ≤ a.y1 ∧ a.y1 ≤ b.y1) := by
  unfold Rk.within
  cases ha : a.empty
  · have fa := full_bd ha
    simp only [Bool.false_or, Bool.false_eq_true, if_false]
    unfold Rk.x0 Rk.x1 Rk.y0 Rk.y1
    rw [ha]
    cases hb : b.empty
    · have fb := full_bd hb
      simp only [Bool.not_false, Bool.true_and, Bool.false_eq_true, if_false]
      rw [Bool.eq_iff_iff]
      simp only [Bool.and_eq_true, decide_eq_true_eq]
      omega
    · simp only [Bool.not_true, Bool.false_and, if_true, Bool.false_eq_true, if_false]
      symm
      rw [Bool.eq_false_iff]
      simp only [ne_eq, Bool.and_eq_true, decide_eq_true_eq]
      omega
  · simp
theorem meet_rof {a b : Rk} (ha : a.empty = false) (hb : b.empty = false) : a.meet b = rof (max a.x b.x) (min (a.x + a.w - 1) (b.x + b.w - 1)) (max a.y b.y) (min (a.y + a.h - 1) (b.y + b.h - 1)) := by
  have fa := full_bd ha; have fb := full_bd hb
  unfold Rk.meet
  rw [ha, hb, if_neg (by simp)]
  unfold rkB rof
  by_cases h : min (a.x + a.w - 1) (b.x + b.w - 1) < max a.x b.x ∨ min (a.y + a.h - 1) (b.y + b.h - 1) < max a.y b.y
  · rw [if_pos h, if_pos (by omega)]
  · rw [if_neg h, if_neg (by omega)]
    congr 1 <;> omega
set_option maxHeartbeats 400000 in
theorem rlimit2_any (n : Int) (w : World) : Calls Try.prog 81 #[.int .i64 n] w fun e w' => e = .returned (.int .i64 (min (max n (-3145728)) 3145728)) ∧ w = w' := by
  go_enter Try.func81, Try.ntmps81
  go_wp2_with fail
  go_ret
  exact ⟨rfl, rfl⟩
set_option maxHeartbeats 2000000 in
theorem rworld_core (x0 x1 y0 y1 a b c d : Int) (R : Rk) (w : World) (n1 : max x0 (-1048576) = a) (n2 : min x1 1048575 = b) (n3 : max y0 (-1048576) = c) (n4 : min y1 1048575 = d)
    (TO : ∀ w, Calls Try.prog 94 #[.int .i64 a, .int .i64 b, .int .i64 c, .int .i64 d] w (RkPost R w)) :
    Calls Try.prog 82 #[.int .i64 x0, .int .i64 x1, .int .i64 y0, .int .i64 y1] w (RkPost R w) := by
  replace TO := Lib.hid TO
  go_enter Try.func82, Try.ntmps82
  go_upto_region 1 with fail
  have K := Lib.hid (fr_one w #[.int .i64 0, .int .i64 0, .int .i64 0, .int .i64 0] 33 _ rfl)
  generalize World.alloc w _ = w0 at *
  go_wp2_with fail
  refine (TO.out _).mono ?_
  rintro e w1 ⟨rfl, hb⟩
  replace K := Lib.hid (K.out.below hb)
  obtain ⟨⟨r1, r2, r3, r4⟩, f1, f2, f3, f4⟩ := K.out.1.1.four
  have HB := Lib.hid K.out.2
  clear K hb n1 n2 n3 n4
  go_wp2_with fail
  refine bodyPost_ret (v := .agg #[.int .i64 R.x, .int .i64 R.y, .int .i64 R.w, .int .i64 R.h]) (by simp [results, Try.results82, go_sem, r1, r2, r3, r4]) rfl ⟨rfl, ?_⟩
  exact set4_below HB.out (by omega) _ _ _ _ _ _ _ _
theorem rworld_any (x0 x1 y0 y1 : Int) (w : World) (hx0 : -16777216 ≤ x0 ∧ x0 ≤ 16777216) (hx1 : -16777216 ≤ x1 ∧ x1 ≤ 16777216) (hy0 : -16777216 ≤ y0 ∧ y0 ≤ 16777216) (hy1 : -16777216 ≤ y1 ∧ y1 ≤ 16777216) :
    Calls Try.prog 82 #[.int .i64 x0, .int .i64 x1, .int .i64 y0, .int .i64 y1] w (RkPost (rof (max x0 (-1048576)) (min x1 1048575) (max y0 (-1048576)) (min y1 1048575)) w) :=
  rworld_core x0 x1 y0 y1 _ _ _ _ _ w rfl rfl rfl rfl (fun w => rof_any _ _ _ _ w (by omega) (by omega) (by omega) (by omega))
set_option maxHeartbeats 2000000 in
theorem rgrow_core (a R : Rk) (n c d e f l m1 m2 m3 m4 : Int) (E : Bool) (w : World) (tt : (E = true ∧ R = Rk.zero) ∨ E = false)
    (n1 : IntKind.i64.wrap (c - l) = m1) (n2 : IntKind.i64.wrap (d + l) = m2) (n3 : IntKind.i64.wrap (e - l) = m3) (n4 : IntKind.i64.wrap (f + l) = m4)
    (TE : ∀ w, Calls Try.prog 41 #[.agg #[.int .i64 a.x, .int .i64 a.y, .int .i64 a.w, .int .i64 a.h]] w fun e w' => e = .returned (.bool E) ∧ Below w.heap.size w w')
    (TX : ∀ w, Calls Try.prog 80 #[.agg #[.int .i64 a.x, .int .i64 a.y, .int .i64 a.w, .int .i64 a.h], .int .i64 0] w (SpPost c d w)) (TY : ∀ w, Calls Try.prog 80 #[.agg #[.int .i64 a.x, .int .i64 a.y, .int .i64 a.w, .int .i64 a.h], .int .i64 1] w (SpPost e f w))
    (TL : ∀ w, Calls Try.prog 81 #[.int .i64 n] w fun e w' => e = .returned (.int .i64 l) ∧ w = w')
    (TO : E = false → ∀ w, Calls Try.prog 82 #[.int .i64 m1, .int .i64 m2, .int .i64 m3, .int .i64 m4] w (RkPost R w)) :
    Calls Try.prog 47 #[.agg #[.int .i64 a.x, .int .i64 a.y, .int .i64 a.w, .int .i64 a.h], .int .i64 n] w (RkPost R w) := by
  replace TE := Lib.hid TE; replace TX := Lib.hid TX; replace TY := Lib.hid TY; replace TL := Lib.hid TL; replace TO := Lib.hid TO
  go_enter Try.func47, Try.ntmps47
  go_upto_region 1 with fail
  have K := Lib.hid (fr_two w #[.int .i64 a.x, .int .i64 a.y, .int .i64 a.w, .int .i64 a.h] #[.int .i64 0, .int .i64 0, .int .i64 0, .int .i64 0] 33 33 _ rfl)
  generalize World.alloc (World.alloc w _) _ = w0 at *
  obtain ⟨⟨i1, i2, i3, i4⟩, -⟩ := K.out.1.1.four
  go_wp2_with fail
  refine (TE.out _).mono ?_
  rintro e w1 ⟨rfl, hb⟩
  replace K := Lib.hid (K.out.below hb)
  clear i1 i2 i3 i4 hb
  rcases tt with ⟨rfl, rfl⟩ | rfl
  · obtain ⟨⟨r1, r2, r3, r4⟩, f1, f2, f3, f4⟩ := K.out.1.2.1.four
    have HB := Lib.hid K.out.2
    clear K n1 n2 n3 n4
    go_wp2_with fail
    refine bodyPost_ret (v := .agg #[.int .i64 0, .int .i64 0, .int .i64 0, .int .i64 0]) (by simp [results, Try.results47, go_sem, r1, r2, r3, r4]) rfl ⟨rfl, ?_⟩
    exact set4_below HB.out (by omega) _ _ _ _ _ _ _ _
  obtain ⟨⟨i1, i2, i3, i4⟩, -⟩ := K.out.1.1.four
  go_wp2_with fail
  refine (TX.out _).mono ?_
  rintro e w3 ⟨rfl, hb⟩
  replace K := Lib.hid (K.out.below hb)
  clear i1 i2 i3 i4 hb
  obtain ⟨⟨i1, i2, i3, i4⟩, -⟩ := K.out.1.1.four
  go_wp2_with fail
  refine (TY.out _).mono ?_
  rintro e w4 ⟨rfl, hb⟩
  replace K := Lib.hid (K.out.below hb)
  clear i1 i2 i3 i4 hb
  go_wp2_with fail
  refine (TL.out _).mono ?_
  rintro e w5 ⟨rfl, rfl⟩
  go_wp2_with fail
  refine (TO.out (by simp) _).mono ?_
  rintro e w7 ⟨rfl, hb⟩
  replace K := Lib.hid (K.out.below hb)
  obtain ⟨⟨r1, r2, r3, r4⟩, f1, f2, f3, f4⟩ := K.out.1.2.1.four
  have HB := Lib.hid K.out.2
  clear K hb n1 n2 n3 n4
  go_wp2_with fail
  refine bodyPost_ret (v := .agg #[.int .i64 R.x, .int .i64 R.y, .int .i64 R.w, .int .i64 R.h]) (by simp [results, Try.results47, go_sem, r1, r2, r3, r4]) rfl ⟨rfl, ?_⟩
  exact set4_below HB.out (by omega) _ _ _ _ _ _ _ _
theorem grow_rof {a : Rk} {n : Int} (ha : a.empty = false) : a.grow n = rof (max (a.x - min (max n (-3145728)) 3145728) (-1048576)) (min (a.x + a.w - 1 + min (max n (-3145728)) 3145728) 1048575) (max (a.y - min (max n (-3145728)) 3145728) (-1048576)) (min (a.y + a.h - 1 + min (max n (-3145728)) 3145728) 1048575) := by
  have fa := full_bd ha
  unfold Rk.grow
  rw [ha, if_neg (by simp)]
  unfold rkB rof lim4
  by_cases h : min (a.x + a.w - 1 + min (max n (-3145728)) 3145728) 1048575 < max (a.x - min (max n (-3145728)) 3145728) (-1048576) ∨ min (a.y + a.h - 1 + min (max n (-3145728)) 3145728) 1048575 < max (a.y - min (max n (-3145728)) 3145728) (-1048576)
  · rw [if_pos h, if_pos (by omega)]
  · rw [if_neg h, if_neg (by omega)]
    congr 1 <;> omega
theorem rgrow_rk (a : Rk) (n : Int) (w : World) : Calls Try.prog 47 #[.agg #[.int .i64 a.x, .int .i64 a.y, .int .i64 a.w, .int .i64 a.h], .int .i64 n] w (RkPost (a.grow n) w) := by
  have sa := span_bd a
  refine rgrow_core a (a.grow n) n a.x0 a.x1 a.y0 a.y1 (min (max n (-3145728)) 3145728) _ _ _ _ a.empty w ?_ (wrap_in _ (by omega)) (wrap_in _ (by omega)) (wrap_in _ (by omega)) (wrap_in _ (by omega)) (rempty_any a.x a.y a.w a.h) (rspanx a) (rspany a) (rlimit2_any n) (fun h w => ?_)
  · cases ha : a.empty
    · exact .inr rfl
    · exact .inl ⟨rfl, by unfold Rk.grow; rw [ha, if_pos rfl]⟩
  · rw [grow_rof h]
    have := rworld_any (a.x0 - min (max n (-3145728)) 3145728) (a.x1 + min (max n (-3145728)) 3145728) (a.y0 - min (max n (-3145728)) 3145728) (a.y1 + min (max n (-3145728)) 3145728) w (by omega) (by omega) (by omega) (by omega)
    unfold Rk.x0 Rk.x1 Rk.y0 Rk.y1 at this ⊢
    rw [h] at this ⊢
    exact this
theorem rgrow_any (x y p q n : Int) (w : World) : Calls Try.prog 47 #[.agg #[.int .i64 x, .int .i64 y, .int .i64 p, .int .i64 q], .int .i64 n] w (RkPost (Rk.grow ⟨x, y, p, q⟩ n) w) := rgrow_rk ⟨x, y, p, q⟩ n w
end Go.Proofs.Ytineinmghajmnaa
