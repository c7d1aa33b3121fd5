/- pixel.Dist and its reference: the greatest difference of two values. -/
import Derived.Test.YtgdefgpbaccneaaPix
import Derived.Test.YtgdefgpbaccneaaLaws
import Derived.Deep.DeepCutAuto
namespace Go.Proofs.Ytgdefgpbaccneaa
open Go.RowKit
attribute [local go_sem 2000] run_max2m run_min2m run_max4m

/-- The difference of two numbers, without its sign. -/
def dif (x y : Int) : Int := max (x - y) (y - x)
def dist (p q : Px) : Int := max (max (max (dif (lim16 p.r) (lim16 q.r)) (dif (lim16 p.g) (lim16 q.g))) (dif (lim16 p.b) (lim16 q.b))) (dif (lim16 p.a) (lim16 q.a))
theorem dif_bd (x y : Int) (hx : 0 ≤ x ∧ x ≤ 65535) (hy : 0 ≤ y ∧ y ≤ 65535) : 0 ≤ dif x y ∧ dif x y ≤ 65535 := by unfold dif; omega
theorem dist_bd (p q : Px) : 0 ≤ dist p q ∧ dist p q ≤ 65535 := by
  have h1 := dif_bd _ _ (lim16_bd p.r) (lim16_bd q.r)
  have h2 := dif_bd _ _ (lim16_bd p.g) (lim16_bd q.g)
  have h3 := dif_bd _ _ (lim16_bd p.b) (lim16_bd q.b)
  have h4 := dif_bd _ _ (lim16_bd p.a) (lim16_bd q.a)
  unfold dist; omega

set_option maxHeartbeats 400000 in
theorem apart_any (x y : Int) (w : World) (hx : 0 ≤ x ∧ x ≤ 65535) (hy : 0 ≤ y ∧ y ≤ 65535) :
    Calls Try.prog 39 #[.int .i64 x, .int .i64 y] w fun e w' => e = .returned (.int .i64 (dif x y)) ∧ w = w' := by
  rcases (show x < y ∨ x = y ∨ y < x by omega) with h | rfl | h
  all_goals
    go_enter Try.func39, Try.ntmps39
    go_wp2
    go_ret
    exact ⟨ret_int (by unfold dif; omega), rfl⟩
set_option maxHeartbeats 400000 in
theorem gap_any (x y : Int) (w : World) (hx : 0 ≤ x ∧ x ≤ 65535) (hy : 0 ≤ y ∧ y ≤ 65535) :
    Calls Try.prog 44 #[.int .i64 x, .int .i64 y] w fun e w' => e = .returned (.int .i64 (dif x y)) ∧ w = w' := by
  rcases (show x < y ∨ x = y ∨ y < x by omega) with h | rfl | h
  all_goals
    go_enter Try.func44, Try.ntmps44
    go_wp2
    go_ret
    exact ⟨ret_int (by unfold dif; omega), rfl⟩

theorem size_on {W w4 : World} {n : Nat} (hn : n + 2 ≤ W.heap.size) (h : Below W.heap.size W w4) : n + 2 ≤ w4.heap.size ∧ n < w4.heap.size ∧ n + 1 < w4.heap.size := by
  have := h.size
  omega
theorem size_two (w : World) (o1 o2 : Obj) : w.heap.size + 2 ≤ (((w.alloc o1).alloc o2).drew).heap.size := by
  show w.heap.size + 2 ≤ ((w.alloc o1).alloc o2).heap.size
  simp
/-- Two boxes of four cells, stored into cell by cell. -/
theorem mid8 (W : World) (n : Nat) (x0 x1 x2 x3 y0 y1 y2 y3 o0 o1 o2 o3 p0 p1 p2 p3 : Value) (h0 : W.cell? ⟨n, 0, none⟩ = some o0) (h1 : W.cell? ⟨n, 1, none⟩ = some o1) (h2 : W.cell? ⟨n, 2, none⟩ = some o2) (h3 : W.cell? ⟨n, 3, none⟩ = some o3)
    (k0 : W.cell? ⟨n + 1, 0, none⟩ = some p0) (k1 : W.cell? ⟨n + 1, 1, none⟩ = some p1) (k2 : W.cell? ⟨n + 1, 2, none⟩ = some p2) (k3 : W.cell? ⟨n + 1, 3, none⟩ = some p3) (X : World)
    (hX : X = (((((((W.setCell ⟨n, 0, none⟩ x0).setCell ⟨n, 1, none⟩ x1).setCell ⟨n, 2, none⟩ x2).setCell ⟨n, 3, none⟩ x3).setCell ⟨n + 1, 0, none⟩ y0).setCell ⟨n + 1, 1, none⟩ y1).setCell ⟨n + 1, 2, none⟩ y2).setCell ⟨n + 1, 3, none⟩ y3) :
    X.cell? ⟨n, 0, none⟩ = some x0 ∧ X.cell? ⟨n, 1, none⟩ = some x1 ∧ X.cell? ⟨n, 2, none⟩ = some x2 ∧ X.cell? ⟨n, 3, none⟩ = some x3 ∧ X.cell? ⟨n + 1, 0, none⟩ = some y0 ∧ X.cell? ⟨n + 1, 1, none⟩ = some y1 ∧ X.cell? ⟨n + 1, 2, none⟩ = some y2 ∧ X.cell? ⟨n + 1, 3, none⟩ = some y3 := by
  subst hX
  refine ⟨?_, ?_, ?_, ?_, ?_, ?_, ?_, ?_⟩ <;> simp [go_sem, h0, h1, h2, h3, k0, k1, k2, k3]
/-- Between the two statements: both boxes hold the limited pixels. -/
def distMid (r g b a r' g' b' a' : Int) (w wx : World) : Prop :=
  wx.cell? ⟨w.heap.size, 0, none⟩ = some (.int .i64 (lim16 r)) ∧ wx.cell? ⟨w.heap.size, 1, none⟩ = some (.int .i64 (lim16 g)) ∧ wx.cell? ⟨w.heap.size, 2, none⟩ = some (.int .i64 (lim16 b)) ∧ wx.cell? ⟨w.heap.size, 3, none⟩ = some (.int .i64 (lim16 a)) ∧
  wx.cell? ⟨w.heap.size + 1, 0, none⟩ = some (.int .i64 (lim16 r')) ∧ wx.cell? ⟨w.heap.size + 1, 1, none⟩ = some (.int .i64 (lim16 g')) ∧ wx.cell? ⟨w.heap.size + 1, 2, none⟩ = some (.int .i64 (lim16 b')) ∧ wx.cell? ⟨w.heap.size + 1, 3, none⟩ = some (.int .i64 (lim16 a')) ∧ Below w.heap.size w wx
set_option maxHeartbeats 4000000 in
theorem dist_any (r g b a r' g' b' a' : Int) (w : World) :
    Calls Try.prog 20 #[.agg #[.int .i64 r, .int .i64 g, .int .i64 b, .int .i64 a], .agg #[.int .i64 r', .int .i64 g', .int .i64 b', .int .i64 a']] w fun e w' => e = .returned (.int .i64 (dist ⟨r, g, b, a⟩ ⟨r', g', b', a'⟩)) ∧ Below w.heap.size w w' := by
  go_enter Try.func20, Try.ntmps20
  go_upto_region 1 with fail
  go_cut [] (distMid r g b a r' g' b' a' w)
  case first =>
    go_region_with (go_at_call 38; refine (limit_any _ _ _ _ _).mono ?_; rintro e w4 ⟨rfl, hbw4⟩; obtain ⟨hz4, hz5, hz6⟩ := size_on (n := w.heap.size) (by first | exact size_two _ _ _ | assumption) hbw4; obtain ⟨hc4, hf4⟩ := below_rules hbw4)
    all_goals
      go_wp2_with fail
      go_meet
      have hB : Below w.heap.size w w4 := by
        refine Below.trans (b := _) ?_ (Below.mono (by assumption) (by omega))
        refine Below.trans (b := _) ?_ (Below.mono (by assumption) (by simp; omega))
        exact (bel_alloc (bel_alloc (Below.refl _ _) _) _).drew
      have hlt2 : w.heap.size < w.heap.size + 1 + 1 := by omega
      obtain ⟨q0, q1, q2, q3, q4, q5, q6, q7⟩ := mid8 w4 w.heap.size (.int .i64 (lim16 r)) (.int .i64 (lim16 g)) (.int .i64 (lim16 b)) (.int .i64 (lim16 a)) (.int .i64 (lim16 r')) (.int .i64 (lim16 g')) (.int .i64 (lim16 b')) (.int .i64 (lim16 a')) (.int .i64 r) (.int .i64 g) (.int .i64 b) (.int .i64 a) (.int .i64 r') (.int .i64 g') (.int .i64 b') (.int .i64 a') (by simp [*]) (by simp [*]) (by simp [*]) (by simp [*]) (by simp [*]) (by simp [*]) (by simp [*]) (by simp [*]) _ rfl
      exact ⟨q0, q1, q2, q3, q4, q5, q6, q7, ((((((((hB.setCell (p := ⟨w.heap.size, 0, none⟩) (Nat.le_refl _) _).setCell (p := ⟨w.heap.size, 1, none⟩) (Nat.le_refl _) _).setCell (p := ⟨w.heap.size, 2, none⟩) (Nat.le_refl _) _).setCell (p := ⟨w.heap.size, 3, none⟩) (Nat.le_refl _) _).setCell (p := ⟨w.heap.size + 1, 0, none⟩) (Nat.le_succ _) _).setCell (p := ⟨w.heap.size + 1, 1, none⟩) (Nat.le_succ _) _).setCell (p := ⟨w.heap.size + 1, 2, none⟩) (Nat.le_succ _) _).setCell (p := ⟨w.heap.size + 1, 3, none⟩) (Nat.le_succ _) _)⟩
  case rest =>
    obtain ⟨c0, c1, c2, c3, d0, d1, d2, d3, hbel⟩ := hcut
    have E : Hid (dist ⟨r, g, b, a⟩ ⟨r', g', b', a'⟩ = max (max (max (dif (lim16 r) (lim16 r')) (dif (lim16 g) (lim16 g'))) (dif (lim16 b) (lim16 b'))) (dif (lim16 a) (lim16 a'))) := rfl
    have b1 := lim16_bd r
    have b2 := lim16_bd g
    have b3 := lim16_bd b
    have b4 := lim16_bd a
    have b5 := lim16_bd r'
    have b6 := lim16_bd g'
    have b7 := lim16_bd b'
    have b8 := lim16_bd a'
    generalize lim16 r = x0 at *
    generalize lim16 g = x1 at *
    generalize lim16 b = x2 at *
    generalize lim16 a = x3 at *
    generalize lim16 r' = y0 at *
    generalize lim16 g' = y1 at *
    generalize lim16 b' = y2 at *
    generalize lim16 a' = y3 at *
    go_wp2_with fail
    go_quiet ((go_at_call 39; exact quiet_tol (apart_any _ _ _ (by omega) (by omega)) ⟨_, rfl⟩))
    go_wp2_with fail
    go_ret
    exact ⟨ret_int (by rw [E.out]; omega), Below.drewN' hbel _⟩
end Go.Proofs.Ytgdefgpbaccneaa
