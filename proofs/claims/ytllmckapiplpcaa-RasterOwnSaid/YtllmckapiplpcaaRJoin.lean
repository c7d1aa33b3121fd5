/- rect.Join of small rectangles, and its reference. -/
import Derived.Test.YtllmckapiplpcaaRect
import Derived.Test.YtllmckapiplpcaaRefGrid
namespace Go.Proofs.Ytllmckapiplpcaa
open Go.RowKit
attribute [local go_sem 2000] run_max2m run_min2m

structure Rc where
  x : Int
  y : Int
  w : Int
  h : Int
def Rc.zero : Rc := ⟨0, 0, 0, 0⟩
/-- A rectangle is returned. -/
def RcPost (r : Rc) (w : World) (e : Ending) (w' : World) : Prop := e = .returned (.agg #[.int .i64 r.x, .int .i64 r.y, .int .i64 r.w, .int .i64 r.h]) ∧ Below w.heap.size w w'
/-- A rectangle with a pixel, in an image. -/
structure Rc.sm (r : Rc) : Prop where
  x0 : 0 ≤ r.x
  y0 : 0 ≤ r.y
  w1 : 1 ≤ r.w
  h1 : 1 ≤ r.h
  xw : r.x + r.w ≤ 256
  yh : r.y + r.h ≤ 256
def hull (a b : Rc) : Rc := ⟨min a.x b.x, min a.y b.y, max (a.x + a.w) (b.x + b.w) - min a.x b.x, max (a.y + a.h) (b.y + b.h) - min a.y b.y⟩
theorem Rc.sm.full {r : Rc} (h : r.sm) : rempty r.x r.y r.w r.h = false := by
  have := h.x0; have := h.y0; have := h.w1; have := h.h1; have := h.xw; have := h.yh
  have hv : rvalid r.x r.y r.w r.h = true := (rvalid_iff _ _ _ _).2 (by omega)
  unfold rempty; rw [hv]; simp; omega
theorem Rc.sm.valid {r : Rc} (h : r.sm) : rvalid r.x r.y r.w r.h = true := by
  have := h.x0; have := h.y0; have := h.w1; have := h.h1; have := h.xw; have := h.yh
  exact (rvalid_iff _ _ _ _).2 (by omega)
theorem hull_sm {a b : Rc} (ha : a.sm) (hb : b.sm) : (hull a b).sm := by
  have := ha.x0; have := ha.y0; have := ha.w1; have := ha.h1; have := ha.xw; have := ha.yh
  have := hb.x0; have := hb.y0; have := hb.w1; have := hb.h1; have := hb.xw; have := hb.yh
  refine ⟨?_, ?_, ?_, ?_, ?_, ?_⟩ <;> (simp only [hull]; omega)
theorem zero_empty : rempty 0 0 0 0 = true := by decide

set_option maxHeartbeats 1000000 in
theorem between_sm (x0 y0 x1 y1 : Int) (w : World) (hx : 0 ≤ x0) (hx1 : x0 < x1) (hx2 : x1 ≤ 256) (hy : 0 ≤ y0) (hy1 : y0 < y1) (hy2 : y1 ≤ 256) :
    Calls Try.prog 54 #[.int .i64 x0, .int .i64 y0, .int .i64 x1, .int .i64 y1] w (RcPost ⟨x0, y0, x1 - x0, y1 - y0⟩ w) := by
  have m1 : max x0 (-1048576) = x0 := by omega
  have m2 : max y0 (-1048576) = y0 := by omega
  have m3 : min x1 1048576 = x1 := by omega
  have m4 : min y1 1048576 = y1 := by omega
  go_enter Try.func54, Try.ntmps54
  go_upto_region 1 with fail
  obtain ⟨hb1, hB, hz0⟩ := one_box w #[.int .i64 0, .int .i64 0, .int .i64 0, .int .i64 0] 37 _ rfl
  generalize World.alloc w _ = w0 at *
  obtain ⟨⟨r1, r2, r3, r4⟩, rf1, rf2, rf3, rf4⟩ := hb1.four
  go_wp2_with fail
  refine bodyPost_ret (v := .agg #[.int .i64 x0, .int .i64 y0, .int .i64 (x1 - x0), .int .i64 (y1 - y0)]) (by simp [results, Try.results54, go_sem, r1, r2, r3, r4]) rfl ⟨rfl, ?_⟩
  exact set4_below hB (Nat.le_refl _) _ _ _ _ _ _ _ _
set_option maxHeartbeats 1000000 in
theorem rof_sm (x0 x1 y0 y1 : Int) (w : World) (hx : 0 ≤ x0) (hx1 : x0 ≤ x1) (hx2 : x1 ≤ 256) (hy : 0 ≤ y0) (hy1 : y0 ≤ y1) (hy2 : y1 ≤ 256) :
    Calls Try.prog 56 #[.int .i64 x0, .int .i64 x1, .int .i64 y0, .int .i64 y1] w (RcPost ⟨x0, y0, x1 - x0 + 1, y1 - y0 + 1⟩ w) := by
  go_enter Try.func56, Try.ntmps56
  go_upto_region 1 with fail
  obtain ⟨hb1, hB, hz0⟩ := one_box w #[.int .i64 0, .int .i64 0, .int .i64 0, .int .i64 0] 37 _ rfl
  generalize World.alloc w _ = w0 at *
  obtain ⟨⟨r1, r2, r3, r4⟩, rf1, rf2, rf3, rf4⟩ := hb1.four
  go_wp2_with fail
  refine bodyPost_ret (v := .agg #[.int .i64 x0, .int .i64 y0, .int .i64 (x1 - x0 + 1), .int .i64 (y1 - y0 + 1)]) (by simp [results, Try.results56, go_sem, r1, r2, r3, r4]) rfl ⟨rfl, ?_⟩
  exact set4_below hB (Nat.le_refl _) _ _ _ _ _ _ _ _
set_option maxHeartbeats 2000000 in
theorem join_zero (b : Rc) (hb : b.sm) (w : World) :
    Calls Try.prog 49 #[.agg #[.int .i64 0, .int .i64 0, .int .i64 0, .int .i64 0], .agg #[.int .i64 b.x, .int .i64 b.y, .int .i64 b.w, .int .i64 b.h]] w (RcPost b w) := by
  have E2 := Lib.hid hb.full; clear hb
  obtain ⟨x, y, p, q⟩ := b
  go_enter Try.func49, Try.ntmps49
  go_upto_region 1 with fail
  obtain ⟨hb1, hb2, hb3, hB, hz0⟩ := three_boxes w #[.int .i64 0, .int .i64 0, .int .i64 0, .int .i64 0] #[.int .i64 x, .int .i64 y, .int .i64 p, .int .i64 q] #[.int .i64 0, .int .i64 0, .int .i64 0, .int .i64 0] 37 37 37 _ rfl
  generalize World.alloc (World.alloc (w.alloc _) _) _ = w0 at *
  obtain ⟨⟨a1, a2, a3, a4⟩, _, _, _, _⟩ := hb1.four
  go_wp2_with fail
  refine (empty_any 0 0 0 0 _).mono ?_
  rintro e w1 ⟨rfl, hb⟩
  rw [zero_empty]
  replace hb1 := hb1.below hb; replace hb2 := hb2.below hb; replace hb3 := hb3.below hb; replace hB := bel_trans hB hb
  clear a1 a2 a3 a4 hb
  obtain ⟨⟨a1, a2, a3, a4⟩, _, _, _, _⟩ := hb2.four
  go_wp2_with fail
  refine (empty_any x y p q _).mono ?_
  rintro e w2 ⟨rfl, hb⟩
  rw [E2.out]
  replace hb1 := hb1.below hb; replace hb2 := hb2.below hb; replace hb3 := hb3.below hb; replace hB := bel_trans hB hb
  clear a1 a2 a3 a4 hb
  obtain ⟨⟨a1, a2, a3, a4⟩, _, _, _, _⟩ := hb1.four
  go_wp2_with fail
  refine (empty_any 0 0 0 0 _).mono ?_
  rintro e w3 ⟨rfl, hb⟩
  rw [zero_empty]
  replace hb2 := hb2.below hb; replace hb3 := hb3.below hb; replace hB := bel_trans hB hb
  clear a1 a2 a3 a4 hb
  obtain ⟨⟨a1, a2, a3, a4⟩, _, _, _, _⟩ := hb2.four
  obtain ⟨⟨r1, r2, r3, r4⟩, rf1, rf2, rf3, rf4⟩ := hb3.four
  go_wp2_with fail
  refine bodyPost_ret (v := .agg #[.int .i64 x, .int .i64 y, .int .i64 p, .int .i64 q]) (by simp [results, Try.results49, go_sem, r1, r2, r3, r4]) rfl ⟨rfl, ?_⟩
  exact set4_below hB (by omega) _ _ _ _ _ _ _ _
end Go.Proofs.Ytllmckapiplpcaa
