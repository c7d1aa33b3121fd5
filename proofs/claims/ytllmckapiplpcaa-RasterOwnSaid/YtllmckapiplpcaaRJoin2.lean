/- rect.Join of two small rectangles, and its reference. -/
import Derived.Test.YtllmckapiplpcaaRJoin
namespace Go.Proofs.Ytllmckapiplpcaa
open Go.RowKit
attribute [local go_sem 2000] run_max2m run_min2m

set_option maxHeartbeats 4000000 in
theorem join_two (a b : Rc) (ha : a.sm) (hb : b.sm) (w : World) :
    Calls Try.prog 49 #[.agg #[.int .i64 a.x, .int .i64 a.y, .int .i64 a.w, .int .i64 a.h], .agg #[.int .i64 b.x, .int .i64 b.y, .int .i64 b.w, .int .i64 b.h]] w (RcPost (hull a b) w) := by
  have E1 := Lib.hid ha.full; have E2 := Lib.hid hb.full
  have V1 := Lib.hid ha.valid; have V2 := Lib.hid hb.valid
  obtain ⟨x, y, p, q⟩ := a
  obtain ⟨x', y', p', q'⟩ := b
  obtain ⟨h1, h2, h3, h4, h5, h6⟩ := ha
  obtain ⟨k1, k2, k3, k4, k5, k6⟩ := hb
  simp only at h1 h2 h3 h4 h5 h6 k1 k2 k3 k4 k5 k6 E1 E2 V1 V2
  go_enter Try.func49, Try.ntmps49
  go_upto_region 1 with fail
  obtain ⟨hb1, hb2, hb3, hB, hz0⟩ := three_boxes w #[.int .i64 x, .int .i64 y, .int .i64 p, .int .i64 q] #[.int .i64 x', .int .i64 y', .int .i64 p', .int .i64 q'] #[.int .i64 0, .int .i64 0, .int .i64 0, .int .i64 0] 37 37 37 _ rfl
  generalize World.alloc (World.alloc (w.alloc _) _) _ = w0 at *
  obtain ⟨⟨a1, a2, a3, a4⟩, _, _, _, _⟩ := hb1.four
  go_wp2_with fail
  refine (empty_any x y p q _).mono ?_
  rintro e w1 ⟨rfl, hb⟩
  rw [E1.out]
  replace hb1 := hb1.below hb; replace hb2 := hb2.below hb; replace hb3 := hb3.below hb; replace hB := bel_trans hB hb
  clear a1 a2 a3 a4 hb
  obtain ⟨⟨a1, a2, a3, a4⟩, _, _, _, _⟩ := hb1.four
  go_wp2_with fail
  refine (empty_any x y p q _).mono ?_
  rintro e w2 ⟨rfl, hb⟩
  rw [E1.out]
  replace hb1 := hb1.below hb; replace hb2 := hb2.below hb; replace hb3 := hb3.below hb; replace hB := bel_trans hB hb
  clear a1 a2 a3 a4 hb
  obtain ⟨⟨a1, a2, a3, a4⟩, _, _, _, _⟩ := hb2.four
  go_wp2_with fail
  refine (empty_any x' y' p' q' _).mono ?_
  rintro e w3 ⟨rfl, hb⟩
  rw [E2.out]
  replace hb1 := hb1.below hb; replace hb2 := hb2.below hb; replace hb3 := hb3.below hb; replace hB := bel_trans hB hb
  clear a1 a2 a3 a4 hb
  obtain ⟨⟨a1, a2, a3, a4⟩, _, _, _, _⟩ := hb1.four
  obtain ⟨⟨c1, c2, c3, c4⟩, _, _, _, _⟩ := hb2.four
  go_wp2_with fail
  refine (between_sm _ _ _ _ _ (by omega) (by omega) (by omega) (by omega) (by omega) (by omega)).mono ?_
  rintro e w4 ⟨rfl, hb⟩
  replace hb3 := hb3.below hb; replace hB := bel_trans hB hb
  clear a1 a2 a3 a4 c1 c2 c3 c4 hb
  obtain ⟨⟨r1, r2, r3, r4⟩, rf1, rf2, rf3, rf4⟩ := hb3.four
  go_wp2_with fail
  refine bodyPost_ret (v := .agg #[.int .i64 (min x x'), .int .i64 (min y y'), .int .i64 (max (x + p) (x' + p') - min x x'), .int .i64 (max (y + q) (y' + q') - min y y')]) (by simp [results, Try.results49, go_sem, r1, r2, r3, r4]) rfl ⟨rfl, ?_⟩
  exact set4_below hB (by omega) _ _ _ _ _ _ _ _

set_option maxHeartbeats 2000000 in
theorem rjoin_zero (b : Rc) (hb : b.sm) (w : World) :
    Calls Try.prog 50 #[.agg #[.int .i64 0, .int .i64 0, .int .i64 0, .int .i64 0], .agg #[.int .i64 b.x, .int .i64 b.y, .int .i64 b.w, .int .i64 b.h]] w (RcPost b w) := by
  have E2 := Lib.hid hb.full; clear hb
  obtain ⟨x', y', p', q'⟩ := b
  go_enter Try.func50, Try.ntmps50
  go_upto_region 1 with fail
  obtain ⟨hb1, hb2, hb3, hB, hz0⟩ := three_boxes w #[.int .i64 0, .int .i64 0, .int .i64 0, .int .i64 0] #[.int .i64 x', .int .i64 y', .int .i64 p', .int .i64 q'] #[.int .i64 0, .int .i64 0, .int .i64 0, .int .i64 0] 37 37 37 _ rfl
  generalize World.alloc (World.alloc (w.alloc _) _) _ = w0 at *
  obtain ⟨⟨a1, a2, a3, a4⟩, _, _, _, _⟩ := hb1.four
  go_wp2_with fail
  refine (rempty_any 0 0 0 0 _).mono ?_
  rintro e w1 ⟨rfl, hb⟩
  rw [zero_empty]
  replace hb1 := hb1.below hb; replace hb2 := hb2.below hb; replace hb3 := hb3.below hb; replace hB := bel_trans hB hb
  clear a1 a2 a3 a4 hb
  obtain ⟨⟨a1, a2, a3, a4⟩, _, _, _, _⟩ := hb2.four
  go_wp2_with fail
  refine (rempty_any x' y' p' q' _).mono ?_
  rintro e w2 ⟨rfl, hb⟩
  rw [E2.out]
  replace hb1 := hb1.below hb; replace hb2 := hb2.below hb; replace hb3 := hb3.below hb; replace hB := bel_trans hB hb
  clear a1 a2 a3 a4 hb
  obtain ⟨⟨a1, a2, a3, a4⟩, _, _, _, _⟩ := hb1.four
  go_wp2_with fail
  refine (rempty_any 0 0 0 0 _).mono ?_
  rintro e w3 ⟨rfl, hb⟩
  rw [zero_empty]
  replace hb1 := hb1.below hb; replace hb2 := hb2.below hb; replace hb3 := hb3.below hb; replace hB := bel_trans hB hb
  clear a1 a2 a3 a4 hb
  obtain ⟨⟨a1, a2, a3, a4⟩, _, _, _, _⟩ := hb2.four
  obtain ⟨⟨r1, r2, r3, r4⟩, rf1, rf2, rf3, rf4⟩ := hb3.four
  go_wp2_with fail
  refine bodyPost_ret (v := .agg #[.int .i64 x', .int .i64 y', .int .i64 p', .int .i64 q']) (by simp [results, Try.results50, go_sem, r1, r2, r3, r4]) rfl ⟨rfl, ?_⟩
  exact set4_below hB (by omega) _ _ _ _ _ _ _ _

set_option maxHeartbeats 1000000 in
theorem rspan0 (r : Rc) (h : r.sm) (w : World) : Calls Try.prog 55 #[.agg #[.int .i64 r.x, .int .i64 r.y, .int .i64 r.w, .int .i64 r.h], .int .i64 0] w fun e w' => e = .returned (.tuple #[.int .i64 r.x, .int .i64 (r.x + r.w - 1)]) ∧ Below w.heap.size w w' := by
  have V := Lib.hid h.valid
  obtain ⟨x, y, p, q⟩ := r
  obtain ⟨h1, h2, h3, h4, h5, h6⟩ := h
  simp only at h1 h2 h3 h4 h5 h6 V
  have hp1 : ¬ p = 0 := by omega
  have hq1 : ¬ q = 0 := by omega
  have hp2 : (p == 0) = false := by simp [hp1]
  have hq2 : (q == 0) = false := by simp [hq1]
  have w1 : IntKind.i64.wrap (x + p) = x + p := wrap_in _ (by omega)
  have w2 : IntKind.i64.wrap (x + p - 1) = x + p - 1 := wrap_in _ (by omega)
  go_enter Try.func55, Try.ntmps55
  go_upto_region 1 with fail
  obtain ⟨hb1, hB, hz0⟩ := one_box w #[.int .i64 x, .int .i64 y, .int .i64 p, .int .i64 q] 37 _ rfl
  generalize World.alloc w _ = w0 at *
  obtain ⟨⟨a1, a2, a3, a4⟩, _, _, _, _⟩ := hb1.four
  go_wp2_with fail
  refine (rvalid_any x y p q _).mono ?_
  rintro e w1 ⟨rfl, hb⟩
  rw [V.out]
  replace hb1 := hb1.below hb; replace hB := bel_trans hB hb
  clear a1 a2 a3 a4 hb
  obtain ⟨⟨a1, a2, a3, a4⟩, _, _, _, _⟩ := hb1.four
  go_wp2_with fail
  go_quiet (fail)
  go_wp2_with fail
  refine bodyPost_ret (v := .tuple #[.int .i64 x, .int .i64 (x + p - 1)]) (by simp [results, Try.results55, go_sem]) rfl ?_
  first | exact ⟨rfl, hB⟩ | exact ⟨rfl, hB.drew⟩ | exact ⟨rfl, Below.drewN' hB _⟩

set_option maxHeartbeats 1000000 in
theorem rspan1 (r : Rc) (h : r.sm) (w : World) : Calls Try.prog 55 #[.agg #[.int .i64 r.x, .int .i64 r.y, .int .i64 r.w, .int .i64 r.h], .int .i64 1] w fun e w' => e = .returned (.tuple #[.int .i64 r.y, .int .i64 (r.y + r.h - 1)]) ∧ Below w.heap.size w w' := by
  have V := Lib.hid h.valid
  obtain ⟨x, y, p, q⟩ := r
  obtain ⟨h1, h2, h3, h4, h5, h6⟩ := h
  simp only at h1 h2 h3 h4 h5 h6 V
  have hp1 : ¬ p = 0 := by omega
  have hq1 : ¬ q = 0 := by omega
  have hp2 : (p == 0) = false := by simp [hp1]
  have hq2 : (q == 0) = false := by simp [hq1]
  have w1 : IntKind.i64.wrap (y + q) = y + q := wrap_in _ (by omega)
  have w2 : IntKind.i64.wrap (y + q - 1) = y + q - 1 := wrap_in _ (by omega)
  go_enter Try.func55, Try.ntmps55
  go_upto_region 1 with fail
  obtain ⟨hb1, hB, hz0⟩ := one_box w #[.int .i64 x, .int .i64 y, .int .i64 p, .int .i64 q] 37 _ rfl
  generalize World.alloc w _ = w0 at *
  obtain ⟨⟨a1, a2, a3, a4⟩, _, _, _, _⟩ := hb1.four
  go_wp2_with fail
  refine (rvalid_any x y p q _).mono ?_
  rintro e w1 ⟨rfl, hb⟩
  rw [V.out]
  replace hb1 := hb1.below hb; replace hB := bel_trans hB hb
  clear a1 a2 a3 a4 hb
  obtain ⟨⟨a1, a2, a3, a4⟩, _, _, _, _⟩ := hb1.four
  go_wp2_with fail
  go_quiet (fail)
  go_wp2_with fail
  refine bodyPost_ret (v := .tuple #[.int .i64 y, .int .i64 (y + q - 1)]) (by simp [results, Try.results55, go_sem]) rfl ?_
  first | exact ⟨rfl, hB⟩ | exact ⟨rfl, hB.drew⟩ | exact ⟨rfl, Below.drewN' hB _⟩

set_option maxHeartbeats 4000000 in
theorem rjoin_two (a b : Rc) (ha : a.sm) (hb : b.sm) (w : World) :
    Calls Try.prog 50 #[.agg #[.int .i64 a.x, .int .i64 a.y, .int .i64 a.w, .int .i64 a.h], .agg #[.int .i64 b.x, .int .i64 b.y, .int .i64 b.w, .int .i64 b.h]] w (RcPost (hull a b) w) := by
  have HA := Lib.hid ha; have HB2 := Lib.hid hb
  have E1 := Lib.hid ha.full; have E2 := Lib.hid hb.full
  have V1 := Lib.hid ha.valid; have V2 := Lib.hid hb.valid
  obtain ⟨x, y, p, q⟩ := a
  obtain ⟨x', y', p', q'⟩ := b
  obtain ⟨h1, h2, h3, h4, h5, h6⟩ := ha
  obtain ⟨k1, k2, k3, k4, k5, k6⟩ := hb
  simp only at h1 h2 h3 h4 h5 h6 k1 k2 k3 k4 k5 k6 E1 E2 V1 V2
  go_enter Try.func50, Try.ntmps50
  go_upto_region 1 with fail
  obtain ⟨hb1, hb2, hb3, hB, hz0⟩ := three_boxes w #[.int .i64 x, .int .i64 y, .int .i64 p, .int .i64 q] #[.int .i64 x', .int .i64 y', .int .i64 p', .int .i64 q'] #[.int .i64 0, .int .i64 0, .int .i64 0, .int .i64 0] 37 37 37 _ rfl
  generalize World.alloc (World.alloc (w.alloc _) _) _ = w0 at *
  obtain ⟨⟨a1, a2, a3, a4⟩, _, _, _, _⟩ := hb1.four
  go_wp2_with fail
  refine (rempty_any x y p q _).mono ?_
  rintro e w1 ⟨rfl, hb⟩
  rw [E1.out]
  replace hb1 := hb1.below hb; replace hb2 := hb2.below hb; replace hb3 := hb3.below hb; replace hB := bel_trans hB hb
  clear a1 a2 a3 a4 hb
  obtain ⟨⟨a1, a2, a3, a4⟩, _, _, _, _⟩ := hb1.four
  go_wp2_with fail
  refine (rempty_any x y p q _).mono ?_
  rintro e w2 ⟨rfl, hb⟩
  rw [E1.out]
  replace hb1 := hb1.below hb; replace hb2 := hb2.below hb; replace hb3 := hb3.below hb; replace hB := bel_trans hB hb
  clear a1 a2 a3 a4 hb
  obtain ⟨⟨a1, a2, a3, a4⟩, _, _, _, _⟩ := hb2.four
  go_wp2_with fail
  refine (rempty_any x' y' p' q' _).mono ?_
  rintro e w3 ⟨rfl, hb⟩
  rw [E2.out]
  replace hb1 := hb1.below hb; replace hb2 := hb2.below hb; replace hb3 := hb3.below hb; replace hB := bel_trans hB hb
  clear a1 a2 a3 a4 hb
  obtain ⟨⟨a1, a2, a3, a4⟩, _, _, _, _⟩ := hb1.four
  go_wp2_with fail
  refine (rspan0 ⟨x, y, p, q⟩ HA.out _).mono ?_
  rintro e w4 ⟨rfl, hb⟩
  replace hb1 := hb1.below hb; replace hb2 := hb2.below hb; replace hb3 := hb3.below hb; replace hB := bel_trans hB hb
  clear a1 a2 a3 a4 hb
  obtain ⟨⟨a1, a2, a3, a4⟩, _, _, _, _⟩ := hb1.four
  go_wp2_with fail
  refine (rspan1 ⟨x, y, p, q⟩ HA.out _).mono ?_
  rintro e w5 ⟨rfl, hb⟩
  replace hb1 := hb1.below hb; replace hb2 := hb2.below hb; replace hb3 := hb3.below hb; replace hB := bel_trans hB hb
  clear a1 a2 a3 a4 hb
  obtain ⟨⟨a1, a2, a3, a4⟩, _, _, _, _⟩ := hb2.four
  go_wp2_with fail
  refine (rspan0 ⟨x', y', p', q'⟩ HB2.out _).mono ?_
  rintro e w6 ⟨rfl, hb⟩
  replace hb1 := hb1.below hb; replace hb2 := hb2.below hb; replace hb3 := hb3.below hb; replace hB := bel_trans hB hb
  clear a1 a2 a3 a4 hb
  obtain ⟨⟨a1, a2, a3, a4⟩, _, _, _, _⟩ := hb2.four
  go_wp2_with fail
  refine (rspan1 ⟨x', y', p', q'⟩ HB2.out _).mono ?_
  rintro e w7 ⟨rfl, hb⟩
  replace hb1 := hb1.below hb; replace hb2 := hb2.below hb; replace hb3 := hb3.below hb; replace hB := bel_trans hB hb
  clear a1 a2 a3 a4 hb
  go_wp2_with fail
  refine (rof_sm _ _ _ _ _ (by omega) (by omega) (by omega) (by omega) (by omega) (by omega)).mono ?_
  rintro e w9 ⟨rfl, hb⟩
  replace hb3 := hb3.below hb; replace hB := bel_trans hB hb
  clear hb
  obtain ⟨⟨r1, r2, r3, r4⟩, rf1, rf2, rf3, rf4⟩ := hb3.four
  go_wp2_with fail
  refine bodyPost_ret (v := .agg #[.int .i64 (min x x'), .int .i64 (min y y'), .int .i64 (max (x + p - 1) (x' + p' - 1) - min x x' + 1), .int .i64 (max (y + q - 1) (y' + q' - 1) - min y y' + 1)]) (by simp [results, Try.results50, go_sem, r1, r2, r3, r4]) rfl ⟨?_, ?_⟩
  · simp only [hull]
    rw [show max (x + p - 1) (x' + p' - 1) - min x x' + 1 = max (x + p) (x' + p') - min x x' by omega, show max (y + q - 1) (y' + q' - 1) - min y y' + 1 = max (y + q) (y' + q') - min y y' by omega]
  exact set4_below hB (by omega) _ _ _ _ _ _ _ _

end Go.Proofs.Ytllmckapiplpcaa
