/- Contract of package affine: Box. -/
import Derived.Test.YtanlnigebbcajaaDoorAff6
import Derived.Deep.LoopGhost
namespace Go.Proofs.YtanlnigebbcajaaDoor
open Go.RowKit
attribute [local go_sem 2000] run_max2m run_min2m
theorem run_idx0 (w : World) (a b c d e f : Int) : (Instr.index 57 (.agg #[.int .i64 a, .int .i64 b, .int .i64 c, .int .i64 d, .int .i64 e, .int .i64 f]) (.int .i64 0)).run Tryd.prog w = .ok (.agg #[.int .i64 a, .int .i64 b]) w := by
  simp [Instr.index, run_underlying Tryd.underlying57, asIntOf, go_sem]
theorem run_idx1 (w : World) (a b c d e f : Int) : (Instr.index 57 (.agg #[.int .i64 a, .int .i64 b, .int .i64 c, .int .i64 d, .int .i64 e, .int .i64 f]) (.int .i64 1)).run Tryd.prog w = .ok (.agg #[.int .i64 c, .int .i64 d]) w := by
  simp [Instr.index, run_underlying Tryd.underlying57, asIntOf, go_sem]
theorem run_idx2 (w : World) (a b c d e f : Int) : (Instr.index 57 (.agg #[.int .i64 a, .int .i64 b, .int .i64 c, .int .i64 d, .int .i64 e, .int .i64 f]) (.int .i64 2)).run Tryd.prog w = .ok (.agg #[.int .i64 e, .int .i64 f]) w := by
  simp [Instr.index, run_underlying Tryd.underlying57, asIntOf, go_sem]
attribute [local go_sem 2000] run_idx0 run_idx1 run_idx2
theorem box_boxes (w : World) (a b c d e f rx ry rw rh : Int) (w0 : World)
    (hw : w0 = ((w.alloc (.cells #[.int .i64 a, .int .i64 b, .int .i64 c, .int .i64 d, .int .i64 e, .int .i64 f] 23)).alloc (.cells #[.int .i64 rx, .int .i64 ry, .int .i64 rw, .int .i64 rh] 38)).alloc (.cells #[.int .i64 0, .int .i64 0, .int .i64 0, .int .i64 0] 38)) :
    Bx w0 w.heap.size 23 #[.int .i64 a, .int .i64 b, .int .i64 c, .int .i64 d, .int .i64 e, .int .i64 f] ∧ Bx w0 (w.heap.size + 1) 38 #[.int .i64 rx, .int .i64 ry, .int .i64 rw, .int .i64 rh] ∧ Bx w0 (w.heap.size + 1 + 1) 38 #[.int .i64 0, .int .i64 0, .int .i64 0, .int .i64 0] ∧ Below w.heap.size w w0 := by
  subst hw
  have h1 := Bx.new w 23 #[.int .i64 a, .int .i64 b, .int .i64 c, .int .i64 d, .int .i64 e, .int .i64 f]
  have h2 := Bx.new (w.alloc (.cells #[.int .i64 a, .int .i64 b, .int .i64 c, .int .i64 d, .int .i64 e, .int .i64 f] 23)) 38 #[.int .i64 rx, .int .i64 ry, .int .i64 rw, .int .i64 rh]
  have h3 := Bx.new ((w.alloc (.cells #[.int .i64 a, .int .i64 b, .int .i64 c, .int .i64 d, .int .i64 e, .int .i64 f] 23)).alloc (.cells #[.int .i64 rx, .int .i64 ry, .int .i64 rw, .int .i64 rh] 38)) 38 #[.int .i64 0, .int .i64 0, .int .i64 0, .int .i64 0]
  simp only [World.size_alloc] at h2 h3
  exact ⟨(h1.alloc _).alloc _, h2.alloc _, h3, bel_alloc (bel_alloc (bel_alloc (Below.refl _ _) _) _) _⟩
def BoxRel (a b c d e f x0 x1 x2 x3 y0 y1 y2 y3 : Int) (gp : Nat) (w : World) (k : Nat) (u12 u13 u14 u15 u72 : Value) (wr : World) : Prop :=
  ((k = 3 ∧ u72 = .int .i64 0 ∧ u12 = .int .i64 x0 ∧ u13 = .int .i64 y0 ∧ u14 = .int .i64 x0 ∧ u15 = .int .i64 y0) ∨ (k = 2 ∧ u72 = .int .i64 1 ∧ u12 = .int .i64 (min x0 x1) ∧ u13 = .int .i64 (min y0 y1) ∧ u14 = .int .i64 (max x0 x1) ∧ u15 = .int .i64 (max y0 y1)) ∨ (k = 1 ∧ u72 = .int .i64 2 ∧ u12 = .int .i64 (min x0 (min x1 x2)) ∧ u13 = .int .i64 (min y0 (min y1 y2)) ∧ u14 = .int .i64 (max x0 (max x1 x2)) ∧ u15 = .int .i64 (max y0 (max y1 y2))) ∨ (k = 0 ∧ u72 = .int .i64 3 ∧ u12 = .int .i64 (min x0 (min x1 (min x2 x3))) ∧ u13 = .int .i64 (min y0 (min y1 (min y2 y3))) ∧ u14 = .int .i64 (max x0 (max x1 (max x2 x3))) ∧ u15 = .int .i64 (max y0 (max y1 (max y2 y3))))) ∧ Bx wr w.heap.size 23 #[.int .i64 a, .int .i64 b, .int .i64 c, .int .i64 d, .int .i64 e, .int .i64 f] ∧ (∃ px py : Int, Bx wr gp 25 #[.int .i64 px, .int .i64 py]) ∧ Bx wr (w.heap.size + 1 + 1) 38 #[.int .i64 0, .int .i64 0, .int .i64 0, .int .i64 0] ∧ Below w.heap.size w wr
set_option maxRecDepth 100000 in
set_option maxHeartbeats 8000000 in
theorem box_e1 (a b c d e f rx ry rw rh E1 : Int) (w : World)
    (CK1 : ∀ w, Calls Tryd.prog 11 #[.agg #[.int .i64 a, .int .i64 b, .int .i64 c, .int .i64 d, .int .i64 e, .int .i64 f]] w fun z w' => z = .returned (.int .i64 E1) ∧ Below w.heap.size w w')
    (t1 : (E1 != 0) = true)
    : Calls Tryd.prog 28 #[.agg #[.int .i64 a, .int .i64 b, .int .i64 c, .int .i64 d, .int .i64 e, .int .i64 f], .agg #[.int .i64 rx, .int .i64 ry, .int .i64 rw, .int .i64 rh]] w fun z w' => z = .returned (.tuple #[.agg #[.int .i64 0, .int .i64 0, .int .i64 0, .int .i64 0], .int .i64 E1]) ∧ Below w.heap.size w w' := by
  replace CK1 := Lib.hid CK1
  go_enter Tryd.func28, Tryd.ntmps28
  go_wp2_with fail
  obtain ⟨k1, k2, k3, hB⟩ := box_boxes w a b c d e f rx ry rw rh _ rfl
  refine (CK1.out _).mono ?_
  rintro z wa ⟨rfl, hb⟩
  replace k1 := Lib.hid (k1.below hb); replace k2 := Lib.hid (k2.below hb); replace k3 := Lib.hid (k3.below hb); replace hB := Lib.hid (bel_trans hB hb)
  clear hb CK1
  obtain ⟨⟨r0, r1, r2, r3⟩, s0, s1, s2, s3⟩ := k3.out.four
  go_wp2_with fail
  refine bodyPost_ret (v := .tuple #[.agg #[.int .i64 0, .int .i64 0, .int .i64 0, .int .i64 0], .int .i64 E1]) (by simp [results, Tryd.results28, go_sem, *]) rfl ⟨rfl, ?_⟩
  repeat' (first | with_reducible exact hB.out | with_reducible apply Below.drew | with_reducible apply Below.drewN' | with_reducible apply Below.setCell)
  all_goals (show w.heap.size ≤ w.heap.size + 1 + 1; omega)
set_option maxRecDepth 100000 in
set_option maxHeartbeats 8000000 in
theorem box_e2 (a b c d e f rx ry rw rh  : Int) (w : World)
    (CK1 : ∀ w, Calls Tryd.prog 11 #[.agg #[.int .i64 a, .int .i64 b, .int .i64 c, .int .i64 d, .int .i64 e, .int .i64 f]] w fun z w' => z = .returned (.int .i64 0) ∧ Below w.heap.size w w')
    (VA : ∀ w, Calls Tryd.prog 46 #[.agg #[.int .i64 rx, .int .i64 ry, .int .i64 rw, .int .i64 rh]] w fun z w' => z = .returned (.bool false) ∧ Below w.heap.size w w')
    : Calls Tryd.prog 28 #[.agg #[.int .i64 a, .int .i64 b, .int .i64 c, .int .i64 d, .int .i64 e, .int .i64 f], .agg #[.int .i64 rx, .int .i64 ry, .int .i64 rw, .int .i64 rh]] w fun z w' => z = .returned (.tuple #[.agg #[.int .i64 0, .int .i64 0, .int .i64 0, .int .i64 0], .int .i64 2]) ∧ Below w.heap.size w w' := by
  replace CK1 := Lib.hid CK1
  replace VA := Lib.hid VA
  go_enter Tryd.func28, Tryd.ntmps28
  go_wp2_with fail
  obtain ⟨k1, k2, k3, hB⟩ := box_boxes w a b c d e f rx ry rw rh _ rfl
  refine (CK1.out _).mono ?_
  rintro z wa ⟨rfl, hb⟩
  replace k1 := Lib.hid (k1.below hb); replace k2 := Lib.hid (k2.below hb); replace k3 := Lib.hid (k3.below hb); replace hB := Lib.hid (bel_trans hB hb)
  clear hb CK1
  obtain ⟨⟨d0, d1, d2, d3⟩, g0, g1, g2, g3⟩ := k2.out.four
  go_wp2_with fail
  clear d0 d1 d2 d3 g0 g1 g2 g3
  refine (VA.out _).mono ?_
  rintro z wb ⟨rfl, hb⟩
  replace k1 := Lib.hid (k1.out.below hb); replace k2 := Lib.hid (k2.out.below hb); replace k3 := Lib.hid (k3.out.below hb); replace hB := Lib.hid (bel_trans hB.out hb)
  clear hb VA
  obtain ⟨⟨r0, r1, r2, r3⟩, s0, s1, s2, s3⟩ := k3.out.four
  go_wp2_with fail
  refine bodyPost_ret (v := .tuple #[.agg #[.int .i64 0, .int .i64 0, .int .i64 0, .int .i64 0], .int .i64 2]) (by simp [results, Tryd.results28, go_sem, *]) rfl ⟨rfl, ?_⟩
  repeat' (first | with_reducible exact hB.out | with_reducible apply Below.drew | with_reducible apply Below.drewN' | with_reducible apply Below.setCell)
  all_goals (show w.heap.size ≤ w.heap.size + 1 + 1; omega)
set_option maxRecDepth 100000 in
set_option maxHeartbeats 8000000 in
theorem box_e3 (a b c d e f rx ry rw rh  : Int) (w : World)
    (CK1 : ∀ w, Calls Tryd.prog 11 #[.agg #[.int .i64 a, .int .i64 b, .int .i64 c, .int .i64 d, .int .i64 e, .int .i64 f]] w fun z w' => z = .returned (.int .i64 0) ∧ Below w.heap.size w w')
    (VA : ∀ w, Calls Tryd.prog 46 #[.agg #[.int .i64 rx, .int .i64 ry, .int .i64 rw, .int .i64 rh]] w fun z w' => z = .returned (.bool true) ∧ Below w.heap.size w w')
    (EM : ∀ w, Calls Tryd.prog 47 #[.agg #[.int .i64 rx, .int .i64 ry, .int .i64 rw, .int .i64 rh]] w fun z w' => z = .returned (.bool true) ∧ Below w.heap.size w w')
    : Calls Tryd.prog 28 #[.agg #[.int .i64 a, .int .i64 b, .int .i64 c, .int .i64 d, .int .i64 e, .int .i64 f], .agg #[.int .i64 rx, .int .i64 ry, .int .i64 rw, .int .i64 rh]] w fun z w' => z = .returned (.tuple #[.agg #[.int .i64 0, .int .i64 0, .int .i64 0, .int .i64 0], .int .i64 0]) ∧ Below w.heap.size w w' := by
  replace CK1 := Lib.hid CK1
  replace VA := Lib.hid VA
  replace EM := Lib.hid EM
  go_enter Tryd.func28, Tryd.ntmps28
  go_wp2_with fail
  obtain ⟨k1, k2, k3, hB⟩ := box_boxes w a b c d e f rx ry rw rh _ rfl
  refine (CK1.out _).mono ?_
  rintro z wa ⟨rfl, hb⟩
  replace k1 := Lib.hid (k1.below hb); replace k2 := Lib.hid (k2.below hb); replace k3 := Lib.hid (k3.below hb); replace hB := Lib.hid (bel_trans hB hb)
  clear hb CK1
  obtain ⟨⟨d0, d1, d2, d3⟩, g0, g1, g2, g3⟩ := k2.out.four
  go_wp2_with fail
  clear d0 d1 d2 d3 g0 g1 g2 g3
  refine (VA.out _).mono ?_
  rintro z wb ⟨rfl, hb⟩
  replace k1 := Lib.hid (k1.out.below hb); replace k2 := Lib.hid (k2.out.below hb); replace k3 := Lib.hid (k3.out.below hb); replace hB := Lib.hid (bel_trans hB.out hb)
  clear hb VA
  obtain ⟨⟨d0, d1, d2, d3⟩, g0, g1, g2, g3⟩ := k2.out.four
  go_wp2_with fail
  clear d0 d1 d2 d3 g0 g1 g2 g3
  refine (EM.out _).mono ?_
  rintro z wc ⟨rfl, hb⟩
  replace k1 := Lib.hid (k1.out.below hb); replace k2 := Lib.hid (k2.out.below hb); replace k3 := Lib.hid (k3.out.below hb); replace hB := Lib.hid (bel_trans hB.out hb)
  clear hb EM
  obtain ⟨⟨r0, r1, r2, r3⟩, s0, s1, s2, s3⟩ := k3.out.four
  go_wp2_with fail
  refine bodyPost_ret (v := .tuple #[.agg #[.int .i64 0, .int .i64 0, .int .i64 0, .int .i64 0], .int .i64 0]) (by simp [results, Tryd.results28, go_sem, *]) rfl ⟨rfl, ?_⟩
  repeat' (first | with_reducible exact hB.out | with_reducible apply Below.drew | with_reducible apply Below.drewN' | with_reducible apply Below.setCell)
  all_goals (show w.heap.size ≤ w.heap.size + 1 + 1; omega)
set_option maxRecDepth 100000 in
set_option maxHeartbeats 8000000 in
theorem box_ok (a b c d e f rx ry rw rh l t s r q m x0 x1 x2 x3 y0 y1 y2 y3 wx0 wx1 wy0 wy1 ow oh : Int) (w : World)
    (CK1 : ∀ w, Calls Tryd.prog 11 #[.agg #[.int .i64 a, .int .i64 b, .int .i64 c, .int .i64 d, .int .i64 e, .int .i64 f]] w fun z w' => z = .returned (.int .i64 0) ∧ Below w.heap.size w w')
    (VA : ∀ w, Calls Tryd.prog 46 #[.agg #[.int .i64 rx, .int .i64 ry, .int .i64 rw, .int .i64 rh]] w fun z w' => z = .returned (.bool true) ∧ Below w.heap.size w w')
    (EM : ∀ w, Calls Tryd.prog 47 #[.agg #[.int .i64 rx, .int .i64 ry, .int .i64 rw, .int .i64 rh]] w fun z w' => z = .returned (.bool false) ∧ Below w.heap.size w w')
    (v1 : IntKind.i64.wrap (rx * 65536) = l)
    (v2 : IntKind.i64.wrap (ry * 65536) = t)
    (v3 : IntKind.i64.wrap (rx + rw) = s)
    (v4 : IntKind.i64.wrap (s * 65536) = r)
    (v5 : IntKind.i64.wrap (ry + rh) = q)
    (v6 : IntKind.i64.wrap (q * 65536) = m)
    (P0 : ∀ w, Calls Tryd.prog 13 #[.agg #[.int .i64 a, .int .i64 b, .int .i64 c, .int .i64 d, .int .i64 e, .int .i64 f], .agg #[.int .i64 l, .int .i64 t]] w fun z w' => z = .returned (.agg #[.int .i64 x0, .int .i64 y0]) ∧ Below w.heap.size w w')
    (P1 : ∀ w, Calls Tryd.prog 13 #[.agg #[.int .i64 a, .int .i64 b, .int .i64 c, .int .i64 d, .int .i64 e, .int .i64 f], .agg #[.int .i64 r, .int .i64 t]] w fun z w' => z = .returned (.agg #[.int .i64 x1, .int .i64 y1]) ∧ Below w.heap.size w w')
    (P2 : ∀ w, Calls Tryd.prog 13 #[.agg #[.int .i64 a, .int .i64 b, .int .i64 c, .int .i64 d, .int .i64 e, .int .i64 f], .agg #[.int .i64 l, .int .i64 m]] w fun z w' => z = .returned (.agg #[.int .i64 x2, .int .i64 y2]) ∧ Below w.heap.size w w')
    (P3 : ∀ w, Calls Tryd.prog 13 #[.agg #[.int .i64 a, .int .i64 b, .int .i64 c, .int .i64 d, .int .i64 e, .int .i64 f], .agg #[.int .i64 r, .int .i64 m]] w fun z w' => z = .returned (.agg #[.int .i64 x3, .int .i64 y3]) ∧ Below w.heap.size w w')
    (WX : ∀ w, Calls Tryd.prog 48 #[.int .i64 (min x0 (min x1 (min x2 x3))), .int .i64 (max x0 (max x1 (max x2 x3)))] w fun z w' => z = .returned (.tuple #[.int .i64 wx0, .int .i64 wx1]) ∧ w = w')
    (WY : ∀ w, Calls Tryd.prog 48 #[.int .i64 (min y0 (min y1 (min y2 y3))), .int .i64 (max y0 (max y1 (max y2 y3)))] w fun z w' => z = .returned (.tuple #[.int .i64 wy0, .int .i64 wy1]) ∧ w = w')
    (t5 : decide (wx0 ≥ wx1) = false)
    (t6 : decide (wy0 ≥ wy1) = false)
    (v7 : IntKind.i64.wrap (wx1 - wx0) = ow)
    (v8 : IntKind.i64.wrap (wy1 - wy0) = oh)
    : Calls Tryd.prog 28 #[.agg #[.int .i64 a, .int .i64 b, .int .i64 c, .int .i64 d, .int .i64 e, .int .i64 f], .agg #[.int .i64 rx, .int .i64 ry, .int .i64 rw, .int .i64 rh]] w fun z w' => z = .returned (.tuple #[.agg #[.int .i64 wx0, .int .i64 wy0, .int .i64 ow, .int .i64 oh], .int .i64 0]) ∧ Below w.heap.size w w' := by
  have TT := Lib.hid (And.intro t5 (And.intro t6 (And.intro v7 v8))); clear t5 t6 v7 v8
  replace CK1 := Lib.hid CK1
  replace VA := Lib.hid VA
  replace EM := Lib.hid EM
  replace P0 := Lib.hid P0
  replace P1 := Lib.hid P1
  replace P2 := Lib.hid P2
  replace P3 := Lib.hid P3
  replace WX := Lib.hid WX
  replace WY := Lib.hid WY
  go_enter Tryd.func28, Tryd.ntmps28
  go_wp2_with fail
  obtain ⟨k1, k2, k3, hB⟩ := box_boxes w a b c d e f rx ry rw rh _ rfl
  refine (CK1.out _).mono ?_
  rintro z wa ⟨rfl, hb⟩
  replace k1 := Lib.hid (k1.below hb); replace k2 := Lib.hid (k2.below hb); replace k3 := Lib.hid (k3.below hb); replace hB := Lib.hid (bel_trans hB hb)
  clear hb CK1
  obtain ⟨⟨d0, d1, d2, d3⟩, g0, g1, g2, g3⟩ := k2.out.four
  go_wp2_with fail
  clear d0 d1 d2 d3 g0 g1 g2 g3
  refine (VA.out _).mono ?_
  rintro z wb ⟨rfl, hb⟩
  replace k1 := Lib.hid (k1.out.below hb); replace k2 := Lib.hid (k2.out.below hb); replace k3 := Lib.hid (k3.out.below hb); replace hB := Lib.hid (bel_trans hB.out hb)
  clear hb VA
  obtain ⟨⟨d0, d1, d2, d3⟩, g0, g1, g2, g3⟩ := k2.out.four
  go_wp2_with fail
  clear d0 d1 d2 d3 g0 g1 g2 g3
  refine (EM.out _).mono ?_
  rintro z wc ⟨rfl, hb⟩
  replace k1 := Lib.hid (k1.out.below hb); replace k2 := Lib.hid (k2.out.below hb); replace k3 := Lib.hid (k3.out.below hb); replace hB := Lib.hid (bel_trans hB.out hb)
  clear hb EM
  obtain ⟨⟨d0, d1, d2, d3⟩, g0, g1, g2, g3⟩ := k2.out.four
  go_wp2_with fail
  go_quiet (fail)
  clear d0 d1 d2 d3 g0 g1 g2 g3
  replace k1 := Lib.hid (k1.out.drewN nq); replace k2 := Lib.hid (k2.out.drewN nq); replace k3 := Lib.hid (k3.out.drewN nq); replace hB := Lib.hid (Below.drewN' hB.out nq)
  generalize wc.drewN nq = wd at *
  clear nq
  obtain ⟨⟨d0, d1, d2, d3⟩, g0, g1, g2, g3⟩ := k2.out.four
  go_wp2_with fail
  go_quiet (fail)
  clear d0 d1 d2 d3 g0 g1 g2 g3
  replace k1 := Lib.hid (k1.out.drewN nq); replace k2 := Lib.hid (k2.out.drewN nq); replace k3 := Lib.hid (k3.out.drewN nq); replace hB := Lib.hid (Below.drewN' hB.out nq)
  generalize wd.drewN nq = we at *
  clear nq
  obtain ⟨⟨c0, c1, c2, c3, c4, c5⟩, f0, f1, f2, f3, f4, f5⟩ := k1.out.six
  go_wp2_with fail
  clear c0 c1 c2 c3 c4 c5 f0 f1 f2 f3 f4 f5
  clear v1 v2 v3 v4 v5 v6
  refine (P0.out _).mono ?_
  rintro z wf ⟨rfl, hb⟩
  replace k1 := Lib.hid ((k1.out.below hb).alloc (.cells #[.int .i64 x0, .int .i64 y0] 25)); replace k3 := Lib.hid (k3.out.below hb); replace hB := Lib.hid (bel_alloc (bel_trans hB.out hb) (.cells #[.int .i64 x0, .int .i64 y0] 25))
  have k4 := Lib.hid (Bx.new wf 25 #[.int .i64 x0, .int .i64 y0])
  have HG := Lib.hid k3.out.lt
  replace k3 := Lib.hid (k3.out.alloc (.cells #[.int .i64 x0, .int .i64 y0] 25))
  clear hb P0 k2
  go_upto_region 11 with fail
  generalize World.alloc wf _ = wg at *
  generalize wf.heap.size = gp at *
  obtain ⟨⟨z0, z1⟩, z2, z3⟩ := k4.out.two
  go_wp2_with fail
  go_quiet (fail)
  clear z0 z1 z2 z3
  replace k1 := Lib.hid (k1.out.drewN nq); replace k4 := Lib.hid (k4.out.drewN nq); replace k3 := Lib.hid (k3.out.drewN nq); replace hB := Lib.hid (Below.drewN' hB.out nq)
  generalize wg.drewN nq = wh at *
  clear nq
  go_wp2_with fail
  go_loopg [12, 13, 14, 15, 72] 3 (BoxRel a b c d e f x0 x1 x2 x3 y0 y1 y2 y3 gp w)
  case atStart => exact ⟨.inl ⟨rfl, rfl, rfl, rfl, rfl, rfl⟩, k1.out, ⟨x0, y0, k4.out⟩, k3.out, hB.out⟩
  case round =>
  clear k1 k3 k4 hB
  obtain ⟨hc, k1, ⟨px, py, k4⟩, k3, hB⟩ := hrel
  replace k1 := Lib.hid k1; replace k3 := Lib.hid k3; replace k4 := Lib.hid k4; replace hB := Lib.hid hB
  have n1 : gp ≠ w.heap.size := by have := HG.out; omega
  have n2 : gp ≠ w.heap.size + 1 + 1 := by have := HG.out; omega
  have N1 := Lib.hid n1; have N2 := Lib.hid n2; clear n1 n2
  rcases hc with ⟨rfl, rfl, rfl, rfl, rfl, rfl⟩ | ⟨rfl, rfl, rfl, rfl, rfl, rfl⟩ | ⟨rfl, rfl, rfl, rfl, rfl, rfl⟩ | ⟨rfl, rfl, rfl, rfl, rfl, rfl⟩
  · have k5 := Lib.hid (Bx.new wr 25 #[.int .i64 r, .int .i64 t])
    have hl := k4.out.lt
    replace k1 := Lib.hid (k1.out.alloc (.cells #[.int .i64 r, .int .i64 t] 25)); replace k3 := Lib.hid (k3.out.alloc (.cells #[.int .i64 r, .int .i64 t] 25)); replace k4 := Lib.hid (k4.out.alloc (.cells #[.int .i64 r, .int .i64 t] 25)); replace hB := Lib.hid (bel_alloc hB.out (.cells #[.int .i64 r, .int .i64 t] 25))
    go_upto_region 15 with fail
    generalize World.alloc wr _ = ws at *
    generalize wr.heap.size = g5 at *
    obtain ⟨⟨c0, c1, c2, c3, c4, c5⟩, f0, f1, f2, f3, f4, f5⟩ := k1.out.six
    obtain ⟨⟨z0, z1⟩, z2, z3⟩ := k5.out.two
    go_wp2_with fail
    clear c0 c1 c2 c3 c4 c5 f0 f1 f2 f3 f4 f5
    clear z0 z1 z2 z3 k5 hl
    refine (P1.out _).mono ?_
    rintro z wt ⟨rfl, hb⟩
    replace k1 := Lib.hid (k1.out.below hb); replace k3 := Lib.hid (k3.out.below hb); replace k4 := Lib.hid (k4.out.below hb); replace hB := Lib.hid (bel_trans hB.out hb)
    clear hb
    obtain ⟨⟨z0, z1⟩, z2, z3⟩ := k4.out.two
    go_upto_region 16 with fail
    clear z0 z1 z2 z3
    have hgp : w.heap.size ≤ gp := by have := HG.out; omega
    replace k1 := Lib.hid ((k1.out.other (g' := gp) N1.out.symm 0 (.int .i64 x1)).other (g' := gp) N1.out.symm 1 (.int .i64 y1))
    replace k3 := Lib.hid ((k3.out.other (g' := gp) N2.out.symm 0 (.int .i64 x1)).other (g' := gp) N2.out.symm 1 (.int .i64 y1))
    replace k4 := Lib.hid (show Bx _ gp 25 #[.int .i64 x1, .int .i64 y1] from (k4.out.set 0 (.int .i64 x1)).set 1 (.int .i64 y1))
    replace hB := Lib.hid ((hB.out.setCell (p := ⟨gp, 0, none⟩) hgp (.int .i64 x1)).setCell (p := ⟨gp, 1, none⟩) hgp (.int .i64 y1))
    clear hgp
    generalize World.setCell (World.setCell wt _ _) _ _ = wu at *
    obtain ⟨⟨z0, z1⟩, z2, z3⟩ := k4.out.two
    go_wp2_with fail
    go_quiet (fail)
    clear z0 z1 z2 z3
    go_wp2_with fail
    go_roundg 2
    case measure => omega
    case rel => exact ⟨.inr (.inl ⟨rfl, rfl, rfl, rfl, rfl, rfl⟩), k1.out.drewN _, ⟨x1, y1, k4.out.drewN _⟩, k3.out.drewN _, Below.drewN' hB.out _⟩
  · have k5 := Lib.hid (Bx.new wr 25 #[.int .i64 l, .int .i64 m])
    have hl := k4.out.lt
    replace k1 := Lib.hid (k1.out.alloc (.cells #[.int .i64 l, .int .i64 m] 25)); replace k3 := Lib.hid (k3.out.alloc (.cells #[.int .i64 l, .int .i64 m] 25)); replace k4 := Lib.hid (k4.out.alloc (.cells #[.int .i64 l, .int .i64 m] 25)); replace hB := Lib.hid (bel_alloc hB.out (.cells #[.int .i64 l, .int .i64 m] 25))
    go_upto_region 15 with fail
    generalize World.alloc wr _ = ws at *
    generalize wr.heap.size = g5 at *
    obtain ⟨⟨c0, c1, c2, c3, c4, c5⟩, f0, f1, f2, f3, f4, f5⟩ := k1.out.six
    obtain ⟨⟨z0, z1⟩, z2, z3⟩ := k5.out.two
    go_wp2_with fail
    clear c0 c1 c2 c3 c4 c5 f0 f1 f2 f3 f4 f5
    clear z0 z1 z2 z3 k5 hl
    refine (P2.out _).mono ?_
    rintro z wt ⟨rfl, hb⟩
    replace k1 := Lib.hid (k1.out.below hb); replace k3 := Lib.hid (k3.out.below hb); replace k4 := Lib.hid (k4.out.below hb); replace hB := Lib.hid (bel_trans hB.out hb)
    clear hb
    obtain ⟨⟨z0, z1⟩, z2, z3⟩ := k4.out.two
    go_upto_region 16 with fail
    clear z0 z1 z2 z3
    have hgp : w.heap.size ≤ gp := by have := HG.out; omega
    replace k1 := Lib.hid ((k1.out.other (g' := gp) N1.out.symm 0 (.int .i64 x2)).other (g' := gp) N1.out.symm 1 (.int .i64 y2))
    replace k3 := Lib.hid ((k3.out.other (g' := gp) N2.out.symm 0 (.int .i64 x2)).other (g' := gp) N2.out.symm 1 (.int .i64 y2))
    replace k4 := Lib.hid (show Bx _ gp 25 #[.int .i64 x2, .int .i64 y2] from (k4.out.set 0 (.int .i64 x2)).set 1 (.int .i64 y2))
    replace hB := Lib.hid ((hB.out.setCell (p := ⟨gp, 0, none⟩) hgp (.int .i64 x2)).setCell (p := ⟨gp, 1, none⟩) hgp (.int .i64 y2))
    clear hgp
    generalize World.setCell (World.setCell wt _ _) _ _ = wu at *
    obtain ⟨⟨z0, z1⟩, z2, z3⟩ := k4.out.two
    go_wp2_with fail
    go_quiet (fail)
    clear z0 z1 z2 z3
    go_wp2_with fail
    go_roundg 1
    case measure => omega
    case rel => exact ⟨.inr (.inr (.inl ⟨rfl, rfl, rfl, rfl, rfl, rfl⟩)), k1.out.drewN _, ⟨x2, y2, k4.out.drewN _⟩, k3.out.drewN _, Below.drewN' hB.out _⟩
  · have k5 := Lib.hid (Bx.new wr 25 #[.int .i64 r, .int .i64 m])
    have hl := k4.out.lt
    replace k1 := Lib.hid (k1.out.alloc (.cells #[.int .i64 r, .int .i64 m] 25)); replace k3 := Lib.hid (k3.out.alloc (.cells #[.int .i64 r, .int .i64 m] 25)); replace k4 := Lib.hid (k4.out.alloc (.cells #[.int .i64 r, .int .i64 m] 25)); replace hB := Lib.hid (bel_alloc hB.out (.cells #[.int .i64 r, .int .i64 m] 25))
    go_upto_region 15 with fail
    generalize World.alloc wr _ = ws at *
    generalize wr.heap.size = g5 at *
    obtain ⟨⟨c0, c1, c2, c3, c4, c5⟩, f0, f1, f2, f3, f4, f5⟩ := k1.out.six
    obtain ⟨⟨z0, z1⟩, z2, z3⟩ := k5.out.two
    go_wp2_with fail
    clear c0 c1 c2 c3 c4 c5 f0 f1 f2 f3 f4 f5
    clear z0 z1 z2 z3 k5 hl
    refine (P3.out _).mono ?_
    rintro z wt ⟨rfl, hb⟩
    replace k1 := Lib.hid (k1.out.below hb); replace k3 := Lib.hid (k3.out.below hb); replace k4 := Lib.hid (k4.out.below hb); replace hB := Lib.hid (bel_trans hB.out hb)
    clear hb
    obtain ⟨⟨z0, z1⟩, z2, z3⟩ := k4.out.two
    go_upto_region 16 with fail
    clear z0 z1 z2 z3
    have hgp : w.heap.size ≤ gp := by have := HG.out; omega
    replace k1 := Lib.hid ((k1.out.other (g' := gp) N1.out.symm 0 (.int .i64 x3)).other (g' := gp) N1.out.symm 1 (.int .i64 y3))
    replace k3 := Lib.hid ((k3.out.other (g' := gp) N2.out.symm 0 (.int .i64 x3)).other (g' := gp) N2.out.symm 1 (.int .i64 y3))
    replace k4 := Lib.hid (show Bx _ gp 25 #[.int .i64 x3, .int .i64 y3] from (k4.out.set 0 (.int .i64 x3)).set 1 (.int .i64 y3))
    replace hB := Lib.hid ((hB.out.setCell (p := ⟨gp, 0, none⟩) hgp (.int .i64 x3)).setCell (p := ⟨gp, 1, none⟩) hgp (.int .i64 y3))
    clear hgp
    generalize World.setCell (World.setCell wt _ _) _ _ = wu at *
    obtain ⟨⟨z0, z1⟩, z2, z3⟩ := k4.out.two
    go_wp2_with fail
    go_quiet (fail)
    clear z0 z1 z2 z3
    go_wp2_with fail
    go_roundg 0
    case measure => omega
    case rel => exact ⟨.inr (.inr (.inr ⟨rfl, rfl, rfl, rfl, rfl, rfl⟩)), k1.out.drewN _, ⟨x3, y3, k4.out.drewN _⟩, k3.out.drewN _, Below.drewN' hB.out _⟩
  · go_wp2_with fail
    with_reducible refine (WX.out _).mono ?_
    rintro z wv ⟨rfl, rfl⟩
    go_wp2_with fail
    with_reducible refine (WY.out _).mono ?_
    rintro z wv ⟨rfl, rfl⟩
    obtain ⟨⟨r0, r1, r2, r3⟩, s0, s1, s2, s3⟩ := k3.out.four
    obtain ⟨t5, t6, v7, v8⟩ := TT.out
    go_wp2_with fail
    refine bodyPost_ret (v := .tuple #[.agg #[.int .i64 wx0, .int .i64 wy0, .int .i64 ow, .int .i64 oh], .int .i64 0]) (by simp [results, Tryd.results28, go_sem, *]) rfl ⟨rfl, ?_⟩
    repeat' (first | with_reducible exact hB.out | with_reducible apply Below.drew | with_reducible apply Below.drewN' | with_reducible apply Below.setCell)
    all_goals (show w.heap.size ≤ w.heap.size + 1 + 1; omega)
set_option maxRecDepth 100000 in
set_option maxHeartbeats 8000000 in
theorem box_no (a b c d e f rx ry rw rh l t s r q m x0 x1 x2 x3 y0 y1 y2 y3 wx0 wx1 wy0 wy1 : Int) (w : World)
    (CK1 : ∀ w, Calls Tryd.prog 11 #[.agg #[.int .i64 a, .int .i64 b, .int .i64 c, .int .i64 d, .int .i64 e, .int .i64 f]] w fun z w' => z = .returned (.int .i64 0) ∧ Below w.heap.size w w')
    (VA : ∀ w, Calls Tryd.prog 46 #[.agg #[.int .i64 rx, .int .i64 ry, .int .i64 rw, .int .i64 rh]] w fun z w' => z = .returned (.bool true) ∧ Below w.heap.size w w')
    (EM : ∀ w, Calls Tryd.prog 47 #[.agg #[.int .i64 rx, .int .i64 ry, .int .i64 rw, .int .i64 rh]] w fun z w' => z = .returned (.bool false) ∧ Below w.heap.size w w')
    (v1 : IntKind.i64.wrap (rx * 65536) = l)
    (v2 : IntKind.i64.wrap (ry * 65536) = t)
    (v3 : IntKind.i64.wrap (rx + rw) = s)
    (v4 : IntKind.i64.wrap (s * 65536) = r)
    (v5 : IntKind.i64.wrap (ry + rh) = q)
    (v6 : IntKind.i64.wrap (q * 65536) = m)
    (P0 : ∀ w, Calls Tryd.prog 13 #[.agg #[.int .i64 a, .int .i64 b, .int .i64 c, .int .i64 d, .int .i64 e, .int .i64 f], .agg #[.int .i64 l, .int .i64 t]] w fun z w' => z = .returned (.agg #[.int .i64 x0, .int .i64 y0]) ∧ Below w.heap.size w w')
    (P1 : ∀ w, Calls Tryd.prog 13 #[.agg #[.int .i64 a, .int .i64 b, .int .i64 c, .int .i64 d, .int .i64 e, .int .i64 f], .agg #[.int .i64 r, .int .i64 t]] w fun z w' => z = .returned (.agg #[.int .i64 x1, .int .i64 y1]) ∧ Below w.heap.size w w')
    (P2 : ∀ w, Calls Tryd.prog 13 #[.agg #[.int .i64 a, .int .i64 b, .int .i64 c, .int .i64 d, .int .i64 e, .int .i64 f], .agg #[.int .i64 l, .int .i64 m]] w fun z w' => z = .returned (.agg #[.int .i64 x2, .int .i64 y2]) ∧ Below w.heap.size w w')
    (P3 : ∀ w, Calls Tryd.prog 13 #[.agg #[.int .i64 a, .int .i64 b, .int .i64 c, .int .i64 d, .int .i64 e, .int .i64 f], .agg #[.int .i64 r, .int .i64 m]] w fun z w' => z = .returned (.agg #[.int .i64 x3, .int .i64 y3]) ∧ Below w.heap.size w w')
    (WX : ∀ w, Calls Tryd.prog 48 #[.int .i64 (min x0 (min x1 (min x2 x3))), .int .i64 (max x0 (max x1 (max x2 x3)))] w fun z w' => z = .returned (.tuple #[.int .i64 wx0, .int .i64 wx1]) ∧ w = w')
    (WY : ∀ w, Calls Tryd.prog 48 #[.int .i64 (min y0 (min y1 (min y2 y3))), .int .i64 (max y0 (max y1 (max y2 y3)))] w fun z w' => z = .returned (.tuple #[.int .i64 wy0, .int .i64 wy1]) ∧ w = w')
    (tt : decide (wx0 ≥ wx1) = true ∨ (decide (wx0 ≥ wx1) = false ∧ decide (wy0 ≥ wy1) = true))
    : Calls Tryd.prog 28 #[.agg #[.int .i64 a, .int .i64 b, .int .i64 c, .int .i64 d, .int .i64 e, .int .i64 f], .agg #[.int .i64 rx, .int .i64 ry, .int .i64 rw, .int .i64 rh]] w fun z w' => z = .returned (.tuple #[.agg #[.int .i64 0, .int .i64 0, .int .i64 0, .int .i64 0], .int .i64 0]) ∧ Below w.heap.size w w' := by
  have TT := Lib.hid tt; clear tt
  replace CK1 := Lib.hid CK1
  replace VA := Lib.hid VA
  replace EM := Lib.hid EM
  replace P0 := Lib.hid P0
  replace P1 := Lib.hid P1
  replace P2 := Lib.hid P2
  replace P3 := Lib.hid P3
  replace WX := Lib.hid WX
  replace WY := Lib.hid WY
  go_enter Tryd.func28, Tryd.ntmps28
  go_wp2_with fail
  obtain ⟨k1, k2, k3, hB⟩ := box_boxes w a b c d e f rx ry rw rh _ rfl
  refine (CK1.out _).mono ?_
  rintro z wa ⟨rfl, hb⟩
  replace k1 := Lib.hid (k1.below hb); replace k2 := Lib.hid (k2.below hb); replace k3 := Lib.hid (k3.below hb); replace hB := Lib.hid (bel_trans hB hb)
  clear hb CK1
  obtain ⟨⟨d0, d1, d2, d3⟩, g0, g1, g2, g3⟩ := k2.out.four
  go_wp2_with fail
  clear d0 d1 d2 d3 g0 g1 g2 g3
  refine (VA.out _).mono ?_
  rintro z wb ⟨rfl, hb⟩
  replace k1 := Lib.hid (k1.out.below hb); replace k2 := Lib.hid (k2.out.below hb); replace k3 := Lib.hid (k3.out.below hb); replace hB := Lib.hid (bel_trans hB.out hb)
  clear hb VA
  obtain ⟨⟨d0, d1, d2, d3⟩, g0, g1, g2, g3⟩ := k2.out.four
  go_wp2_with fail
  clear d0 d1 d2 d3 g0 g1 g2 g3
  refine (EM.out _).mono ?_
  rintro z wc ⟨rfl, hb⟩
  replace k1 := Lib.hid (k1.out.below hb); replace k2 := Lib.hid (k2.out.below hb); replace k3 := Lib.hid (k3.out.below hb); replace hB := Lib.hid (bel_trans hB.out hb)
  clear hb EM
  obtain ⟨⟨d0, d1, d2, d3⟩, g0, g1, g2, g3⟩ := k2.out.four
  go_wp2_with fail
  go_quiet (fail)
  clear d0 d1 d2 d3 g0 g1 g2 g3
  replace k1 := Lib.hid (k1.out.drewN nq); replace k2 := Lib.hid (k2.out.drewN nq); replace k3 := Lib.hid (k3.out.drewN nq); replace hB := Lib.hid (Below.drewN' hB.out nq)
  generalize wc.drewN nq = wd at *
  clear nq
  obtain ⟨⟨d0, d1, d2, d3⟩, g0, g1, g2, g3⟩ := k2.out.four
  go_wp2_with fail
  go_quiet (fail)
  clear d0 d1 d2 d3 g0 g1 g2 g3
  replace k1 := Lib.hid (k1.out.drewN nq); replace k2 := Lib.hid (k2.out.drewN nq); replace k3 := Lib.hid (k3.out.drewN nq); replace hB := Lib.hid (Below.drewN' hB.out nq)
  generalize wd.drewN nq = we at *
  clear nq
  obtain ⟨⟨c0, c1, c2, c3, c4, c5⟩, f0, f1, f2, f3, f4, f5⟩ := k1.out.six
  go_wp2_with fail
  clear c0 c1 c2 c3 c4 c5 f0 f1 f2 f3 f4 f5
  clear v1 v2 v3 v4 v5 v6
  refine (P0.out _).mono ?_
  rintro z wf ⟨rfl, hb⟩
  replace k1 := Lib.hid ((k1.out.below hb).alloc (.cells #[.int .i64 x0, .int .i64 y0] 25)); replace k3 := Lib.hid (k3.out.below hb); replace hB := Lib.hid (bel_alloc (bel_trans hB.out hb) (.cells #[.int .i64 x0, .int .i64 y0] 25))
  have k4 := Lib.hid (Bx.new wf 25 #[.int .i64 x0, .int .i64 y0])
  have HG := Lib.hid k3.out.lt
  replace k3 := Lib.hid (k3.out.alloc (.cells #[.int .i64 x0, .int .i64 y0] 25))
  clear hb P0 k2
  go_upto_region 11 with fail
  generalize World.alloc wf _ = wg at *
  generalize wf.heap.size = gp at *
  obtain ⟨⟨z0, z1⟩, z2, z3⟩ := k4.out.two
  go_wp2_with fail
  go_quiet (fail)
  clear z0 z1 z2 z3
  replace k1 := Lib.hid (k1.out.drewN nq); replace k4 := Lib.hid (k4.out.drewN nq); replace k3 := Lib.hid (k3.out.drewN nq); replace hB := Lib.hid (Below.drewN' hB.out nq)
  generalize wg.drewN nq = wh at *
  clear nq
  go_wp2_with fail
  go_loopg [12, 13, 14, 15, 72] 3 (BoxRel a b c d e f x0 x1 x2 x3 y0 y1 y2 y3 gp w)
  case atStart => exact ⟨.inl ⟨rfl, rfl, rfl, rfl, rfl, rfl⟩, k1.out, ⟨x0, y0, k4.out⟩, k3.out, hB.out⟩
  case round =>
  clear k1 k3 k4 hB
  obtain ⟨hc, k1, ⟨px, py, k4⟩, k3, hB⟩ := hrel
  replace k1 := Lib.hid k1; replace k3 := Lib.hid k3; replace k4 := Lib.hid k4; replace hB := Lib.hid hB
  have n1 : gp ≠ w.heap.size := by have := HG.out; omega
  have n2 : gp ≠ w.heap.size + 1 + 1 := by have := HG.out; omega
  have N1 := Lib.hid n1; have N2 := Lib.hid n2; clear n1 n2
  rcases hc with ⟨rfl, rfl, rfl, rfl, rfl, rfl⟩ | ⟨rfl, rfl, rfl, rfl, rfl, rfl⟩ | ⟨rfl, rfl, rfl, rfl, rfl, rfl⟩ | ⟨rfl, rfl, rfl, rfl, rfl, rfl⟩
  · have k5 := Lib.hid (Bx.new wr 25 #[.int .i64 r, .int .i64 t])
    have hl := k4.out.lt
    replace k1 := Lib.hid (k1.out.alloc (.cells #[.int .i64 r, .int .i64 t] 25)); replace k3 := Lib.hid (k3.out.alloc (.cells #[.int .i64 r, .int .i64 t] 25)); replace k4 := Lib.hid (k4.out.alloc (.cells #[.int .i64 r, .int .i64 t] 25)); replace hB := Lib.hid (bel_alloc hB.out (.cells #[.int .i64 r, .int .i64 t] 25))
    go_upto_region 15 with fail
    generalize World.alloc wr _ = ws at *
    generalize wr.heap.size = g5 at *
    obtain ⟨⟨c0, c1, c2, c3, c4, c5⟩, f0, f1, f2, f3, f4, f5⟩ := k1.out.six
    obtain ⟨⟨z0, z1⟩, z2, z3⟩ := k5.out.two
    go_wp2_with fail
    clear c0 c1 c2 c3 c4 c5 f0 f1 f2 f3 f4 f5
    clear z0 z1 z2 z3 k5 hl
    refine (P1.out _).mono ?_
    rintro z wt ⟨rfl, hb⟩
    replace k1 := Lib.hid (k1.out.below hb); replace k3 := Lib.hid (k3.out.below hb); replace k4 := Lib.hid (k4.out.below hb); replace hB := Lib.hid (bel_trans hB.out hb)
    clear hb
    obtain ⟨⟨z0, z1⟩, z2, z3⟩ := k4.out.two
    go_upto_region 16 with fail
    clear z0 z1 z2 z3
    have hgp : w.heap.size ≤ gp := by have := HG.out; omega
    replace k1 := Lib.hid ((k1.out.other (g' := gp) N1.out.symm 0 (.int .i64 x1)).other (g' := gp) N1.out.symm 1 (.int .i64 y1))
    replace k3 := Lib.hid ((k3.out.other (g' := gp) N2.out.symm 0 (.int .i64 x1)).other (g' := gp) N2.out.symm 1 (.int .i64 y1))
    replace k4 := Lib.hid (show Bx _ gp 25 #[.int .i64 x1, .int .i64 y1] from (k4.out.set 0 (.int .i64 x1)).set 1 (.int .i64 y1))
    replace hB := Lib.hid ((hB.out.setCell (p := ⟨gp, 0, none⟩) hgp (.int .i64 x1)).setCell (p := ⟨gp, 1, none⟩) hgp (.int .i64 y1))
    clear hgp
    generalize World.setCell (World.setCell wt _ _) _ _ = wu at *
    obtain ⟨⟨z0, z1⟩, z2, z3⟩ := k4.out.two
    go_wp2_with fail
    go_quiet (fail)
    clear z0 z1 z2 z3
    go_wp2_with fail
    go_roundg 2
    case measure => omega
    case rel => exact ⟨.inr (.inl ⟨rfl, rfl, rfl, rfl, rfl, rfl⟩), k1.out.drewN _, ⟨x1, y1, k4.out.drewN _⟩, k3.out.drewN _, Below.drewN' hB.out _⟩
  · have k5 := Lib.hid (Bx.new wr 25 #[.int .i64 l, .int .i64 m])
    have hl := k4.out.lt
    replace k1 := Lib.hid (k1.out.alloc (.cells #[.int .i64 l, .int .i64 m] 25)); replace k3 := Lib.hid (k3.out.alloc (.cells #[.int .i64 l, .int .i64 m] 25)); replace k4 := Lib.hid (k4.out.alloc (.cells #[.int .i64 l, .int .i64 m] 25)); replace hB := Lib.hid (bel_alloc hB.out (.cells #[.int .i64 l, .int .i64 m] 25))
    go_upto_region 15 with fail
    generalize World.alloc wr _ = ws at *
    generalize wr.heap.size = g5 at *
    obtain ⟨⟨c0, c1, c2, c3, c4, c5⟩, f0, f1, f2, f3, f4, f5⟩ := k1.out.six
    obtain ⟨⟨z0, z1⟩, z2, z3⟩ := k5.out.two
    go_wp2_with fail
    clear c0 c1 c2 c3 c4 c5 f0 f1 f2 f3 f4 f5
    clear z0 z1 z2 z3 k5 hl
    refine (P2.out _).mono ?_
    rintro z wt ⟨rfl, hb⟩
    replace k1 := Lib.hid (k1.out.below hb); replace k3 := Lib.hid (k3.out.below hb); replace k4 := Lib.hid (k4.out.below hb); replace hB := Lib.hid (bel_trans hB.out hb)
    clear hb
    obtain ⟨⟨z0, z1⟩, z2, z3⟩ := k4.out.two
    go_upto_region 16 with fail
    clear z0 z1 z2 z3
    have hgp : w.heap.size ≤ gp := by have := HG.out; omega
    replace k1 := Lib.hid ((k1.out.other (g' := gp) N1.out.symm 0 (.int .i64 x2)).other (g' := gp) N1.out.symm 1 (.int .i64 y2))
    replace k3 := Lib.hid ((k3.out.other (g' := gp) N2.out.symm 0 (.int .i64 x2)).other (g' := gp) N2.out.symm 1 (.int .i64 y2))
    replace k4 := Lib.hid (show Bx _ gp 25 #[.int .i64 x2, .int .i64 y2] from (k4.out.set 0 (.int .i64 x2)).set 1 (.int .i64 y2))
    replace hB := Lib.hid ((hB.out.setCell (p := ⟨gp, 0, none⟩) hgp (.int .i64 x2)).setCell (p := ⟨gp, 1, none⟩) hgp (.int .i64 y2))
    clear hgp
    generalize World.setCell (World.setCell wt _ _) _ _ = wu at *
    obtain ⟨⟨z0, z1⟩, z2, z3⟩ := k4.out.two
    go_wp2_with fail
    go_quiet (fail)
    clear z0 z1 z2 z3
    go_wp2_with fail
    go_roundg 1
    case measure => omega
    case rel => exact ⟨.inr (.inr (.inl ⟨rfl, rfl, rfl, rfl, rfl, rfl⟩)), k1.out.drewN _, ⟨x2, y2, k4.out.drewN _⟩, k3.out.drewN _, Below.drewN' hB.out _⟩
  · have k5 := Lib.hid (Bx.new wr 25 #[.int .i64 r, .int .i64 m])
    have hl := k4.out.lt
    replace k1 := Lib.hid (k1.out.alloc (.cells #[.int .i64 r, .int .i64 m] 25)); replace k3 := Lib.hid (k3.out.alloc (.cells #[.int .i64 r, .int .i64 m] 25)); replace k4 := Lib.hid (k4.out.alloc (.cells #[.int .i64 r, .int .i64 m] 25)); replace hB := Lib.hid (bel_alloc hB.out (.cells #[.int .i64 r, .int .i64 m] 25))
    go_upto_region 15 with fail
    generalize World.alloc wr _ = ws at *
    generalize wr.heap.size = g5 at *
    obtain ⟨⟨c0, c1, c2, c3, c4, c5⟩, f0, f1, f2, f3, f4, f5⟩ := k1.out.six
    obtain ⟨⟨z0, z1⟩, z2, z3⟩ := k5.out.two
    go_wp2_with fail
    clear c0 c1 c2 c3 c4 c5 f0 f1 f2 f3 f4 f5
    clear z0 z1 z2 z3 k5 hl
    refine (P3.out _).mono ?_
    rintro z wt ⟨rfl, hb⟩
    replace k1 := Lib.hid (k1.out.below hb); replace k3 := Lib.hid (k3.out.below hb); replace k4 := Lib.hid (k4.out.below hb); replace hB := Lib.hid (bel_trans hB.out hb)
    clear hb
    obtain ⟨⟨z0, z1⟩, z2, z3⟩ := k4.out.two
    go_upto_region 16 with fail
    clear z0 z1 z2 z3
    have hgp : w.heap.size ≤ gp := by have := HG.out; omega
    replace k1 := Lib.hid ((k1.out.other (g' := gp) N1.out.symm 0 (.int .i64 x3)).other (g' := gp) N1.out.symm 1 (.int .i64 y3))
    replace k3 := Lib.hid ((k3.out.other (g' := gp) N2.out.symm 0 (.int .i64 x3)).other (g' := gp) N2.out.symm 1 (.int .i64 y3))
    replace k4 := Lib.hid (show Bx _ gp 25 #[.int .i64 x3, .int .i64 y3] from (k4.out.set 0 (.int .i64 x3)).set 1 (.int .i64 y3))
    replace hB := Lib.hid ((hB.out.setCell (p := ⟨gp, 0, none⟩) hgp (.int .i64 x3)).setCell (p := ⟨gp, 1, none⟩) hgp (.int .i64 y3))
    clear hgp
    generalize World.setCell (World.setCell wt _ _) _ _ = wu at *
    obtain ⟨⟨z0, z1⟩, z2, z3⟩ := k4.out.two
    go_wp2_with fail
    go_quiet (fail)
    clear z0 z1 z2 z3
    go_wp2_with fail
    go_roundg 0
    case measure => omega
    case rel => exact ⟨.inr (.inr (.inr ⟨rfl, rfl, rfl, rfl, rfl, rfl⟩)), k1.out.drewN _, ⟨x3, y3, k4.out.drewN _⟩, k3.out.drewN _, Below.drewN' hB.out _⟩
  · go_wp2_with fail
    with_reducible refine (WX.out _).mono ?_
    rintro z wv ⟨rfl, rfl⟩
    go_wp2_with fail
    with_reducible refine (WY.out _).mono ?_
    rintro z wv ⟨rfl, rfl⟩
    obtain ⟨⟨r0, r1, r2, r3⟩, s0, s1, s2, s3⟩ := k3.out.four
    rcases TT.out with t5 | ⟨t5, t6⟩
    all_goals
      go_wp2_with fail
      refine bodyPost_ret (v := .tuple #[.agg #[.int .i64 0, .int .i64 0, .int .i64 0, .int .i64 0], .int .i64 0]) (by simp [results, Tryd.results28, go_sem, *]) rfl ⟨rfl, ?_⟩
      repeat' (first | with_reducible exact hB.out | with_reducible apply Below.drew | with_reducible apply Below.drewN' | with_reducible apply Below.setCell)
      all_goals (show w.heap.size ≤ w.heap.size + 1 + 1; omega)
end Go.Proofs.YtanlnigebbcajaaDoor
