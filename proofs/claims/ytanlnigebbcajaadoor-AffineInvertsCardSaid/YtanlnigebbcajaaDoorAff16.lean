/- The walk of AffineContains. -/
import Derived.Test.YtanlnigebbcajaaDoorAff15
namespace Go.Proofs.YtanlnigebbcajaaDoor
open Go.RowKit
attribute [local go_sem 2000] run_max2m run_min2m
theorem boxARP (w : World) (a b c d e f rx ry rw rh x y : Int) (w0 : World) (hw : w0 = ((w.alloc (.cells #[.int .i64 a, .int .i64 b, .int .i64 c, .int .i64 d, .int .i64 e, .int .i64 f] 23)).alloc (.cells #[.int .i64 rx, .int .i64 ry, .int .i64 rw, .int .i64 rh] 38)).alloc (.cells #[.int .i64 x, .int .i64 y] 25)) :
    Bx w0 w.heap.size 23 #[.int .i64 a, .int .i64 b, .int .i64 c, .int .i64 d, .int .i64 e, .int .i64 f] ∧ Bx w0 (w.heap.size + 1) 38 #[.int .i64 rx, .int .i64 ry, .int .i64 rw, .int .i64 rh] ∧ Bx w0 (w.heap.size + 1 + 1) 25 #[.int .i64 x, .int .i64 y] ∧ Below w.heap.size w w0 := by
  subst hw
  have h1 := Bx.new w 23 #[.int .i64 a, .int .i64 b, .int .i64 c, .int .i64 d, .int .i64 e, .int .i64 f]
  have h2 := Bx.new (w.alloc (.cells #[.int .i64 a, .int .i64 b, .int .i64 c, .int .i64 d, .int .i64 e, .int .i64 f] 23)) 38 #[.int .i64 rx, .int .i64 ry, .int .i64 rw, .int .i64 rh]
  have h3 := Bx.new ((w.alloc (.cells #[.int .i64 a, .int .i64 b, .int .i64 c, .int .i64 d, .int .i64 e, .int .i64 f] 23)).alloc (.cells #[.int .i64 rx, .int .i64 ry, .int .i64 rw, .int .i64 rh] 38)) 25 #[.int .i64 x, .int .i64 y]
  simp only [World.size_alloc] at h2 h3
  exact ⟨(h1.alloc _).alloc _, h2.alloc _, h3, bel_alloc (bel_alloc (bel_alloc (Below.refl _ _) _) _) _⟩
set_option maxRecDepth 100000 in
set_option maxHeartbeats 8000000 in
theorem contains_o1 (a b c d e f rx ry rw rh x y  : Int) (w : World) (ht : Tab w)
    (SM : ∀ w, Calls Tryd.prog 31 #[.agg #[.int .i64 a, .int .i64 b, .int .i64 c, .int .i64 d, .int .i64 e, .int .i64 f], .int .i64 16777216] w fun z w' => z = .returned (.bool false) ∧ Below w.heap.size w w')
    : Calls Tryd.prog 10 #[.agg #[.int .i64 a, .int .i64 b, .int .i64 c, .int .i64 d, .int .i64 e, .int .i64 f], .agg #[.int .i64 rx, .int .i64 ry, .int .i64 rw, .int .i64 rh], .agg #[.int .i64 x, .int .i64 y]] w fun e w' => e = .returned (.bool true) ∧ Below w.heap.size w w' := by
  have HT := Lib.hid ht; clear ht
  replace SM := Lib.hid SM
  go_enter Tryd.func10, Tryd.ntmps10
  go_upto_region 1 with fail
  simp only [List.append_eq, List.cons_append, List.nil_append]
  go_wp2_with fail
  obtain ⟨k1, k2, k3, hB⟩ := boxARP w a b c d e f rx ry rw rh x y _ rfl
  with_reducible refine (SM.out _).mono ?_
  rintro z wa ⟨rfl, hb⟩
  replace k1 := Lib.hid (k1.below hb); replace k2 := Lib.hid (k2.below hb); replace k3 := Lib.hid (k3.below hb); replace hB := Lib.hid (bel_trans hB hb)
  clear hb SM
  obtain ⟨⟨d0, d1, d2, d3⟩, g0, g1, g2, g3⟩ := k2.out.four
  obtain ⟨⟨z0, z1⟩, z2, z3⟩ := k3.out.two
  go_wp2_with fail
  refine (awake_any _ (HT.out.below hB.out)).mono ?_
  rintro z wz ⟨rfl, hb⟩
  go_wp2_with fail
  go_ret
  exact ⟨rfl, bel_trans hB.out hb⟩
set_option maxRecDepth 100000 in
set_option maxHeartbeats 8000000 in
theorem contains_o2 (a b c d e f rx ry rw rh x y  : Int) (w : World) (ht : Tab w)
    (SM : ∀ w, Calls Tryd.prog 31 #[.agg #[.int .i64 a, .int .i64 b, .int .i64 c, .int .i64 d, .int .i64 e, .int .i64 f], .int .i64 16777216] w fun z w' => z = .returned (.bool true) ∧ Below w.heap.size w w')
    (W1 : ∀ (w : World) (g : Nat), w.heap.size = g → Calls Tryd.prog 30 #[.int .i64 256, .slice (some ⟨g, 0, none⟩) 2 2] (w.alloc (.cells #[.int .i64 rx, .int .i64 ry] 3)) fun z w' => z = .returned (.bool false) ∧ w.alloc (.cells #[.int .i64 rx, .int .i64 ry] 3) = w')
    : Calls Tryd.prog 10 #[.agg #[.int .i64 a, .int .i64 b, .int .i64 c, .int .i64 d, .int .i64 e, .int .i64 f], .agg #[.int .i64 rx, .int .i64 ry, .int .i64 rw, .int .i64 rh], .agg #[.int .i64 x, .int .i64 y]] w fun e w' => e = .returned (.bool true) ∧ Below w.heap.size w w' := by
  have HT := Lib.hid ht; clear ht
  replace SM := Lib.hid SM
  replace W1 := Lib.hid W1
  go_enter Tryd.func10, Tryd.ntmps10
  go_upto_region 1 with fail
  simp only [List.append_eq, List.cons_append, List.nil_append]
  go_wp2_with fail
  obtain ⟨k1, k2, k3, hB⟩ := boxARP w a b c d e f rx ry rw rh x y _ rfl
  with_reducible refine (SM.out _).mono ?_
  rintro z wa ⟨rfl, hb⟩
  replace k1 := Lib.hid (k1.below hb); replace k2 := Lib.hid (k2.below hb); replace k3 := Lib.hid (k3.below hb); replace hB := Lib.hid (bel_trans hB hb)
  clear hb SM
  obtain ⟨⟨d0, d1, d2, d3⟩, g0, g1, g2, g3⟩ := k2.out.four
  obtain ⟨⟨z0, z1⟩, z2, z3⟩ := k3.out.two
  go_wp2_with fail
  clear d0 d1 d2 d3 g0 g1 g2 g3 z0 z1 z2 z3
  with_reducible refine (W1.out _ _ rfl).mono ?_
  rintro z wb ⟨rfl, rfl⟩
  replace k1 := Lib.hid (k1.out.alloc (.cells #[.int .i64 rx, .int .i64 ry] 3)); replace k2 := Lib.hid (k2.out.alloc (.cells #[.int .i64 rx, .int .i64 ry] 3)); replace k3 := Lib.hid (k3.out.alloc (.cells #[.int .i64 rx, .int .i64 ry] 3)); replace hB := Lib.hid (bel_alloc hB.out (.cells #[.int .i64 rx, .int .i64 ry] 3))
  generalize World.alloc wa _ = wb at *
  obtain ⟨⟨d0, d1, d2, d3⟩, g0, g1, g2, g3⟩ := k2.out.four
  obtain ⟨⟨z0, z1⟩, z2, z3⟩ := k3.out.two
  go_wp2_with fail
  refine (awake_any _ (HT.out.below hB.out)).mono ?_
  rintro z wz ⟨rfl, hb⟩
  go_wp2_with fail
  go_ret
  exact ⟨rfl, bel_trans hB.out hb⟩
set_option maxRecDepth 100000 in
set_option maxHeartbeats 8000000 in
theorem contains_o3 (a b c d e f rx ry rw rh x y l t s r q m : Int) (w : World) (ht : Tab w)
    (SM : ∀ w, Calls Tryd.prog 31 #[.agg #[.int .i64 a, .int .i64 b, .int .i64 c, .int .i64 d, .int .i64 e, .int .i64 f], .int .i64 16777216] w fun z w' => z = .returned (.bool true) ∧ Below w.heap.size w w')
    (W1 : ∀ (w : World) (g : Nat), w.heap.size = g → Calls Tryd.prog 30 #[.int .i64 256, .slice (some ⟨g, 0, none⟩) 2 2] (w.alloc (.cells #[.int .i64 rx, .int .i64 ry] 3)) fun z w' => z = .returned (.bool true) ∧ w.alloc (.cells #[.int .i64 rx, .int .i64 ry] 3) = w')
    (v1 : IntKind.i64.wrap (rx * 65536) = l)
    (v2 : IntKind.i64.wrap (ry * 65536) = t)
    (v3 : IntKind.i64.wrap (rx + rw) = s)
    (v4 : IntKind.i64.wrap (s * 65536) = r)
    (v5 : IntKind.i64.wrap (ry + rh) = q)
    (v6 : IntKind.i64.wrap (q * 65536) = m)
    (dd : (decide (rw < 1) = true) ∨ (decide (rw < 1) = false ∧ decide (rw > 256) = true) ∨ (decide (rw < 1) = false ∧ decide (rw > 256) = false ∧ decide (rh < 1) = true) ∨ (decide (rw < 1) = false ∧ decide (rw > 256) = false ∧ decide (rh < 1) = false ∧ decide (rh > 256) = true) ∨ (decide (rw < 1) = false ∧ decide (rw > 256) = false ∧ decide (rh < 1) = false ∧ decide (rh > 256) = false ∧ decide (x < l) = true) ∨ (decide (rw < 1) = false ∧ decide (rw > 256) = false ∧ decide (rh < 1) = false ∧ decide (rh > 256) = false ∧ decide (x < l) = false ∧ decide (y < t) = true) ∨ (decide (rw < 1) = false ∧ decide (rw > 256) = false ∧ decide (rh < 1) = false ∧ decide (rh > 256) = false ∧ decide (x < l) = false ∧ decide (y < t) = false ∧ decide (x > r) = true) ∨ (decide (rw < 1) = false ∧ decide (rw > 256) = false ∧ decide (rh < 1) = false ∧ decide (rh > 256) = false ∧ decide (x < l) = false ∧ decide (y < t) = false ∧ decide (x > r) = false ∧ decide (y > m) = true))
    : Calls Tryd.prog 10 #[.agg #[.int .i64 a, .int .i64 b, .int .i64 c, .int .i64 d, .int .i64 e, .int .i64 f], .agg #[.int .i64 rx, .int .i64 ry, .int .i64 rw, .int .i64 rh], .agg #[.int .i64 x, .int .i64 y]] w fun e w' => e = .returned (.bool true) ∧ Below w.heap.size w w' := by
  have HT := Lib.hid ht; clear ht
  have DD := Lib.hid dd; clear dd
  replace SM := Lib.hid SM
  replace W1 := Lib.hid W1
  go_enter Tryd.func10, Tryd.ntmps10
  go_upto_region 1 with fail
  simp only [List.append_eq, List.cons_append, List.nil_append]
  go_wp2_with fail
  obtain ⟨k1, k2, k3, hB⟩ := boxARP w a b c d e f rx ry rw rh x y _ rfl
  with_reducible refine (SM.out _).mono ?_
  rintro z wa ⟨rfl, hb⟩
  replace k1 := Lib.hid (k1.below hb); replace k2 := Lib.hid (k2.below hb); replace k3 := Lib.hid (k3.below hb); replace hB := Lib.hid (bel_trans hB hb)
  clear hb SM
  obtain ⟨⟨d0, d1, d2, d3⟩, g0, g1, g2, g3⟩ := k2.out.four
  obtain ⟨⟨z0, z1⟩, z2, z3⟩ := k3.out.two
  go_wp2_with fail
  clear d0 d1 d2 d3 g0 g1 g2 g3 z0 z1 z2 z3
  with_reducible refine (W1.out _ _ rfl).mono ?_
  rintro z wb ⟨rfl, rfl⟩
  replace k1 := Lib.hid (k1.out.alloc (.cells #[.int .i64 rx, .int .i64 ry] 3)); replace k2 := Lib.hid (k2.out.alloc (.cells #[.int .i64 rx, .int .i64 ry] 3)); replace k3 := Lib.hid (k3.out.alloc (.cells #[.int .i64 rx, .int .i64 ry] 3)); replace hB := Lib.hid (bel_alloc hB.out (.cells #[.int .i64 rx, .int .i64 ry] 3))
  generalize World.alloc wa _ = wb at *
  obtain ⟨⟨d0, d1, d2, d3⟩, g0, g1, g2, g3⟩ := k2.out.four
  obtain ⟨⟨z0, z1⟩, z2, z3⟩ := k3.out.two
  rcases DD.out with t0 | ⟨t0, t1⟩ | ⟨t0, t1, t2⟩ | ⟨t0, t1, t2, t3⟩ | ⟨t0, t1, t2, t3, t4⟩ | ⟨t0, t1, t2, t3, t4, t5⟩ | ⟨t0, t1, t2, t3, t4, t5, t6⟩ | ⟨t0, t1, t2, t3, t4, t5, t6, t7⟩
  all_goals
    go_wp2_with fail
    refine (awake_any _ (HT.out.below hB.out)).mono ?_
    rintro z wz ⟨rfl, hb⟩
    go_wp2_with fail
    go_ret
    exact ⟨rfl, bel_trans hB.out hb⟩
set_option maxRecDepth 100000 in
set_option maxHeartbeats 8000000 in
theorem contains_zero (a b c d e f rx ry rw rh x y l t s r q m : Int) (w : World) (ht : Tab w)
    (SM : ∀ w, Calls Tryd.prog 31 #[.agg #[.int .i64 a, .int .i64 b, .int .i64 c, .int .i64 d, .int .i64 e, .int .i64 f], .int .i64 16777216] w fun z w' => z = .returned (.bool true) ∧ Below w.heap.size w w')
    (W1 : ∀ (w : World) (g : Nat), w.heap.size = g → Calls Tryd.prog 30 #[.int .i64 256, .slice (some ⟨g, 0, none⟩) 2 2] (w.alloc (.cells #[.int .i64 rx, .int .i64 ry] 3)) fun z w' => z = .returned (.bool true) ∧ w.alloc (.cells #[.int .i64 rx, .int .i64 ry] 3) = w')
    (v1 : IntKind.i64.wrap (rx * 65536) = l)
    (v2 : IntKind.i64.wrap (ry * 65536) = t)
    (v3 : IntKind.i64.wrap (rx + rw) = s)
    (v4 : IntKind.i64.wrap (s * 65536) = r)
    (v5 : IntKind.i64.wrap (ry + rh) = q)
    (v6 : IntKind.i64.wrap (q * 65536) = m)
    (t0 : decide (rw < 1) = false)
    (t1 : decide (rw > 256) = false)
    (t2 : decide (rh < 1) = false)
    (t3 : decide (rh > 256) = false)
    (t4 : decide (x < l) = false)
    (t5 : decide (y < t) = false)
    (t6 : decide (x > r) = false)
    (t7 : decide (y > m) = false)
    (BX : ∀ w, Calls Tryd.prog 28 #[.agg #[.int .i64 a, .int .i64 b, .int .i64 c, .int .i64 d, .int .i64 e, .int .i64 f], .agg #[.int .i64 rx, .int .i64 ry, .int .i64 rw, .int .i64 rh]] w fun z w' => z = .returned (.tuple #[.agg #[.int .i64 0, .int .i64 0, .int .i64 0, .int .i64 0], .int .i64 0]) ∧ Below w.heap.size w w')
    (W2 : ∀ (w : World) (g : Nat), w.heap.size = g → Calls Tryd.prog 30 #[.int .i64 1048576, .slice (some ⟨g, 0, none⟩) 4 4] (w.alloc (.cells #[.int .i64 0, .int .i64 0, .int .i64 0, .int .i64 0] 3)) fun z w' => z = .returned (.bool true) ∧ w.alloc (.cells #[.int .i64 0, .int .i64 0, .int .i64 0, .int .i64 0] 3) = w')
    : Calls Tryd.prog 10 #[.agg #[.int .i64 a, .int .i64 b, .int .i64 c, .int .i64 d, .int .i64 e, .int .i64 f], .agg #[.int .i64 rx, .int .i64 ry, .int .i64 rw, .int .i64 rh], .agg #[.int .i64 x, .int .i64 y]] w fun e w' => e = .returned (.bool true) ∧ Below w.heap.size w w' := by
  have HT := Lib.hid ht; clear ht
  replace SM := Lib.hid SM
  replace W1 := Lib.hid W1
  replace BX := Lib.hid BX
  replace W2 := Lib.hid W2
  go_enter Tryd.func10, Tryd.ntmps10
  go_upto_region 1 with fail
  simp only [List.append_eq, List.cons_append, List.nil_append]
  go_wp2_with fail
  obtain ⟨k1, k2, k3, hB⟩ := boxARP w a b c d e f rx ry rw rh x y _ rfl
  with_reducible refine (SM.out _).mono ?_
  rintro z wa ⟨rfl, hb⟩
  replace k1 := Lib.hid (k1.below hb); replace k2 := Lib.hid (k2.below hb); replace k3 := Lib.hid (k3.below hb); replace hB := Lib.hid (bel_trans hB hb)
  clear hb SM
  obtain ⟨⟨d0, d1, d2, d3⟩, g0, g1, g2, g3⟩ := k2.out.four
  obtain ⟨⟨z0, z1⟩, z2, z3⟩ := k3.out.two
  go_wp2_with fail
  clear d0 d1 d2 d3 g0 g1 g2 g3 z0 z1 z2 z3
  with_reducible refine (W1.out _ _ rfl).mono ?_
  rintro z wb ⟨rfl, rfl⟩
  replace k1 := Lib.hid (k1.out.alloc (.cells #[.int .i64 rx, .int .i64 ry] 3)); replace k2 := Lib.hid (k2.out.alloc (.cells #[.int .i64 rx, .int .i64 ry] 3)); replace k3 := Lib.hid (k3.out.alloc (.cells #[.int .i64 rx, .int .i64 ry] 3)); replace hB := Lib.hid (bel_alloc hB.out (.cells #[.int .i64 rx, .int .i64 ry] 3))
  generalize World.alloc wa _ = wb at *
  obtain ⟨⟨d0, d1, d2, d3⟩, g0, g1, g2, g3⟩ := k2.out.four
  obtain ⟨⟨z0, z1⟩, z2, z3⟩ := k3.out.two
  obtain ⟨⟨c0, c1, c2, c3, c4, c5⟩, f0, f1, f2, f3, f4, f5⟩ := k1.out.six
  go_wp2_with fail
  clear d0 d1 d2 d3 g0 g1 g2 g3 z0 z1 z2 z3 c0 c1 c2 c3 c4 c5 f0 f1 f2 f3 f4 f5 v1 v2 v3 v4 v5 v6
  clear t0 t1 t2 t3 t4 t5 t6 t7
  with_reducible refine (BX.out _).mono ?_
  rintro z wc ⟨rfl, hb⟩
  replace k1 := Lib.hid ((k1.out.below hb).alloc (.cells #[.int .i64 0, .int .i64 0, .int .i64 0, .int .i64 0] 38)); replace k3 := Lib.hid ((k3.out.below hb).alloc (.cells #[.int .i64 0, .int .i64 0, .int .i64 0, .int .i64 0] 38)); replace hB := Lib.hid (bel_alloc (bel_trans hB.out hb) (.cells #[.int .i64 0, .int .i64 0, .int .i64 0, .int .i64 0] 38))
  have k4 := Lib.hid (Bx.new wc 38 #[.int .i64 0, .int .i64 0, .int .i64 0, .int .i64 0])
  clear hb k2 BX
  go_upto_region 4 with fail
  generalize World.alloc wc _ = wd at *
  generalize wc.heap.size = g4 at *
  obtain ⟨⟨d0, d1, d2, d3⟩, g0, g1, g2, g3⟩ := k4.out.four
  go_wp2_with fail
  clear d0 d1 d2 d3 g0 g1 g2 g3
  with_reducible refine (W2.out _ _ rfl).mono ?_
  rintro z we ⟨rfl, rfl⟩
  replace k1 := Lib.hid (k1.out.alloc (.cells #[.int .i64 0, .int .i64 0, .int .i64 0, .int .i64 0] 3)); replace k3 := Lib.hid (k3.out.alloc (.cells #[.int .i64 0, .int .i64 0, .int .i64 0, .int .i64 0] 3)); replace k4 := Lib.hid (k4.out.alloc (.cells #[.int .i64 0, .int .i64 0, .int .i64 0, .int .i64 0] 3)); replace hB := Lib.hid (bel_alloc hB.out (.cells #[.int .i64 0, .int .i64 0, .int .i64 0, .int .i64 0] 3))
  generalize World.alloc wd _ = we at *
  obtain ⟨⟨d0, d1, d2, d3⟩, g0, g1, g2, g3⟩ := k4.out.four
  go_wp2_with fail
  refine (awake_any _ (HT.out.below hB.out)).mono ?_
  rintro z wz ⟨rfl, hb⟩
  go_wp2_with fail
  go_ret
  exact ⟨rfl, bel_trans hB.out hb⟩
set_option maxRecDepth 100000 in
set_option maxHeartbeats 8000000 in
theorem contains_in (a b c d e f rx ry rw rh x y l t s r q m bx by' bw bh u v j1 j2 j3 j4 j5 j6 : Int) (w : World) (ht : Tab w)
    (SM : ∀ w, Calls Tryd.prog 31 #[.agg #[.int .i64 a, .int .i64 b, .int .i64 c, .int .i64 d, .int .i64 e, .int .i64 f], .int .i64 16777216] w fun z w' => z = .returned (.bool true) ∧ Below w.heap.size w w')
    (W1 : ∀ (w : World) (g : Nat), w.heap.size = g → Calls Tryd.prog 30 #[.int .i64 256, .slice (some ⟨g, 0, none⟩) 2 2] (w.alloc (.cells #[.int .i64 rx, .int .i64 ry] 3)) fun z w' => z = .returned (.bool true) ∧ w.alloc (.cells #[.int .i64 rx, .int .i64 ry] 3) = w')
    (v1 : IntKind.i64.wrap (rx * 65536) = l)
    (v2 : IntKind.i64.wrap (ry * 65536) = t)
    (v3 : IntKind.i64.wrap (rx + rw) = s)
    (v4 : IntKind.i64.wrap (s * 65536) = r)
    (v5 : IntKind.i64.wrap (ry + rh) = q)
    (v6 : IntKind.i64.wrap (q * 65536) = m)
    (t0 : decide (rw < 1) = false)
    (t1 : decide (rw > 256) = false)
    (t2 : decide (rh < 1) = false)
    (t3 : decide (rh > 256) = false)
    (t4 : decide (x < l) = false)
    (t5 : decide (y < t) = false)
    (t6 : decide (x > r) = false)
    (t7 : decide (y > m) = false)
    (BX : ∀ w, Calls Tryd.prog 28 #[.agg #[.int .i64 a, .int .i64 b, .int .i64 c, .int .i64 d, .int .i64 e, .int .i64 f], .agg #[.int .i64 rx, .int .i64 ry, .int .i64 rw, .int .i64 rh]] w fun z w' => z = .returned (.tuple #[.agg #[.int .i64 bx, .int .i64 by', .int .i64 bw, .int .i64 bh], .int .i64 0]) ∧ Below w.heap.size w w')
    (W2 : ∀ (w : World) (g : Nat), w.heap.size = g → Calls Tryd.prog 30 #[.int .i64 1048576, .slice (some ⟨g, 0, none⟩) 4 4] (w.alloc (.cells #[.int .i64 bx, .int .i64 by', .int .i64 bw, .int .i64 bh] 3)) fun z w' => z = .returned (.bool true) ∧ w.alloc (.cells #[.int .i64 bx, .int .i64 by', .int .i64 bw, .int .i64 bh] 3) = w')
    (y0 : decide (bw < 0) = false)
    (y1 : decide (bh < 0) = false)
    (y2 : (bw == 0) = false)
    (y3 : (bh == 0) = false)
    (AP : ∀ w, Calls Tryd.prog 13 #[.agg #[.int .i64 a, .int .i64 b, .int .i64 c, .int .i64 d, .int .i64 e, .int .i64 f], .agg #[.int .i64 x, .int .i64 y]] w fun z w' => z = .returned (.agg #[.int .i64 u, .int .i64 v]) ∧ Below w.heap.size w w')
    (e1 : IntKind.i64.wrap (bx * 65536) = j1)
    (e2 : IntKind.i64.wrap (bx + bw) = j2)
    (e3 : IntKind.i64.wrap (j2 * 65536) = j3)
    (e4 : IntKind.i64.wrap (by' * 65536) = j4)
    (e5 : IntKind.i64.wrap (by' + bh) = j5)
    (e6 : IntKind.i64.wrap (j5 * 65536) = j6)
    (y4 : decide (u ≥ j1) = true)
    (y5 : decide (u ≤ j3) = true)
    (y6 : decide (v ≥ j4) = true)
    (y7 : decide (v ≤ j6) = true)
    : Calls Tryd.prog 10 #[.agg #[.int .i64 a, .int .i64 b, .int .i64 c, .int .i64 d, .int .i64 e, .int .i64 f], .agg #[.int .i64 rx, .int .i64 ry, .int .i64 rw, .int .i64 rh], .agg #[.int .i64 x, .int .i64 y]] w fun e w' => e = .returned (.bool true) ∧ Below w.heap.size w w' := by
  have HT := Lib.hid ht; clear ht
  replace SM := Lib.hid SM
  replace W1 := Lib.hid W1
  replace BX := Lib.hid BX
  replace W2 := Lib.hid W2
  replace AP := Lib.hid AP
  go_enter Tryd.func10, Tryd.ntmps10
  go_upto_region 1 with fail
  simp only [List.append_eq, List.cons_append, List.nil_append]
  go_wp2_with fail
  obtain ⟨k1, k2, k3, hB⟩ := boxARP w a b c d e f rx ry rw rh x y _ rfl
  with_reducible refine (SM.out _).mono ?_
  rintro z wa ⟨rfl, hb⟩
  replace k1 := Lib.hid (k1.below hb); replace k2 := Lib.hid (k2.below hb); replace k3 := Lib.hid (k3.below hb); replace hB := Lib.hid (bel_trans hB hb)
  clear hb SM
  obtain ⟨⟨d0, d1, d2, d3⟩, g0, g1, g2, g3⟩ := k2.out.four
  obtain ⟨⟨z0, z1⟩, z2, z3⟩ := k3.out.two
  go_wp2_with fail
  clear d0 d1 d2 d3 g0 g1 g2 g3 z0 z1 z2 z3
  with_reducible refine (W1.out _ _ rfl).mono ?_
  rintro z wb ⟨rfl, rfl⟩
  replace k1 := Lib.hid (k1.out.alloc (.cells #[.int .i64 rx, .int .i64 ry] 3)); replace k2 := Lib.hid (k2.out.alloc (.cells #[.int .i64 rx, .int .i64 ry] 3)); replace k3 := Lib.hid (k3.out.alloc (.cells #[.int .i64 rx, .int .i64 ry] 3)); replace hB := Lib.hid (bel_alloc hB.out (.cells #[.int .i64 rx, .int .i64 ry] 3))
  generalize World.alloc wa _ = wb at *
  obtain ⟨⟨d0, d1, d2, d3⟩, g0, g1, g2, g3⟩ := k2.out.four
  obtain ⟨⟨z0, z1⟩, z2, z3⟩ := k3.out.two
  obtain ⟨⟨c0, c1, c2, c3, c4, c5⟩, f0, f1, f2, f3, f4, f5⟩ := k1.out.six
  go_wp2_with fail
  clear d0 d1 d2 d3 g0 g1 g2 g3 z0 z1 z2 z3 c0 c1 c2 c3 c4 c5 f0 f1 f2 f3 f4 f5 v1 v2 v3 v4 v5 v6
  clear t0 t1 t2 t3 t4 t5 t6 t7
  with_reducible refine (BX.out _).mono ?_
  rintro z wc ⟨rfl, hb⟩
  replace k1 := Lib.hid ((k1.out.below hb).alloc (.cells #[.int .i64 bx, .int .i64 by', .int .i64 bw, .int .i64 bh] 38)); replace k3 := Lib.hid ((k3.out.below hb).alloc (.cells #[.int .i64 bx, .int .i64 by', .int .i64 bw, .int .i64 bh] 38)); replace hB := Lib.hid (bel_alloc (bel_trans hB.out hb) (.cells #[.int .i64 bx, .int .i64 by', .int .i64 bw, .int .i64 bh] 38))
  have k4 := Lib.hid (Bx.new wc 38 #[.int .i64 bx, .int .i64 by', .int .i64 bw, .int .i64 bh])
  clear hb k2 BX
  go_upto_region 4 with fail
  generalize World.alloc wc _ = wd at *
  generalize wc.heap.size = g4 at *
  obtain ⟨⟨d0, d1, d2, d3⟩, g0, g1, g2, g3⟩ := k4.out.four
  go_wp2_with fail
  clear d0 d1 d2 d3 g0 g1 g2 g3
  with_reducible refine (W2.out _ _ rfl).mono ?_
  rintro z we ⟨rfl, rfl⟩
  replace k1 := Lib.hid (k1.out.alloc (.cells #[.int .i64 bx, .int .i64 by', .int .i64 bw, .int .i64 bh] 3)); replace k3 := Lib.hid (k3.out.alloc (.cells #[.int .i64 bx, .int .i64 by', .int .i64 bw, .int .i64 bh] 3)); replace k4 := Lib.hid (k4.out.alloc (.cells #[.int .i64 bx, .int .i64 by', .int .i64 bw, .int .i64 bh] 3)); replace hB := Lib.hid (bel_alloc hB.out (.cells #[.int .i64 bx, .int .i64 by', .int .i64 bw, .int .i64 bh] 3))
  generalize World.alloc wd _ = we at *
  obtain ⟨⟨d0, d1, d2, d3⟩, g0, g1, g2, g3⟩ := k4.out.four
  obtain ⟨⟨c0, c1, c2, c3, c4, c5⟩, f0, f1, f2, f3, f4, f5⟩ := k1.out.six
  obtain ⟨⟨z0, z1⟩, z2, z3⟩ := k3.out.two
  go_wp2_with fail
  clear d0 d1 d2 d3 g0 g1 g2 g3 z0 z1 z2 z3 c0 c1 c2 c3 c4 c5 f0 f1 f2 f3 f4 f5
  with_reducible refine (AP.out _).mono ?_
  rintro z wf ⟨rfl, hb⟩
  replace k4 := Lib.hid ((k4.out.below hb).alloc (.cells #[.int .i64 u, .int .i64 v] 25)); replace hB := Lib.hid (bel_alloc (bel_trans hB.out hb) (.cells #[.int .i64 u, .int .i64 v] 25))
  have k5 := Lib.hid (Bx.new wf 25 #[.int .i64 u, .int .i64 v])
  clear hb AP k1 k3
  go_upto_region 9 with fail
  generalize World.alloc wf _ = wg at *
  generalize wf.heap.size = g5 at *
  obtain ⟨⟨d0, d1, d2, d3⟩, g0, g1, g2, g3⟩ := k4.out.four
  obtain ⟨⟨z0, z1⟩, z2, z3⟩ := k5.out.two
  go_wp2_with fail
  refine (awake_any _ (HT.out.below hB.out)).mono ?_
  rintro z wz ⟨rfl, hb⟩
  go_wp2_with fail
  go_ret
  exact ⟨rfl, bel_trans hB.out hb⟩
end Go.Proofs.YtanlnigebbcajaaDoor
