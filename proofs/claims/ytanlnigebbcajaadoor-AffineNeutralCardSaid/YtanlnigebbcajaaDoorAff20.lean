/- The walk of AffineNeutral. -/
import Derived.Test.YtanlnigebbcajaaDoorAff15
namespace Go.Proofs.YtanlnigebbcajaaDoor
open Go.RowKit
attribute [local go_sem 2000] run_max2m run_min2m
set_option maxRecDepth 100000 in
set_option maxHeartbeats 8000000 in
theorem neutral_o1 (a b c d e f x y i j E : Int) (w : World) (ht : Tab w)
    (CK : ∀ w, Calls Tryd.prog 12 #[.agg #[.int .i64 a, .int .i64 b, .int .i64 c, .int .i64 d, .int .i64 e, .int .i64 f]] w fun z w' => z = .returned (.int .i64 E) ∧ Below w.heap.size w w')
    (t1 : (E != 0) = true)
    : Calls Tryd.prog 7 #[.agg #[.int .i64 a, .int .i64 b, .int .i64 c, .int .i64 d, .int .i64 e, .int .i64 f], .agg #[.int .i64 x, .int .i64 y], .int .i64 i, .int .i64 j] w fun e w' => e = .returned (.bool true) ∧ Below w.heap.size w w' := by
  have HT := Lib.hid ht; clear ht
  replace CK := Lib.hid CK
  go_enter Tryd.func7, Tryd.ntmps7
  go_wp2_with fail
  obtain ⟨k1, k2, hB⟩ := boxAP w a b c d e f x y _ rfl
  with_reducible refine (CK.out _).mono ?_
  rintro z wa ⟨rfl, hb⟩
  replace k1 := Lib.hid (k1.below hb); replace k2 := Lib.hid (k2.below hb); replace hB := Lib.hid (bel_trans hB hb)
  clear hb CK
  go_wp2_with fail
  refine (awake_any _ (HT.out.below hB.out)).mono ?_
  rintro z wz ⟨rfl, hb⟩
  go_wp2_with fail
  go_ret
  exact ⟨rfl, bel_trans hB.out hb⟩
set_option maxRecDepth 100000 in
set_option maxHeartbeats 8000000 in
theorem neutral_o2 (a b c d e f x y i j  : Int) (w : World) (ht : Tab w)
    (CK : ∀ w, Calls Tryd.prog 12 #[.agg #[.int .i64 a, .int .i64 b, .int .i64 c, .int .i64 d, .int .i64 e, .int .i64 f]] w fun z w' => z = .returned (.int .i64 0) ∧ Below w.heap.size w w')
    (W1 : ∀ (w : World) (g : Nat), w.heap.size = g → Calls Tryd.prog 30 #[.int .i64 68719476736, .slice (some ⟨g, 0, none⟩) 2 2] (w.alloc (.cells #[.int .i64 x, .int .i64 y] 3)) fun z w' => z = .returned (.bool false) ∧ w.alloc (.cells #[.int .i64 x, .int .i64 y] 3) = w')
    : Calls Tryd.prog 7 #[.agg #[.int .i64 a, .int .i64 b, .int .i64 c, .int .i64 d, .int .i64 e, .int .i64 f], .agg #[.int .i64 x, .int .i64 y], .int .i64 i, .int .i64 j] w fun e w' => e = .returned (.bool true) ∧ Below w.heap.size w w' := by
  have HT := Lib.hid ht; clear ht
  replace CK := Lib.hid CK
  replace W1 := Lib.hid W1
  go_enter Tryd.func7, Tryd.ntmps7
  go_wp2_with fail
  obtain ⟨k1, k2, hB⟩ := boxAP w a b c d e f x y _ rfl
  with_reducible refine (CK.out _).mono ?_
  rintro z wa ⟨rfl, hb⟩
  replace k1 := Lib.hid (k1.below hb); replace k2 := Lib.hid (k2.below hb); replace hB := Lib.hid (bel_trans hB hb)
  clear hb CK
  obtain ⟨⟨z0, z1⟩, z2, z3⟩ := k2.out.two
  go_wp2_with fail
  clear z0 z1 z2 z3
  with_reducible refine (W1.out _ _ rfl).mono ?_
  rintro z wq ⟨rfl, rfl⟩
  replace k1 := Lib.hid (k1.out.alloc (.cells #[.int .i64 x, .int .i64 y] 3)); replace k2 := Lib.hid (k2.out.alloc (.cells #[.int .i64 x, .int .i64 y] 3)); replace hB := Lib.hid (bel_alloc hB.out (.cells #[.int .i64 x, .int .i64 y] 3))
  generalize World.alloc wa _ = wb at *
  go_wp2_with fail
  refine (awake_any _ (HT.out.below hB.out)).mono ?_
  rintro z wz ⟨rfl, hb⟩
  go_wp2_with fail
  go_ret
  exact ⟨rfl, bel_trans hB.out hb⟩
set_option maxRecDepth 100000 in
set_option maxHeartbeats 8000000 in
theorem neutral_o3 (a b c d e f x y i j  : Int) (w : World) (ht : Tab w)
    (CK : ∀ w, Calls Tryd.prog 12 #[.agg #[.int .i64 a, .int .i64 b, .int .i64 c, .int .i64 d, .int .i64 e, .int .i64 f]] w fun z w' => z = .returned (.int .i64 0) ∧ Below w.heap.size w w')
    (W1 : ∀ (w : World) (g : Nat), w.heap.size = g → Calls Tryd.prog 30 #[.int .i64 68719476736, .slice (some ⟨g, 0, none⟩) 2 2] (w.alloc (.cells #[.int .i64 x, .int .i64 y] 3)) fun z w' => z = .returned (.bool true) ∧ w.alloc (.cells #[.int .i64 x, .int .i64 y] 3) = w')
    (W2 : ∀ (w : World) (g : Nat), w.heap.size = g → Calls Tryd.prog 30 #[.int .i64 524288, .slice (some ⟨g, 0, none⟩) 2 2] (w.alloc (.cells #[.int .i64 i, .int .i64 j] 3)) fun z w' => z = .returned (.bool false) ∧ w.alloc (.cells #[.int .i64 i, .int .i64 j] 3) = w')
    : Calls Tryd.prog 7 #[.agg #[.int .i64 a, .int .i64 b, .int .i64 c, .int .i64 d, .int .i64 e, .int .i64 f], .agg #[.int .i64 x, .int .i64 y], .int .i64 i, .int .i64 j] w fun e w' => e = .returned (.bool true) ∧ Below w.heap.size w w' := by
  have HT := Lib.hid ht; clear ht
  replace CK := Lib.hid CK
  replace W1 := Lib.hid W1
  replace W2 := Lib.hid W2
  go_enter Tryd.func7, Tryd.ntmps7
  go_wp2_with fail
  obtain ⟨k1, k2, hB⟩ := boxAP w a b c d e f x y _ rfl
  with_reducible refine (CK.out _).mono ?_
  rintro z wa ⟨rfl, hb⟩
  replace k1 := Lib.hid (k1.below hb); replace k2 := Lib.hid (k2.below hb); replace hB := Lib.hid (bel_trans hB hb)
  clear hb CK
  obtain ⟨⟨z0, z1⟩, z2, z3⟩ := k2.out.two
  go_wp2_with fail
  clear z0 z1 z2 z3
  with_reducible refine (W1.out _ _ rfl).mono ?_
  rintro z wq ⟨rfl, rfl⟩
  replace k1 := Lib.hid (k1.out.alloc (.cells #[.int .i64 x, .int .i64 y] 3)); replace k2 := Lib.hid (k2.out.alloc (.cells #[.int .i64 x, .int .i64 y] 3)); replace hB := Lib.hid (bel_alloc hB.out (.cells #[.int .i64 x, .int .i64 y] 3))
  generalize World.alloc wa _ = wb at *
  obtain ⟨⟨z0, z1⟩, z2, z3⟩ := k2.out.two
  go_wp2_with fail
  clear z0 z1 z2 z3
  with_reducible refine (W2.out _ _ rfl).mono ?_
  rintro z wq ⟨rfl, rfl⟩
  replace k1 := Lib.hid (k1.out.alloc (.cells #[.int .i64 i, .int .i64 j] 3)); replace k2 := Lib.hid (k2.out.alloc (.cells #[.int .i64 i, .int .i64 j] 3)); replace hB := Lib.hid (bel_alloc hB.out (.cells #[.int .i64 i, .int .i64 j] 3))
  generalize World.alloc wb _ = wc at *
  go_wp2_with fail
  refine (awake_any _ (HT.out.below hB.out)).mono ?_
  rintro z wz ⟨rfl, hb⟩
  go_wp2_with fail
  go_ret
  exact ⟨rfl, bel_trans hB.out hb⟩
set_option maxRecDepth 100000 in
set_option maxHeartbeats 8000000 in
theorem neutral_in (a b c d e f x y i j s0 s1 s2 s3 s4 s5 m0 m1 m2 m3 m4 m5 o0 o1 o2 o3 o4 o5 u v e1 e2 ni nj : Int) (w : World) (ht : Tab w)
    (CK : ∀ w, Calls Tryd.prog 12 #[.agg #[.int .i64 a, .int .i64 b, .int .i64 c, .int .i64 d, .int .i64 e, .int .i64 f]] w fun z w' => z = .returned (.int .i64 0) ∧ Below w.heap.size w w')
    (W1 : ∀ (w : World) (g : Nat), w.heap.size = g → Calls Tryd.prog 30 #[.int .i64 68719476736, .slice (some ⟨g, 0, none⟩) 2 2] (w.alloc (.cells #[.int .i64 x, .int .i64 y] 3)) fun z w' => z = .returned (.bool true) ∧ w.alloc (.cells #[.int .i64 x, .int .i64 y] 3) = w')
    (W2 : ∀ (w : World) (g : Nat), w.heap.size = g → Calls Tryd.prog 30 #[.int .i64 524288, .slice (some ⟨g, 0, none⟩) 2 2] (w.alloc (.cells #[.int .i64 i, .int .i64 j] 3)) fun z w' => z = .returned (.bool true) ∧ w.alloc (.cells #[.int .i64 i, .int .i64 j] 3) = w')
    (SA : ∀ w, Calls Tryd.prog 16 #[] w fun z w' => z = .returned (.agg #[.int .i64 s0, .int .i64 s1, .int .i64 s2, .int .i64 s3, .int .i64 s4, .int .i64 s5]) ∧ Below w.heap.size w w')
    (MO : ∀ w, Calls Tryd.prog 18 #[.int .i64 i, .int .i64 j] w fun z w' => z = .returned (.agg #[.int .i64 m0, .int .i64 m1, .int .i64 m2, .int .i64 m3, .int .i64 m4, .int .i64 m5]) ∧ Below w.heap.size w w')
    (IV : ∀ w, Calls Tryd.prog 26 #[.agg #[.int .i64 m0, .int .i64 m1, .int .i64 m2, .int .i64 m3, .int .i64 m4, .int .i64 m5]] w fun z w' => z = .returned (.tuple #[.agg #[.int .i64 o0, .int .i64 o1, .int .i64 o2, .int .i64 o3, .int .i64 o4, .int .i64 o5], .int .i64 0]) ∧ Below w.heap.size w w')
    (T0 : ∀ w, Calls Tryd.prog 13 #[.agg #[.int .i64 s0, .int .i64 s1, .int .i64 s2, .int .i64 s3, .int .i64 s4, .int .i64 s5], .agg #[.int .i64 x, .int .i64 y]] w fun z w' => z = .returned (.agg #[.int .i64 x, .int .i64 y]) ∧ Below w.heap.size w w')
    (T1 : ∀ w, Calls Tryd.prog 24 #[.agg #[.int .i64 a, .int .i64 b, .int .i64 c, .int .i64 d, .int .i64 e, .int .i64 f], .agg #[.int .i64 s0, .int .i64 s1, .int .i64 s2, .int .i64 s3, .int .i64 s4, .int .i64 s5]] w fun z w' => z = .returned (.agg #[.int .i64 a, .int .i64 b, .int .i64 c, .int .i64 d, .int .i64 e, .int .i64 f]) ∧ Below w.heap.size w w')
    (T2 : ∀ w, Calls Tryd.prog 24 #[.agg #[.int .i64 s0, .int .i64 s1, .int .i64 s2, .int .i64 s3, .int .i64 s4, .int .i64 s5], .agg #[.int .i64 a, .int .i64 b, .int .i64 c, .int .i64 d, .int .i64 e, .int .i64 f]] w fun z w' => z = .returned (.agg #[.int .i64 a, .int .i64 b, .int .i64 c, .int .i64 d, .int .i64 e, .int .i64 f]) ∧ Below w.heap.size w w')
    (T3 : ∀ w, Calls Tryd.prog 13 #[.agg #[.int .i64 m0, .int .i64 m1, .int .i64 m2, .int .i64 m3, .int .i64 m4, .int .i64 m5], .agg #[.int .i64 x, .int .i64 y]] w fun z w' => z = .returned (.agg #[.int .i64 u, .int .i64 v]) ∧ Below w.heap.size w w')
    (y1 : IntKind.i64.wrap (i * 65536) = e1)
    (y2 : IntKind.i64.wrap (x + e1) = u)
    (y3 : IntKind.i64.wrap (j * 65536) = e2)
    (y4 : IntKind.i64.wrap (y + e2) = v)
    (y5 : IntKind.i64.wrap (-i) = ni)
    (y6 : IntKind.i64.wrap (-j) = nj)
    (T4 : ∀ w, Calls Tryd.prog 18 #[.int .i64 ni, .int .i64 nj] w fun z w' => z = .returned (.agg #[.int .i64 o0, .int .i64 o1, .int .i64 o2, .int .i64 o3, .int .i64 o4, .int .i64 o5]) ∧ Below w.heap.size w w')
    : Calls Tryd.prog 7 #[.agg #[.int .i64 a, .int .i64 b, .int .i64 c, .int .i64 d, .int .i64 e, .int .i64 f], .agg #[.int .i64 x, .int .i64 y], .int .i64 i, .int .i64 j] w fun e w' => e = .returned (.bool true) ∧ Below w.heap.size w w' := by
  have HT := Lib.hid ht; clear ht
  have HY := Lib.hid (And.intro y1 (And.intro y2 (And.intro y3 (And.intro y4 (And.intro y5 y6))))); clear y1 y2 y3 y4 y5 y6
  replace CK := Lib.hid CK
  replace W1 := Lib.hid W1
  replace W2 := Lib.hid W2
  replace SA := Lib.hid SA
  replace MO := Lib.hid MO
  replace IV := Lib.hid IV
  replace T0 := Lib.hid T0
  replace T1 := Lib.hid T1
  replace T2 := Lib.hid T2
  replace T3 := Lib.hid T3
  replace T4 := Lib.hid T4
  go_enter Tryd.func7, Tryd.ntmps7
  go_wp2_with fail
  obtain ⟨k1, k2, hB⟩ := boxAP w a b c d e f x y _ rfl
  with_reducible refine (CK.out _).mono ?_
  rintro z wa ⟨rfl, hb⟩
  replace k1 := Lib.hid (k1.below hb); replace k2 := Lib.hid (k2.below hb); replace hB := Lib.hid (bel_trans hB hb)
  clear hb CK
  obtain ⟨⟨z0, z1⟩, z2, z3⟩ := k2.out.two
  go_wp2_with fail
  clear z0 z1 z2 z3
  with_reducible refine (W1.out _ _ rfl).mono ?_
  rintro z wq ⟨rfl, rfl⟩
  replace k1 := Lib.hid (k1.out.alloc (.cells #[.int .i64 x, .int .i64 y] 3)); replace k2 := Lib.hid (k2.out.alloc (.cells #[.int .i64 x, .int .i64 y] 3)); replace hB := Lib.hid (bel_alloc hB.out (.cells #[.int .i64 x, .int .i64 y] 3))
  generalize World.alloc wa _ = wb at *
  obtain ⟨⟨z0, z1⟩, z2, z3⟩ := k2.out.two
  go_wp2_with fail
  clear z0 z1 z2 z3
  with_reducible refine (W2.out _ _ rfl).mono ?_
  rintro z wq ⟨rfl, rfl⟩
  replace k1 := Lib.hid (k1.out.alloc (.cells #[.int .i64 i, .int .i64 j] 3)); replace k2 := Lib.hid (k2.out.alloc (.cells #[.int .i64 i, .int .i64 j] 3)); replace hB := Lib.hid (bel_alloc hB.out (.cells #[.int .i64 i, .int .i64 j] 3))
  generalize World.alloc wb _ = wc at *
  go_wp2_with fail
  with_reducible refine (SA.out _).mono ?_
  rintro z wd ⟨rfl, hb⟩
  replace k1 := Lib.hid (k1.out.below hb); replace k2 := Lib.hid (k2.out.below hb); replace hB := Lib.hid (bel_trans hB.out hb); clear hb SA
  go_wp2_with fail
  with_reducible refine (MO.out _).mono ?_
  rintro z we ⟨rfl, hb⟩
  replace k1 := Lib.hid (k1.out.below hb); replace k2 := Lib.hid (k2.out.below hb); replace hB := Lib.hid (bel_trans hB.out hb); clear hb MO
  go_upto_region 4 with fail
  have k3 := (Bx.new we 23 #[.int .i64 s0, .int .i64 s1, .int .i64 s2, .int .i64 s3, .int .i64 s4, .int .i64 s5]).alloc (.cells #[.int .i64 m0, .int .i64 m1, .int .i64 m2, .int .i64 m3, .int .i64 m4, .int .i64 m5] 23)
  have k4 := Bx.new (we.alloc (.cells #[.int .i64 s0, .int .i64 s1, .int .i64 s2, .int .i64 s3, .int .i64 s4, .int .i64 s5] 23)) 23 #[.int .i64 m0, .int .i64 m1, .int .i64 m2, .int .i64 m3, .int .i64 m4, .int .i64 m5]
  simp only [World.size_alloc] at k4
  replace k3 := Lib.hid k3; replace k4 := Lib.hid k4
  replace k1 := Lib.hid ((k1.out.alloc (.cells #[.int .i64 s0, .int .i64 s1, .int .i64 s2, .int .i64 s3, .int .i64 s4, .int .i64 s5] 23)).alloc (.cells #[.int .i64 m0, .int .i64 m1, .int .i64 m2, .int .i64 m3, .int .i64 m4, .int .i64 m5] 23)); replace k2 := Lib.hid ((k2.out.alloc (.cells #[.int .i64 s0, .int .i64 s1, .int .i64 s2, .int .i64 s3, .int .i64 s4, .int .i64 s5] 23)).alloc (.cells #[.int .i64 m0, .int .i64 m1, .int .i64 m2, .int .i64 m3, .int .i64 m4, .int .i64 m5] 23)); replace hB := Lib.hid (bel_alloc (bel_alloc hB.out (.cells #[.int .i64 s0, .int .i64 s1, .int .i64 s2, .int .i64 s3, .int .i64 s4, .int .i64 s5] 23)) (.cells #[.int .i64 m0, .int .i64 m1, .int .i64 m2, .int .i64 m3, .int .i64 m4, .int .i64 m5] 23))
  generalize World.alloc (World.alloc we _) _ = wf at *
  generalize we.heap.size = g3 at *
  obtain ⟨⟨c0, c1, c2, c3, c4, c5⟩, f0, f1, f2, f3, f4, f5⟩ := k4.out.six
  go_wp2_with fail
  clear c0 c1 c2 c3 c4 c5 f0 f1 f2 f3 f4 f5
  with_reducible refine (IV.out _).mono ?_
  rintro z wg ⟨rfl, hb⟩
  have k5 := Lib.hid (Bx.new wg 23 #[.int .i64 o0, .int .i64 o1, .int .i64 o2, .int .i64 o3, .int .i64 o4, .int .i64 o5])
  replace k1 := Lib.hid ((k1.out.below hb).alloc (.cells #[.int .i64 o0, .int .i64 o1, .int .i64 o2, .int .i64 o3, .int .i64 o4, .int .i64 o5] 23)); replace k2 := Lib.hid ((k2.out.below hb).alloc (.cells #[.int .i64 o0, .int .i64 o1, .int .i64 o2, .int .i64 o3, .int .i64 o4, .int .i64 o5] 23)); replace k3 := Lib.hid ((k3.out.below hb).alloc (.cells #[.int .i64 o0, .int .i64 o1, .int .i64 o2, .int .i64 o3, .int .i64 o4, .int .i64 o5] 23)); replace k4 := Lib.hid ((k4.out.below hb).alloc (.cells #[.int .i64 o0, .int .i64 o1, .int .i64 o2, .int .i64 o3, .int .i64 o4, .int .i64 o5] 23)); replace hB := Lib.hid (bel_alloc (bel_trans hB.out hb) (.cells #[.int .i64 o0, .int .i64 o1, .int .i64 o2, .int .i64 o3, .int .i64 o4, .int .i64 o5] 23)); clear hb IV
  go_upto_region 5 with fail
  generalize World.alloc wg _ = wh at *
  generalize wg.heap.size = g5 at *
  have HSA := Lib.hid (show ∀ wq, Bel wh wq → Bel wh wq ∧ wq.cell? ⟨w.heap.size, 0, none⟩ = some (.int .i64 a) ∧ wq.cell? ⟨w.heap.size, 1, none⟩ = some (.int .i64 b) ∧ wq.cell? ⟨w.heap.size, 2, none⟩ = some (.int .i64 c) ∧ wq.cell? ⟨w.heap.size, 3, none⟩ = some (.int .i64 d) ∧ wq.cell? ⟨w.heap.size, 4, none⟩ = some (.int .i64 e) ∧ wq.cell? ⟨w.heap.size, 5, none⟩ = some (.int .i64 f) ∧ wq.cell? ⟨w.heap.size + 1, 0, none⟩ = some (.int .i64 x) ∧ wq.cell? ⟨w.heap.size + 1, 1, none⟩ = some (.int .i64 y) ∧ wq.cell? ⟨g3, 0, none⟩ = some (.int .i64 s0) ∧ wq.cell? ⟨g3, 1, none⟩ = some (.int .i64 s1) ∧ wq.cell? ⟨g3, 2, none⟩ = some (.int .i64 s2) ∧ wq.cell? ⟨g3, 3, none⟩ = some (.int .i64 s3) ∧ wq.cell? ⟨g3, 4, none⟩ = some (.int .i64 s4) ∧ wq.cell? ⟨g3, 5, none⟩ = some (.int .i64 s5) ∧ wq.cell? ⟨g3 + 1, 0, none⟩ = some (.int .i64 m0) ∧ wq.cell? ⟨g3 + 1, 1, none⟩ = some (.int .i64 m1) ∧ wq.cell? ⟨g3 + 1, 2, none⟩ = some (.int .i64 m2) ∧ wq.cell? ⟨g3 + 1, 3, none⟩ = some (.int .i64 m3) ∧ wq.cell? ⟨g3 + 1, 4, none⟩ = some (.int .i64 m4) ∧ wq.cell? ⟨g3 + 1, 5, none⟩ = some (.int .i64 m5) ∧ wq.cell? ⟨g5, 0, none⟩ = some (.int .i64 o0) ∧ wq.cell? ⟨g5, 1, none⟩ = some (.int .i64 o1) ∧ wq.cell? ⟨g5, 2, none⟩ = some (.int .i64 o2) ∧ wq.cell? ⟨g5, 3, none⟩ = some (.int .i64 o3) ∧ wq.cell? ⟨g5, 4, none⟩ = some (.int .i64 o4) ∧ wq.cell? ⟨g5, 5, none⟩ = some (.int .i64 o5) from fun wq hb => ⟨hb, (k1.out.below hb).six.1.1, (k1.out.below hb).six.1.2.1, (k1.out.below hb).six.1.2.2.1, (k1.out.below hb).six.1.2.2.2.1, (k1.out.below hb).six.1.2.2.2.2.1, (k1.out.below hb).six.1.2.2.2.2.2, (k2.out.below hb).two.1.1, (k2.out.below hb).two.1.2, (k3.out.below hb).six.1.1, (k3.out.below hb).six.1.2.1, (k3.out.below hb).six.1.2.2.1, (k3.out.below hb).six.1.2.2.2.1, (k3.out.below hb).six.1.2.2.2.2.1, (k3.out.below hb).six.1.2.2.2.2.2, (k4.out.below hb).six.1.1, (k4.out.below hb).six.1.2.1, (k4.out.below hb).six.1.2.2.1, (k4.out.below hb).six.1.2.2.2.1, (k4.out.below hb).six.1.2.2.2.2.1, (k4.out.below hb).six.1.2.2.2.2.2, (k5.out.below hb).six.1.1, (k5.out.below hb).six.1.2.1, (k5.out.below hb).six.1.2.2.1, (k5.out.below hb).six.1.2.2.2.1, (k5.out.below hb).six.1.2.2.2.2.1, (k5.out.below hb).six.1.2.2.2.2.2⟩)
  clear k1 k2 k3 k4 k5
  have HB0 : Bel wh wh := Below.refl _ _
  have hS0 := HSA.out _ (Bel.drew HB0)
  obtain ⟨y1, y2, y3, y4, y5, y6⟩ := HY.out
  go_wp2_with fail
  go_region_held3 (fun w' => Bel wh w' ∧ w'.cell? ⟨w.heap.size, 0, none⟩ = some (.int .i64 a) ∧ w'.cell? ⟨w.heap.size, 1, none⟩ = some (.int .i64 b) ∧ w'.cell? ⟨w.heap.size, 2, none⟩ = some (.int .i64 c) ∧ w'.cell? ⟨w.heap.size, 3, none⟩ = some (.int .i64 d) ∧ w'.cell? ⟨w.heap.size, 4, none⟩ = some (.int .i64 e) ∧ w'.cell? ⟨w.heap.size, 5, none⟩ = some (.int .i64 f) ∧ w'.cell? ⟨w.heap.size + 1, 0, none⟩ = some (.int .i64 x) ∧ w'.cell? ⟨w.heap.size + 1, 1, none⟩ = some (.int .i64 y) ∧ w'.cell? ⟨g3, 0, none⟩ = some (.int .i64 s0) ∧ w'.cell? ⟨g3, 1, none⟩ = some (.int .i64 s1) ∧ w'.cell? ⟨g3, 2, none⟩ = some (.int .i64 s2) ∧ w'.cell? ⟨g3, 3, none⟩ = some (.int .i64 s3) ∧ w'.cell? ⟨g3, 4, none⟩ = some (.int .i64 s4) ∧ w'.cell? ⟨g3, 5, none⟩ = some (.int .i64 s5) ∧ w'.cell? ⟨g3 + 1, 0, none⟩ = some (.int .i64 m0) ∧ w'.cell? ⟨g3 + 1, 1, none⟩ = some (.int .i64 m1) ∧ w'.cell? ⟨g3 + 1, 2, none⟩ = some (.int .i64 m2) ∧ w'.cell? ⟨g3 + 1, 3, none⟩ = some (.int .i64 m3) ∧ w'.cell? ⟨g3 + 1, 4, none⟩ = some (.int .i64 m4) ∧ w'.cell? ⟨g3 + 1, 5, none⟩ = some (.int .i64 m5) ∧ w'.cell? ⟨g5, 0, none⟩ = some (.int .i64 o0) ∧ w'.cell? ⟨g5, 1, none⟩ = some (.int .i64 o1) ∧ w'.cell? ⟨g5, 2, none⟩ = some (.int .i64 o2) ∧ w'.cell? ⟨g5, 3, none⟩ = some (.int .i64 o3) ∧ w'.cell? ⟨g5, 4, none⟩ = some (.int .i64 o4) ∧ w'.cell? ⟨g5, 5, none⟩ = some (.int .i64 o5))
    (first | assumption | exact hS0 | exact HSA.out _ hBv | go_keep)
    (first | (go_at_call 13; with_reducible refine (T0.out _).mono ?_; rintro z wv ⟨rfl, hbv⟩; have hBv : Bel wh wv := Bel.call (Bel.drew HB0) hbv) | (go_at_call 13; with_reducible refine (T3.out _).mono ?_; rintro z wv ⟨rfl, hbv⟩; have hBv : Bel wh wv := Bel.call hBv hbv) | (go_at_call 24; with_reducible refine (T1.out _).mono ?_; rintro z wv ⟨rfl, hbv⟩; have hBv : Bel wh wv := Bel.call hBv hbv) | (go_at_call 24; with_reducible refine (T2.out _).mono ?_; rintro z wv ⟨rfl, hbv⟩; have hBv : Bel wh wv := Bel.call hBv hbv) | (go_at_call 18; with_reducible refine (T4.out _).mono ?_; rintro z wv ⟨rfl, hbv⟩; have hBv : Bel wh wv := Bel.call hBv hbv) | (go_at_call 15; with_reducible refine (awake_any _ (HT.out.below (bel_trans hB.out hBv.out))).mono ?_; rintro z wv ⟨rfl, hbv⟩; have hBv : Bel wh wv := Bel.call hBv hbv))
  go_wp2_with fail
  go_ret
  exact ⟨rfl, bel_trans hB.out hBv⟩
end Go.Proofs.YtanlnigebbcajaaDoor
