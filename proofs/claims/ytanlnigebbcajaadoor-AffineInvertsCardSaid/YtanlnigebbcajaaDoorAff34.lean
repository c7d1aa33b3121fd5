/- The walk of AffineInverts. -/
import Derived.Test.YtanlnigebbcajaaDoorAff33
import Derived.Test.YtanlnigebbcajaaDoorAff17
namespace Go.Proofs.YtanlnigebbcajaaDoor
open Go.RowKit
attribute [local go_sem 2000] run_max2m run_min2m
theorem boxAR (w : World) (a b c d e f x y p q : Int) (w0 : World) (hw : w0 = (w.alloc (.cells #[.int .i64 a, .int .i64 b, .int .i64 c, .int .i64 d, .int .i64 e, .int .i64 f] 23)).alloc (.cells #[.int .i64 x, .int .i64 y, .int .i64 p, .int .i64 q] 38)) :
    Bx w0 w.heap.size 23 #[.int .i64 a, .int .i64 b, .int .i64 c, .int .i64 d, .int .i64 e, .int .i64 f] ∧ Bx w0 (w.heap.size + 1) 38 #[.int .i64 x, .int .i64 y, .int .i64 p, .int .i64 q] ∧ Below w.heap.size w w0 := by
  subst hw
  have h1 := Bx.new w 23 #[.int .i64 a, .int .i64 b, .int .i64 c, .int .i64 d, .int .i64 e, .int .i64 f]
  have h2 := Bx.new (w.alloc (.cells #[.int .i64 a, .int .i64 b, .int .i64 c, .int .i64 d, .int .i64 e, .int .i64 f] 23)) 38 #[.int .i64 x, .int .i64 y, .int .i64 p, .int .i64 q]
  simp only [World.size_alloc] at h2
  exact ⟨h1.alloc _, h2, bel_alloc (bel_alloc (Below.refl _ _) _) _⟩
set_option maxRecDepth 100000 in
set_option maxHeartbeats 8000000 in
theorem inverts_core (a b c d e f rx ry rw rh i0 i1 i2 i3 i4 i5 E b0 b1 b2 b3 G : Int) (w : World) (ht : Tab w)
    (T0 : ∀ w, Calls Tryd.prog 26 #[.agg #[.int .i64 a, .int .i64 b, .int .i64 c, .int .i64 d, .int .i64 e, .int .i64 f]] w fun z w' => z = .returned (.tuple #[.agg #[.int .i64 i0, .int .i64 i1, .int .i64 i2, .int .i64 i3, .int .i64 i4, .int .i64 i5], .int .i64 E]) ∧ Below w.heap.size w w')
    (T1 : ∀ w, Calls Tryd.prog 27 #[.agg #[.int .i64 a, .int .i64 b, .int .i64 c, .int .i64 d, .int .i64 e, .int .i64 f]] w fun z w' => z = .returned (.tuple #[.agg #[.int .i64 i0, .int .i64 i1, .int .i64 i2, .int .i64 i3, .int .i64 i4, .int .i64 i5], .int .i64 E]) ∧ Below w.heap.size w w')
    (T2 : ∀ w, Calls Tryd.prog 28 #[.agg #[.int .i64 a, .int .i64 b, .int .i64 c, .int .i64 d, .int .i64 e, .int .i64 f], .agg #[.int .i64 rx, .int .i64 ry, .int .i64 rw, .int .i64 rh]] w fun z w' => z = .returned (.tuple #[.agg #[.int .i64 b0, .int .i64 b1, .int .i64 b2, .int .i64 b3], .int .i64 G]) ∧ Below w.heap.size w w')
    (T3 : ∀ w, Calls Tryd.prog 29 #[.agg #[.int .i64 a, .int .i64 b, .int .i64 c, .int .i64 d, .int .i64 e, .int .i64 f], .agg #[.int .i64 rx, .int .i64 ry, .int .i64 rw, .int .i64 rh]] w fun z w' => z = .returned (.tuple #[.agg #[.int .i64 b0, .int .i64 b1, .int .i64 b2, .int .i64 b3], .int .i64 G]) ∧ Below w.heap.size w w')
    : Calls Tryd.prog 6 #[.agg #[.int .i64 a, .int .i64 b, .int .i64 c, .int .i64 d, .int .i64 e, .int .i64 f], .agg #[.int .i64 rx, .int .i64 ry, .int .i64 rw, .int .i64 rh]] w fun e w' => e = .returned (.bool true) ∧ Below w.heap.size w w' := by
  have HT := Lib.hid (show ∀ w', Below w.heap.size w w' → Tab w' from fun w' h => ht.below h); clear ht
  replace T0 := Lib.hid T0; replace T1 := Lib.hid T1; replace T2 := Lib.hid T2; replace T3 := Lib.hid T3
  go_enter Tryd.func6, Tryd.ntmps6
  go_wp2_with fail
  obtain ⟨k1, k2, hB⟩ := boxAR w a b c d e f rx ry rw rh _ rfl
  replace k1 := Lib.hid k1; replace k2 := Lib.hid k2; replace hB := Lib.hid hB
  refine (T0.out _).mono ?_
  rintro z wa ⟨rfl, hb⟩
  replace k1 := Lib.hid ((k1.out.below hb).alloc (.cells #[.int .i64 i0, .int .i64 i1, .int .i64 i2, .int .i64 i3, .int .i64 i4, .int .i64 i5] 23))
  replace k2 := Lib.hid ((k2.out.below hb).alloc (.cells #[.int .i64 i0, .int .i64 i1, .int .i64 i2, .int .i64 i3, .int .i64 i4, .int .i64 i5] 23))
  replace hB := Lib.hid (bel_alloc (bel_trans hB.out hb) (.cells #[.int .i64 i0, .int .i64 i1, .int .i64 i2, .int .i64 i3, .int .i64 i4, .int .i64 i5] 23))
  have k3 := Lib.hid (Bx.new wa 23 #[.int .i64 i0, .int .i64 i1, .int .i64 i2, .int .i64 i3, .int .i64 i4, .int .i64 i5])
  clear hb T0
  go_upto_region 2 with fail
  generalize World.alloc wa _ = wb0 at *
  generalize wa.heap.size = h0 at *
  obtain ⟨⟨c0, c1, c2, c3, c4, c5⟩, f0, f1, f2, f3, f4, f5⟩ := k1.out.six
  go_wp2_with fail
  clear c0 c1 c2 c3 c4 c5 f0 f1 f2 f3 f4 f5
  refine (T1.out _).mono ?_
  rintro z wa ⟨rfl, hb⟩
  replace k1 := Lib.hid ((k1.out.below hb).alloc (.cells #[.int .i64 i0, .int .i64 i1, .int .i64 i2, .int .i64 i3, .int .i64 i4, .int .i64 i5] 23))
  replace k2 := Lib.hid ((k2.out.below hb).alloc (.cells #[.int .i64 i0, .int .i64 i1, .int .i64 i2, .int .i64 i3, .int .i64 i4, .int .i64 i5] 23))
  replace k3 := Lib.hid ((k3.out.below hb).alloc (.cells #[.int .i64 i0, .int .i64 i1, .int .i64 i2, .int .i64 i3, .int .i64 i4, .int .i64 i5] 23))
  replace hB := Lib.hid (bel_alloc (bel_trans hB.out hb) (.cells #[.int .i64 i0, .int .i64 i1, .int .i64 i2, .int .i64 i3, .int .i64 i4, .int .i64 i5] 23))
  have k4 := Lib.hid (Bx.new wa 23 #[.int .i64 i0, .int .i64 i1, .int .i64 i2, .int .i64 i3, .int .i64 i4, .int .i64 i5])
  clear hb T1
  go_upto_region 3 with fail
  generalize World.alloc wa _ = wb1 at *
  generalize wa.heap.size = h1 at *
  obtain ⟨⟨c0, c1, c2, c3, c4, c5⟩, f0, f1, f2, f3, f4, f5⟩ := k1.out.six
  obtain ⟨⟨d0, d1, d2, d3⟩, g0, g1, g2, g3⟩ := k2.out.four
  go_wp2_with fail
  clear c0 c1 c2 c3 c4 c5 f0 f1 f2 f3 f4 f5
  clear d0 d1 d2 d3 g0 g1 g2 g3
  refine (T2.out _).mono ?_
  rintro z wa ⟨rfl, hb⟩
  replace k1 := Lib.hid ((k1.out.below hb).alloc (.cells #[.int .i64 b0, .int .i64 b1, .int .i64 b2, .int .i64 b3] 38))
  replace k2 := Lib.hid ((k2.out.below hb).alloc (.cells #[.int .i64 b0, .int .i64 b1, .int .i64 b2, .int .i64 b3] 38))
  replace k3 := Lib.hid ((k3.out.below hb).alloc (.cells #[.int .i64 b0, .int .i64 b1, .int .i64 b2, .int .i64 b3] 38))
  replace k4 := Lib.hid ((k4.out.below hb).alloc (.cells #[.int .i64 b0, .int .i64 b1, .int .i64 b2, .int .i64 b3] 38))
  replace hB := Lib.hid (bel_alloc (bel_trans hB.out hb) (.cells #[.int .i64 b0, .int .i64 b1, .int .i64 b2, .int .i64 b3] 38))
  have k5 := Lib.hid (Bx.new wa 38 #[.int .i64 b0, .int .i64 b1, .int .i64 b2, .int .i64 b3])
  clear hb T2
  go_upto_region 4 with fail
  generalize World.alloc wa _ = wb2 at *
  generalize wa.heap.size = h2 at *
  obtain ⟨⟨c0, c1, c2, c3, c4, c5⟩, f0, f1, f2, f3, f4, f5⟩ := k1.out.six
  obtain ⟨⟨d0, d1, d2, d3⟩, g0, g1, g2, g3⟩ := k2.out.four
  go_wp2_with fail
  clear c0 c1 c2 c3 c4 c5 f0 f1 f2 f3 f4 f5
  clear d0 d1 d2 d3 g0 g1 g2 g3
  refine (T3.out _).mono ?_
  rintro z wa ⟨rfl, hb⟩
  replace k1 := Lib.hid ((k1.out.below hb).alloc (.cells #[.int .i64 b0, .int .i64 b1, .int .i64 b2, .int .i64 b3] 38))
  replace k2 := Lib.hid ((k2.out.below hb).alloc (.cells #[.int .i64 b0, .int .i64 b1, .int .i64 b2, .int .i64 b3] 38))
  replace k3 := Lib.hid ((k3.out.below hb).alloc (.cells #[.int .i64 b0, .int .i64 b1, .int .i64 b2, .int .i64 b3] 38))
  replace k4 := Lib.hid ((k4.out.below hb).alloc (.cells #[.int .i64 b0, .int .i64 b1, .int .i64 b2, .int .i64 b3] 38))
  replace k5 := Lib.hid ((k5.out.below hb).alloc (.cells #[.int .i64 b0, .int .i64 b1, .int .i64 b2, .int .i64 b3] 38))
  replace hB := Lib.hid (bel_alloc (bel_trans hB.out hb) (.cells #[.int .i64 b0, .int .i64 b1, .int .i64 b2, .int .i64 b3] 38))
  have k6 := Lib.hid (Bx.new wa 38 #[.int .i64 b0, .int .i64 b1, .int .i64 b2, .int .i64 b3])
  clear hb T3
  go_upto_region 5 with fail
  generalize World.alloc wa _ = wb3 at *
  generalize wa.heap.size = h3 at *
  obtain ⟨⟨c0, c1, c2, c3, c4, c5⟩, -⟩ := k3.out.six
  obtain ⟨⟨d0, d1, d2, d3, d4, d5⟩, -⟩ := k4.out.six
  obtain ⟨⟨p0, p1, p2, p3⟩, -⟩ := k5.out.four
  obtain ⟨⟨q0, q1, q2, q3⟩, -⟩ := k6.out.four
  go_wp2_with fail
  refine (awake_any _ (HT.out _ hB.out)).mono ?_
  rintro z wz ⟨rfl, hb⟩
  go_wp2_with fail
  go_ret
  exact ⟨rfl, bel_trans hB.out hb⟩
theorem walk_inverts (v0 : Value) (A : Af) (v1 : Value) (R : Rc) (w : World) (ht : Tab w) (h0 : AfV v0 A) (h1 : RcV v1 R) : Calls Tryd.prog 6 #[v0, v1] w fun e w' => e = .returned (.bool true) ∧ Below w.heap.size w w' := by
  subst h0; subst h1
  exact inverts_core _ _ _ _ _ _ _ _ _ _ _ _ _ _ _ _ _ _ _ _ _ _ w ht (fun w => inverse_any _ _ _ _ _ _ w) (fun w => rinverse_any _ _ _ _ _ _ w) (fun w => pbox_any _ _ _ _ _ _ _ _ _ _ w) (fun w => rbox_any _ _ _ _ _ _ _ _ _ _ w)
end Go.Proofs.YtanlnigebbcajaaDoor
