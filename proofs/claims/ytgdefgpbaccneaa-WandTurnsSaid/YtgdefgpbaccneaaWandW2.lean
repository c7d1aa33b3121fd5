/- WandColors: the walk. -/
import Derived.Test.YtgdefgpbaccneaaWandW1
import Derived.Test.YtgdefgpbaccneaaWandRSoft
import Derived.Test.YtgdefgpbaccneaaWandROpq
namespace Go.Proofs.Ytgdefgpbaccneaa
open Go.RowKit

theorem boxIX (w : World) (W H : Int) (v : Value) (p : Px) (w0 : World)
    (hw : w0 = (w.alloc (.cells #[.int .i64 W, .int .i64 H, v] 24)).alloc (.cells #[.int .i64 p.r, .int .i64 p.g, .int .i64 p.b, .int .i64 p.a] 37)) :
    ImgAt w0 w.heap.size W H v ∧ PxAt w0 (w.heap.size + 1) p ∧ Below w.heap.size w w0 := by
  subst hw
  have a := ImgAt.new w W H v 24
  have b := PxAt.new (w.alloc (.cells #[.int .i64 W, .int .i64 H, v] 24)) p 37
  simp only [World.size_alloc] at b
  exact ⟨a.below (bel1 _ _), b, bel_alloc (bel1 _ _) _⟩

set_option maxHeartbeats 4000000 in
theorem walk_colors (v0 : Value) (x0 : Int × Int × List Px) (v1 : Value) (p : Px) (t u : Int) (w : World) (h0 : ImgV w v0 x0) (h1 : PxV v1 p) :
    Calls Try.prog 4 #[v0, v1, .int .i64 t, .int .i64 u] w fun e w' => e = .returned (.bool true) ∧ Below w.heap.size w w' := by
  obtain ⟨⟨A, n, c, rfl, hp⟩, _, _⟩ := h0
  obtain ⟨rfl, _⟩ := h1
  obtain ⟨W, H, ps⟩ := x0
  have HP := Lib.hid hp; clear hp
  obtain ⟨E0, W0, H0, L0, hc, hd⟩ : ∃ E1 W1 H1 L1, (∀ w', Below w.heap.size w w' → Calls Try.prog 13 #[.agg #[.int .i64 W, .int .i64 H, .slice A n c], .agg #[.int .i64 p.r, .int .i64 p.g, .int .i64 p.b, .int .i64 p.a], .int .i64 t] w' (MkPost E1 W1 H1 L1 w')) ∧ (∀ w', Below w.heap.size w w' → Calls Try.prog 14 #[.agg #[.int .i64 W, .int .i64 H, .slice A n c], .agg #[.int .i64 p.r, .int .i64 p.g, .int .i64 p.b, .int .i64 p.a], .int .i64 t] w' (MkPost E1 W1 H1 L1 w')) :=
    ⟨_, _, _, _, fun w' hb => similar_any W H A n c ps p t w' (HP.out.on hb), fun w' hb => rsimilar_any W H A n c ps p t w' (HP.out.on hb)⟩
  have HC0 := Lib.hid hc; have HD0 := Lib.hid hd; clear hc hd
  obtain ⟨E1, W1, H1, L1, hc, hd⟩ : ∃ E1 W1 H1 L1, (∀ w', Below w.heap.size w w' → Calls Try.prog 15 #[.agg #[.int .i64 W, .int .i64 H, .slice A n c], .agg #[.int .i64 p.r, .int .i64 p.g, .int .i64 p.b, .int .i64 p.a], .int .i64 t, .int .i64 u] w' (MkPost E1 W1 H1 L1 w')) ∧ (∀ w', Below w.heap.size w w' → Calls Try.prog 16 #[.agg #[.int .i64 W, .int .i64 H, .slice A n c], .agg #[.int .i64 p.r, .int .i64 p.g, .int .i64 p.b, .int .i64 p.a], .int .i64 t, .int .i64 u] w' (MkPost E1 W1 H1 L1 w')) :=
    ⟨_, _, _, _, fun w' hb => soft_any W H A n c ps p t u w' (HP.out.on hb), fun w' hb => rsoft_any W H A n c ps p t u w' (HP.out.on hb)⟩
  have HC1 := Lib.hid hc; have HD1 := Lib.hid hd; clear hc hd
  obtain ⟨E2, W2, H2, L2, hc, hd⟩ : ∃ E1 W1 H1 L1, (∀ w', Below w.heap.size w w' → Calls Try.prog 17 #[.agg #[.int .i64 W, .int .i64 H, .slice A n c]] w' (MkPost E1 W1 H1 L1 w')) ∧ (∀ w', Below w.heap.size w w' → Calls Try.prog 18 #[.agg #[.int .i64 W, .int .i64 H, .slice A n c]] w' (MkPost E1 W1 H1 L1 w')) :=
    ⟨_, _, _, _, fun w' hb => opaque_any W H A n c ps w' (HP.out.on hb), fun w' hb => ropaque_any W H A n c ps w' (HP.out.on hb)⟩
  have HC2 := Lib.hid hc; have HD2 := Lib.hid hd; clear hc hd
  go_enter Try.func4, Try.ntmps4
  go_wp2_with fail
  obtain ⟨hI, hX, hB⟩ := boxIX w W H (.slice A n c) p _ rfl
  generalize World.alloc (w.alloc _) _ = wa at *
  have HI := Lib.hid hI; have HX := Lib.hid hX; have HB := Lib.hid hB; clear hI hX hB
  refine (HC0.out _ HB.out).mono ?_
  rintro e w0 ⟨v0, rfl, hrow, hb⟩
  obtain ⟨M0, m0, rfl⟩ := irow_shape hrow
  have hbb := hb
  have HI := Lib.hid (HI.out.below hbb); have HX := Lib.hid (HX.out.below hbb); have HB := Lib.hid (bel_trans HB.out hbb)
  have HN := Lib.hid (Mk.new W0 H0 29 hrow)
  clear hrow hb hbb
  obtain ⟨i0, i1, i2, i3⟩ := HI.out
  obtain ⟨z0, z1, z2, z3, z4⟩ := HX.out
  go_wp2_with fail
  refine (HD0.out _ (bel_alloc HB.out (.cells #[.int .i64 W0, .int .i64 H0, .slice M0 L0.length m0] 29))).mono ?_
  rintro e w1 ⟨v1, rfl, hrow, hb⟩
  clear i0 i1 i2 i3 z0 z1 z2 z3 z4
  obtain ⟨M1, m1, rfl⟩ := irow_shape hrow
  have hbb := bel_trans (bel1 _ (.cells #[.int .i64 W0, .int .i64 H0, .slice M0 L0.length m0] 29)) hb
  have HI := Lib.hid (HI.out.below hbb); have HX := Lib.hid (HX.out.below hbb); have HB := Lib.hid (bel_trans HB.out hbb)
  have HM0 := Lib.hid (HN.out.below hb); clear HN
  have HN := Lib.hid (Mk.new W0 H0 29 hrow)
  clear hrow hb hbb
  obtain ⟨i0, i1, i2, i3⟩ := HI.out
  obtain ⟨z0, z1, z2, z3, z4⟩ := HX.out
  go_wp2_with fail
  refine (HC1.out _ (bel_alloc HB.out (.cells #[.int .i64 W0, .int .i64 H0, .slice M1 L0.length m1] 29))).mono ?_
  rintro e w2 ⟨v2, rfl, hrow, hb⟩
  clear i0 i1 i2 i3 z0 z1 z2 z3 z4
  obtain ⟨M2, m2, rfl⟩ := irow_shape hrow
  have hbb := bel_trans (bel1 _ (.cells #[.int .i64 W0, .int .i64 H0, .slice M1 L0.length m1] 29)) hb
  have HI := Lib.hid (HI.out.below hbb); have HX := Lib.hid (HX.out.below hbb); have HB := Lib.hid (bel_trans HB.out hbb)
  have HM0 := Lib.hid (HM0.out.below hbb)
  have HM1 := Lib.hid (HN.out.below hb); clear HN
  have HN := Lib.hid (Mk.new W1 H1 29 hrow)
  clear hrow hb hbb
  obtain ⟨i0, i1, i2, i3⟩ := HI.out
  obtain ⟨z0, z1, z2, z3, z4⟩ := HX.out
  go_wp2_with fail
  refine (HD1.out _ (bel_alloc HB.out (.cells #[.int .i64 W1, .int .i64 H1, .slice M2 L1.length m2] 29))).mono ?_
  rintro e w3 ⟨v3, rfl, hrow, hb⟩
  clear i0 i1 i2 i3 z0 z1 z2 z3 z4
  obtain ⟨M3, m3, rfl⟩ := irow_shape hrow
  have hbb := bel_trans (bel1 _ (.cells #[.int .i64 W1, .int .i64 H1, .slice M2 L1.length m2] 29)) hb
  have HI := Lib.hid (HI.out.below hbb); have HX := Lib.hid (HX.out.below hbb); have HB := Lib.hid (bel_trans HB.out hbb)
  have HM0 := Lib.hid (HM0.out.below hbb)
  have HM1 := Lib.hid (HM1.out.below hbb)
  have HM2 := Lib.hid (HN.out.below hb); clear HN
  have HN := Lib.hid (Mk.new W1 H1 29 hrow)
  clear hrow hb hbb
  obtain ⟨i0, i1, i2, i3⟩ := HI.out
  obtain ⟨z0, z1, z2, z3, z4⟩ := HX.out
  go_wp2_with fail
  refine (HC2.out _ (bel_alloc HB.out (.cells #[.int .i64 W1, .int .i64 H1, .slice M3 L1.length m3] 29))).mono ?_
  rintro e w4 ⟨v4, rfl, hrow, hb⟩
  clear i0 i1 i2 i3 z0 z1 z2 z3 z4
  obtain ⟨M4, m4, rfl⟩ := irow_shape hrow
  have hbb := bel_trans (bel1 _ (.cells #[.int .i64 W1, .int .i64 H1, .slice M3 L1.length m3] 29)) hb
  have HI := Lib.hid (HI.out.below hbb); have HX := Lib.hid (HX.out.below hbb); have HB := Lib.hid (bel_trans HB.out hbb)
  have HM0 := Lib.hid (HM0.out.below hbb)
  have HM1 := Lib.hid (HM1.out.below hbb)
  have HM2 := Lib.hid (HM2.out.below hbb)
  have HM3 := Lib.hid (HN.out.below hb); clear HN
  have HN := Lib.hid (Mk.new W2 H2 29 hrow)
  clear hrow hb hbb
  obtain ⟨i0, i1, i2, i3⟩ := HI.out
  obtain ⟨z0, z1, z2, z3, z4⟩ := HX.out
  go_wp2_with fail
  refine (HD2.out _ (bel_alloc HB.out (.cells #[.int .i64 W2, .int .i64 H2, .slice M4 L2.length m4] 29))).mono ?_
  rintro e w5 ⟨v5, rfl, hrow, hb⟩
  clear i0 i1 i2 i3 z0 z1 z2 z3 z4
  obtain ⟨M5, m5, rfl⟩ := irow_shape hrow
  have hbb := bel_trans (bel1 _ (.cells #[.int .i64 W2, .int .i64 H2, .slice M4 L2.length m4] 29)) hb
  have HI := Lib.hid (HI.out.below hbb); have HX := Lib.hid (HX.out.below hbb); have HB := Lib.hid (bel_trans HB.out hbb)
  have HM0 := Lib.hid (HM0.out.below hbb)
  have HM1 := Lib.hid (HM1.out.below hbb)
  have HM2 := Lib.hid (HM2.out.below hbb)
  have HM3 := Lib.hid (HM3.out.below hbb)
  have HM4 := Lib.hid (HN.out.below hb); clear HN
  have HN := Lib.hid (Mk.new W2 H2 29 hrow)
  clear hrow hb hbb
  have HM5 := HN; clear HN
  have HM0 := Lib.hid (HM0.out.below (bel1 _ (.cells #[.int .i64 W2, .int .i64 H2, .slice M5 L2.length m5] 29)))
  have HM1 := Lib.hid (HM1.out.below (bel1 _ (.cells #[.int .i64 W2, .int .i64 H2, .slice M5 L2.length m5] 29)))
  have HM2 := Lib.hid (HM2.out.below (bel1 _ (.cells #[.int .i64 W2, .int .i64 H2, .slice M5 L2.length m5] 29)))
  have HM3 := Lib.hid (HM3.out.below (bel1 _ (.cells #[.int .i64 W2, .int .i64 H2, .slice M5 L2.length m5] 29)))
  have HM4 := Lib.hid (HM4.out.below (bel1 _ (.cells #[.int .i64 W2, .int .i64 H2, .slice M5 L2.length m5] 29)))
  have HB := Lib.hid (bel_alloc HB.out (.cells #[.int .i64 W2, .int .i64 H2, .slice M5 L2.length m5] 29))
  clear HI HX
  obtain ⟨u0, g0, q0⟩ := HM0.out
  have HG0 := Lib.hid g0; have HQ0 := Lib.hid q0; clear g0 q0 HM0
  obtain ⟨u1, g1, q1⟩ := HM1.out
  have HG1 := Lib.hid g1; have HQ1 := Lib.hid q1; clear g1 q1 HM1
  obtain ⟨u2, g2, q2⟩ := HM2.out
  have HG2 := Lib.hid g2; have HQ2 := Lib.hid q2; clear g2 q2 HM2
  obtain ⟨u3, g3, q3⟩ := HM3.out
  have HG3 := Lib.hid g3; have HQ3 := Lib.hid q3; clear g3 q3 HM3
  obtain ⟨u4, g4, q4⟩ := HM4.out
  have HG4 := Lib.hid g4; have HQ4 := Lib.hid q4; clear g4 q4 HM4
  obtain ⟨u5, g5, q5⟩ := HM5.out
  have HG5 := Lib.hid g5; have HQ5 := Lib.hid q5; clear g5 q5 HM5
  obtain ⟨a0, b0, c0, d0⟩ := HG0.out
  obtain ⟨a1, b1, c1, d1⟩ := HG1.out
  go_wp2_with fail
  generalize World.alloc w5 _ = wz at *
  refine (msame_true W0 H0 W0 H0 _ _ L0 _ rfl rfl HQ0.out HQ1.out).mono ?_
  rintro e y0 ⟨rfl, hb⟩
  clear a0 b0 c0 d0
  clear a1 b1 c1 d1
  have HG2 := Lib.hid (HG2.out.below hb); have HQ2 := Lib.hid ((HQ2.out.below hb).more hb.size)
  have HG3 := Lib.hid (HG3.out.below hb); have HQ3 := Lib.hid ((HQ3.out.below hb).more hb.size)
  have HG4 := Lib.hid (HG4.out.below hb); have HQ4 := Lib.hid ((HQ4.out.below hb).more hb.size)
  have HG5 := Lib.hid (HG5.out.below hb); have HQ5 := Lib.hid ((HQ5.out.below hb).more hb.size)
  have HB := Lib.hid (bel_trans HB.out hb)
  clear hb
  obtain ⟨a2, b2, c2, d2⟩ := HG2.out
  obtain ⟨a3, b3, c3, d3⟩ := HG3.out
  go_wp2_with fail
  refine (msame_true W1 H1 W1 H1 _ _ L1 _ rfl rfl HQ2.out HQ3.out).mono ?_
  rintro e y1 ⟨rfl, hb⟩
  clear a2 b2 c2 d2
  clear a3 b3 c3 d3
  have HG4 := Lib.hid (HG4.out.below hb); have HQ4 := Lib.hid ((HQ4.out.below hb).more hb.size)
  have HG5 := Lib.hid (HG5.out.below hb); have HQ5 := Lib.hid ((HQ5.out.below hb).more hb.size)
  have HB := Lib.hid (bel_trans HB.out hb)
  clear hb
  obtain ⟨a4, b4, c4, d4⟩ := HG4.out
  obtain ⟨a5, b5, c5, d5⟩ := HG5.out
  go_wp2_with fail
  refine (msame_true W2 H2 W2 H2 _ _ L2 _ rfl rfl HQ4.out HQ5.out).mono ?_
  rintro e y2 ⟨rfl, hb⟩
  clear a4 b4 c4 d4
  clear a5 b5 c5 d5
  have HB := Lib.hid (bel_trans HB.out hb)
  clear hb
  go_wp2_with fail
  refine (awake_any _).mono ?_
  rintro e y4 ⟨rfl, hb5⟩
  go_wp2_with fail
  go_ret
  exact ⟨rfl, bel_trans HB.out hb5⟩
end Go.Proofs.Ytgdefgpbaccneaa
