/- The walk of AffineComposes. -/
import Derived.Test.YtanlnigebbcajaaDoorAff18
namespace Go.Proofs.YtanlnigebbcajaaDoor
open Go.RowKit
attribute [local go_sem 2000] run_max2m run_min2m
theorem boxAAP (w : World) (a b c d e f a' b' c' d' e' f' x y : Int) (w0 : World) (hw : w0 = ((w.alloc (.cells #[.int .i64 a, .int .i64 b, .int .i64 c, .int .i64 d, .int .i64 e, .int .i64 f] 23)).alloc (.cells #[.int .i64 a', .int .i64 b', .int .i64 c', .int .i64 d', .int .i64 e', .int .i64 f'] 23)).alloc (.cells #[.int .i64 x, .int .i64 y] 25)) :
    Bx w0 w.heap.size 23 #[.int .i64 a, .int .i64 b, .int .i64 c, .int .i64 d, .int .i64 e, .int .i64 f] ∧ Bx w0 (w.heap.size + 1) 23 #[.int .i64 a', .int .i64 b', .int .i64 c', .int .i64 d', .int .i64 e', .int .i64 f'] ∧ Bx w0 (w.heap.size + 1 + 1) 25 #[.int .i64 x, .int .i64 y] ∧ Below w.heap.size w w0 := by
  subst hw
  have h1 := Bx.new w 23 #[.int .i64 a, .int .i64 b, .int .i64 c, .int .i64 d, .int .i64 e, .int .i64 f]
  have h2 := Bx.new (w.alloc (.cells #[.int .i64 a, .int .i64 b, .int .i64 c, .int .i64 d, .int .i64 e, .int .i64 f] 23)) 23 #[.int .i64 a', .int .i64 b', .int .i64 c', .int .i64 d', .int .i64 e', .int .i64 f']
  have h3 := Bx.new ((w.alloc (.cells #[.int .i64 a, .int .i64 b, .int .i64 c, .int .i64 d, .int .i64 e, .int .i64 f] 23)).alloc (.cells #[.int .i64 a', .int .i64 b', .int .i64 c', .int .i64 d', .int .i64 e', .int .i64 f'] 23)) 25 #[.int .i64 x, .int .i64 y]
  simp only [World.size_alloc] at h2 h3
  exact ⟨(h1.alloc _).alloc _, h2.alloc _, h3, bel_alloc (bel_alloc (bel_alloc (Below.refl _ _) _) _) _⟩
def ComMid (ux uy vx vy : Int) (w : World) (p q : Value) (wx : World) : Prop := ∃ g h, p = .pointer (some ⟨g, 0, none⟩) ∧ q = .pointer (some ⟨h, 0, none⟩) ∧ (wx.cell? ⟨g, 0, none⟩ = some (.int .i64 ux) ∧ wx.cell? ⟨g, 1, none⟩ = some (.int .i64 uy) ∧ wx.cell? ⟨h, 0, none⟩ = some (.int .i64 vx) ∧ wx.cell? ⟨h, 1, none⟩ = some (.int .i64 vy)) ∧ Below w.heap.size w wx
set_option maxRecDepth 100000 in
set_option maxHeartbeats 8000000 in
theorem composes_o1 (a b c d e f a' b' c' d' e' f' x y  : Int) (w : World) (ht : Tab w)
    (S1 : ∀ w, Calls Tryd.prog 31 #[.agg #[.int .i64 a, .int .i64 b, .int .i64 c, .int .i64 d, .int .i64 e, .int .i64 f], .int .i64 68719476736] w fun z w' => z = .returned (.bool false) ∧ Below w.heap.size w w')
    : Calls Tryd.prog 8 #[.agg #[.int .i64 a, .int .i64 b, .int .i64 c, .int .i64 d, .int .i64 e, .int .i64 f], .agg #[.int .i64 a', .int .i64 b', .int .i64 c', .int .i64 d', .int .i64 e', .int .i64 f'], .agg #[.int .i64 x, .int .i64 y]] w fun e w' => e = .returned (.bool true) ∧ Below w.heap.size w w' := by
  have HT := Lib.hid ht; clear ht
  replace S1 := Lib.hid S1
  go_enter Tryd.func8, Tryd.ntmps8
  go_wp2_with fail
  obtain ⟨k1, k2, k3, hB⟩ := boxAAP w a b c d e f a' b' c' d' e' f' x y _ rfl
  with_reducible refine (S1.out _).mono ?_
  rintro z wa ⟨rfl, hb⟩
  replace k1 := Lib.hid (k1.below hb); replace k2 := Lib.hid (k2.below hb); replace k3 := Lib.hid (k3.below hb); replace hB := Lib.hid (bel_trans hB hb)
  clear hb S1
  go_wp2_with fail
  refine (awake_any _ (HT.out.below hB.out)).mono ?_
  rintro z wz ⟨rfl, hb⟩
  go_wp2_with fail
  go_ret
  exact ⟨rfl, bel_trans hB.out hb⟩
set_option maxRecDepth 100000 in
set_option maxHeartbeats 8000000 in
theorem composes_o2 (a b c d e f a' b' c' d' e' f' x y  : Int) (w : World) (ht : Tab w)
    (S1 : ∀ w, Calls Tryd.prog 31 #[.agg #[.int .i64 a, .int .i64 b, .int .i64 c, .int .i64 d, .int .i64 e, .int .i64 f], .int .i64 68719476736] w fun z w' => z = .returned (.bool true) ∧ Below w.heap.size w w')
    (S2 : ∀ w, Calls Tryd.prog 31 #[.agg #[.int .i64 a', .int .i64 b', .int .i64 c', .int .i64 d', .int .i64 e', .int .i64 f'], .int .i64 68719476736] w fun z w' => z = .returned (.bool false) ∧ Below w.heap.size w w')
    : Calls Tryd.prog 8 #[.agg #[.int .i64 a, .int .i64 b, .int .i64 c, .int .i64 d, .int .i64 e, .int .i64 f], .agg #[.int .i64 a', .int .i64 b', .int .i64 c', .int .i64 d', .int .i64 e', .int .i64 f'], .agg #[.int .i64 x, .int .i64 y]] w fun e w' => e = .returned (.bool true) ∧ Below w.heap.size w w' := by
  have HT := Lib.hid ht; clear ht
  replace S1 := Lib.hid S1
  replace S2 := Lib.hid S2
  go_enter Tryd.func8, Tryd.ntmps8
  go_wp2_with fail
  obtain ⟨k1, k2, k3, hB⟩ := boxAAP w a b c d e f a' b' c' d' e' f' x y _ rfl
  with_reducible refine (S1.out _).mono ?_
  rintro z wa ⟨rfl, hb⟩
  replace k1 := Lib.hid (k1.below hb); replace k2 := Lib.hid (k2.below hb); replace k3 := Lib.hid (k3.below hb); replace hB := Lib.hid (bel_trans hB hb)
  clear hb S1
  obtain ⟨⟨c0, c1, c2, c3, c4, c5⟩, f0, f1, f2, f3, f4, f5⟩ := k2.out.six
  go_wp2_with fail
  clear c0 c1 c2 c3 c4 c5 f0 f1 f2 f3 f4 f5
  with_reducible refine (S2.out _).mono ?_
  rintro z wb ⟨rfl, hb⟩
  replace k1 := Lib.hid (k1.out.below hb); replace k2 := Lib.hid (k2.out.below hb); replace k3 := Lib.hid (k3.out.below hb); replace hB := Lib.hid (bel_trans hB.out hb)
  clear hb S2
  go_wp2_with fail
  refine (awake_any _ (HT.out.below hB.out)).mono ?_
  rintro z wz ⟨rfl, hb⟩
  go_wp2_with fail
  go_ret
  exact ⟨rfl, bel_trans hB.out hb⟩
set_option maxRecDepth 100000 in
set_option maxHeartbeats 8000000 in
theorem composes_o3 (a b c d e f a' b' c' d' e' f' x y  : Int) (w : World) (ht : Tab w)
    (S1 : ∀ w, Calls Tryd.prog 31 #[.agg #[.int .i64 a, .int .i64 b, .int .i64 c, .int .i64 d, .int .i64 e, .int .i64 f], .int .i64 68719476736] w fun z w' => z = .returned (.bool true) ∧ Below w.heap.size w w')
    (S2 : ∀ w, Calls Tryd.prog 31 #[.agg #[.int .i64 a', .int .i64 b', .int .i64 c', .int .i64 d', .int .i64 e', .int .i64 f'], .int .i64 68719476736] w fun z w' => z = .returned (.bool true) ∧ Below w.heap.size w w')
    (W1 : ∀ (w : World) (g : Nat), w.heap.size = g → Calls Tryd.prog 30 #[.int .i64 16777216, .slice (some ⟨g, 0, none⟩) 2 2] (w.alloc (.cells #[.int .i64 x, .int .i64 y] 3)) fun z w' => z = .returned (.bool false) ∧ w.alloc (.cells #[.int .i64 x, .int .i64 y] 3) = w')
    : Calls Tryd.prog 8 #[.agg #[.int .i64 a, .int .i64 b, .int .i64 c, .int .i64 d, .int .i64 e, .int .i64 f], .agg #[.int .i64 a', .int .i64 b', .int .i64 c', .int .i64 d', .int .i64 e', .int .i64 f'], .agg #[.int .i64 x, .int .i64 y]] w fun e w' => e = .returned (.bool true) ∧ Below w.heap.size w w' := by
  have HT := Lib.hid ht; clear ht
  replace S1 := Lib.hid S1
  replace S2 := Lib.hid S2
  replace W1 := Lib.hid W1
  go_enter Tryd.func8, Tryd.ntmps8
  go_wp2_with fail
  obtain ⟨k1, k2, k3, hB⟩ := boxAAP w a b c d e f a' b' c' d' e' f' x y _ rfl
  with_reducible refine (S1.out _).mono ?_
  rintro z wa ⟨rfl, hb⟩
  replace k1 := Lib.hid (k1.below hb); replace k2 := Lib.hid (k2.below hb); replace k3 := Lib.hid (k3.below hb); replace hB := Lib.hid (bel_trans hB hb)
  clear hb S1
  obtain ⟨⟨c0, c1, c2, c3, c4, c5⟩, f0, f1, f2, f3, f4, f5⟩ := k2.out.six
  go_wp2_with fail
  clear c0 c1 c2 c3 c4 c5 f0 f1 f2 f3 f4 f5
  with_reducible refine (S2.out _).mono ?_
  rintro z wb ⟨rfl, hb⟩
  replace k1 := Lib.hid (k1.out.below hb); replace k2 := Lib.hid (k2.out.below hb); replace k3 := Lib.hid (k3.out.below hb); replace hB := Lib.hid (bel_trans hB.out hb)
  clear hb S2
  obtain ⟨⟨z0, z1⟩, z2, z3⟩ := k3.out.two
  go_wp2_with fail
  clear z0 z1 z2 z3
  with_reducible refine (W1.out _ _ rfl).mono ?_
  rintro z wq ⟨rfl, rfl⟩
  replace k1 := Lib.hid (k1.out.alloc (.cells #[.int .i64 x, .int .i64 y] 3)); replace k2 := Lib.hid (k2.out.alloc (.cells #[.int .i64 x, .int .i64 y] 3)); replace k3 := Lib.hid (k3.out.alloc (.cells #[.int .i64 x, .int .i64 y] 3)); replace hB := Lib.hid (bel_alloc hB.out (.cells #[.int .i64 x, .int .i64 y] 3))
  generalize World.alloc wb _ = wd at *
  go_wp2_with fail
  refine (awake_any _ (HT.out.below hB.out)).mono ?_
  rintro z wz ⟨rfl, hb⟩
  go_wp2_with fail
  go_ret
  exact ⟨rfl, bel_trans hB.out hb⟩
set_option maxRecDepth 100000 in
set_option maxHeartbeats 8000000 in
theorem composes_in (a b c d e f a' b' c' d' e' f' x y n0 n1 n2 n3 n4 n5 ux uy qx qy vx vy dx dy : Int) (w : World) (ht : Tab w)
    (S1 : ∀ w, Calls Tryd.prog 31 #[.agg #[.int .i64 a, .int .i64 b, .int .i64 c, .int .i64 d, .int .i64 e, .int .i64 f], .int .i64 68719476736] w fun z w' => z = .returned (.bool true) ∧ Below w.heap.size w w')
    (S2 : ∀ w, Calls Tryd.prog 31 #[.agg #[.int .i64 a', .int .i64 b', .int .i64 c', .int .i64 d', .int .i64 e', .int .i64 f'], .int .i64 68719476736] w fun z w' => z = .returned (.bool true) ∧ Below w.heap.size w w')
    (W1 : ∀ (w : World) (g : Nat), w.heap.size = g → Calls Tryd.prog 30 #[.int .i64 16777216, .slice (some ⟨g, 0, none⟩) 2 2] (w.alloc (.cells #[.int .i64 x, .int .i64 y] 3)) fun z w' => z = .returned (.bool true) ∧ w.alloc (.cells #[.int .i64 x, .int .i64 y] 3) = w')
    (T0 : ∀ w, Calls Tryd.prog 24 #[.agg #[.int .i64 a, .int .i64 b, .int .i64 c, .int .i64 d, .int .i64 e, .int .i64 f], .agg #[.int .i64 a', .int .i64 b', .int .i64 c', .int .i64 d', .int .i64 e', .int .i64 f']] w fun z w' => z = .returned (.agg #[.int .i64 n0, .int .i64 n1, .int .i64 n2, .int .i64 n3, .int .i64 n4, .int .i64 n5]) ∧ Below w.heap.size w w')
    (T1 : ∀ w, Calls Tryd.prog 13 #[.agg #[.int .i64 n0, .int .i64 n1, .int .i64 n2, .int .i64 n3, .int .i64 n4, .int .i64 n5], .agg #[.int .i64 x, .int .i64 y]] w fun z w' => z = .returned (.agg #[.int .i64 ux, .int .i64 uy]) ∧ Below w.heap.size w w')
    (T2 : ∀ w, Calls Tryd.prog 13 #[.agg #[.int .i64 a, .int .i64 b, .int .i64 c, .int .i64 d, .int .i64 e, .int .i64 f], .agg #[.int .i64 x, .int .i64 y]] w fun z w' => z = .returned (.agg #[.int .i64 qx, .int .i64 qy]) ∧ Below w.heap.size w w')
    (T3 : ∀ w, Calls Tryd.prog 13 #[.agg #[.int .i64 a', .int .i64 b', .int .i64 c', .int .i64 d', .int .i64 e', .int .i64 f'], .agg #[.int .i64 qx, .int .i64 qy]] w fun z w' => z = .returned (.agg #[.int .i64 vx, .int .i64 vy]) ∧ Below w.heap.size w w')
    (W2 : ∀ (w : World) (g : Nat), w.heap.size = g → Calls Tryd.prog 30 #[.int .i64 1099511627776, .slice (some ⟨g, 0, none⟩) 4 4] (w.alloc (.cells #[.int .i64 ux, .int .i64 uy, .int .i64 vx, .int .i64 vy] 3)) fun z w' => z = .returned (.bool true) ∧ w.alloc (.cells #[.int .i64 ux, .int .i64 uy, .int .i64 vx, .int .i64 vy] 3) = w')
    (y1 : IntKind.i64.wrap (ux - vx) = dx)
    (y2 : IntKind.i64.wrap (uy - vy) = dy)
    (W3 : ∀ (w : World) (g : Nat), w.heap.size = g → Calls Tryd.prog 30 #[.int .i64 262, .slice (some ⟨g, 0, none⟩) 2 2] (w.alloc (.cells #[.int .i64 dx, .int .i64 dy] 3)) fun z w' => z = .returned (.bool true) ∧ w.alloc (.cells #[.int .i64 dx, .int .i64 dy] 3) = w')
    : Calls Tryd.prog 8 #[.agg #[.int .i64 a, .int .i64 b, .int .i64 c, .int .i64 d, .int .i64 e, .int .i64 f], .agg #[.int .i64 a', .int .i64 b', .int .i64 c', .int .i64 d', .int .i64 e', .int .i64 f'], .agg #[.int .i64 x, .int .i64 y]] w fun e w' => e = .returned (.bool true) ∧ Below w.heap.size w w' := by
  have HT := Lib.hid ht; clear ht
  have HY := Lib.hid (And.intro y1 y2); clear y1 y2
  replace S1 := Lib.hid S1
  replace S2 := Lib.hid S2
  replace W1 := Lib.hid W1
  replace T0 := Lib.hid T0
  replace T1 := Lib.hid T1
  replace T2 := Lib.hid T2
  replace T3 := Lib.hid T3
  replace W2 := Lib.hid W2
  replace W3 := Lib.hid W3
  go_enter Tryd.func8, Tryd.ntmps8
  go_wp2_with fail
  obtain ⟨k1, k2, k3, hB⟩ := boxAAP w a b c d e f a' b' c' d' e' f' x y _ rfl
  with_reducible refine (S1.out _).mono ?_
  rintro z wa ⟨rfl, hb⟩
  replace k1 := Lib.hid (k1.below hb); replace k2 := Lib.hid (k2.below hb); replace k3 := Lib.hid (k3.below hb); replace hB := Lib.hid (bel_trans hB hb)
  clear hb S1
  obtain ⟨⟨c0, c1, c2, c3, c4, c5⟩, f0, f1, f2, f3, f4, f5⟩ := k2.out.six
  go_wp2_with fail
  clear c0 c1 c2 c3 c4 c5 f0 f1 f2 f3 f4 f5
  with_reducible refine (S2.out _).mono ?_
  rintro z wb ⟨rfl, hb⟩
  replace k1 := Lib.hid (k1.out.below hb); replace k2 := Lib.hid (k2.out.below hb); replace k3 := Lib.hid (k3.out.below hb); replace hB := Lib.hid (bel_trans hB.out hb)
  clear hb S2
  obtain ⟨⟨z0, z1⟩, z2, z3⟩ := k3.out.two
  go_wp2_with fail
  clear z0 z1 z2 z3
  with_reducible refine (W1.out _ _ rfl).mono ?_
  rintro z wq ⟨rfl, rfl⟩
  replace k1 := Lib.hid (k1.out.alloc (.cells #[.int .i64 x, .int .i64 y] 3)); replace k2 := Lib.hid (k2.out.alloc (.cells #[.int .i64 x, .int .i64 y] 3)); replace k3 := Lib.hid (k3.out.alloc (.cells #[.int .i64 x, .int .i64 y] 3)); replace hB := Lib.hid (bel_alloc hB.out (.cells #[.int .i64 x, .int .i64 y] 3))
  generalize World.alloc wb _ = wd at *
  go_upto_region 3 with fail
  go_cut [7, 8] (ComMid ux uy vx vy w)
  case first =>
    clear W2 W3 HY
    have HSA := Lib.hid (show ∀ wq, Bel wd wq → Bel wd wq ∧ wq.cell? ⟨w.heap.size, 0, none⟩ = some (.int .i64 a) ∧ wq.cell? ⟨w.heap.size, 1, none⟩ = some (.int .i64 b) ∧ wq.cell? ⟨w.heap.size, 2, none⟩ = some (.int .i64 c) ∧ wq.cell? ⟨w.heap.size, 3, none⟩ = some (.int .i64 d) ∧ wq.cell? ⟨w.heap.size, 4, none⟩ = some (.int .i64 e) ∧ wq.cell? ⟨w.heap.size, 5, none⟩ = some (.int .i64 f) ∧ wq.cell? ⟨w.heap.size + 1, 0, none⟩ = some (.int .i64 a') ∧ wq.cell? ⟨w.heap.size + 1, 1, none⟩ = some (.int .i64 b') ∧ wq.cell? ⟨w.heap.size + 1, 2, none⟩ = some (.int .i64 c') ∧ wq.cell? ⟨w.heap.size + 1, 3, none⟩ = some (.int .i64 d') ∧ wq.cell? ⟨w.heap.size + 1, 4, none⟩ = some (.int .i64 e') ∧ wq.cell? ⟨w.heap.size + 1, 5, none⟩ = some (.int .i64 f') ∧ wq.cell? ⟨w.heap.size + 1 + 1, 0, none⟩ = some (.int .i64 x) ∧ wq.cell? ⟨w.heap.size + 1 + 1, 1, none⟩ = some (.int .i64 y) from fun wq hb => ⟨hb, (k1.out.below hb).six.1.1, (k1.out.below hb).six.1.2.1, (k1.out.below hb).six.1.2.2.1, (k1.out.below hb).six.1.2.2.2.1, (k1.out.below hb).six.1.2.2.2.2.1, (k1.out.below hb).six.1.2.2.2.2.2, (k2.out.below hb).six.1.1, (k2.out.below hb).six.1.2.1, (k2.out.below hb).six.1.2.2.1, (k2.out.below hb).six.1.2.2.2.1, (k2.out.below hb).six.1.2.2.2.2.1, (k2.out.below hb).six.1.2.2.2.2.2, (k3.out.below hb).two.1.1, (k3.out.below hb).two.1.2⟩)
    have HB0 : Bel wd wd := Below.refl _ _
    have hS0 := HSA.out _ (Bel.drew HB0)
    clear k1 k2 k3
    go_region_held3 (fun w' => Bel wd w' ∧ w'.cell? ⟨w.heap.size, 0, none⟩ = some (.int .i64 a) ∧ w'.cell? ⟨w.heap.size, 1, none⟩ = some (.int .i64 b) ∧ w'.cell? ⟨w.heap.size, 2, none⟩ = some (.int .i64 c) ∧ w'.cell? ⟨w.heap.size, 3, none⟩ = some (.int .i64 d) ∧ w'.cell? ⟨w.heap.size, 4, none⟩ = some (.int .i64 e) ∧ w'.cell? ⟨w.heap.size, 5, none⟩ = some (.int .i64 f) ∧ w'.cell? ⟨w.heap.size + 1, 0, none⟩ = some (.int .i64 a') ∧ w'.cell? ⟨w.heap.size + 1, 1, none⟩ = some (.int .i64 b') ∧ w'.cell? ⟨w.heap.size + 1, 2, none⟩ = some (.int .i64 c') ∧ w'.cell? ⟨w.heap.size + 1, 3, none⟩ = some (.int .i64 d') ∧ w'.cell? ⟨w.heap.size + 1, 4, none⟩ = some (.int .i64 e') ∧ w'.cell? ⟨w.heap.size + 1, 5, none⟩ = some (.int .i64 f') ∧ w'.cell? ⟨w.heap.size + 1 + 1, 0, none⟩ = some (.int .i64 x) ∧ w'.cell? ⟨w.heap.size + 1 + 1, 1, none⟩ = some (.int .i64 y))
      (first | assumption | exact hS0 | exact HSA.out _ hBv | (refine HSA.out _ ?_; repeat' (first | with_reducible exact hBv | with_reducible exact HB0 | with_reducible assumption | with_reducible apply Bel.drew | with_reducible apply Bel.al | with_reducible apply Bel.set)))
      (first | (go_at_call 24; with_reducible refine (T0.out _).mono ?_; rintro z w4 ⟨rfl, hbv⟩; first | (have N1 := Lib.hid (((Bx.new wd 25 #[.int .i64 0, .int .i64 0]).alloc (.cells #[.int .i64 0, .int .i64 0] 25)).drew.below hbv); have N2 := Lib.hid ((Bx.new (wd.alloc (.cells #[.int .i64 0, .int .i64 0] 25)) 25 #[.int .i64 0, .int .i64 0]).drew.below hbv); have g1 : wd.heap.size ≤ wd.heap.size := HB0.out.size; have g2 : wd.heap.size ≤ wd.heap.size + 1 := Nat.le_succ_of_le HB0.out.size; have ne : wd.heap.size ≠ wd.heap.size + 1 := Nat.ne_of_lt (Nat.lt_succ_self _); have ne' := Ne.symm ne; simp only [World.size_alloc] at N2; have hBv : Bel wd w4 := Bel.call (Bel.drew (Bel.al (Bel.al HB0 (.cells #[.int .i64 0, .int .i64 0] 25)) (.cells #[.int .i64 0, .int .i64 0] 25))) hbv; obtain ⟨⟨n1a, n1b⟩, n1c, n1d⟩ := N1.out.two; have n1l := N1.out.lt; obtain ⟨⟨n2a, n2b⟩, n2c, n2d⟩ := N2.out.two; have n2l := N2.out.lt) | (have N1 := Lib.hid ((Bx.new wd 25 #[.int .i64 0, .int .i64 0]).drew.below hbv); have g1 : wd.heap.size ≤ wd.heap.size := HB0.out.size; have hBv : Bel wd w4 := Bel.call (Bel.drew (Bel.al HB0 (.cells #[.int .i64 0, .int .i64 0] 25))) hbv; obtain ⟨⟨n1a, n1b⟩, n1c, n1d⟩ := N1.out.two; have n1l := N1.out.lt) | (have hBv : Bel wd w4 := Bel.call (Bel.drew (HB0)) hbv)) | (go_at_call 13; with_reducible refine (T1.out _).mono ?_; rintro z w5 ⟨rfl, hbv⟩; first | (have N1 := Lib.hid (((Bx.new w4 25 #[.int .i64 0, .int .i64 0]).alloc (.cells #[.int .i64 0, .int .i64 0] 25)).below hbv); have N2 := Lib.hid ((Bx.new (w4.alloc (.cells #[.int .i64 0, .int .i64 0] 25)) 25 #[.int .i64 0, .int .i64 0]).below hbv); have g1 : wd.heap.size ≤ w4.heap.size := hBv.out.size; have g2 : wd.heap.size ≤ w4.heap.size + 1 := Nat.le_succ_of_le hBv.out.size; have ne : w4.heap.size ≠ w4.heap.size + 1 := Nat.ne_of_lt (Nat.lt_succ_self _); have ne' := Ne.symm ne; simp only [World.size_alloc] at N2; have hBv : Bel wd w5 := Bel.call (Bel.al (Bel.al hBv (.cells #[.int .i64 0, .int .i64 0] 25)) (.cells #[.int .i64 0, .int .i64 0] 25)) hbv; obtain ⟨⟨n1a, n1b⟩, n1c, n1d⟩ := N1.out.two; have n1l := N1.out.lt; obtain ⟨⟨n2a, n2b⟩, n2c, n2d⟩ := N2.out.two; have n2l := N2.out.lt) | (have N2 := Lib.hid ((Bx.new w4 25 #[.int .i64 0, .int .i64 0]).below hbv); have g2 : wd.heap.size ≤ w4.heap.size := hBv.out.size; have ne := Nat.ne_of_lt N1.out.lt; have ne' := Ne.symm ne; replace N1 := Lib.hid ((N1.out.alloc (.cells #[.int .i64 0, .int .i64 0] 25)).below hbv); clear n1a n1b n1c n1d n1l; have hBv : Bel wd w5 := Bel.call (Bel.al hBv (.cells #[.int .i64 0, .int .i64 0] 25)) hbv; obtain ⟨⟨n1a, n1b⟩, n1c, n1d⟩ := N1.out.two; have n1l := N1.out.lt; obtain ⟨⟨n2a, n2b⟩, n2c, n2d⟩ := N2.out.two; have n2l := N2.out.lt) | (have N1 := Lib.hid ((Bx.new w4 25 #[.int .i64 0, .int .i64 0]).below hbv); have g1 : wd.heap.size ≤ w4.heap.size := hBv.out.size; have hBv : Bel wd w5 := Bel.call (Bel.al hBv (.cells #[.int .i64 0, .int .i64 0] 25)) hbv; obtain ⟨⟨n1a, n1b⟩, n1c, n1d⟩ := N1.out.two; have n1l := N1.out.lt) | (replace N1 := Lib.hid (N1.out.below hbv); replace N2 := Lib.hid (N2.out.below hbv); clear n1a n1b n1c n1d n1l; clear n2a n2b n2c n2d n2l; have hBv : Bel wd w5 := Bel.call hBv hbv; obtain ⟨⟨n1a, n1b⟩, n1c, n1d⟩ := N1.out.two; have n1l := N1.out.lt; obtain ⟨⟨n2a, n2b⟩, n2c, n2d⟩ := N2.out.two; have n2l := N2.out.lt) | (replace N1 := Lib.hid (N1.out.below hbv); clear n1a n1b n1c n1d n1l; have hBv : Bel wd w5 := Bel.call hBv hbv; obtain ⟨⟨n1a, n1b⟩, n1c, n1d⟩ := N1.out.two; have n1l := N1.out.lt) | (have hBv : Bel wd w5 := Bel.call (hBv) hbv)) | (go_at_call 13; with_reducible refine (T2.out _).mono ?_; rintro z w6 ⟨rfl, hbv⟩; first | (have N1 := Lib.hid (((Bx.new w5 25 #[.int .i64 0, .int .i64 0]).alloc (.cells #[.int .i64 0, .int .i64 0] 25)).below hbv); have N2 := Lib.hid ((Bx.new (w5.alloc (.cells #[.int .i64 0, .int .i64 0] 25)) 25 #[.int .i64 0, .int .i64 0]).below hbv); have g1 : wd.heap.size ≤ w5.heap.size := hBv.out.size; have g2 : wd.heap.size ≤ w5.heap.size + 1 := Nat.le_succ_of_le hBv.out.size; have ne : w5.heap.size ≠ w5.heap.size + 1 := Nat.ne_of_lt (Nat.lt_succ_self _); have ne' := Ne.symm ne; simp only [World.size_alloc] at N2; have hBv : Bel wd w6 := Bel.call (Bel.al (Bel.al hBv (.cells #[.int .i64 0, .int .i64 0] 25)) (.cells #[.int .i64 0, .int .i64 0] 25)) hbv; obtain ⟨⟨n1a, n1b⟩, n1c, n1d⟩ := N1.out.two; have n1l := N1.out.lt; obtain ⟨⟨n2a, n2b⟩, n2c, n2d⟩ := N2.out.two; have n2l := N2.out.lt) | (have N2 := Lib.hid ((Bx.new w5 25 #[.int .i64 0, .int .i64 0]).below hbv); have g2 : wd.heap.size ≤ w5.heap.size := hBv.out.size; have ne := Nat.ne_of_lt N1.out.lt; have ne' := Ne.symm ne; replace N1 := Lib.hid ((N1.out.alloc (.cells #[.int .i64 0, .int .i64 0] 25)).below hbv); clear n1a n1b n1c n1d n1l; have hBv : Bel wd w6 := Bel.call (Bel.al hBv (.cells #[.int .i64 0, .int .i64 0] 25)) hbv; obtain ⟨⟨n1a, n1b⟩, n1c, n1d⟩ := N1.out.two; have n1l := N1.out.lt; obtain ⟨⟨n2a, n2b⟩, n2c, n2d⟩ := N2.out.two; have n2l := N2.out.lt) | (have N1 := Lib.hid ((Bx.new w5 25 #[.int .i64 0, .int .i64 0]).below hbv); have g1 : wd.heap.size ≤ w5.heap.size := hBv.out.size; have hBv : Bel wd w6 := Bel.call (Bel.al hBv (.cells #[.int .i64 0, .int .i64 0] 25)) hbv; obtain ⟨⟨n1a, n1b⟩, n1c, n1d⟩ := N1.out.two; have n1l := N1.out.lt) | (replace N1 := Lib.hid (N1.out.below hbv); replace N2 := Lib.hid (N2.out.below hbv); clear n1a n1b n1c n1d n1l; clear n2a n2b n2c n2d n2l; have hBv : Bel wd w6 := Bel.call hBv hbv; obtain ⟨⟨n1a, n1b⟩, n1c, n1d⟩ := N1.out.two; have n1l := N1.out.lt; obtain ⟨⟨n2a, n2b⟩, n2c, n2d⟩ := N2.out.two; have n2l := N2.out.lt) | (replace N1 := Lib.hid (N1.out.below hbv); clear n1a n1b n1c n1d n1l; have hBv : Bel wd w6 := Bel.call hBv hbv; obtain ⟨⟨n1a, n1b⟩, n1c, n1d⟩ := N1.out.two; have n1l := N1.out.lt) | (have hBv : Bel wd w6 := Bel.call (hBv) hbv)) | (go_at_call 13; with_reducible refine (T3.out _).mono ?_; rintro z w7 ⟨rfl, hbv⟩; first | (have N1 := Lib.hid (((Bx.new w6 25 #[.int .i64 0, .int .i64 0]).alloc (.cells #[.int .i64 0, .int .i64 0] 25)).below hbv); have N2 := Lib.hid ((Bx.new (w6.alloc (.cells #[.int .i64 0, .int .i64 0] 25)) 25 #[.int .i64 0, .int .i64 0]).below hbv); have g1 : wd.heap.size ≤ w6.heap.size := hBv.out.size; have g2 : wd.heap.size ≤ w6.heap.size + 1 := Nat.le_succ_of_le hBv.out.size; have ne : w6.heap.size ≠ w6.heap.size + 1 := Nat.ne_of_lt (Nat.lt_succ_self _); have ne' := Ne.symm ne; simp only [World.size_alloc] at N2; have hBv : Bel wd w7 := Bel.call (Bel.al (Bel.al hBv (.cells #[.int .i64 0, .int .i64 0] 25)) (.cells #[.int .i64 0, .int .i64 0] 25)) hbv; obtain ⟨⟨n1a, n1b⟩, n1c, n1d⟩ := N1.out.two; have n1l := N1.out.lt; obtain ⟨⟨n2a, n2b⟩, n2c, n2d⟩ := N2.out.two; have n2l := N2.out.lt) | (have N2 := Lib.hid ((Bx.new w6 25 #[.int .i64 0, .int .i64 0]).below hbv); have g2 : wd.heap.size ≤ w6.heap.size := hBv.out.size; have ne := Nat.ne_of_lt N1.out.lt; have ne' := Ne.symm ne; replace N1 := Lib.hid ((N1.out.alloc (.cells #[.int .i64 0, .int .i64 0] 25)).below hbv); clear n1a n1b n1c n1d n1l; have hBv : Bel wd w7 := Bel.call (Bel.al hBv (.cells #[.int .i64 0, .int .i64 0] 25)) hbv; obtain ⟨⟨n1a, n1b⟩, n1c, n1d⟩ := N1.out.two; have n1l := N1.out.lt; obtain ⟨⟨n2a, n2b⟩, n2c, n2d⟩ := N2.out.two; have n2l := N2.out.lt) | (have N1 := Lib.hid ((Bx.new w6 25 #[.int .i64 0, .int .i64 0]).below hbv); have g1 : wd.heap.size ≤ w6.heap.size := hBv.out.size; have hBv : Bel wd w7 := Bel.call (Bel.al hBv (.cells #[.int .i64 0, .int .i64 0] 25)) hbv; obtain ⟨⟨n1a, n1b⟩, n1c, n1d⟩ := N1.out.two; have n1l := N1.out.lt) | (replace N1 := Lib.hid (N1.out.below hbv); replace N2 := Lib.hid (N2.out.below hbv); clear n1a n1b n1c n1d n1l; clear n2a n2b n2c n2d n2l; have hBv : Bel wd w7 := Bel.call hBv hbv; obtain ⟨⟨n1a, n1b⟩, n1c, n1d⟩ := N1.out.two; have n1l := N1.out.lt; obtain ⟨⟨n2a, n2b⟩, n2c, n2d⟩ := N2.out.two; have n2l := N2.out.lt) | (replace N1 := Lib.hid (N1.out.below hbv); clear n1a n1b n1c n1d n1l; have hBv : Bel wd w7 := Bel.call hBv hbv; obtain ⟨⟨n1a, n1b⟩, n1c, n1d⟩ := N1.out.two; have n1l := N1.out.lt) | (have hBv : Bel wd w7 := Bel.call (hBv) hbv)))
    all_goals
      go_wp2_with fail
      go_meet
      refine ⟨_, _, rfl, rfl, ?_, ?_⟩
      · simp [*, go_sem]
      · refine bel_trans hB.out (Bel.out ?_)
        repeat' (first | with_reducible exact hBv | with_reducible exact HB0 | with_reducible assumption | with_reducible apply Bel.drew | with_reducible apply Bel.al | with_reducible apply Bel.set)
  case rest =>
    clear k1 k2 k3 hB T0 T1 T2 T3
    obtain ⟨g, h, rfl, rfl, ⟨z0, z1, z2, z3⟩, hB⟩ := hcut
    replace hB := Lib.hid hB
    obtain ⟨y1, y2⟩ := HY.out
    go_wp2_with fail
    with_reducible refine (W2.out _ _ rfl).mono ?_
    rintro z we ⟨rfl, rfl⟩
    replace z0 := (World.cell?_alloc_some _ _ (.cells #[.int .i64 ux, .int .i64 uy, .int .i64 vx, .int .i64 vy] 3) (by rw [z0]; rfl)).trans z0
    replace z1 := (World.cell?_alloc_some _ _ (.cells #[.int .i64 ux, .int .i64 uy, .int .i64 vx, .int .i64 vy] 3) (by rw [z1]; rfl)).trans z1
    replace z2 := (World.cell?_alloc_some _ _ (.cells #[.int .i64 ux, .int .i64 uy, .int .i64 vx, .int .i64 vy] 3) (by rw [z2]; rfl)).trans z2
    replace z3 := (World.cell?_alloc_some _ _ (.cells #[.int .i64 ux, .int .i64 uy, .int .i64 vx, .int .i64 vy] 3) (by rw [z3]; rfl)).trans z3
    replace hB := Lib.hid (bel_alloc hB.out (.cells #[.int .i64 ux, .int .i64 uy, .int .i64 vx, .int .i64 vy] 3))
    generalize World.alloc wc _ = we at *
    go_wp2_with fail
    clear z0 z1 z2 z3
    with_reducible refine (W3.out _ _ rfl).mono ?_
    rintro z wf ⟨rfl, rfl⟩
    replace hB := Lib.hid (bel_alloc hB.out (.cells #[.int .i64 dx, .int .i64 dy] 3))
    generalize World.alloc we _ = wf at *
    go_wp2_with fail
    refine (awake_any _ (HT.out.below hB.out)).mono ?_
    rintro z wz ⟨rfl, hb⟩
    go_wp2_with fail
    go_ret
    exact ⟨rfl, bel_trans hB.out hb⟩
end Go.Proofs.YtanlnigebbcajaaDoor
