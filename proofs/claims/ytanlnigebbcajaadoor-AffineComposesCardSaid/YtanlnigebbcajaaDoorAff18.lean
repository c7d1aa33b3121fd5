/- The walk of AffineReturns. -/
import Derived.Test.YtanlnigebbcajaaDoorAff15
namespace Go.Proofs.YtanlnigebbcajaaDoor
open Go.RowKit
attribute [local go_sem 2000] run_max2m run_min2m
theorem Bel.al {w w1 : World} (h : Bel w w1) (o : Obj) : Bel w (w1.alloc o) := bel_alloc h o
theorem Bel.set {w w1 : World} (h : Bel w w1) {g k : Nat} {v : Value} (hg : w.heap.size ≤ g) : Bel w (w1.setCell ⟨g, k, none⟩ v) := Below.setCell (p := ⟨g, k, none⟩) h hg v
def RetMid (x y qx qy : Int) (w : World) (v : Value) (wx : World) : Prop := ∃ g, v = .pointer (some ⟨g, 0, none⟩) ∧ Bx wx (w.heap.size + 1) 25 #[.int .i64 x, .int .i64 y] ∧ Bx wx g 25 #[.int .i64 qx, .int .i64 qy] ∧ Below w.heap.size w wx
set_option maxRecDepth 100000 in
set_option maxHeartbeats 8000000 in
theorem returns_o1 (a b c d e f x y  : Int) (w : World) (ht : Tab w)
    (SM : ∀ w, Calls Tryd.prog 31 #[.agg #[.int .i64 a, .int .i64 b, .int .i64 c, .int .i64 d, .int .i64 e, .int .i64 f], .int .i64 16777216] w fun z w' => z = .returned (.bool false) ∧ Below w.heap.size w w')
    : Calls Tryd.prog 9 #[.agg #[.int .i64 a, .int .i64 b, .int .i64 c, .int .i64 d, .int .i64 e, .int .i64 f], .agg #[.int .i64 x, .int .i64 y]] w fun e w' => e = .returned (.bool true) ∧ Below w.heap.size w w' := by
  have HT := Lib.hid ht; clear ht
  replace SM := Lib.hid SM
  go_enter Tryd.func9, Tryd.ntmps9
  go_wp2_with fail
  obtain ⟨k1, k2, hB⟩ := boxAP w a b c d e f x y _ rfl
  with_reducible refine (SM.out _).mono ?_
  rintro z wa ⟨rfl, hb⟩
  replace k1 := Lib.hid (k1.below hb); replace k2 := Lib.hid (k2.below hb); replace hB := Lib.hid (bel_trans hB hb)
  clear hb SM
  go_wp2_with fail
  refine (awake_any _ (HT.out.below hB.out)).mono ?_
  rintro z wz ⟨rfl, hb⟩
  go_wp2_with fail
  go_ret
  exact ⟨rfl, bel_trans hB.out hb⟩
set_option maxRecDepth 100000 in
set_option maxHeartbeats 8000000 in
theorem returns_o2 (a b c d e f x y  : Int) (w : World) (ht : Tab w)
    (SM : ∀ w, Calls Tryd.prog 31 #[.agg #[.int .i64 a, .int .i64 b, .int .i64 c, .int .i64 d, .int .i64 e, .int .i64 f], .int .i64 16777216] w fun z w' => z = .returned (.bool true) ∧ Below w.heap.size w w')
    (W1 : ∀ (w : World) (g : Nat), w.heap.size = g → Calls Tryd.prog 30 #[.int .i64 16777216, .slice (some ⟨g, 0, none⟩) 2 2] (w.alloc (.cells #[.int .i64 x, .int .i64 y] 3)) fun z w' => z = .returned (.bool false) ∧ w.alloc (.cells #[.int .i64 x, .int .i64 y] 3) = w')
    : Calls Tryd.prog 9 #[.agg #[.int .i64 a, .int .i64 b, .int .i64 c, .int .i64 d, .int .i64 e, .int .i64 f], .agg #[.int .i64 x, .int .i64 y]] w fun e w' => e = .returned (.bool true) ∧ Below w.heap.size w w' := by
  have HT := Lib.hid ht; clear ht
  replace SM := Lib.hid SM
  replace W1 := Lib.hid W1
  go_enter Tryd.func9, Tryd.ntmps9
  go_wp2_with fail
  obtain ⟨k1, k2, hB⟩ := boxAP w a b c d e f x y _ rfl
  with_reducible refine (SM.out _).mono ?_
  rintro z wa ⟨rfl, hb⟩
  replace k1 := Lib.hid (k1.below hb); replace k2 := Lib.hid (k2.below hb); replace hB := Lib.hid (bel_trans hB hb)
  clear hb SM
  obtain ⟨⟨z0, z1⟩, z2, z3⟩ := k2.out.two
  go_wp2_with fail
  clear z0 z1 z2 z3
  with_reducible refine (W1.out _ _ rfl).mono ?_
  rintro z wb ⟨rfl, rfl⟩
  replace k1 := Lib.hid (k1.out.alloc (.cells #[.int .i64 x, .int .i64 y] 3)); replace k2 := Lib.hid (k2.out.alloc (.cells #[.int .i64 x, .int .i64 y] 3)); replace hB := Lib.hid (bel_alloc hB.out (.cells #[.int .i64 x, .int .i64 y] 3))
  generalize World.alloc wa _ = wb at *
  obtain ⟨⟨c0, c1, c2, c3, c4, c5⟩, f0, f1, f2, f3, f4, f5⟩ := k1.out.six
  go_wp2_with fail
  refine (awake_any _ (HT.out.below hB.out)).mono ?_
  rintro z wz ⟨rfl, hb⟩
  go_wp2_with fail
  go_ret
  exact ⟨rfl, bel_trans hB.out hb⟩
set_option maxRecDepth 100000 in
set_option maxHeartbeats 8000000 in
theorem returns_o3 (a b c d e f x y m1 m2 Dt : Int) (w : World) (ht : Tab w)
    (SM : ∀ w, Calls Tryd.prog 31 #[.agg #[.int .i64 a, .int .i64 b, .int .i64 c, .int .i64 d, .int .i64 e, .int .i64 f], .int .i64 16777216] w fun z w' => z = .returned (.bool true) ∧ Below w.heap.size w w')
    (W1 : ∀ (w : World) (g : Nat), w.heap.size = g → Calls Tryd.prog 30 #[.int .i64 16777216, .slice (some ⟨g, 0, none⟩) 2 2] (w.alloc (.cells #[.int .i64 x, .int .i64 y] 3)) fun z w' => z = .returned (.bool true) ∧ w.alloc (.cells #[.int .i64 x, .int .i64 y] 3) = w')
    (x1 : IntKind.i64.wrap (a * d) = m1)
    (x2 : IntKind.i64.wrap (b * c) = m2)
    (x3 : IntKind.i64.wrap (m1 - m2) = Dt)
    (t1 : decide (Dt < 1073741824) = true)
    (t2 : decide (Dt > -1073741824) = true)
    : Calls Tryd.prog 9 #[.agg #[.int .i64 a, .int .i64 b, .int .i64 c, .int .i64 d, .int .i64 e, .int .i64 f], .agg #[.int .i64 x, .int .i64 y]] w fun e w' => e = .returned (.bool true) ∧ Below w.heap.size w w' := by
  have HT := Lib.hid ht; clear ht
  replace SM := Lib.hid SM
  replace W1 := Lib.hid W1
  go_enter Tryd.func9, Tryd.ntmps9
  go_wp2_with fail
  obtain ⟨k1, k2, hB⟩ := boxAP w a b c d e f x y _ rfl
  with_reducible refine (SM.out _).mono ?_
  rintro z wa ⟨rfl, hb⟩
  replace k1 := Lib.hid (k1.below hb); replace k2 := Lib.hid (k2.below hb); replace hB := Lib.hid (bel_trans hB hb)
  clear hb SM
  obtain ⟨⟨z0, z1⟩, z2, z3⟩ := k2.out.two
  go_wp2_with fail
  clear z0 z1 z2 z3
  with_reducible refine (W1.out _ _ rfl).mono ?_
  rintro z wb ⟨rfl, rfl⟩
  replace k1 := Lib.hid (k1.out.alloc (.cells #[.int .i64 x, .int .i64 y] 3)); replace k2 := Lib.hid (k2.out.alloc (.cells #[.int .i64 x, .int .i64 y] 3)); replace hB := Lib.hid (bel_alloc hB.out (.cells #[.int .i64 x, .int .i64 y] 3))
  generalize World.alloc wa _ = wb at *
  obtain ⟨⟨c0, c1, c2, c3, c4, c5⟩, f0, f1, f2, f3, f4, f5⟩ := k1.out.six
  go_wp2_with fail
  refine (awake_any _ (HT.out.below hB.out)).mono ?_
  rintro z wz ⟨rfl, hb⟩
  go_wp2_with fail
  go_ret
  exact ⟨rfl, bel_trans hB.out hb⟩
set_option maxRecDepth 100000 in
set_option maxHeartbeats 8000000 in
theorem returns_in (a b c d e f x y m1 m2 Dt o0 o1 o2 o3 o4 o5 u v qx qy dx dy : Int) (w : World) (ht : Tab w)
    (SM : ∀ w, Calls Tryd.prog 31 #[.agg #[.int .i64 a, .int .i64 b, .int .i64 c, .int .i64 d, .int .i64 e, .int .i64 f], .int .i64 16777216] w fun z w' => z = .returned (.bool true) ∧ Below w.heap.size w w')
    (W1 : ∀ (w : World) (g : Nat), w.heap.size = g → Calls Tryd.prog 30 #[.int .i64 16777216, .slice (some ⟨g, 0, none⟩) 2 2] (w.alloc (.cells #[.int .i64 x, .int .i64 y] 3)) fun z w' => z = .returned (.bool true) ∧ w.alloc (.cells #[.int .i64 x, .int .i64 y] 3) = w')
    (x1 : IntKind.i64.wrap (a * d) = m1)
    (x2 : IntKind.i64.wrap (b * c) = m2)
    (x3 : IntKind.i64.wrap (m1 - m2) = Dt)
    (tt : decide (Dt < 1073741824) = false ∨ (decide (Dt < 1073741824) = true ∧ decide (Dt > -1073741824) = false))
    (IV : ∀ w, Calls Tryd.prog 26 #[.agg #[.int .i64 a, .int .i64 b, .int .i64 c, .int .i64 d, .int .i64 e, .int .i64 f]] w fun z w' => z = .returned (.tuple #[.agg #[.int .i64 o0, .int .i64 o1, .int .i64 o2, .int .i64 o3, .int .i64 o4, .int .i64 o5], .int .i64 0]) ∧ Below w.heap.size w w')
    (A1 : ∀ w, Calls Tryd.prog 13 #[.agg #[.int .i64 a, .int .i64 b, .int .i64 c, .int .i64 d, .int .i64 e, .int .i64 f], .agg #[.int .i64 x, .int .i64 y]] w fun z w' => z = .returned (.agg #[.int .i64 u, .int .i64 v]) ∧ Below w.heap.size w w')
    (A2 : ∀ w, Calls Tryd.prog 13 #[.agg #[.int .i64 o0, .int .i64 o1, .int .i64 o2, .int .i64 o3, .int .i64 o4, .int .i64 o5], .agg #[.int .i64 u, .int .i64 v]] w fun z w' => z = .returned (.agg #[.int .i64 qx, .int .i64 qy]) ∧ Below w.heap.size w w')
    (W2 : ∀ (w : World) (g : Nat), w.heap.size = g → Calls Tryd.prog 30 #[.int .i64 1099511627776, .slice (some ⟨g, 0, none⟩) 2 2] (w.alloc (.cells #[.int .i64 qx, .int .i64 qy] 3)) fun z w' => z = .returned (.bool true) ∧ w.alloc (.cells #[.int .i64 qx, .int .i64 qy] 3) = w')
    (y1 : IntKind.i64.wrap (qx - x) = dx)
    (y2 : IntKind.i64.wrap (qy - y) = dy)
    (W3 : ∀ (w : World) (g : Nat), w.heap.size = g → Calls Tryd.prog 30 #[.int .i64 4096, .slice (some ⟨g, 0, none⟩) 2 2] (w.alloc (.cells #[.int .i64 dx, .int .i64 dy] 3)) fun z w' => z = .returned (.bool true) ∧ w.alloc (.cells #[.int .i64 dx, .int .i64 dy] 3) = w')
    : Calls Tryd.prog 9 #[.agg #[.int .i64 a, .int .i64 b, .int .i64 c, .int .i64 d, .int .i64 e, .int .i64 f], .agg #[.int .i64 x, .int .i64 y]] w fun e w' => e = .returned (.bool true) ∧ Below w.heap.size w w' := by
  have HT := Lib.hid ht; clear ht
  have TT := Lib.hid tt; clear tt
  replace SM := Lib.hid SM
  replace W1 := Lib.hid W1
  replace IV := Lib.hid IV
  replace A1 := Lib.hid A1
  replace A2 := Lib.hid A2
  replace W2 := Lib.hid W2
  replace W3 := Lib.hid W3
  go_enter Tryd.func9, Tryd.ntmps9
  go_wp2_with fail
  obtain ⟨k1, k2, hB⟩ := boxAP w a b c d e f x y _ rfl
  with_reducible refine (SM.out _).mono ?_
  rintro z wa ⟨rfl, hb⟩
  replace k1 := Lib.hid (k1.below hb); replace k2 := Lib.hid (k2.below hb); replace hB := Lib.hid (bel_trans hB hb)
  clear hb SM
  obtain ⟨⟨z0, z1⟩, z2, z3⟩ := k2.out.two
  go_wp2_with fail
  clear z0 z1 z2 z3
  with_reducible refine (W1.out _ _ rfl).mono ?_
  rintro z wb ⟨rfl, rfl⟩
  replace k1 := Lib.hid (k1.out.alloc (.cells #[.int .i64 x, .int .i64 y] 3)); replace k2 := Lib.hid (k2.out.alloc (.cells #[.int .i64 x, .int .i64 y] 3)); replace hB := Lib.hid (bel_alloc hB.out (.cells #[.int .i64 x, .int .i64 y] 3))
  generalize World.alloc wa _ = wb at *
  obtain ⟨⟨c0, c1, c2, c3, c4, c5⟩, f0, f1, f2, f3, f4, f5⟩ := k1.out.six
  rcases TT.out with t1 | ⟨t1, t2⟩
  all_goals
    go_wp2_with fail
    clear c0 c1 c2 c3 c4 c5 f0 f1 f2 f3 f4 f5 x1 x2 x3
    with_reducible refine (IV.out _).mono ?_
    rintro z wc ⟨rfl, hb⟩
    replace k1 := Lib.hid ((k1.out.below hb).alloc (.cells #[.int .i64 o0, .int .i64 o1, .int .i64 o2, .int .i64 o3, .int .i64 o4, .int .i64 o5] 23)); replace k2 := Lib.hid ((k2.out.below hb).alloc (.cells #[.int .i64 o0, .int .i64 o1, .int .i64 o2, .int .i64 o3, .int .i64 o4, .int .i64 o5] 23)); replace hB := Lib.hid (bel_alloc (bel_trans hB.out hb) (.cells #[.int .i64 o0, .int .i64 o1, .int .i64 o2, .int .i64 o3, .int .i64 o4, .int .i64 o5] 23))
    have k3 := Lib.hid (Bx.new wc 23 #[.int .i64 o0, .int .i64 o1, .int .i64 o2, .int .i64 o3, .int .i64 o4, .int .i64 o5])
    clear hb IV
    go_upto_region 7 with fail
    generalize World.alloc wc _ = wd at *
    generalize wc.heap.size = g3 at *
    go_cut [8] (RetMid x y qx qy w)
    case first =>
      clear W2 W3 y1 y2
      have HSA := Lib.hid (show ∀ wq, Bel wd wq → Bel wd wq ∧ wq.cell? ⟨w.heap.size, 0, none⟩ = some (.int .i64 a) ∧ wq.cell? ⟨w.heap.size, 1, none⟩ = some (.int .i64 b) ∧ wq.cell? ⟨w.heap.size, 2, none⟩ = some (.int .i64 c) ∧ wq.cell? ⟨w.heap.size, 3, none⟩ = some (.int .i64 d) ∧ wq.cell? ⟨w.heap.size, 4, none⟩ = some (.int .i64 e) ∧ wq.cell? ⟨w.heap.size, 5, none⟩ = some (.int .i64 f) ∧ wq.cell? ⟨w.heap.size + 1, 0, none⟩ = some (.int .i64 x) ∧ wq.cell? ⟨w.heap.size + 1, 1, none⟩ = some (.int .i64 y) ∧ wq.cell? ⟨g3, 0, none⟩ = some (.int .i64 o0) ∧ wq.cell? ⟨g3, 1, none⟩ = some (.int .i64 o1) ∧ wq.cell? ⟨g3, 2, none⟩ = some (.int .i64 o2) ∧ wq.cell? ⟨g3, 3, none⟩ = some (.int .i64 o3) ∧ wq.cell? ⟨g3, 4, none⟩ = some (.int .i64 o4) ∧ wq.cell? ⟨g3, 5, none⟩ = some (.int .i64 o5) from fun wq hb => ⟨hb, (k1.out.below hb).six.1.1, (k1.out.below hb).six.1.2.1, (k1.out.below hb).six.1.2.2.1, (k1.out.below hb).six.1.2.2.2.1, (k1.out.below hb).six.1.2.2.2.2.1, (k1.out.below hb).six.1.2.2.2.2.2, (k2.out.below hb).two.1.1, (k2.out.below hb).two.1.2, (k3.out.below hb).six.1.1, (k3.out.below hb).six.1.2.1, (k3.out.below hb).six.1.2.2.1, (k3.out.below hb).six.1.2.2.2.1, (k3.out.below hb).six.1.2.2.2.2.1, (k3.out.below hb).six.1.2.2.2.2.2⟩)
      have HB0 : Bel wd wd := Below.refl _ _
      have hS0 := HSA.out _ (Bel.drew HB0)
      go_region_held3 (fun w' => Bel wd w' ∧ w'.cell? ⟨w.heap.size, 0, none⟩ = some (.int .i64 a) ∧ w'.cell? ⟨w.heap.size, 1, none⟩ = some (.int .i64 b) ∧ w'.cell? ⟨w.heap.size, 2, none⟩ = some (.int .i64 c) ∧ w'.cell? ⟨w.heap.size, 3, none⟩ = some (.int .i64 d) ∧ w'.cell? ⟨w.heap.size, 4, none⟩ = some (.int .i64 e) ∧ w'.cell? ⟨w.heap.size, 5, none⟩ = some (.int .i64 f) ∧ w'.cell? ⟨w.heap.size + 1, 0, none⟩ = some (.int .i64 x) ∧ w'.cell? ⟨w.heap.size + 1, 1, none⟩ = some (.int .i64 y) ∧ w'.cell? ⟨g3, 0, none⟩ = some (.int .i64 o0) ∧ w'.cell? ⟨g3, 1, none⟩ = some (.int .i64 o1) ∧ w'.cell? ⟨g3, 2, none⟩ = some (.int .i64 o2) ∧ w'.cell? ⟨g3, 3, none⟩ = some (.int .i64 o3) ∧ w'.cell? ⟨g3, 4, none⟩ = some (.int .i64 o4) ∧ w'.cell? ⟨g3, 5, none⟩ = some (.int .i64 o5))
        (first | assumption | exact hS0 | exact HSA.out _ hBv | exact HSA.out _ (Bel.drew (Bel.al HB0 (.cells #[.int .i64 0, .int .i64 0] 25))) | exact HSA.out _ (Bel.al hBv (.cells #[.int .i64 0, .int .i64 0] 25)) | exact HSA.out _ (Bel.al hBv (.cells #[.int .i64 qx, .int .i64 qy] 25)) | exact HSA.out _ (Bel.set (Bel.set hBv hgl) hgl))
        (first | (go_at_call 13; with_reducible refine (A1.out _).mono ?_; rintro z w4 ⟨rfl, hbv⟩; first | (have hBv : Bel wd w4 := Bel.call (Bel.drew HB0) hbv) | (have hBv : Bel wd w4 := Bel.call (Bel.drew (Bel.al HB0 (.cells #[.int .i64 0, .int .i64 0] 25))) hbv; have NB := Lib.hid ((Bx.new wd 25 #[.int .i64 0, .int .i64 0]).drew.below hbv); have hgl : wd.heap.size ≤ wd.heap.size := Nat.le_refl _; obtain ⟨⟨nb0, nb1⟩, nb2, nb3⟩ := NB.out.two)) | (go_at_call 13; with_reducible refine (A2.out _).mono ?_; rintro z w5 ⟨rfl, hbv⟩; first | (replace NB := Lib.hid (NB.out.below hbv); clear nb0 nb1 nb2 nb3; replace hBv : Bel wd w5 := Bel.call hBv hbv; obtain ⟨⟨nb0, nb1⟩, nb2, nb3⟩ := NB.out.two) | (have NB := Lib.hid ((Bx.new w4 25 #[.int .i64 0, .int .i64 0]).below hbv); have hgl : wd.heap.size ≤ w4.heap.size := hBv.out.size; replace hBv : Bel wd w5 := Bel.call (Bel.al hBv (.cells #[.int .i64 0, .int .i64 0] 25)) hbv; obtain ⟨⟨nb0, nb1⟩, nb2, nb3⟩ := NB.out.two) | (replace hBv : Bel wd w5 := Bel.call hBv hbv)))
      all_goals
        go_wp2_with fail
        go_meet
        first
        | exact ⟨_, rfl, (k2.out.below hBv.out).alloc (.cells #[.int .i64 qx, .int .i64 qy] 25), Bx.new _ _ _, bel_alloc (bel_trans hB.out hBv.out) (.cells #[.int .i64 qx, .int .i64 qy] 25)⟩
        | exact ⟨_, rfl, ((k2.out.below hBv.out).other (Nat.ne_of_lt (Nat.lt_of_lt_of_le k2.out.lt hgl)) 0 _).other (Nat.ne_of_lt (Nat.lt_of_lt_of_le k2.out.lt hgl)) 1 _, (NB.out.set 0 (.int .i64 qx)).set 1 (.int .i64 qy), ((bel_trans hB.out hBv.out).setCell (p := ⟨_, 0, none⟩) (Nat.le_trans hB.out.size hgl) _).setCell (p := ⟨_, 1, none⟩) (Nat.le_trans hB.out.size hgl) _⟩
    case rest =>
      clear k1 k2 k3 hB A1 A2
      obtain ⟨g, rfl, k2, k4, hB⟩ := hcut
      replace k2 := Lib.hid k2; replace k4 := Lib.hid k4; replace hB := Lib.hid hB
      obtain ⟨⟨z0, z1⟩, z2, z3⟩ := k4.out.two
      go_wp2_with fail
      clear z0 z1 z2 z3
      with_reducible refine (W2.out _ _ rfl).mono ?_
      rintro z we ⟨rfl, rfl⟩
      replace k2 := Lib.hid (k2.out.alloc (.cells #[.int .i64 qx, .int .i64 qy] 3)); replace k4 := Lib.hid (k4.out.alloc (.cells #[.int .i64 qx, .int .i64 qy] 3)); replace hB := Lib.hid (bel_alloc hB.out (.cells #[.int .i64 qx, .int .i64 qy] 3))
      generalize World.alloc wc _ = we at *
      obtain ⟨⟨z0, z1⟩, z2, z3⟩ := k4.out.two
      obtain ⟨⟨d0, d1⟩, d2, d3⟩ := k2.out.two
      go_wp2_with fail
      clear z0 z1 z2 z3 d0 d1 d2 d3
      with_reducible refine (W3.out _ _ rfl).mono ?_
      rintro z wf ⟨rfl, rfl⟩
      replace hB := Lib.hid (bel_alloc hB.out (.cells #[.int .i64 dx, .int .i64 dy] 3))
      generalize World.alloc we _ = wf at *
      go_wp2_with fail
      refine (awake_any _ (HT.out.below hB.out)).mono ?_
      rintro z wz ⟨rfl, hb⟩
      go_wp2_with fail
      go_ret
      exact ⟨rfl, bel_trans hB.out hb⟩
end Go.Proofs.YtanlnigebbcajaaDoor
