/- Contract of package affine: Inverse. -/
import Derived.Test.YtineinmghajmnaaMI
namespace Go.Proofs.Ytineinmghajmnaa
open Go.RowKit
attribute [local go_sem 2000] run_max2m run_min2m
theorem inv_boxes (w : World) (a b c d e f : Int) (w0 : World)
    (hw : w0 = (w.alloc (.cells #[.int .i64 a, .int .i64 b, .int .i64 c, .int .i64 d, .int .i64 e, .int .i64 f] 31)).alloc (.cells #[.int .i64 0, .int .i64 0, .int .i64 0, .int .i64 0, .int .i64 0, .int .i64 0] 31)) :
    Bx w0 w.heap.size 31 #[.int .i64 a, .int .i64 b, .int .i64 c, .int .i64 d, .int .i64 e, .int .i64 f] ∧ Bx w0 (w.heap.size + 1) 31 #[.int .i64 0, .int .i64 0, .int .i64 0, .int .i64 0, .int .i64 0, .int .i64 0] ∧ Below w.heap.size w w0 := by
  subst hw
  have h1 := Bx.new w 31 #[.int .i64 a, .int .i64 b, .int .i64 c, .int .i64 d, .int .i64 e, .int .i64 f]
  have h2 := Bx.new (w.alloc (.cells #[.int .i64 a, .int .i64 b, .int .i64 c, .int .i64 d, .int .i64 e, .int .i64 f] 31)) 31 #[.int .i64 0, .int .i64 0, .int .i64 0, .int .i64 0, .int .i64 0, .int .i64 0]
  simp only [World.size_alloc] at h2
  exact ⟨h1.alloc _, h2, bel_alloc (bel_alloc (Below.refl _ _) _) _⟩
set_option maxRecDepth 100000 in
set_option maxHeartbeats 8000000 in
theorem inv_e1 (a b c d e f E1 : Int) (w : World)
    (CK1 : ∀ w, Calls Try.prog 70 #[.agg #[.int .i64 a, .int .i64 b, .int .i64 c, .int .i64 d, .int .i64 e, .int .i64 f]] w fun z w' => z = .returned (.int .i64 E1) ∧ Below w.heap.size w w')
    (t1 : (E1 != 0) = true)
    : Calls Try.prog 36 #[.agg #[.int .i64 a, .int .i64 b, .int .i64 c, .int .i64 d, .int .i64 e, .int .i64 f]] w fun z w' => z = .returned (.tuple #[.agg #[.int .i64 0, .int .i64 0, .int .i64 0, .int .i64 0, .int .i64 0, .int .i64 0], .int .i64 E1]) ∧ Below w.heap.size w w' := by
  replace CK1 := Lib.hid CK1
  go_enter Try.func36, Try.ntmps36
  go_wp2_with fail
  obtain ⟨k1, k2, hB⟩ := inv_boxes w a b c d e f _ rfl
  refine (CK1.out _).mono ?_
  rintro z w1 ⟨rfl, hb⟩
  replace k1 := Lib.hid (k1.below hb); replace k2 := Lib.hid (k2.below hb); replace hB := Lib.hid (bel_trans hB hb)
  clear hb CK1
  obtain ⟨⟨d0, d1, d2, d3, d4, d5⟩, g0, g1, g2, g3, g4, g5⟩ := k2.out.six
  go_wp2_with fail
  refine bodyPost_ret (v := .tuple #[.agg #[.int .i64 0, .int .i64 0, .int .i64 0, .int .i64 0, .int .i64 0, .int .i64 0], .int .i64 E1]) (by simp [results, Try.results36, go_sem, *]) rfl ⟨rfl, ?_⟩
  repeat' (first | with_reducible exact hB.out | with_reducible apply Below.drew | with_reducible apply Below.drewN' | with_reducible apply Below.setCell)
  all_goals (show w.heap.size ≤ w.heap.size + 1; omega)
set_option maxRecDepth 100000 in
set_option maxHeartbeats 8000000 in
theorem inv_d0 (a b c d e f m1 m2 Dt : Int) (w : World)
    (CK1 : ∀ w, Calls Try.prog 70 #[.agg #[.int .i64 a, .int .i64 b, .int .i64 c, .int .i64 d, .int .i64 e, .int .i64 f]] w fun z w' => z = .returned (.int .i64 0) ∧ Below w.heap.size w w')
    (x1 : IntKind.i64.wrap (a * d) = m1)
    (x2 : IntKind.i64.wrap (b * c) = m2)
    (x3 : IntKind.i64.wrap (m1 - m2) = Dt)
    (t2 : (Dt == 0) = true)
    : Calls Try.prog 36 #[.agg #[.int .i64 a, .int .i64 b, .int .i64 c, .int .i64 d, .int .i64 e, .int .i64 f]] w fun z w' => z = .returned (.tuple #[.agg #[.int .i64 0, .int .i64 0, .int .i64 0, .int .i64 0, .int .i64 0, .int .i64 0], .int .i64 17]) ∧ Below w.heap.size w w' := by
  replace CK1 := Lib.hid CK1
  go_enter Try.func36, Try.ntmps36
  go_wp2_with fail
  obtain ⟨k1, k2, hB⟩ := inv_boxes w a b c d e f _ rfl
  refine (CK1.out _).mono ?_
  rintro z w1 ⟨rfl, hb⟩
  replace k1 := Lib.hid (k1.below hb); replace k2 := Lib.hid (k2.below hb); replace hB := Lib.hid (bel_trans hB hb)
  clear hb CK1
  obtain ⟨⟨c0, c1, c2, c3, c4, c5⟩, f0, f1, f2, f3, f4, f5⟩ := k1.out.six
  obtain ⟨⟨d0, d1, d2, d3, d4, d5⟩, g0, g1, g2, g3, g4, g5⟩ := k2.out.six
  go_wp2_with fail
  refine bodyPost_ret (v := .tuple #[.agg #[.int .i64 0, .int .i64 0, .int .i64 0, .int .i64 0, .int .i64 0, .int .i64 0], .int .i64 17]) (by simp [results, Try.results36, go_sem, *]) rfl ⟨rfl, ?_⟩
  repeat' (first | with_reducible exact hB.out | with_reducible apply Below.drew | with_reducible apply Below.drewN' | with_reducible apply Below.setCell)
  all_goals (show w.heap.size ≤ w.heap.size + 1; omega)
def InvMid (a b c d e f o0 o1 o2 o3 : Int) (w : World) (v : Value) (wx : World) : Prop :=
  ∃ g, v = .pointer (some ⟨g, 0, none⟩) ∧ Bx wx w.heap.size 31 #[.int .i64 a, .int .i64 b, .int .i64 c, .int .i64 d, .int .i64 e, .int .i64 f] ∧ Bx wx (w.heap.size + 1) 31 #[.int .i64 0, .int .i64 0, .int .i64 0, .int .i64 0, .int .i64 0, .int .i64 0] ∧ Bx wx g 31 #[.int .i64 o0, .int .i64 o1, .int .i64 o2, .int .i64 o3, .int .i64 0, .int .i64 0] ∧ Below w.heap.size w wx ∧ w.heap.size + 1 < g
set_option maxRecDepth 100000 in
set_option maxHeartbeats 8000000 in
theorem inv_e2 (a b c d e f m1 m2 Dt nb nc n0 n1 n2 n3 o0 o1 o2 o3 E2 : Int) (w : World)
    (CK1 : ∀ w, Calls Try.prog 70 #[.agg #[.int .i64 a, .int .i64 b, .int .i64 c, .int .i64 d, .int .i64 e, .int .i64 f]] w fun z w' => z = .returned (.int .i64 0) ∧ Below w.heap.size w w')
    (x1 : IntKind.i64.wrap (a * d) = m1)
    (x2 : IntKind.i64.wrap (b * c) = m2)
    (x3 : IntKind.i64.wrap (m1 - m2) = Dt)
    (t2 : (Dt == 0) = false)
    (y0 : IntKind.i64.wrap (d * 4294967296) = n0)
    (y1 : IntKind.i64.wrap (-b) = nb)
    (y2 : IntKind.i64.wrap (nb * 4294967296) = n1)
    (y3 : IntKind.i64.wrap (-c) = nc)
    (y4 : IntKind.i64.wrap (nc * 4294967296) = n2)
    (y5 : IntKind.i64.wrap (a * 4294967296) = n3)
    (D0 : ∀ w, Calls Try.prog 50 #[.int .i64 n0, .int .i64 Dt] w fun z w' => z = .returned (.int .i64 o0) ∧ w = w')
    (D1 : ∀ w, Calls Try.prog 50 #[.int .i64 n1, .int .i64 Dt] w fun z w' => z = .returned (.int .i64 o1) ∧ w = w')
    (D2 : ∀ w, Calls Try.prog 50 #[.int .i64 n2, .int .i64 Dt] w fun z w' => z = .returned (.int .i64 o2) ∧ w = w')
    (D3 : ∀ w, Calls Try.prog 50 #[.int .i64 n3, .int .i64 Dt] w fun z w' => z = .returned (.int .i64 o3) ∧ w = w')
    (CK2 : ∀ w, Calls Try.prog 70 #[.agg #[.int .i64 o0, .int .i64 o1, .int .i64 o2, .int .i64 o3, .int .i64 0, .int .i64 0]] w fun z w' => z = .returned (.int .i64 E2) ∧ Below w.heap.size w w')
    (t3 : (E2 != 0) = true)
    : Calls Try.prog 36 #[.agg #[.int .i64 a, .int .i64 b, .int .i64 c, .int .i64 d, .int .i64 e, .int .i64 f]] w fun z w' => z = .returned (.tuple #[.agg #[.int .i64 0, .int .i64 0, .int .i64 0, .int .i64 0, .int .i64 0, .int .i64 0], .int .i64 17]) ∧ Below w.heap.size w w' := by
  replace CK1 := Lib.hid CK1
  replace D0 := Lib.hid D0
  replace D1 := Lib.hid D1
  replace D2 := Lib.hid D2
  replace D3 := Lib.hid D3
  replace CK2 := Lib.hid CK2
  go_enter Try.func36, Try.ntmps36
  go_wp2_with fail
  obtain ⟨k1, k2, hB⟩ := inv_boxes w a b c d e f _ rfl
  refine (CK1.out _).mono ?_
  rintro z w1 ⟨rfl, hb⟩
  replace k1 := Lib.hid (k1.below hb); replace k2 := Lib.hid (k2.below hb); replace hB := Lib.hid (bel_trans hB hb)
  clear hb CK1
  obtain ⟨⟨c0, c1, c2, c3, c4, c5⟩, f0, f1, f2, f3, f4, f5⟩ := k1.out.six
  go_upto_region 7 with fail
  clear x1 x2 x3 t2
  have j0 := World.new_ne w1 _ c0
  go_cut [6] (InvMid a b c d e f o0 o1 o2 o3 w)
  case first =>
    clear f0 f1 f2 f3 f4 f5 c4 c5
    go_region_held3 (fun w' => w'.cell? ⟨w.heap.size, 0, none⟩ = some (.int .i64 a) ∧ w'.cell? ⟨w.heap.size, 1, none⟩ = some (.int .i64 b) ∧ w'.cell? ⟨w.heap.size, 2, none⟩ = some (.int .i64 c) ∧ w'.cell? ⟨w.heap.size, 3, none⟩ = some (.int .i64 d))
      (go_keep)
      ((go_at_call 50; (first | with_reducible refine (D0.out _).mono ?_ | with_reducible refine (D1.out _).mono ?_ | with_reducible refine (D2.out _).mono ?_ | with_reducible refine (D3.out _).mono ?_); rintro z w6 ⟨rfl, rfl⟩))
    all_goals
      go_wp2_with fail
      go_meet
      exact ⟨_, rfl, (k1.out.drew).alloc _, (k2.out.drew).alloc _, Bx.new _ _ _, bel_alloc hB.out.drew _, k2.out.lt⟩
  case rest =>
  clear k1 k2 hB D0 D1 D2 D3 j0 y0 y1 y2 y3 y4 y5
  clear c0 c1 c2 c3 c4 c5 f0 f1 f2 f3 f4 f5
  obtain ⟨g, rfl, k1, k2, k3, hB, hg⟩ := hcut
  replace k1 := Lib.hid k1; replace k2 := Lib.hid k2; replace k3 := Lib.hid k3; replace hB := Lib.hid hB; have HG := Lib.hid hg; clear hg
  obtain ⟨⟨c0, c1, c2, c3, c4, c5⟩, f0, f1, f2, f3, f4, f5⟩ := k3.out.six
  go_wp2_with fail
  clear c0 c1 c2 c3 c4 c5 f0 f1 f2 f3 f4 f5
  refine (CK2.out _).mono ?_
  rintro z w2 ⟨rfl, hb⟩
  replace k1 := Lib.hid (k1.out.below hb); replace k2 := Lib.hid (k2.out.below hb); replace k3 := Lib.hid (k3.out.below hb); replace hB := Lib.hid (bel_trans hB.out hb)
  clear hb CK2
  obtain ⟨⟨d0, d1, d2, d3, d4, d5⟩, g0, g1, g2, g3, g4, g5⟩ := k2.out.six
  go_wp2_with fail
  refine bodyPost_ret (v := .tuple #[.agg #[.int .i64 0, .int .i64 0, .int .i64 0, .int .i64 0, .int .i64 0, .int .i64 0], .int .i64 17]) (by simp [results, Try.results36, go_sem, *]) rfl ⟨rfl, ?_⟩
  repeat' (first | with_reducible exact hB.out | with_reducible apply Below.drew | with_reducible apply Below.drewN' | with_reducible apply Below.setCell)
  all_goals (show w.heap.size ≤ w.heap.size + 1; omega)
set_option maxRecDepth 100000 in
set_option maxHeartbeats 8000000 in
theorem inv_e3 (a b c d e f m1 m2 Dt nb nc n0 n1 n2 n3 o0 o1 o2 o3 z0 z1 z2 z3 o4 o5 E3 : Int) (w : World)
    (CK1 : ∀ w, Calls Try.prog 70 #[.agg #[.int .i64 a, .int .i64 b, .int .i64 c, .int .i64 d, .int .i64 e, .int .i64 f]] w fun z w' => z = .returned (.int .i64 0) ∧ Below w.heap.size w w')
    (x1 : IntKind.i64.wrap (a * d) = m1)
    (x2 : IntKind.i64.wrap (b * c) = m2)
    (x3 : IntKind.i64.wrap (m1 - m2) = Dt)
    (t2 : (Dt == 0) = false)
    (y0 : IntKind.i64.wrap (d * 4294967296) = n0)
    (y1 : IntKind.i64.wrap (-b) = nb)
    (y2 : IntKind.i64.wrap (nb * 4294967296) = n1)
    (y3 : IntKind.i64.wrap (-c) = nc)
    (y4 : IntKind.i64.wrap (nc * 4294967296) = n2)
    (y5 : IntKind.i64.wrap (a * 4294967296) = n3)
    (D0 : ∀ w, Calls Try.prog 50 #[.int .i64 n0, .int .i64 Dt] w fun z w' => z = .returned (.int .i64 o0) ∧ w = w')
    (D1 : ∀ w, Calls Try.prog 50 #[.int .i64 n1, .int .i64 Dt] w fun z w' => z = .returned (.int .i64 o1) ∧ w = w')
    (D2 : ∀ w, Calls Try.prog 50 #[.int .i64 n2, .int .i64 Dt] w fun z w' => z = .returned (.int .i64 o2) ∧ w = w')
    (D3 : ∀ w, Calls Try.prog 50 #[.int .i64 n3, .int .i64 Dt] w fun z w' => z = .returned (.int .i64 o3) ∧ w = w')
    (CK2 : ∀ w, Calls Try.prog 70 #[.agg #[.int .i64 o0, .int .i64 o1, .int .i64 o2, .int .i64 o3, .int .i64 0, .int .i64 0]] w fun z w' => z = .returned (.int .i64 0) ∧ Below w.heap.size w w')
    (u0 : IntKind.i64.wrap (-o0) = z0)
    (u2 : IntKind.i64.wrap (-o2) = z2)
    (u1 : IntKind.i64.wrap (-o1) = z1)
    (u3 : IntKind.i64.wrap (-o3) = z3)
    (DA : ∀ w, Calls Try.prog 71 #[.int .i64 z0, .int .i64 e, .int .i64 z2, .int .i64 f] w fun z w' => z = .returned (.int .i64 o4) ∧ w = w')
    (DB : ∀ w, Calls Try.prog 71 #[.int .i64 z1, .int .i64 e, .int .i64 z3, .int .i64 f] w fun z w' => z = .returned (.int .i64 o5) ∧ w = w')
    (CK3 : ∀ w, Calls Try.prog 70 #[.agg #[.int .i64 o0, .int .i64 o1, .int .i64 o2, .int .i64 o3, .int .i64 o4, .int .i64 o5]] w fun z w' => z = .returned (.int .i64 E3) ∧ Below w.heap.size w w')
    (t4 : (E3 != 0) = true)
    : Calls Try.prog 36 #[.agg #[.int .i64 a, .int .i64 b, .int .i64 c, .int .i64 d, .int .i64 e, .int .i64 f]] w fun z w' => z = .returned (.tuple #[.agg #[.int .i64 0, .int .i64 0, .int .i64 0, .int .i64 0, .int .i64 0, .int .i64 0], .int .i64 17]) ∧ Below w.heap.size w w' := by
  replace CK1 := Lib.hid CK1
  replace D0 := Lib.hid D0
  replace D1 := Lib.hid D1
  replace D2 := Lib.hid D2
  replace D3 := Lib.hid D3
  replace CK2 := Lib.hid CK2
  replace CK3 := Lib.hid CK3
  replace DA := Lib.hid DA
  replace DB := Lib.hid DB
  go_enter Try.func36, Try.ntmps36
  go_wp2_with fail
  obtain ⟨k1, k2, hB⟩ := inv_boxes w a b c d e f _ rfl
  refine (CK1.out _).mono ?_
  rintro z w1 ⟨rfl, hb⟩
  replace k1 := Lib.hid (k1.below hb); replace k2 := Lib.hid (k2.below hb); replace hB := Lib.hid (bel_trans hB hb)
  clear hb CK1
  obtain ⟨⟨c0, c1, c2, c3, c4, c5⟩, f0, f1, f2, f3, f4, f5⟩ := k1.out.six
  go_upto_region 7 with fail
  clear x1 x2 x3 t2
  have j0 := World.new_ne w1 _ c0
  go_cut [6] (InvMid a b c d e f o0 o1 o2 o3 w)
  case first =>
    clear f0 f1 f2 f3 f4 f5 c4 c5
    go_region_held3 (fun w' => w'.cell? ⟨w.heap.size, 0, none⟩ = some (.int .i64 a) ∧ w'.cell? ⟨w.heap.size, 1, none⟩ = some (.int .i64 b) ∧ w'.cell? ⟨w.heap.size, 2, none⟩ = some (.int .i64 c) ∧ w'.cell? ⟨w.heap.size, 3, none⟩ = some (.int .i64 d))
      (go_keep)
      ((go_at_call 50; (first | with_reducible refine (D0.out _).mono ?_ | with_reducible refine (D1.out _).mono ?_ | with_reducible refine (D2.out _).mono ?_ | with_reducible refine (D3.out _).mono ?_); rintro z w6 ⟨rfl, rfl⟩))
    all_goals
      go_wp2_with fail
      go_meet
      exact ⟨_, rfl, (k1.out.drew).alloc _, (k2.out.drew).alloc _, Bx.new _ _ _, bel_alloc hB.out.drew _, k2.out.lt⟩
  case rest =>
  clear k1 k2 hB D0 D1 D2 D3 j0 y0 y1 y2 y3 y4 y5
  clear c0 c1 c2 c3 c4 c5 f0 f1 f2 f3 f4 f5
  obtain ⟨g, rfl, k1, k2, k3, hB, hg⟩ := hcut
  replace k1 := Lib.hid k1; replace k2 := Lib.hid k2; replace k3 := Lib.hid k3; replace hB := Lib.hid hB; have HG := Lib.hid hg; clear hg
  obtain ⟨⟨c0, c1, c2, c3, c4, c5⟩, f0, f1, f2, f3, f4, f5⟩ := k3.out.six
  go_wp2_with fail
  clear c0 c1 c2 c3 c4 c5 f0 f1 f2 f3 f4 f5
  refine (CK2.out _).mono ?_
  rintro z w2 ⟨rfl, hb⟩
  replace k1 := Lib.hid (k1.out.below hb); replace k2 := Lib.hid (k2.out.below hb); replace k3 := Lib.hid (k3.out.below hb); replace hB := Lib.hid (bel_trans hB.out hb)
  clear hb CK2
  obtain ⟨⟨c0, c1, c2, c3, c4, c5⟩, f0, f1, f2, f3, f4, f5⟩ := k1.out.six
  obtain ⟨⟨d0, d1, d2, d3, d4, d5⟩, g0, g1, g2, g3, g4, g5⟩ := k3.out.six
  have n1 : g ≠ w.heap.size := by have := HG.out; omega
  have n2 : g ≠ w.heap.size + 1 := by have := HG.out; omega
  have n3 : w.heap.size ≠ g := fun e => n1 e.symm
  have n4 : w.heap.size + 1 ≠ g := fun e => n2 e.symm
  go_upto_region 12 with ((go_at_call 71; (first | with_reducible refine (DA.out _).mono ?_ | with_reducible refine (DB.out _).mono ?_); rintro z w6 ⟨rfl, rfl⟩))
  have h1 := HG.out
  replace k1 := Lib.hid ((k1.out.other (g' := g) (by omega) 4 (.int .i64 o4)).other (g' := g) (by omega) 5 (.int .i64 o5))
  replace k2 := Lib.hid ((k2.out.other (g' := g) (by omega) 4 (.int .i64 o4)).other (g' := g) (by omega) 5 (.int .i64 o5))
  replace k3 := Lib.hid (show Bx _ g 31 #[.int .i64 o0, .int .i64 o1, .int .i64 o2, .int .i64 o3, .int .i64 o4, .int .i64 o5] from (k3.out.set 4 (.int .i64 o4)).set 5 (.int .i64 o5))
  replace hB := Lib.hid ((hB.out.setCell (p := ⟨g, 4, none⟩) (show w.heap.size ≤ g by omega) (.int .i64 o4)).setCell (p := ⟨g, 5, none⟩) (show w.heap.size ≤ g by omega) (.int .i64 o5))
  clear h1 DA DB u0 u1 u2 u3 n1 n2 n3 n4
  clear c0 c1 c2 c3 c4 c5 f0 f1 f2 f3 f4 f5
  clear d0 d1 d2 d3 d4 d5 g0 g1 g2 g3 g4 g5
  generalize World.setCell (World.setCell w2 _ _) _ _ = w3 at *
  obtain ⟨⟨d0, d1, d2, d3, d4, d5⟩, g0, g1, g2, g3, g4, g5⟩ := k3.out.six
  go_wp2_with fail
  clear d0 d1 d2 d3 d4 d5 g0 g1 g2 g3 g4 g5
  refine (CK3.out _).mono ?_
  rintro z w4 ⟨rfl, hb⟩
  replace k2 := Lib.hid (k2.out.below hb); replace k3 := Lib.hid (k3.out.below hb); replace hB := Lib.hid (bel_trans hB.out hb)
  clear hb CK3 k1
  obtain ⟨⟨d0, d1, d2, d3, d4, d5⟩, g0, g1, g2, g3, g4, g5⟩ := k2.out.six
  have n1 : g ≠ w.heap.size := by have := HG.out; omega
  have n2 : g ≠ w.heap.size + 1 := by have := HG.out; omega
  have n3 : w.heap.size ≠ g := fun e => n1 e.symm
  have n4 : w.heap.size + 1 ≠ g := fun e => n2 e.symm
  go_wp2_with fail
  refine bodyPost_ret (v := .tuple #[.agg #[.int .i64 0, .int .i64 0, .int .i64 0, .int .i64 0, .int .i64 0, .int .i64 0], .int .i64 17]) (by simp [results, Try.results36, go_sem, *]) rfl ⟨rfl, ?_⟩
  repeat' (first | with_reducible exact hB.out | with_reducible apply Below.drew | with_reducible apply Below.drewN' | with_reducible apply Below.setCell)
  all_goals (show w.heap.size ≤ w.heap.size + 1; omega)
set_option maxRecDepth 100000 in
set_option maxHeartbeats 8000000 in
theorem inv_ok (a b c d e f m1 m2 Dt nb nc n0 n1 n2 n3 o0 o1 o2 o3 z0 z1 z2 z3 o4 o5 : Int) (w : World)
    (CK1 : ∀ w, Calls Try.prog 70 #[.agg #[.int .i64 a, .int .i64 b, .int .i64 c, .int .i64 d, .int .i64 e, .int .i64 f]] w fun z w' => z = .returned (.int .i64 0) ∧ Below w.heap.size w w')
    (x1 : IntKind.i64.wrap (a * d) = m1)
    (x2 : IntKind.i64.wrap (b * c) = m2)
    (x3 : IntKind.i64.wrap (m1 - m2) = Dt)
    (t2 : (Dt == 0) = false)
    (y0 : IntKind.i64.wrap (d * 4294967296) = n0)
    (y1 : IntKind.i64.wrap (-b) = nb)
    (y2 : IntKind.i64.wrap (nb * 4294967296) = n1)
    (y3 : IntKind.i64.wrap (-c) = nc)
    (y4 : IntKind.i64.wrap (nc * 4294967296) = n2)
    (y5 : IntKind.i64.wrap (a * 4294967296) = n3)
    (D0 : ∀ w, Calls Try.prog 50 #[.int .i64 n0, .int .i64 Dt] w fun z w' => z = .returned (.int .i64 o0) ∧ w = w')
    (D1 : ∀ w, Calls Try.prog 50 #[.int .i64 n1, .int .i64 Dt] w fun z w' => z = .returned (.int .i64 o1) ∧ w = w')
    (D2 : ∀ w, Calls Try.prog 50 #[.int .i64 n2, .int .i64 Dt] w fun z w' => z = .returned (.int .i64 o2) ∧ w = w')
    (D3 : ∀ w, Calls Try.prog 50 #[.int .i64 n3, .int .i64 Dt] w fun z w' => z = .returned (.int .i64 o3) ∧ w = w')
    (CK2 : ∀ w, Calls Try.prog 70 #[.agg #[.int .i64 o0, .int .i64 o1, .int .i64 o2, .int .i64 o3, .int .i64 0, .int .i64 0]] w fun z w' => z = .returned (.int .i64 0) ∧ Below w.heap.size w w')
    (u0 : IntKind.i64.wrap (-o0) = z0)
    (u2 : IntKind.i64.wrap (-o2) = z2)
    (u1 : IntKind.i64.wrap (-o1) = z1)
    (u3 : IntKind.i64.wrap (-o3) = z3)
    (DA : ∀ w, Calls Try.prog 71 #[.int .i64 z0, .int .i64 e, .int .i64 z2, .int .i64 f] w fun z w' => z = .returned (.int .i64 o4) ∧ w = w')
    (DB : ∀ w, Calls Try.prog 71 #[.int .i64 z1, .int .i64 e, .int .i64 z3, .int .i64 f] w fun z w' => z = .returned (.int .i64 o5) ∧ w = w')
    (CK3 : ∀ w, Calls Try.prog 70 #[.agg #[.int .i64 o0, .int .i64 o1, .int .i64 o2, .int .i64 o3, .int .i64 o4, .int .i64 o5]] w fun z w' => z = .returned (.int .i64 0) ∧ Below w.heap.size w w')
    : Calls Try.prog 36 #[.agg #[.int .i64 a, .int .i64 b, .int .i64 c, .int .i64 d, .int .i64 e, .int .i64 f]] w fun z w' => z = .returned (.tuple #[.agg #[.int .i64 o0, .int .i64 o1, .int .i64 o2, .int .i64 o3, .int .i64 o4, .int .i64 o5], .int .i64 0]) ∧ Below w.heap.size w w' := by
  replace CK1 := Lib.hid CK1
  replace D0 := Lib.hid D0
  replace D1 := Lib.hid D1
  replace D2 := Lib.hid D2
  replace D3 := Lib.hid D3
  replace CK2 := Lib.hid CK2
  replace CK3 := Lib.hid CK3
  replace DA := Lib.hid DA
  replace DB := Lib.hid DB
  go_enter Try.func36, Try.ntmps36
  go_wp2_with fail
  obtain ⟨k1, k2, hB⟩ := inv_boxes w a b c d e f _ rfl
  refine (CK1.out _).mono ?_
  rintro z w1 ⟨rfl, hb⟩
  replace k1 := Lib.hid (k1.below hb); replace k2 := Lib.hid (k2.below hb); replace hB := Lib.hid (bel_trans hB hb)
  clear hb CK1
  obtain ⟨⟨c0, c1, c2, c3, c4, c5⟩, f0, f1, f2, f3, f4, f5⟩ := k1.out.six
  go_upto_region 7 with fail
  clear x1 x2 x3 t2
  have j0 := World.new_ne w1 _ c0
  go_cut [6] (InvMid a b c d e f o0 o1 o2 o3 w)
  case first =>
    clear f0 f1 f2 f3 f4 f5 c4 c5
    go_region_held3 (fun w' => w'.cell? ⟨w.heap.size, 0, none⟩ = some (.int .i64 a) ∧ w'.cell? ⟨w.heap.size, 1, none⟩ = some (.int .i64 b) ∧ w'.cell? ⟨w.heap.size, 2, none⟩ = some (.int .i64 c) ∧ w'.cell? ⟨w.heap.size, 3, none⟩ = some (.int .i64 d))
      (go_keep)
      ((go_at_call 50; (first | with_reducible refine (D0.out _).mono ?_ | with_reducible refine (D1.out _).mono ?_ | with_reducible refine (D2.out _).mono ?_ | with_reducible refine (D3.out _).mono ?_); rintro z w6 ⟨rfl, rfl⟩))
    all_goals
      go_wp2_with fail
      go_meet
      exact ⟨_, rfl, (k1.out.drew).alloc _, (k2.out.drew).alloc _, Bx.new _ _ _, bel_alloc hB.out.drew _, k2.out.lt⟩
  case rest =>
  clear k1 k2 hB D0 D1 D2 D3 j0 y0 y1 y2 y3 y4 y5
  clear c0 c1 c2 c3 c4 c5 f0 f1 f2 f3 f4 f5
  obtain ⟨g, rfl, k1, k2, k3, hB, hg⟩ := hcut
  replace k1 := Lib.hid k1; replace k2 := Lib.hid k2; replace k3 := Lib.hid k3; replace hB := Lib.hid hB; have HG := Lib.hid hg; clear hg
  obtain ⟨⟨c0, c1, c2, c3, c4, c5⟩, f0, f1, f2, f3, f4, f5⟩ := k3.out.six
  go_wp2_with fail
  clear c0 c1 c2 c3 c4 c5 f0 f1 f2 f3 f4 f5
  refine (CK2.out _).mono ?_
  rintro z w2 ⟨rfl, hb⟩
  replace k1 := Lib.hid (k1.out.below hb); replace k2 := Lib.hid (k2.out.below hb); replace k3 := Lib.hid (k3.out.below hb); replace hB := Lib.hid (bel_trans hB.out hb)
  clear hb CK2
  obtain ⟨⟨c0, c1, c2, c3, c4, c5⟩, f0, f1, f2, f3, f4, f5⟩ := k1.out.six
  obtain ⟨⟨d0, d1, d2, d3, d4, d5⟩, g0, g1, g2, g3, g4, g5⟩ := k3.out.six
  have n1 : g ≠ w.heap.size := by have := HG.out; omega
  have n2 : g ≠ w.heap.size + 1 := by have := HG.out; omega
  have n3 : w.heap.size ≠ g := fun e => n1 e.symm
  have n4 : w.heap.size + 1 ≠ g := fun e => n2 e.symm
  go_upto_region 12 with ((go_at_call 71; (first | with_reducible refine (DA.out _).mono ?_ | with_reducible refine (DB.out _).mono ?_); rintro z w6 ⟨rfl, rfl⟩))
  have h1 := HG.out
  replace k1 := Lib.hid ((k1.out.other (g' := g) (by omega) 4 (.int .i64 o4)).other (g' := g) (by omega) 5 (.int .i64 o5))
  replace k2 := Lib.hid ((k2.out.other (g' := g) (by omega) 4 (.int .i64 o4)).other (g' := g) (by omega) 5 (.int .i64 o5))
  replace k3 := Lib.hid (show Bx _ g 31 #[.int .i64 o0, .int .i64 o1, .int .i64 o2, .int .i64 o3, .int .i64 o4, .int .i64 o5] from (k3.out.set 4 (.int .i64 o4)).set 5 (.int .i64 o5))
  replace hB := Lib.hid ((hB.out.setCell (p := ⟨g, 4, none⟩) (show w.heap.size ≤ g by omega) (.int .i64 o4)).setCell (p := ⟨g, 5, none⟩) (show w.heap.size ≤ g by omega) (.int .i64 o5))
  clear h1 DA DB u0 u1 u2 u3 n1 n2 n3 n4
  clear c0 c1 c2 c3 c4 c5 f0 f1 f2 f3 f4 f5
  clear d0 d1 d2 d3 d4 d5 g0 g1 g2 g3 g4 g5
  generalize World.setCell (World.setCell w2 _ _) _ _ = w3 at *
  obtain ⟨⟨d0, d1, d2, d3, d4, d5⟩, g0, g1, g2, g3, g4, g5⟩ := k3.out.six
  go_wp2_with fail
  clear d0 d1 d2 d3 d4 d5 g0 g1 g2 g3 g4 g5
  refine (CK3.out _).mono ?_
  rintro z w4 ⟨rfl, hb⟩
  replace k2 := Lib.hid (k2.out.below hb); replace k3 := Lib.hid (k3.out.below hb); replace hB := Lib.hid (bel_trans hB.out hb)
  clear hb CK3 k1
  obtain ⟨⟨d0, d1, d2, d3, d4, d5⟩, g0, g1, g2, g3, g4, g5⟩ := k2.out.six
  obtain ⟨⟨c0, c1, c2, c3, c4, c5⟩, f0, f1, f2, f3, f4, f5⟩ := k3.out.six
  have n1 : g ≠ w.heap.size := by have := HG.out; omega
  have n2 : g ≠ w.heap.size + 1 := by have := HG.out; omega
  have n3 : w.heap.size ≠ g := fun e => n1 e.symm
  have n4 : w.heap.size + 1 ≠ g := fun e => n2 e.symm
  go_wp2_with fail
  refine bodyPost_ret (v := .tuple #[.agg #[.int .i64 o0, .int .i64 o1, .int .i64 o2, .int .i64 o3, .int .i64 o4, .int .i64 o5], .int .i64 0]) (by simp [results, Try.results36, go_sem, *]) rfl ⟨rfl, ?_⟩
  repeat' (first | with_reducible exact hB.out | with_reducible apply Below.drew | with_reducible apply Below.drewN' | with_reducible apply Below.setCell)
  all_goals (show w.heap.size ≤ w.heap.size + 1; omega)
end Go.Proofs.Ytineinmghajmnaa
