/- The walks of WarpMeshes, WarpNeeds, WarpDraws. -/
import Derived.Test.YtbakgdcajpagkaaMP
import Derived.Test.YtbakgdcajpagkaaMO
import Derived.Test.YtbakgdcajpagkaaMU
import Derived.Deep.DeepCutAuto
namespace Go.Proofs.Ytbakgdcajpagkaa
open Go.RowKit
theorem fr_five (w : World) (a b c d e : Array Value) (ta tb tc td te : TypeId) (w0 : World) (hw : w0 = ((((w.alloc (.cells a ta)).alloc (.cells b tb)).alloc (.cells c tc)).alloc (.cells d td)).alloc (.cells e te)) : Fr w [(ta, a), (tb, b), (tc, c), (td, d), (te, e)] w0 := by
  obtain ⟨⟨k1, k2, k3, k4, -⟩, hB⟩ := fr_four w a b c d ta tb tc td _ rfl
  subst hw
  have n5 := Bx.new ((((w.alloc (.cells a ta)).alloc (.cells b tb)).alloc (.cells c tc)).alloc (.cells d td)) te e
  simp only [World.size_alloc] at n5
  exact ⟨⟨k1.alloc _, k2.alloc _, k3.alloc _, k4.alloc _, n5, trivial⟩, bel_alloc hB _⟩
/-- The law holds. -/
def YesPost (w : World) (e : Ending) (w' : World) : Prop := e = .returned (.bool true) ∧ Below w.heap.size w w'
set_option maxRecDepth 100000 in
set_option maxHeartbeats 8000000 in
theorem meshes_core (C R S x y E r : Int) (p : Int × Int) (sl : Value) (w : World)
    (T1 : ∀ w', Below w.heap.size w w' → Calls Try.prog 10 #[.agg #[.int .i64 C, .int .i64 R, .int .i64 S, sl]] w' fun e w'' => e = .returned (.int .i64 E) ∧ Below w'.heap.size w' w'')
    (T2 : ∀ w', Below w.heap.size w w' → Calls Try.prog 11 #[.agg #[.int .i64 C, .int .i64 R, .int .i64 S, sl]] w' fun e w'' => e = .returned (.int .i64 E) ∧ Below w'.heap.size w' w'')
    (T3 : ∀ w', Below w.heap.size w w' → Calls Try.prog 12 #[.agg #[.int .i64 C, .int .i64 R, .int .i64 S, sl], .int .i64 x, .int .i64 y] w' fun e w'' => e = .returned (.agg #[.int .i64 p.1, .int .i64 p.2]) ∧ Below w'.heap.size w' w'')
    (T4 : ∀ w', Below w.heap.size w w' → Calls Try.prog 13 #[.agg #[.int .i64 C, .int .i64 R, .int .i64 S, sl], .int .i64 x, .int .i64 y] w' fun e w'' => e = .returned (.agg #[.int .i64 p.1, .int .i64 p.2]) ∧ Below w'.heap.size w' w'')
    (T5 : ∀ w', Below w.heap.size w w' → Calls Try.prog 14 #[.agg #[.int .i64 C, .int .i64 R, .int .i64 S, sl]] w' fun e w'' => e = .returned (.int .i64 r) ∧ Below w'.heap.size w' w'')
    (T6 : ∀ w', Below w.heap.size w w' → Calls Try.prog 15 #[.agg #[.int .i64 C, .int .i64 R, .int .i64 S, sl]] w' fun e w'' => e = .returned (.int .i64 r) ∧ Below w'.heap.size w' w'')
    (T7 : ∀ w', Calls Try.prog 16 #[] w' fun e w'' => e = .returned (.bool true) ∧ Below w'.heap.size w' w'') :
    Calls Try.prog 3 #[.agg #[.int .i64 C, .int .i64 R, .int .i64 S, sl], .int .i64 x, .int .i64 y] w (YesPost w) := by
  replace T1 := Lib.hid T1; replace T2 := Lib.hid T2; replace T3 := Lib.hid T3; replace T4 := Lib.hid T4; replace T5 := Lib.hid T5; replace T6 := Lib.hid T6; replace T7 := Lib.hid T7
  obtain ⟨p1, p2⟩ := p
  dsimp only at T3 T4
  go_enter Try.func3, Try.ntmps3
  go_upto_region 1 with fail
  obtain ⟨hb3, hB, -⟩ := one_box w #[.int .i64 C, .int .i64 R, .int .i64 S, sl] 24 _ rfl
  generalize World.alloc w _ = w0 at *
  have HSA := Lib.hid (show ∀ wq, Below w.heap.size w wq ∧ Below w0.heap.size w0 wq → wq.cell? ⟨w.heap.size, 0, none⟩ = some (.int .i64 C) ∧ wq.cell? ⟨w.heap.size, 1, none⟩ = some (.int .i64 R) ∧ wq.cell? ⟨w.heap.size, 2, none⟩ = some (.int .i64 S) ∧ wq.cell? ⟨w.heap.size, 3, none⟩ = some sl from fun wq hb => (hb3.below hb.2).four.1)
  have hBv : Below w.heap.size w w0.drew ∧ Below w0.heap.size w0 w0.drew := ⟨hB.drew, (Below.refl w0.heap.size w0).drew⟩
  have hS0 := HSA.out _ hBv
  clear hB hb3
  go_region_held3 (fun wq => wq.cell? ⟨w.heap.size, 0, none⟩ = some (.int .i64 C) ∧ wq.cell? ⟨w.heap.size, 1, none⟩ = some (.int .i64 R) ∧ wq.cell? ⟨w.heap.size, 2, none⟩ = some (.int .i64 S) ∧ wq.cell? ⟨w.heap.size, 3, none⟩ = some sl)
    (first | assumption | exact hS0 | exact HSA.out _ hBv | go_keep)
    (first
      | ((with_reducible refine (T1.out _ hBv.1).mono ?_); rintro e wv ⟨rfl, hbv⟩; have hBv := And.intro (bel_trans hBv.1 hbv) (bel_trans hBv.2 hbv))
      | ((with_reducible refine (T2.out _ hBv.1).mono ?_); rintro e wv ⟨rfl, hbv⟩; have hBv := And.intro (bel_trans hBv.1 hbv) (bel_trans hBv.2 hbv))
      | ((with_reducible refine (T3.out _ hBv.1).mono ?_); rintro e wv ⟨rfl, hbv⟩; have hBv := And.intro (bel_trans hBv.1 hbv) (bel_trans hBv.2 hbv))
      | ((with_reducible refine (T4.out _ hBv.1).mono ?_); rintro e wv ⟨rfl, hbv⟩; have hBv := And.intro (bel_trans hBv.1 hbv) (bel_trans hBv.2 hbv))
      | ((with_reducible refine (T5.out _ hBv.1).mono ?_); rintro e wv ⟨rfl, hbv⟩; have hBv := And.intro (bel_trans hBv.1 hbv) (bel_trans hBv.2 hbv))
      | ((with_reducible refine (T6.out _ hBv.1).mono ?_); rintro e wv ⟨rfl, hbv⟩; have hBv := And.intro (bel_trans hBv.1 hbv) (bel_trans hBv.2 hbv))
      | ((with_reducible refine (T7.out _).mono ?_); rintro e wv ⟨rfl, hbv⟩; have hBv := And.intro (bel_trans hBv.1 hbv) (bel_trans hBv.2 hbv)))
  go_wp2_with fail
  go_ret
  exact ⟨by simp, hBv.1⟩
theorem walk_meshes (v0 : Value) (x0 : Int × Int × Int × List (Int × Int)) (x y : Int) (w : World) (h : WarpV w v0 x0) :
    Calls Try.prog 3 #[v0, .int .i64 x, .int .i64 y] w fun e w' => e = .returned (.bool true) ∧ Below w.heap.size w w' := by
  obtain ⟨C, R, S, ks⟩ := x0
  obtain ⟨⟨A, c, rfl, hk⟩, -⟩ := h
  exact meshes_core C R S x y _ _ (wat C R S ks x y) _ w (fun w' hb => wcheck_any C R S A c ks w' (hk.on hb)) (fun w' hb => rwcheck_any C R S A c ks w' (hk.on hb)) (fun w' hb => wat_any C R S A c ks x y w' (hk.on hb)) (fun w' hb => rat_any C R S A c ks x y w' (hk.on hb)) (fun w' hb => reach_any C R S A c ks w' (hk.on hb)) (fun w' hb => rreach_any C R S A c ks w' (hk.on hb)) awake_any
set_option maxRecDepth 100000 in
set_option maxHeartbeats 8000000 in
theorem wneeds_core (C R S kind E : Int) (o b n : Rk) (sl : Value) (w : World)
    (T1 : ∀ w', Below w.heap.size w w' → Calls Try.prog 17 #[.agg #[.int .i64 C, .int .i64 R, .int .i64 S, sl], .int .i64 kind, .agg #[.int .i64 o.x, .int .i64 o.y, .int .i64 o.w, .int .i64 o.h], .agg #[.int .i64 b.x, .int .i64 b.y, .int .i64 b.w, .int .i64 b.h]] w' fun e w'' => e = .returned (.tuple #[.agg #[.int .i64 n.x, .int .i64 n.y, .int .i64 n.w, .int .i64 n.h], .int .i64 E]) ∧ Below w'.heap.size w' w'')
    (T2 : ∀ w', Below w.heap.size w w' → Calls Try.prog 18 #[.agg #[.int .i64 C, .int .i64 R, .int .i64 S, sl], .int .i64 kind, .agg #[.int .i64 o.x, .int .i64 o.y, .int .i64 o.w, .int .i64 o.h], .agg #[.int .i64 b.x, .int .i64 b.y, .int .i64 b.w, .int .i64 b.h]] w' fun e w'' => e = .returned (.tuple #[.agg #[.int .i64 n.x, .int .i64 n.y, .int .i64 n.w, .int .i64 n.h], .int .i64 E]) ∧ Below w'.heap.size w' w'')
    (T7 : ∀ w', Calls Try.prog 16 #[] w' fun e w'' => e = .returned (.bool true) ∧ Below w'.heap.size w' w'') :
    Calls Try.prog 4 #[.agg #[.int .i64 C, .int .i64 R, .int .i64 S, sl], .int .i64 kind, .agg #[.int .i64 o.x, .int .i64 o.y, .int .i64 o.w, .int .i64 o.h], .agg #[.int .i64 b.x, .int .i64 b.y, .int .i64 b.w, .int .i64 b.h]] w (YesPost w) := by
  replace T1 := Lib.hid T1; replace T2 := Lib.hid T2; replace T7 := Lib.hid T7
  go_enter Try.func4, Try.ntmps4
  go_upto_region 1 with fail
  have K := Lib.hid (fr_three w #[.int .i64 C, .int .i64 R, .int .i64 S, sl] #[.int .i64 o.x, .int .i64 o.y, .int .i64 o.w, .int .i64 o.h] #[.int .i64 b.x, .int .i64 b.y, .int .i64 b.w, .int .i64 b.h] 24 34 34 _ rfl)
  generalize World.alloc (World.alloc (w.alloc _) _) _ = w0 at *
  obtain ⟨⟨i1, i2, i3, i4⟩, -⟩ := K.out.1.1.four
  obtain ⟨⟨j1, j2, j3, j4⟩, -⟩ := K.out.1.2.1.four
  obtain ⟨⟨k1, k2, k3, k4⟩, -⟩ := K.out.1.2.2.1.four
  go_wp2_with fail
  refine (T1.out _ K.out.2).mono ?_
  rintro e w1 ⟨rfl, hb⟩
  replace K := Lib.hid (K.out.below hb)
  clear hb i1 i2 i3 i4 j1 j2 j3 j4 k1 k2 k3 k4
  go_upto_region 2 with fail
  have K9 := Lib.hid (Bx.new w1 34 #[.int .i64 n.x, .int .i64 n.y, .int .i64 n.w, .int .i64 n.h])
  replace K := Lib.hid (K.out.below (bel1 w1 (.cells #[.int .i64 n.x, .int .i64 n.y, .int .i64 n.w, .int .i64 n.h] 34)))
  generalize World.alloc w1 _ = w2 at *
  generalize w1.heap.size = g9 at *
  obtain ⟨⟨i1, i2, i3, i4⟩, -⟩ := K.out.1.1.four
  obtain ⟨⟨j1, j2, j3, j4⟩, -⟩ := K.out.1.2.1.four
  obtain ⟨⟨k1, k2, k3, k4⟩, -⟩ := K.out.1.2.2.1.four
  go_wp2_with fail
  refine (T2.out _ K.out.2).mono ?_
  rintro e w3 ⟨rfl, hb⟩
  replace K := Lib.hid (K.out.below hb); replace K9 := Lib.hid (K9.out.below hb)
  clear hb i1 i2 i3 i4 j1 j2 j3 j4 k1 k2 k3 k4
  go_upto_region 3 with fail
  have K11 := Lib.hid (Bx.new w3 34 #[.int .i64 n.x, .int .i64 n.y, .int .i64 n.w, .int .i64 n.h])
  have hb4 := bel1 w3 (.cells #[.int .i64 n.x, .int .i64 n.y, .int .i64 n.w, .int .i64 n.h] 34)
  replace K := Lib.hid (K.out.below hb4); replace K9 := Lib.hid (K9.out.below hb4)
  clear hb4
  generalize World.alloc w3 _ = w4 at *
  generalize w3.heap.size = g11 at *
  obtain ⟨⟨i1, i2, i3, i4⟩, -⟩ := K9.out.four
  obtain ⟨⟨j1, j2, j3, j4⟩, -⟩ := K11.out.four
  have HB := Lib.hid K.out.2
  clear K K9 K11
  go_wp2_with fail
  refine (T7.out _).mono ?_
  rintro e w5 ⟨rfl, hb⟩
  clear i1 i2 i3 i4 j1 j2 j3 j4
  go_wp2_with fail
  go_ret
  exact ⟨by simp, bel_trans HB.out hb⟩
theorem walk_wneeds (v0 : Value) (x0 : Int × Int × Int × List (Int × Int)) (kind : Int) (v2 : Value) (o : Rk) (v3 : Value) (b : Rk) (w : World) (h : WarpV w v0 x0) (h2 : RkV v2 o) (h3 : RkV v3 b) :
    Calls Try.prog 4 #[v0, .int .i64 kind, v2, v3] w fun e w' => e = .returned (.bool true) ∧ Below w.heap.size w w' := by
  obtain ⟨C, R, S, ks⟩ := x0
  obtain ⟨⟨A, c, rfl, hk⟩, -⟩ := h
  obtain ⟨rfl, -⟩ := h2
  obtain ⟨rfl, -⟩ := h3
  exact wneeds_core C R S kind (wNE C R S ks kind o b) o b (wNR C R S ks kind o b) _ w (fun w' hb => needs_any C R S A c ks kind o b w' (hk.on hb)) (fun w' hb => rneeds_any C R S A c ks kind o b w' (hk.on hb)) awake_any
set_option maxRecDepth 100000 in
set_option maxHeartbeats 8000000 in
theorem wdraws_core (W H ax ay C R S kind E W' H' : Int) (o b : Rk) (vi sl : Value) (L : List Px) (w : World)
    (T1 : ∀ w', Below w.heap.size w w' → Calls Try.prog 19 #[.agg #[.int .i64 W, .int .i64 H, vi], .agg #[.int .i64 ax, .int .i64 ay], .agg #[.int .i64 b.x, .int .i64 b.y, .int .i64 b.w, .int .i64 b.h], .agg #[.int .i64 C, .int .i64 R, .int .i64 S, sl], .int .i64 kind, .agg #[.int .i64 o.x, .int .i64 o.y, .int .i64 o.w, .int .i64 o.h]] w' (ImPost E W' H' L w'))
    (T2 : ∀ w', Below w.heap.size w w' → Calls Try.prog 20 #[.agg #[.int .i64 W, .int .i64 H, vi], .agg #[.int .i64 ax, .int .i64 ay], .agg #[.int .i64 b.x, .int .i64 b.y, .int .i64 b.w, .int .i64 b.h], .agg #[.int .i64 C, .int .i64 R, .int .i64 S, sl], .int .i64 kind, .agg #[.int .i64 o.x, .int .i64 o.y, .int .i64 o.w, .int .i64 o.h]] w' (ImPost E W' H' L w'))
    (T7 : ∀ w', Calls Try.prog 16 #[] w' fun e w'' => e = .returned (.bool true) ∧ Below w'.heap.size w' w'') :
    Calls Try.prog 5 #[.agg #[.int .i64 W, .int .i64 H, vi], .agg #[.int .i64 ax, .int .i64 ay], .agg #[.int .i64 b.x, .int .i64 b.y, .int .i64 b.w, .int .i64 b.h], .agg #[.int .i64 C, .int .i64 R, .int .i64 S, sl], .int .i64 kind, .agg #[.int .i64 o.x, .int .i64 o.y, .int .i64 o.w, .int .i64 o.h]] w (YesPost w) := by
  replace T1 := Lib.hid T1; replace T2 := Lib.hid T2; replace T7 := Lib.hid T7
  go_enter Try.func5, Try.ntmps5
  go_upto_region 1 with fail
  have K := Lib.hid (fr_five w #[.int .i64 W, .int .i64 H, vi] #[.int .i64 ax, .int .i64 ay] #[.int .i64 b.x, .int .i64 b.y, .int .i64 b.w, .int .i64 b.h] #[.int .i64 C, .int .i64 R, .int .i64 S, sl] #[.int .i64 o.x, .int .i64 o.y, .int .i64 o.w, .int .i64 o.h] 40 28 34 24 34 _ rfl)
  generalize World.alloc (World.alloc (World.alloc (World.alloc (w.alloc _) _) _) _) _ = w0 at *
  obtain ⟨⟨a1, a2, a3⟩, -⟩ := K.out.1.1.three
  obtain ⟨⟨b1, b2⟩, -⟩ := K.out.1.2.1.two
  obtain ⟨⟨i1, i2, i3, i4⟩, -⟩ := K.out.1.2.2.1.four
  obtain ⟨⟨j1, j2, j3, j4⟩, -⟩ := K.out.1.2.2.2.1.four
  obtain ⟨⟨k1, k2, k3, k4⟩, -⟩ := K.out.1.2.2.2.2.1.four
  go_wp2_with fail
  refine (T1.out _ K.out.2).mono ?_
  rintro e w1 ⟨A1, n1, c1, rfl, hr1, hb⟩
  replace K := Lib.hid (K.out.below hb)
  clear hb a1 a2 a3 b1 b2 i1 i2 i3 i4 j1 j2 j3 j4 k1 k2 k3 k4
  go_upto_region 2 with fail
  have K13 := Lib.hid (Bx.new w1 40 #[.int .i64 W', .int .i64 H', .slice A1 n1 c1])
  have hb2 := bel1 w1 (.cells #[.int .i64 W', .int .i64 H', .slice A1 n1 c1] 40)
  replace K := Lib.hid (K.out.below hb2)
  have P1 := Lib.hid (hr1.pixs.on hb2)
  clear hb2 hr1
  generalize World.alloc w1 _ = w2 at *
  generalize w1.heap.size = g13 at *
  obtain ⟨⟨a1, a2, a3⟩, -⟩ := K.out.1.1.three
  obtain ⟨⟨b1, b2⟩, -⟩ := K.out.1.2.1.two
  obtain ⟨⟨i1, i2, i3, i4⟩, -⟩ := K.out.1.2.2.1.four
  obtain ⟨⟨j1, j2, j3, j4⟩, -⟩ := K.out.1.2.2.2.1.four
  obtain ⟨⟨k1, k2, k3, k4⟩, -⟩ := K.out.1.2.2.2.2.1.four
  go_wp2_with fail
  refine (T2.out _ K.out.2).mono ?_
  rintro e w3 ⟨A2, n2, c2, rfl, hr2, hb⟩
  replace K := Lib.hid (K.out.below hb); replace K13 := Lib.hid (K13.out.below hb); replace P1 := Lib.hid (P1.out.on hb)
  clear hb a1 a2 a3 b1 b2 i1 i2 i3 i4 j1 j2 j3 j4 k1 k2 k3 k4
  go_upto_region 3 with fail
  have K15 := Lib.hid (Bx.new w3 40 #[.int .i64 W', .int .i64 H', .slice A2 n2 c2])
  have hb4 := bel1 w3 (.cells #[.int .i64 W', .int .i64 H', .slice A2 n2 c2] 40)
  have P2 := Lib.hid (hr2.pixs.on hb4)
  replace K := Lib.hid (K.out.below hb4); replace K13 := Lib.hid (K13.out.below hb4); replace P1 := Lib.hid (P1.out.on hb4)
  clear hb4 hr2
  generalize World.alloc w3 _ = w4 at *
  generalize w3.heap.size = g15 at *
  obtain ⟨⟨a1, a2, a3⟩, -⟩ := K13.out.three
  obtain ⟨⟨b1, b2, b3⟩, -⟩ := K15.out.three
  have HB := Lib.hid K.out.2
  clear K K13 K15
  go_wp2_with fail
  refine (isame_any W' H' W' H' _ _ L L _ P1.out P2.out).mono ?_
  rintro e w5 ⟨rfl, hb⟩
  rw [show decide (W' = W' ∧ H' = H' ∧ L = L) = true by simp]
  clear a1 a2 a3 b1 b2 b3 P1 P2
  replace HB := Lib.hid (bel_trans HB.out hb)
  clear hb
  go_wp2_with fail
  refine (T7.out _).mono ?_
  rintro e w6 ⟨rfl, hb⟩
  go_wp2_with fail
  go_ret
  exact ⟨by simp, bel_trans HB.out hb⟩
theorem walk_wdraws (v0 : Value) (x0 : Int × Int × List Px) (v1 : Value) (x1 : Int × Int) (v2 : Value) (b : Rk) (v3 : Value) (x3 : Int × Int × Int × List (Int × Int)) (kind : Int) (v5 : Value) (o : Rk) (w : World) (h0 : ImgV w v0 x0) (h1 : PtV v1 x1) (h2 : RkV v2 b) (h3 : WarpV w v3 x3) (h5 : RkV v5 o) :
    Calls Try.prog 5 #[v0, v1, v2, v3, .int .i64 kind, v5] w fun e w' => e = .returned (.bool true) ∧ Below w.heap.size w w' := by
  obtain ⟨W, H, ps⟩ := x0
  obtain ⟨⟨A0, n0, c0, rfl, hp⟩, -⟩ := h0
  obtain rfl := hp.len
  obtain ⟨ax, ay⟩ := x1
  obtain ⟨rfl, -⟩ := h1
  obtain ⟨rfl, -⟩ := h2
  obtain ⟨C, R, S, ks⟩ := x3
  obtain ⟨⟨A, c, rfl, hk⟩, -⟩ := h3
  obtain ⟨rfl, -⟩ := h5
  exact wdraws_core W H ax ay C R S kind _ _ _ o b _ _ _ w (fun w' hb => wdraw_any W H ax ay A0 c0 ps b C R S A c ks kind o w' (hp.on hb) (hk.on hb)) (fun w' hb => rdraw_any W H ax ay A0 c0 ps b C R S A c ks kind o w' (hp.on hb) (hk.on hb)) awake_any
end Go.Proofs.Ytbakgdcajpagkaa
