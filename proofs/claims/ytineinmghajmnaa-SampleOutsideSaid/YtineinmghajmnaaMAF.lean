/- SampleParts: the walk over the contracts. -/
import Derived.Test.YtineinmghajmnaaMAD
import Derived.Test.YtineinmghajmnaaMAE
import Derived.Test.YtineinmghajmnaaMD
namespace Go.Proofs.Ytineinmghajmnaa
open Go.RowKit
set_option maxRecDepth 100000 in
set_option maxHeartbeats 8000000 in
theorem sparts_e (W H kind E : Int) (a : Af) (o pt : Rk) (vi : Value) (w : World) (hE : (E != 0) = true)
    (T1 : ∀ w', Below w.heap.size w w' → Calls Try.prog 14 #[.agg #[.int .i64 W, .int .i64 H, vi], .agg #[.int .i64 a.a, .int .i64 a.b, .int .i64 a.c, .int .i64 a.d, .int .i64 a.e, .int .i64 a.f], .int .i64 kind, .agg #[.int .i64 o.x, .int .i64 o.y, .int .i64 o.w, .int .i64 o.h]] w' (ImPost E 0 0 [] w'))
    (T7 : ∀ w', Calls Try.prog 11 #[] w' fun e w'' => e = .returned (.bool true) ∧ Below w'.heap.size w' w'') :
    Calls Try.prog 10 #[.agg #[.int .i64 W, .int .i64 H, vi], .agg #[.int .i64 a.a, .int .i64 a.b, .int .i64 a.c, .int .i64 a.d, .int .i64 a.e, .int .i64 a.f], .int .i64 kind, .agg #[.int .i64 o.x, .int .i64 o.y, .int .i64 o.w, .int .i64 o.h], .agg #[.int .i64 pt.x, .int .i64 pt.y, .int .i64 pt.w, .int .i64 pt.h]] w (YesPost w) := by
  replace T1 := Lib.hid T1; replace T7 := Lib.hid T7
  go_enter Try.func10, Try.ntmps10
  go_upto_region 1 with fail
  have K := Lib.hid (fr_four w #[.int .i64 W, .int .i64 H, vi] #[.int .i64 a.a, .int .i64 a.b, .int .i64 a.c, .int .i64 a.d, .int .i64 a.e, .int .i64 a.f] #[.int .i64 o.x, .int .i64 o.y, .int .i64 o.w, .int .i64 o.h] #[.int .i64 pt.x, .int .i64 pt.y, .int .i64 pt.w, .int .i64 pt.h] 24 31 33 33 _ rfl)
  generalize World.alloc (World.alloc (World.alloc (w.alloc _) _) _) _ = w0 at *
  obtain ⟨⟨a1, a2, a3⟩, -⟩ := K.out.1.1.three
  obtain ⟨⟨b1, b2, b3, b4, b5, b6⟩, -⟩ := K.out.1.2.1.six
  obtain ⟨⟨i1, i2, i3, i4⟩, -⟩ := K.out.1.2.2.1.four
  go_wp2_with fail
  refine (T1.out _ K.out.2).mono ?_
  rintro e w1 ⟨A1, n1, c1, rfl, hr1, hb⟩
  replace K := Lib.hid (K.out.below hb)
  clear hb a1 a2 a3 b1 b2 b3 b4 b5 b6 i1 i2 i3 i4
  go_upto_region 2 with fail
  have K11 := Lib.hid (Bx.new w1 24 #[.int .i64 0, .int .i64 0, .slice A1 n1 c1])
  have hb2 := bel1 w1 (.cells #[.int .i64 0, .int .i64 0, .slice A1 n1 c1] 24)
  replace K := Lib.hid (K.out.below hb2)
  have P1 := Lib.hid (hr1.pixs.on hb2)
  clear hb2 hr1
  generalize World.alloc w1 _ = w2 at *
  generalize w1.heap.size = g11 at *
  go_wp2_with fail
  refine (T7.out _).mono ?_
  rintro e w3 ⟨rfl, hb⟩
  replace K := Lib.hid (K.out.below hb); replace K11 := Lib.hid (K11.out.below hb); replace P1 := Lib.hid (P1.out.on hb)
  clear hb
  go_wp2_with fail
  refine (T7.out _).mono ?_
  rintro e w4 ⟨rfl, hb⟩
  replace K := Lib.hid (K.out.below hb); replace K11 := Lib.hid (K11.out.below hb); replace P1 := Lib.hid (P1.out.on hb)
  clear hb
  obtain ⟨⟨a1, a2, a3⟩, -⟩ := K11.out.three
  have HB := Lib.hid K.out.2
  clear K K11
  go_wp2_with fail
  refine (isame_any 0 0 0 0 _ _ [] [] _ P1.out (PRow.nil _ 0).pixs).mono ?_
  rintro e w5 ⟨rfl, hb⟩
  rw [show decide ((0 : Int) = 0 ∧ (0 : Int) = 0 ∧ ([] : List Px) = []) = true by simp]
  replace HB := Lib.hid (bel_trans HB.out hb)
  clear hb a1 a2 a3 P1
  go_wp2_with fail
  go_ret
  exact ⟨by simp, HB.out⟩
set_option maxRecDepth 100000 in
set_option maxHeartbeats 8000000 in
theorem sparts_core (W H kind W1 H1 W2 H2 W3 H3 E3 : Int) (EM : Bool) (a : Af) (o pt r : Rk) (vi : Value) (L1 L2 L3 : List Px) (w : World)
    (x1 : IntKind.i64.wrap (r.x - o.x) = r.x - o.x) (x2 : IntKind.i64.wrap (r.y - o.y) = r.y - o.y)
    (tt : (EM = true ∧ W2 = 0 ∧ H2 = 0 ∧ L2 = []) ∨ (EM = false ∧ E3 = 0 ∧ W2 = W3 ∧ H2 = H3 ∧ L2 = L3))
    (T1 : ∀ w', Below w.heap.size w w' → Calls Try.prog 14 #[.agg #[.int .i64 W, .int .i64 H, vi], .agg #[.int .i64 a.a, .int .i64 a.b, .int .i64 a.c, .int .i64 a.d, .int .i64 a.e, .int .i64 a.f], .int .i64 kind, .agg #[.int .i64 o.x, .int .i64 o.y, .int .i64 o.w, .int .i64 o.h]] w' (ImPost 0 W1 H1 L1 w'))
    (TM : ∀ w', Calls Try.prog 26 #[.agg #[.int .i64 o.x, .int .i64 o.y, .int .i64 o.w, .int .i64 o.h], .agg #[.int .i64 pt.x, .int .i64 pt.y, .int .i64 pt.w, .int .i64 pt.h]] w' (RkPost r w'))
    (T2 : ∀ w', Below w.heap.size w w' → Calls Try.prog 14 #[.agg #[.int .i64 W, .int .i64 H, vi], .agg #[.int .i64 a.a, .int .i64 a.b, .int .i64 a.c, .int .i64 a.d, .int .i64 a.e, .int .i64 a.f], .int .i64 kind, .agg #[.int .i64 r.x, .int .i64 r.y, .int .i64 r.w, .int .i64 r.h]] w' (ImPost 0 W2 H2 L2 w'))
    (TC : ∀ A n c w', Pixs w' w'.heap.size (.slice A n c) L1 → Calls Try.prog 27 #[.agg #[.int .i64 W1, .int .i64 H1, .slice A n c], .agg #[.int .i64 (r.x - o.x), .int .i64 (r.y - o.y), .int .i64 r.w, .int .i64 r.h]] w' (ImPost E3 W3 H3 L3 w'))
    (TE : ∀ w', Calls Try.prog 24 #[.agg #[.int .i64 r.x, .int .i64 r.y, .int .i64 r.w, .int .i64 r.h]] w' fun e w'' => e = .returned (.bool EM) ∧ Below w'.heap.size w' w'')
    (T7 : ∀ w', Calls Try.prog 11 #[] w' fun e w'' => e = .returned (.bool true) ∧ Below w'.heap.size w' w'') :
    Calls Try.prog 10 #[.agg #[.int .i64 W, .int .i64 H, vi], .agg #[.int .i64 a.a, .int .i64 a.b, .int .i64 a.c, .int .i64 a.d, .int .i64 a.e, .int .i64 a.f], .int .i64 kind, .agg #[.int .i64 o.x, .int .i64 o.y, .int .i64 o.w, .int .i64 o.h], .agg #[.int .i64 pt.x, .int .i64 pt.y, .int .i64 pt.w, .int .i64 pt.h]] w (YesPost w) := by
  replace T1 := Lib.hid T1; replace T7 := Lib.hid T7; replace T2 := Lib.hid T2; replace TM := Lib.hid TM; replace TC := Lib.hid TC; replace TE := Lib.hid TE; replace tt := Lib.hid tt
  replace x1 := Lib.hid x1; replace x2 := Lib.hid x2
  go_enter Try.func10, Try.ntmps10
  go_upto_region 1 with fail
  have K := Lib.hid (fr_four w #[.int .i64 W, .int .i64 H, vi] #[.int .i64 a.a, .int .i64 a.b, .int .i64 a.c, .int .i64 a.d, .int .i64 a.e, .int .i64 a.f] #[.int .i64 o.x, .int .i64 o.y, .int .i64 o.w, .int .i64 o.h] #[.int .i64 pt.x, .int .i64 pt.y, .int .i64 pt.w, .int .i64 pt.h] 24 31 33 33 _ rfl)
  generalize World.alloc (World.alloc (World.alloc (w.alloc _) _) _) _ = w0 at *
  obtain ⟨⟨a1, a2, a3⟩, -⟩ := K.out.1.1.three
  obtain ⟨⟨b1, b2, b3, b4, b5, b6⟩, -⟩ := K.out.1.2.1.six
  obtain ⟨⟨i1, i2, i3, i4⟩, -⟩ := K.out.1.2.2.1.four
  go_wp2_with fail
  refine (T1.out _ K.out.2).mono ?_
  rintro e w1 ⟨A1, n1, c1, rfl, hr1, hb⟩
  replace K := Lib.hid (K.out.below hb)
  clear hb a1 a2 a3 b1 b2 b3 b4 b5 b6 i1 i2 i3 i4
  go_upto_region 2 with fail
  have K11 := Lib.hid (Bx.new w1 24 #[.int .i64 W1, .int .i64 H1, .slice A1 n1 c1])
  have hb2 := bel1 w1 (.cells #[.int .i64 W1, .int .i64 H1, .slice A1 n1 c1] 24)
  replace K := Lib.hid (K.out.below hb2)
  have P1 := Lib.hid (hr1.pixs.on hb2)
  clear hb2 hr1
  generalize World.alloc w1 _ = w2 at *
  generalize w1.heap.size = g11 at *
  go_wp2_with fail
  refine (T7.out _).mono ?_
  rintro e w3 ⟨rfl, hb⟩
  replace K := Lib.hid (K.out.below hb); replace K11 := Lib.hid (K11.out.below hb); replace P1 := Lib.hid (P1.out.on hb)
  clear hb
  obtain ⟨⟨i1, i2, i3, i4⟩, -⟩ := K.out.1.2.2.1.four
  obtain ⟨⟨j1, j2, j3, j4⟩, -⟩ := K.out.1.2.2.2.1.four
  go_wp2_with fail
  refine (TM.out _).mono ?_
  rintro e w4 ⟨rfl, hb⟩
  replace K := Lib.hid (K.out.below hb); replace K11 := Lib.hid (K11.out.below hb); replace P1 := Lib.hid (P1.out.on hb)
  clear hb i1 i2 i3 i4 j1 j2 j3 j4
  go_upto_region 5 with fail
  have K13 := Lib.hid (Bx.new w4 33 #[.int .i64 r.x, .int .i64 r.y, .int .i64 r.w, .int .i64 r.h])
  have hb := bel1 w4 (.cells #[.int .i64 r.x, .int .i64 r.y, .int .i64 r.w, .int .i64 r.h] 33)
  replace K := Lib.hid (K.out.below hb); replace K11 := Lib.hid (K11.out.below hb); replace P1 := Lib.hid (P1.out.on hb)
  clear hb
  generalize World.alloc w4 _ = w5 at *
  generalize w4.heap.size = g13 at *
  obtain ⟨⟨a1, a2, a3⟩, -⟩ := K.out.1.1.three
  obtain ⟨⟨b1, b2, b3, b4, b5, b6⟩, -⟩ := K.out.1.2.1.six
  obtain ⟨⟨i1, i2, i3, i4⟩, -⟩ := K13.out.four
  go_wp2_with fail
  refine (T2.out _ K.out.2).mono ?_
  rintro e w6 ⟨A2, n2, c2, rfl, hr2, hb⟩
  replace K := Lib.hid (K.out.below hb); replace K11 := Lib.hid (K11.out.below hb); replace P1 := Lib.hid (P1.out.on hb); replace K13 := Lib.hid (K13.out.below hb)
  clear hb a1 a2 a3 b1 b2 b3 b4 b5 b6 i1 i2 i3 i4
  go_upto_region 6 with fail
  have K14 := Lib.hid (Bx.new w6 24 #[.int .i64 W2, .int .i64 H2, .slice A2 n2 c2])
  have hb := bel1 w6 (.cells #[.int .i64 W2, .int .i64 H2, .slice A2 n2 c2] 24)
  have P2 := Lib.hid (hr2.pixs.on hb)
  replace K := Lib.hid (K.out.below hb); replace K11 := Lib.hid (K11.out.below hb); replace P1 := Lib.hid (P1.out.on hb); replace K13 := Lib.hid (K13.out.below hb)
  clear hb hr2
  generalize World.alloc w6 _ = w7 at *
  generalize w6.heap.size = g14 at *
  obtain ⟨⟨a1, a2, a3⟩, -⟩ := K11.out.three
  obtain ⟨⟨i1, i2, i3, i4⟩, -⟩ := K13.out.four
  obtain ⟨⟨j1, j2, j3, j4⟩, -⟩ := K.out.1.2.2.1.four
  have y1 := x1.out; have y2 := x2.out
  go_wp2_with fail
  refine (TC.out _ _ _ _ P1.out).mono ?_
  rintro e w8 ⟨A3, n3, c3, rfl, hr3, hb⟩
  replace K := Lib.hid (K.out.below hb); replace K13 := Lib.hid (K13.out.below hb); replace K14 := Lib.hid (K14.out.below hb); replace P2 := Lib.hid (P2.out.on hb)
  clear hb a1 a2 a3 i1 i2 i3 i4 j1 j2 j3 j4 y1 y2 K11 P1
  go_upto_region 7 with fail
  have K15 := Lib.hid (Bx.new w8 24 #[.int .i64 W3, .int .i64 H3, .slice A3 n3 c3])
  have hb := bel1 w8 (.cells #[.int .i64 W3, .int .i64 H3, .slice A3 n3 c3] 24)
  have P3 := Lib.hid (hr3.pixs.on hb)
  replace K := Lib.hid (K.out.below hb); replace K13 := Lib.hid (K13.out.below hb); replace K14 := Lib.hid (K14.out.below hb); replace P2 := Lib.hid (P2.out.on hb)
  clear hb hr3
  generalize World.alloc w8 _ = w9 at *
  generalize w8.heap.size = g15 at *
  obtain ⟨⟨i1, i2, i3, i4⟩, -⟩ := K13.out.four
  go_wp2_with fail
  refine (TE.out _).mono ?_
  rintro e w10 ⟨rfl, hb⟩
  replace K := Lib.hid (K.out.below hb); replace K14 := Lib.hid (K14.out.below hb); replace P2 := Lib.hid (P2.out.on hb); replace K15 := Lib.hid (K15.out.below hb); replace P3 := Lib.hid (P3.out.on hb)
  obtain ⟨⟨a1, a2, a3⟩, -⟩ := K14.out.three
  obtain ⟨⟨b1, b2, b3⟩, -⟩ := K15.out.three
  have HB := Lib.hid K.out.2
  clear hb i1 i2 i3 i4 K K13 K14 K15
  rcases tt.out with ⟨rfl, rfl, rfl, rfl⟩ | ⟨rfl, rfl, rfl, rfl, rfl⟩
  · clear tt
    go_wp2_with fail
    refine (isame_any 0 0 0 0 _ _ [] [] _ P2.out (PRow.nil _ 0).pixs).mono ?_
    rintro e w5 ⟨rfl, hb⟩
    rw [show decide ((0 : Int) = 0 ∧ (0 : Int) = 0 ∧ ([] : List Px) = []) = true by simp]
    replace HB := Lib.hid (bel_trans HB.out hb)
    clear hb a1 a2 a3 b1 b2 b3 P2 P3
    go_wp2_with fail
    go_ret
    exact ⟨by simp, HB.out⟩
  · clear tt
    go_wp2_with fail
    refine (isame_any _ _ _ _ _ _ _ _ _ P2.out P3.out).mono ?_
    rintro e w5 ⟨rfl, hb⟩
    rw [decide_eq_true (show _ ∧ _ ∧ _ from ⟨rfl, rfl, rfl⟩)]
    replace HB := Lib.hid (bel_trans HB.out hb)
    clear hb a1 a2 a3 b1 b2 b3 P2 P3
    go_wp2_with fail
    go_ret
    exact ⟨by simp, HB.out⟩
theorem blend_ok (A R G B : Int) : (blend A R G B).ok := by
  unfold blend
  split
  · unfold Px.ok Px.zero; simp
  · exact ⟨lim16_bd _, lim16_bd _, lim16_bd _, lim16_bd _⟩
theorem samp_ok {px : Int → Int → Px} (h : ∀ x y, (px x y).ok) (kind x y : Int) : (samp px kind x y).ok := by
  unfold samp
  split
  · exact h _ _
  · exact blend_ok _ _ _ _
theorem meet_cases (o p : Rk) : o.meet p = Rk.zero ∨ ((o.meet p).empty = false ∧ o.empty = false ∧ o.x ≤ (o.meet p).x ∧ (o.meet p).x + (o.meet p).w ≤ o.x + o.w ∧ o.y ≤ (o.meet p).y ∧ (o.meet p).y + (o.meet p).h ≤ o.y + o.h) := by
  by_cases h : (o.empty || p.empty) = true
  · left; unfold Rk.meet; rw [if_pos h]
  have ho : o.empty = false := by
    cases q : o.empty
    · rfl
    · rw [q] at h; exact absurd rfl h
  have fo := full_bd (show rempty o.x o.y o.w o.h = false from ho)
  have e : o.meet p = rkB (max o.x p.x) (max o.y p.y) (min (o.x + o.w) (p.x + p.w)) (min (o.y + o.h) (p.y + p.h)) := by unfold Rk.meet; rw [if_neg h]
  rcases rkB_ok (max o.x p.x) (max o.y p.y) (min (o.x + o.w) (p.x + p.w)) (min (o.y + o.h) (p.y + p.h)) with q | q
  · left; rw [e, q]
  · rw [e]
    by_cases hc : max (max o.x p.x) (-1048576) ≥ min (min (o.x + o.w) (p.x + p.w)) 1048576 ∨ max (max o.y p.y) (-1048576) ≥ min (min (o.y + o.h) (p.y + p.h)) 1048576
    · left; unfold rkB; rw [if_pos hc]
    · right
      refine ⟨q, ho, ?_⟩
      unfold rkB
      rw [if_neg hc]
      dsimp only
      omega
theorem sok_part {W H : Int} {ps : List Px} {a : Af} {kind : Int} {o r : Rk} (s : SOk W H ps a kind o) (hr : r.empty = false) (m1 : r.x + r.w ≤ o.x + o.w) (m0 : o.x ≤ r.x) (m2 : r.y + r.h ≤ o.y + o.h) (m3 : o.y ≤ r.y) : SOk W H ps a kind r := by
  have fr := full_bd (show rempty r.x r.y r.w r.h = false from hr)
  have sw := s.w; have sh := s.h
  exact ⟨s.i, (rvalid_iff _ _ _ _).2 (by omega), by omega, by omega, s.k, s.a⟩
theorem crop_law {W H : Int} {ps : List Px} {a : Af} {kind : Int} {o r : Rk} (hr : r.empty = false) (m1 : r.x + r.w ≤ o.x + o.w) (m0 : o.x ≤ r.x) (m2 : r.y + r.h ≤ o.y + o.h) (m3 : o.y ≤ r.y) :
    cropL o.w o.h (sPic W H ps a kind o) (r.x - o.x) (r.y - o.y) r.w r.h = sPic W H ps a kind r := by
  have fr := full_bd (show rempty r.x r.y r.w r.h = false from hr)
  unfold cropL sPic
  refine grid_congr (fun x y hx hx2 hy hy2 => ?_) (by omega)
  rw [pick_grid _ ⟨by omega, by omega⟩ ⟨by omega, by omega⟩]
  show sdot W H ps a kind (o.x + (r.x - o.x + x)) (o.y + (r.y - o.y + y)) = sdot W H ps a kind (r.x + x) (r.y + y)
  rw [show o.x + (r.x - o.x + x) = r.x + x by omega, show o.y + (r.y - o.y + y) = r.y + y by omega]
theorem sPic_iok {W H : Int} {ps : List Px} {a : Af} {kind : Int} {o : Rk} (s : SOk W H ps a kind o) (ho : o.empty = false) : IOk o.w o.h (sPic W H ps a kind o) := by
  have fo := full_bd (show rempty o.x o.y o.w o.h = false from ho)
  have sw := s.w; have sh := s.h
  exact grid_ok (by omega) sw (by omega) sh (by omega) (fun x y => samp_ok (pick_ok s.i) _ _ _)
theorem walk_sparts (v0 : Value) (x0 : Int × Int × List Px) (v1 : Value) (a : Af) (kind : Int) (v3 : Value) (o : Rk) (v4 : Value) (pt : Rk) (w : World) (h0 : ImgV w v0 x0) (h1 : AfV v1 a) (h3 : RkV v3 o) (h4 : RkV v4 pt) :
    Calls Try.prog 10 #[v0, v1, .int .i64 kind, v3, v4] w fun e w' => e = .returned (.bool true) ∧ Below w.heap.size w w' := by
  obtain ⟨W, H, ps⟩ := x0
  obtain ⟨⟨A0, n0, c0, rfl, hp⟩, -⟩ := h0
  obtain rfl := hp.len
  obtain rfl := h1
  obtain ⟨rfl, -⟩ := h3
  obtain ⟨rfl, -⟩ := h4
  have TM := fun w => meet_any o.x o.y o.w o.h pt.x pt.y pt.w pt.h w
  by_cases h : sDE W H ps a kind o = 0
  rotate_left
  · have g : sGo W H ps a kind o = false := by
      unfold sGo; simp [h]
    refine sparts_e W H kind (sDE W H ps a kind o) a o pt _ w (by simpa using h) (fun w' hb => ?_) awake_any
    have q := sdraw_any W H A0 c0 ps a kind o w' (hp.on hb)
    rw [sGo_no g] at q
    exact q
  have s := sDE_iff.1 h
  have sv := (rvalid_iff _ _ _ _).1 s.v
  rcases meet_cases o pt with hz | ⟨hf, ho, m0, m1, m3, m2⟩
  · have sz : SOk W H ps a kind Rk.zero := ⟨s.i, by decide, by decide, by decide, s.k, s.a⟩
    have gz : sGo W H ps a kind Rk.zero = false := by
      unfold sGo; rw [show Rk.zero.empty = true by decide]; simp
    obtain ⟨W3, H3, L3, e3⟩ : ∃ W3 H3 L3, ∀ w, ImOut (cerr (ichk (sW W H ps a kind o) (sH W H ps a kind o) (sL W H ps a kind o)) (Rk.zero.x - o.x) (Rk.zero.y - o.y) Rk.zero.w Rk.zero.h) (cside Rk.zero.w Rk.zero.h Rk.zero.w) (cside Rk.zero.w Rk.zero.h Rk.zero.h) (cropL (sW W H ps a kind o) (sH W H ps a kind o) (sL W H ps a kind o) (Rk.zero.x - o.x) (Rk.zero.y - o.y) Rk.zero.w Rk.zero.h) w = ImPost (cerr (ichk (sW W H ps a kind o) (sH W H ps a kind o) (sL W H ps a kind o)) (Rk.zero.x - o.x) (Rk.zero.y - o.y) Rk.zero.w Rk.zero.h) W3 H3 L3 w := ⟨_, _, _, fun _ => rfl⟩
    refine sparts_core W H kind (sW W H ps a kind o) (sH W H ps a kind o) 0 0 W3 H3 (cerr (ichk (sW W H ps a kind o) (sH W H ps a kind o) (sL W H ps a kind o)) (Rk.zero.x - o.x) (Rk.zero.y - o.y) Rk.zero.w Rk.zero.h) true a o pt Rk.zero _ (sL W H ps a kind o) [] L3 w (wrap_in _ (by show _ ≤ 0 - o.x ∧ 0 - o.x ≤ _; omega)) (wrap_in _ (by show _ ≤ 0 - o.y ∧ 0 - o.y ≤ _; omega)) (.inl ⟨rfl, rfl, rfl, rfl⟩) (fun w' hb => ?_) (fun w' => ?_) (fun w' hb => ?_) (fun A n c w' hq => ?_) (fun w' => ?_) awake_any
    · have q := sdraw_any W H A0 c0 ps a kind o w' (hp.on hb)
      rw [h] at q
      exact q
    · have q := TM w'
      rw [show Rk.meet ⟨o.x, o.y, o.w, o.h⟩ ⟨pt.x, pt.y, pt.w, pt.h⟩ = Rk.zero from hz] at q
      exact q
    · have q := sdraw_any W H A0 c0 ps a kind Rk.zero w' (hp.on hb)
      rw [sGo_no gz, sDE_iff.2 sz] at q
      exact q
    · obtain rfl := hq.len
      have q := crop_any (sW W H ps a kind o) (sH W H ps a kind o) _ _ _ _ hq (Rk.zero.x - o.x) (Rk.zero.y - o.y) Rk.zero.w Rk.zero.h
      rw [e3] at q
      exact q
    · exact empty_any 0 0 0 0 w'
  · have sr := sok_part s hf m1 m0 m2 m3
    have go : sGo W H ps a kind o = true := by unfold sGo; rw [h, ho]; rfl
    have gr : sGo W H ps a kind (o.meet pt) = true := by unfold sGo; rw [sDE_iff.2 sr, hf]; rfl
    have fr := full_bd (show rempty (o.meet pt).x (o.meet pt).y (o.meet pt).w (o.meet pt).h = false from hf)
    have sw := sr.w; have sh := sr.h; have so := s.w; have so2 := s.h
    refine sparts_core W H kind o.w o.h (o.meet pt).w (o.meet pt).h (o.meet pt).w (o.meet pt).h 0 false a o pt (o.meet pt) _ (sPic W H ps a kind o) (sPic W H ps a kind (o.meet pt)) (sPic W H ps a kind (o.meet pt)) w (wrap_in _ (by omega)) (wrap_in _ (by omega)) (.inr ⟨rfl, rfl, rfl, rfl, rfl⟩) (fun w' hb => ?_) (fun w' => ?_) (fun w' hb => ?_) (fun A n c w' hq => ?_) (fun w' => ?_) awake_any
    · have q := sdraw_any W H A0 c0 ps a kind o w' (hp.on hb)
      rw [sGo_yes go] at q
      exact q
    · exact TM w'
    · have q := sdraw_any W H A0 c0 ps a kind (o.meet pt) w' (hp.on hb)
      rw [sGo_yes gr] at q
      exact q
    · obtain rfl := hq.len
      have q := crop_any o.w o.h _ _ _ _ hq ((o.meet pt).x - o.x) ((o.meet pt).y - o.y) (o.meet pt).w (o.meet pt).h
      have hio := (ichk_iff _ _ _).2 (sPic_iok s ho)
      have ec : cerr (ichk o.w o.h (sPic W H ps a kind o)) ((o.meet pt).x - o.x) ((o.meet pt).y - o.y) (o.meet pt).w (o.meet pt).h = 0 := by
        unfold cerr
        rw [if_pos hio, if_pos ((rvalid_iff _ _ _ _).2 (by omega)), if_neg (by omega)]
      rw [ec, imOut_ok, crop_law hf m1 m0 m2 m3] at q
      rw [show cside (o.meet pt).w (o.meet pt).h (o.meet pt).w = (o.meet pt).w by unfold cside; rw [if_neg (by omega)], show cside (o.meet pt).w (o.meet pt).h (o.meet pt).h = (o.meet pt).h by unfold cside; rw [if_neg (by omega)]] at q
      exact q
    · have q := empty_any (o.meet pt).x (o.meet pt).y (o.meet pt).w (o.meet pt).h w'
      rw [show rempty (o.meet pt).x (o.meet pt).y (o.meet pt).w (o.meet pt).h = false from hf] at q
      exact q
end Go.Proofs.Ytineinmghajmnaa
