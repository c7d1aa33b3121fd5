/- The walks of WarpParts and WarpIgnores. -/
import Derived.Test.YtbakgdcajpagkaaMV
import Derived.Test.YtbakgdcajpagkaaMZ
import Derived.Test.YtbakgdcajpagkaaMAA
namespace Go.Proofs.Ytbakgdcajpagkaa
open Go.RowKit
set_option maxRecDepth 100000 in
set_option maxHeartbeats 8000000 in
theorem wparts_e (W H C R S kind E : Int) (o : Rk) (vi sl : Value) (w : World)
    (hE : (E != 0) = true)
    (T0 : ∀ w', Below w.heap.size w w' → Calls Try.prog 22 #[.agg #[.int .i64 W, .int .i64 H, vi]] w' fun e w'' => e = .returned (.int .i64 E) ∧ Below w'.heap.size w' w'')
    (T7 : ∀ w', Calls Try.prog 16 #[] w' fun e w'' => e = .returned (.bool true) ∧ Below w'.heap.size w' w'') :
    Calls Try.prog 8 #[.agg #[.int .i64 W, .int .i64 H, vi], .agg #[.int .i64 C, .int .i64 R, .int .i64 S, sl], .int .i64 kind, .agg #[.int .i64 o.x, .int .i64 o.y, .int .i64 o.w, .int .i64 o.h]] w (YesPost w) := by
  replace T0 := Lib.hid T0; replace T7 := Lib.hid T7
  go_enter Try.func8, Try.ntmps8
  go_upto_region 1 with fail
  have K := Lib.hid (fr_three w #[.int .i64 W, .int .i64 H, vi] #[.int .i64 C, .int .i64 R, .int .i64 S, sl] #[.int .i64 o.x, .int .i64 o.y, .int .i64 o.w, .int .i64 o.h] 40 24 34 _ rfl)
  generalize World.alloc (World.alloc (w.alloc _) _) _ = w0 at *
  obtain ⟨⟨c1_0, c1_1, c1_2⟩, -⟩ := (K.out.1.1).three
  go_wp2_with fail
  refine (T0.out _ K.out.2).mono ?_
  rintro e x2 ⟨rfl, hb⟩
  replace K := Lib.hid (K.out.below hb)
  clear c1_0 c1_1 c1_2
  clear hb
  go_wp2_with fail
  refine (T7.out _).mono ?_
  rintro e x3 ⟨rfl, hb⟩
  replace K := Lib.hid (K.out.below hb)
  clear hb
  have HB := Lib.hid K.out.2
  clear K
  go_wp2_with fail
  go_ret
  exact ⟨rfl, HB.out⟩
set_option maxRecDepth 100000 in
set_option maxHeartbeats 8000000 in
theorem wparts_core (W H C R S kind e f g W1 H1 W2 H2 W3 H3 : Int) (o : Rk) (vi sl : Value) (L1 L2 L3 : List Px) (w : World)
    (tt : f ≠ 0 ∨ (f = 0 ∧ e = 0 ∧ g = 0 ∧ W2 = W3 ∧ H2 = H3 ∧ L2 = L3))
    (T0 : ∀ w', Below w.heap.size w w' → Calls Try.prog 22 #[.agg #[.int .i64 W, .int .i64 H, vi]] w' fun e w'' => e = .returned (.int .i64 0) ∧ Below w'.heap.size w' w'')
    (T1 : ∀ w', Below w.heap.size w w' → Calls Try.prog 19 #[.agg #[.int .i64 W, .int .i64 H, vi], .agg #[.int .i64 0, .int .i64 0], .agg #[.int .i64 0, .int .i64 0, .int .i64 W, .int .i64 H], .agg #[.int .i64 C, .int .i64 R, .int .i64 S, sl], .int .i64 kind, .agg #[.int .i64 0, .int .i64 0, .int .i64 W, .int .i64 H]] w' (ImPost e W1 H1 L1 w'))
    (T2 : ∀ w', Below w.heap.size w w' → Calls Try.prog 19 #[.agg #[.int .i64 W, .int .i64 H, vi], .agg #[.int .i64 0, .int .i64 0], .agg #[.int .i64 0, .int .i64 0, .int .i64 W, .int .i64 H], .agg #[.int .i64 C, .int .i64 R, .int .i64 S, sl], .int .i64 kind, .agg #[.int .i64 o.x, .int .i64 o.y, .int .i64 o.w, .int .i64 o.h]] w' (ImPost f W2 H2 L2 w'))
    (T3 : ∀ w' A n d, Below w.heap.size w w' → Pixs w' w'.heap.size (.slice A n d) L1 → Calls Try.prog 24 #[.agg #[.int .i64 W1, .int .i64 H1, .slice A n d], .agg #[.int .i64 o.x, .int .i64 o.y, .int .i64 o.w, .int .i64 o.h]] w' (ImPost g W3 H3 L3 w'))
    (T7 : ∀ w', Calls Try.prog 16 #[] w' fun e w'' => e = .returned (.bool true) ∧ Below w'.heap.size w' w'') :
    Calls Try.prog 8 #[.agg #[.int .i64 W, .int .i64 H, vi], .agg #[.int .i64 C, .int .i64 R, .int .i64 S, sl], .int .i64 kind, .agg #[.int .i64 o.x, .int .i64 o.y, .int .i64 o.w, .int .i64 o.h]] w (YesPost w) := by
  have hee : (e != 0) = true ∨ (e != 0) = false := by cases (e != 0) <;> simp
  replace T0 := Lib.hid T0; replace T1 := Lib.hid T1; replace T2 := Lib.hid T2; replace T3 := Lib.hid T3; replace T7 := Lib.hid T7; replace tt := Lib.hid tt; replace hee := Lib.hid hee
  go_enter Try.func8, Try.ntmps8
  go_upto_region 1 with fail
  have K := Lib.hid (fr_three w #[.int .i64 W, .int .i64 H, vi] #[.int .i64 C, .int .i64 R, .int .i64 S, sl] #[.int .i64 o.x, .int .i64 o.y, .int .i64 o.w, .int .i64 o.h] 40 24 34 _ rfl)
  generalize World.alloc (World.alloc (w.alloc _) _) _ = w0 at *
  obtain ⟨⟨c1_0, c1_1, c1_2⟩, -⟩ := (K.out.1.1).three
  go_wp2_with fail
  refine (T0.out _ K.out.2).mono ?_
  rintro e x2 ⟨rfl, hb⟩
  replace K := Lib.hid (K.out.below hb)
  clear c1_0 c1_1 c1_2
  clear hb
  obtain ⟨⟨c3_0, c3_1, c3_2⟩, -⟩ := (K.out.1.1).three
  go_upto_region 4 with fail
  have Bb := Lib.hid (Bx.new x2 34 #[.int .i64 0, .int .i64 0, .int .i64 W, .int .i64 H])
  have hb := bel1 x2 (.cells #[.int .i64 0, .int .i64 0, .int .i64 W, .int .i64 H] 34)
  replace K := Lib.hid (K.out.below hb)
  clear c3_0 c3_1 c3_2
  clear hb
  generalize World.alloc x2 _ = x4 at *
  generalize x2.heap.size = gb at *
  obtain ⟨⟨c5_0, c5_1, c5_2⟩, -⟩ := (K.out.1.1).three
  obtain ⟨⟨c6_0, c6_1, c6_2, c6_3⟩, -⟩ := (Bb.out).four
  obtain ⟨⟨c7_0, c7_1, c7_2, c7_3⟩, -⟩ := (K.out.1.2.1).four
  go_wp2_with fail
  refine (T1.out _ K.out.2).mono ?_
  rintro e x8 ⟨A1, n1, d1, rfl, hr1, hb⟩
  replace K := Lib.hid (K.out.below hb)
  replace Bb := Lib.hid (Bb.out.below hb)
  clear c5_0 c5_1 c5_2 c6_0 c6_1 c6_2 c6_3 c7_0 c7_1 c7_2 c7_3
  clear hb
  go_upto_region 5 with fail
  have Bi1 := Lib.hid (Bx.new x8 40 #[.int .i64 W1, .int .i64 H1, .slice A1 n1 d1])
  have hb := bel1 x8 (.cells #[.int .i64 W1, .int .i64 H1, .slice A1 n1 d1] 40)
  replace K := Lib.hid (K.out.below hb)
  replace Bb := Lib.hid (Bb.out.below hb)
  have Pi1 := Lib.hid (hr1.pixs.on hb)
  clear hr1
  clear hb
  generalize World.alloc x8 _ = x9 at *
  generalize x8.heap.size = gi1 at *
  obtain ⟨⟨c10_0, c10_1, c10_2⟩, -⟩ := (K.out.1.1).three
  obtain ⟨⟨c11_0, c11_1, c11_2, c11_3⟩, -⟩ := (Bb.out).four
  obtain ⟨⟨c12_0, c12_1, c12_2, c12_3⟩, -⟩ := (K.out.1.2.1).four
  obtain ⟨⟨c13_0, c13_1, c13_2, c13_3⟩, -⟩ := (K.out.1.2.2.1).four
  go_wp2_with fail
  refine (T2.out _ K.out.2).mono ?_
  rintro e x14 ⟨A2, n2, d2, rfl, hr2, hb⟩
  replace K := Lib.hid (K.out.below hb)
  replace Bb := Lib.hid (Bb.out.below hb)
  replace Bi1 := Lib.hid (Bi1.out.below hb)
  replace Pi1 := Lib.hid (Pi1.out.on hb)
  clear c10_0 c10_1 c10_2 c11_0 c11_1 c11_2 c11_3 c12_0 c12_1 c12_2 c12_3 c13_0 c13_1 c13_2 c13_3
  clear hb
  go_upto_region 6 with fail
  have Bi2 := Lib.hid (Bx.new x14 40 #[.int .i64 W2, .int .i64 H2, .slice A2 n2 d2])
  have hb := bel1 x14 (.cells #[.int .i64 W2, .int .i64 H2, .slice A2 n2 d2] 40)
  replace K := Lib.hid (K.out.below hb)
  replace Bb := Lib.hid (Bb.out.below hb)
  replace Bi1 := Lib.hid (Bi1.out.below hb)
  replace Pi1 := Lib.hid (Pi1.out.on hb)
  have Pi2 := Lib.hid (hr2.pixs.on hb)
  clear hr2
  clear hb
  generalize World.alloc x14 _ = x15 at *
  generalize x14.heap.size = gi2 at *
  replace hee := hee.out
  rcases tt.out with hf | ⟨rfl, rfl, rfl, rfl, rfl, rfl⟩
  · clear tt
    have d2' : (f != 0) = true := by simpa using hf
    clear hf
    rcases hee with d1' | d1'
    all_goals
      go_wp2_with fail
      refine (T7.out _).mono ?_
      rintro e x16 ⟨rfl, hb⟩
      replace K := Lib.hid (K.out.below hb)
      replace Bb := Lib.hid (Bb.out.below hb)
      replace Bi1 := Lib.hid (Bi1.out.below hb)
      replace Pi1 := Lib.hid (Pi1.out.on hb)
      replace Bi2 := Lib.hid (Bi2.out.below hb)
      replace Pi2 := Lib.hid (Pi2.out.on hb)
      clear hb
      have HB := Lib.hid K.out.2
      clear K Bb Bi1 Bi2 Pi1 Pi2
      go_wp2_with fail
      go_ret
      exact ⟨rfl, HB.out⟩
  · clear tt
    clear hee
    obtain ⟨⟨c16_0, c16_1, c16_2⟩, -⟩ := (Bi1.out).three
    obtain ⟨⟨c17_0, c17_1, c17_2, c17_3⟩, -⟩ := (K.out.1.2.2.1).four
    go_wp2_with fail
    refine (T3.out _ _ _ _ K.out.2 Pi1.out).mono ?_
    rintro e x18 ⟨A3, n3, d3, rfl, hr3, hb⟩
    replace K := Lib.hid (K.out.below hb)
    replace Bb := Lib.hid (Bb.out.below hb)
    replace Bi1 := Lib.hid (Bi1.out.below hb)
    replace Pi1 := Lib.hid (Pi1.out.on hb)
    replace Bi2 := Lib.hid (Bi2.out.below hb)
    replace Pi2 := Lib.hid (Pi2.out.on hb)
    clear c16_0 c16_1 c16_2 c17_0 c17_1 c17_2 c17_3
    clear hb
    go_upto_region 9 with fail
    have Bi3 := Lib.hid (Bx.new x18 40 #[.int .i64 W2, .int .i64 H2, .slice A3 n3 d3])
    have hb := bel1 x18 (.cells #[.int .i64 W2, .int .i64 H2, .slice A3 n3 d3] 40)
    replace K := Lib.hid (K.out.below hb)
    replace Bb := Lib.hid (Bb.out.below hb)
    replace Bi1 := Lib.hid (Bi1.out.below hb)
    replace Pi1 := Lib.hid (Pi1.out.on hb)
    replace Bi2 := Lib.hid (Bi2.out.below hb)
    replace Pi2 := Lib.hid (Pi2.out.on hb)
    have Pi3 := Lib.hid (hr3.pixs.on hb)
    clear hr3
    clear hb
    generalize World.alloc x18 _ = x19 at *
    generalize x18.heap.size = gi3 at *
    obtain ⟨⟨c20_0, c20_1, c20_2⟩, -⟩ := (Bi2.out).three
    obtain ⟨⟨c21_0, c21_1, c21_2⟩, -⟩ := (Bi3.out).three
    go_wp2_with fail
    refine (isame_any W2 H2 W2 H2 _ _ L2 L2 _ Pi2.out Pi3.out).mono ?_
    rintro e x22 ⟨rfl, hb⟩
    rw [show decide (W2 = W2 ∧ H2 = H2 ∧ L2 = L2) = true by simp]
    replace K := Lib.hid (K.out.below hb)
    replace Bb := Lib.hid (Bb.out.below hb)
    replace Bi1 := Lib.hid (Bi1.out.below hb)
    replace Pi1 := Lib.hid (Pi1.out.on hb)
    replace Bi2 := Lib.hid (Bi2.out.below hb)
    replace Pi2 := Lib.hid (Pi2.out.on hb)
    replace Bi3 := Lib.hid (Bi3.out.below hb)
    replace Pi3 := Lib.hid (Pi3.out.on hb)
    clear c20_0 c20_1 c20_2 c21_0 c21_1 c21_2
    clear hb
    go_wp2_with fail
    refine (T7.out _).mono ?_
    rintro e x23 ⟨rfl, hb⟩
    replace K := Lib.hid (K.out.below hb)
    replace Bb := Lib.hid (Bb.out.below hb)
    replace Bi1 := Lib.hid (Bi1.out.below hb)
    replace Pi1 := Lib.hid (Pi1.out.on hb)
    replace Bi2 := Lib.hid (Bi2.out.below hb)
    replace Pi2 := Lib.hid (Pi2.out.on hb)
    replace Bi3 := Lib.hid (Bi3.out.below hb)
    replace Pi3 := Lib.hid (Pi3.out.on hb)
    clear hb
    have HB := Lib.hid K.out.2
    clear K Bb Bi1 Bi2 Bi3 Pi1 Pi2 Pi3
    go_wp2_with fail
    go_ret
    exact ⟨rfl, HB.out⟩
set_option maxRecDepth 100000 in
set_option maxHeartbeats 8000000 in
theorem wign_e1 (W H C R S kind E : Int) (o : Rk) (p : Px) (vi sl : Value) (w : World)
    (hE : (E != 0) = true)
    (T0 : ∀ w', Below w.heap.size w w' → Calls Try.prog 22 #[.agg #[.int .i64 W, .int .i64 H, vi]] w' fun e w'' => e = .returned (.int .i64 E) ∧ Below w'.heap.size w' w'')
    (T7 : ∀ w', Calls Try.prog 16 #[] w' fun e w'' => e = .returned (.bool true) ∧ Below w'.heap.size w' w'') :
    Calls Try.prog 9 #[.agg #[.int .i64 W, .int .i64 H, vi], .agg #[.int .i64 C, .int .i64 R, .int .i64 S, sl], .int .i64 kind, .agg #[.int .i64 o.x, .int .i64 o.y, .int .i64 o.w, .int .i64 o.h], .agg #[.int .i64 p.r, .int .i64 p.g, .int .i64 p.b, .int .i64 p.a]] w (YesPost w) := by
  replace T0 := Lib.hid T0; replace T7 := Lib.hid T7
  go_enter Try.func9, Try.ntmps9
  go_upto_region 1 with fail
  have K := Lib.hid (fr_four w #[.int .i64 W, .int .i64 H, vi] #[.int .i64 C, .int .i64 R, .int .i64 S, sl] #[.int .i64 o.x, .int .i64 o.y, .int .i64 o.w, .int .i64 o.h] #[.int .i64 p.r, .int .i64 p.g, .int .i64 p.b, .int .i64 p.a] 40 24 34 48 _ rfl)
  generalize World.alloc (World.alloc (World.alloc (w.alloc _) _) _) _ = w0 at *
  obtain ⟨⟨c1_0, c1_1, c1_2⟩, -⟩ := (K.out.1.1).three
  go_wp2_with fail
  refine (T0.out _ K.out.2).mono ?_
  rintro e x2 ⟨rfl, hb⟩
  replace K := Lib.hid (K.out.below hb)
  clear c1_0 c1_1 c1_2
  clear hb
  go_wp2_with fail
  refine (T7.out _).mono ?_
  rintro e x3 ⟨rfl, hb⟩
  replace K := Lib.hid (K.out.below hb)
  clear hb
  have HB := Lib.hid K.out.2
  clear K 
  go_wp2_with fail
  go_ret
  exact ⟨rfl, HB.out⟩
set_option maxRecDepth 100000 in
set_option maxHeartbeats 8000000 in
theorem wign_e2 (W H C R S kind E : Int) (o : Rk) (p : Px) (vi sl : Value) (w : World)
    (hE : (E != 0) = true)
    (T0 : ∀ w', Below w.heap.size w w' → Calls Try.prog 22 #[.agg #[.int .i64 W, .int .i64 H, vi]] w' fun e w'' => e = .returned (.int .i64 0) ∧ Below w'.heap.size w' w'')
    (TC : ∀ w', Below w.heap.size w w' → Calls Try.prog 11 #[.agg #[.int .i64 C, .int .i64 R, .int .i64 S, sl]] w' fun e w'' => e = .returned (.int .i64 E) ∧ Below w'.heap.size w' w'')
    (T7 : ∀ w', Calls Try.prog 16 #[] w' fun e w'' => e = .returned (.bool true) ∧ Below w'.heap.size w' w'') :
    Calls Try.prog 9 #[.agg #[.int .i64 W, .int .i64 H, vi], .agg #[.int .i64 C, .int .i64 R, .int .i64 S, sl], .int .i64 kind, .agg #[.int .i64 o.x, .int .i64 o.y, .int .i64 o.w, .int .i64 o.h], .agg #[.int .i64 p.r, .int .i64 p.g, .int .i64 p.b, .int .i64 p.a]] w (YesPost w) := by
  replace T0 := Lib.hid T0; replace TC := Lib.hid TC; replace T7 := Lib.hid T7
  go_enter Try.func9, Try.ntmps9
  go_upto_region 1 with fail
  have K := Lib.hid (fr_four w #[.int .i64 W, .int .i64 H, vi] #[.int .i64 C, .int .i64 R, .int .i64 S, sl] #[.int .i64 o.x, .int .i64 o.y, .int .i64 o.w, .int .i64 o.h] #[.int .i64 p.r, .int .i64 p.g, .int .i64 p.b, .int .i64 p.a] 40 24 34 48 _ rfl)
  generalize World.alloc (World.alloc (World.alloc (w.alloc _) _) _) _ = w0 at *
  obtain ⟨⟨c1_0, c1_1, c1_2⟩, -⟩ := (K.out.1.1).three
  go_wp2_with fail
  refine (T0.out _ K.out.2).mono ?_
  rintro e x2 ⟨rfl, hb⟩
  obtain ⟨⟨z1, z2, z3, z4⟩, -⟩ := (K.out.below hb).1.2.1.four
  replace K := Lib.hid (K.out.below hb)
  clear c1_0 c1_1 c1_2
  clear hb
  go_wp2_with fail
  refine (TC.out _ K.out.2).mono ?_
  rintro e x3 ⟨rfl, hb⟩
  replace K := Lib.hid (K.out.below hb)
  clear z1 z2 z3 z4
  clear hb
  go_wp2_with fail
  refine (T7.out _).mono ?_
  rintro e x4 ⟨rfl, hb⟩
  replace K := Lib.hid (K.out.below hb)
  clear hb
  have HB := Lib.hid K.out.2
  clear K 
  go_wp2_with fail
  go_ret
  exact ⟨rfl, HB.out⟩
set_option maxRecDepth 100000 in
set_option maxHeartbeats 8000000 in
theorem wign_e3 (W H C R S kind E : Int) (o n : Rk) (p : Px) (vi sl : Value) (w : World)
    (hE : (E != 0) = true)
    (T0 : ∀ w', Below w.heap.size w w' → Calls Try.prog 22 #[.agg #[.int .i64 W, .int .i64 H, vi]] w' fun e w'' => e = .returned (.int .i64 0) ∧ Below w'.heap.size w' w'')
    (TC : ∀ w', Below w.heap.size w w' → Calls Try.prog 11 #[.agg #[.int .i64 C, .int .i64 R, .int .i64 S, sl]] w' fun e w'' => e = .returned (.int .i64 0) ∧ Below w'.heap.size w' w'')
    (TN : ∀ w', Below w.heap.size w w' → Calls Try.prog 17 #[.agg #[.int .i64 C, .int .i64 R, .int .i64 S, sl], .int .i64 kind, .agg #[.int .i64 o.x, .int .i64 o.y, .int .i64 o.w, .int .i64 o.h], .agg #[.int .i64 0, .int .i64 0, .int .i64 W, .int .i64 H]] w' fun e w'' => e = .returned (.tuple #[.agg #[.int .i64 n.x, .int .i64 n.y, .int .i64 n.w, .int .i64 n.h], .int .i64 E]) ∧ Below w'.heap.size w' w'')
    (T7 : ∀ w', Calls Try.prog 16 #[] w' fun e w'' => e = .returned (.bool true) ∧ Below w'.heap.size w' w'') :
    Calls Try.prog 9 #[.agg #[.int .i64 W, .int .i64 H, vi], .agg #[.int .i64 C, .int .i64 R, .int .i64 S, sl], .int .i64 kind, .agg #[.int .i64 o.x, .int .i64 o.y, .int .i64 o.w, .int .i64 o.h], .agg #[.int .i64 p.r, .int .i64 p.g, .int .i64 p.b, .int .i64 p.a]] w (YesPost w) := by
  replace T0 := Lib.hid T0; replace TC := Lib.hid TC; replace TN := Lib.hid TN; replace T7 := Lib.hid T7
  go_enter Try.func9, Try.ntmps9
  go_upto_region 1 with fail
  have K := Lib.hid (fr_four w #[.int .i64 W, .int .i64 H, vi] #[.int .i64 C, .int .i64 R, .int .i64 S, sl] #[.int .i64 o.x, .int .i64 o.y, .int .i64 o.w, .int .i64 o.h] #[.int .i64 p.r, .int .i64 p.g, .int .i64 p.b, .int .i64 p.a] 40 24 34 48 _ rfl)
  generalize World.alloc (World.alloc (World.alloc (w.alloc _) _) _) _ = w0 at *
  obtain ⟨⟨c1_0, c1_1, c1_2⟩, -⟩ := (K.out.1.1).three
  go_wp2_with fail
  refine (T0.out _ K.out.2).mono ?_
  rintro e x2 ⟨rfl, hb⟩
  obtain ⟨⟨z1, z2, z3, z4⟩, -⟩ := (K.out.below hb).1.2.1.four
  replace K := Lib.hid (K.out.below hb)
  clear c1_0 c1_1 c1_2
  clear hb
  go_wp2_with fail
  refine (TC.out _ K.out.2).mono ?_
  rintro e x3 ⟨rfl, hb⟩
  replace K := Lib.hid (K.out.below hb)
  clear z1 z2 z3 z4
  clear hb
  obtain ⟨⟨c4_0, c4_1, c4_2⟩, -⟩ := (K.out.1.1).three
  go_upto_region 4 with fail
  have Bb := Lib.hid (Bx.new x3 34 #[.int .i64 0, .int .i64 0, .int .i64 W, .int .i64 H])
  have hb := bel1 x3 (.cells #[.int .i64 0, .int .i64 0, .int .i64 W, .int .i64 H] 34)
  replace K := Lib.hid (K.out.below hb)
  clear c4_0 c4_1 c4_2
  clear hb
  generalize World.alloc x3 _ = x5 at *
  generalize x3.heap.size = gb at *
  obtain ⟨⟨c6_0, c6_1, c6_2, c6_3⟩, -⟩ := (K.out.1.2.1).four
  obtain ⟨⟨c7_0, c7_1, c7_2, c7_3⟩, -⟩ := (K.out.1.2.2.1).four
  obtain ⟨⟨c8_0, c8_1, c8_2, c8_3⟩, -⟩ := (Bb.out).four
  go_wp2_with fail
  refine (TN.out _ K.out.2).mono ?_
  rintro e x9 ⟨rfl, hb⟩
  replace K := Lib.hid (K.out.below hb)
  replace Bb := Lib.hid (Bb.out.below hb)
  clear c6_0 c6_1 c6_2 c6_3 c7_0 c7_1 c7_2 c7_3 c8_0 c8_1 c8_2 c8_3
  clear hb
  go_upto_region 5 with fail
  have Bn := Lib.hid (Bx.new x9 34 #[.int .i64 n.x, .int .i64 n.y, .int .i64 n.w, .int .i64 n.h])
  have hb := bel1 x9 (.cells #[.int .i64 n.x, .int .i64 n.y, .int .i64 n.w, .int .i64 n.h] 34)
  replace K := Lib.hid (K.out.below hb)
  replace Bb := Lib.hid (Bb.out.below hb)
  clear hb
  generalize World.alloc x9 _ = x10 at *
  generalize x9.heap.size = gn at *
  go_wp2_with fail
  refine (T7.out _).mono ?_
  rintro e x11 ⟨rfl, hb⟩
  replace K := Lib.hid (K.out.below hb)
  replace Bb := Lib.hid (Bb.out.below hb)
  replace Bn := Lib.hid (Bn.out.below hb)
  clear hb
  have HB := Lib.hid K.out.2
  clear K Bb Bn
  go_wp2_with fail
  go_ret
  exact ⟨rfl, HB.out⟩
set_option maxRecDepth 100000 in
set_option maxHeartbeats 8000000 in
theorem wign_core (W H C R S kind f W4 H4 : Int) (o n : Rk) (p : Px) (vi sl : Value) (L L2 L4 L5 : List Px) (w : World)
    (T0 : ∀ w', Below w.heap.size w w' → Calls Try.prog 22 #[.agg #[.int .i64 W, .int .i64 H, vi]] w' fun e w'' => e = .returned (.int .i64 0) ∧ Below w'.heap.size w' w'')
    (TC : ∀ w', Below w.heap.size w w' → Calls Try.prog 11 #[.agg #[.int .i64 C, .int .i64 R, .int .i64 S, sl]] w' fun e w'' => e = .returned (.int .i64 0) ∧ Below w'.heap.size w' w'')
    (TN : ∀ w', Below w.heap.size w w' → Calls Try.prog 17 #[.agg #[.int .i64 C, .int .i64 R, .int .i64 S, sl], .int .i64 kind, .agg #[.int .i64 o.x, .int .i64 o.y, .int .i64 o.w, .int .i64 o.h], .agg #[.int .i64 0, .int .i64 0, .int .i64 W, .int .i64 H]] w' fun e w'' => e = .returned (.tuple #[.agg #[.int .i64 n.x, .int .i64 n.y, .int .i64 n.w, .int .i64 n.h], .int .i64 0]) ∧ Below w'.heap.size w' w'')
    (T1 : ∀ w', Below w.heap.size w w' → Calls Try.prog 19 #[.agg #[.int .i64 W, .int .i64 H, vi], .agg #[.int .i64 0, .int .i64 0], .agg #[.int .i64 0, .int .i64 0, .int .i64 W, .int .i64 H], .agg #[.int .i64 C, .int .i64 R, .int .i64 S, sl], .int .i64 kind, .agg #[.int .i64 o.x, .int .i64 o.y, .int .i64 o.w, .int .i64 o.h]] w' (ImPost 0 o.w o.h L w'))
    (T2 : ∀ w', Below w.heap.size w w' → Calls Try.prog 24 #[.agg #[.int .i64 W, .int .i64 H, vi], .agg #[.int .i64 n.x, .int .i64 n.y, .int .i64 n.w, .int .i64 n.h]] w' (ImPost 0 n.w n.h L2 w'))
    (T3 : ∀ w' A n' d, Below w.heap.size w w' → Pixs w' w'.heap.size (.slice A n' d) L2 → Calls Try.prog 19 #[.agg #[.int .i64 n.w, .int .i64 n.h, .slice A n' d], .agg #[.int .i64 n.x, .int .i64 n.y], .agg #[.int .i64 0, .int .i64 0, .int .i64 W, .int .i64 H], .agg #[.int .i64 C, .int .i64 R, .int .i64 S, sl], .int .i64 kind, .agg #[.int .i64 o.x, .int .i64 o.y, .int .i64 o.w, .int .i64 o.h]] w' (ImPost 0 o.w o.h L w'))
    (W1 : ∀ w', Calls Try.prog 25 #[.agg #[.int .i64 n.x, .int .i64 n.y, .int .i64 n.w, .int .i64 n.h], .agg #[.int .i64 0, .int .i64 0, .int .i64 W, .int .i64 H]] w' fun e w'' => e = .returned (.bool true) ∧ Below w'.heap.size w' w'')
    (W2 : ∀ w', Calls Try.prog 25 #[.agg #[.int .i64 o.x, .int .i64 o.y, .int .i64 o.w, .int .i64 o.h], .agg #[.int .i64 n.x, .int .i64 n.y, .int .i64 n.w, .int .i64 n.h]] w' fun e w'' => e = .returned (.bool true) ∧ Below w'.heap.size w' w'')
    (T4 : ∀ w', Below w.heap.size w w' → Calls Try.prog 26 #[.int .i64 W, .int .i64 H, .agg #[.int .i64 p.r, .int .i64 p.g, .int .i64 p.b, .int .i64 p.a]] w' (ImPost f W4 H4 L4 w'))
    (hf4 : f ≠ 0 ∨ (f = 0 ∧ W = W4 ∧ H = H4))
    (T5 : f = 0 → ∀ w' A n' d A' n'' d', Below w.heap.size w w' → Pixs w' w'.heap.size (.slice A n' d) L4 → Pixs w' w'.heap.size (.slice A' n'' d') L2 → Calls Try.prog 27 #[.agg #[.int .i64 W, .int .i64 H, .slice A n' d], .agg #[.int .i64 n.w, .int .i64 n.h, .slice A' n'' d'], .agg #[.int .i64 n.x, .int .i64 n.y]] w' (ImPost 0 W H L5 w'))
    (T6 : f = 0 → ∀ w' A n' d, Below w.heap.size w w' → Pixs w' w'.heap.size (.slice A n' d) L5 → Calls Try.prog 19 #[.agg #[.int .i64 W, .int .i64 H, .slice A n' d], .agg #[.int .i64 0, .int .i64 0], .agg #[.int .i64 0, .int .i64 0, .int .i64 W, .int .i64 H], .agg #[.int .i64 C, .int .i64 R, .int .i64 S, sl], .int .i64 kind, .agg #[.int .i64 o.x, .int .i64 o.y, .int .i64 o.w, .int .i64 o.h]] w' (ImPost 0 o.w o.h L w'))
    (T7 : ∀ w', Calls Try.prog 16 #[] w' fun e w'' => e = .returned (.bool true) ∧ Below w'.heap.size w' w'') :
    Calls Try.prog 9 #[.agg #[.int .i64 W, .int .i64 H, vi], .agg #[.int .i64 C, .int .i64 R, .int .i64 S, sl], .int .i64 kind, .agg #[.int .i64 o.x, .int .i64 o.y, .int .i64 o.w, .int .i64 o.h], .agg #[.int .i64 p.r, .int .i64 p.g, .int .i64 p.b, .int .i64 p.a]] w (YesPost w) := by
  replace T0 := Lib.hid T0; replace TC := Lib.hid TC; replace TN := Lib.hid TN; replace T1 := Lib.hid T1; replace T2 := Lib.hid T2; replace T3 := Lib.hid T3; replace W1 := Lib.hid W1; replace W2 := Lib.hid W2; replace T4 := Lib.hid T4; replace T5 := Lib.hid T5; replace T6 := Lib.hid T6; replace T7 := Lib.hid T7; replace hf4 := Lib.hid hf4
  go_enter Try.func9, Try.ntmps9
  go_upto_region 1 with fail
  have K := Lib.hid (fr_four w #[.int .i64 W, .int .i64 H, vi] #[.int .i64 C, .int .i64 R, .int .i64 S, sl] #[.int .i64 o.x, .int .i64 o.y, .int .i64 o.w, .int .i64 o.h] #[.int .i64 p.r, .int .i64 p.g, .int .i64 p.b, .int .i64 p.a] 40 24 34 48 _ rfl)
  generalize World.alloc (World.alloc (World.alloc (w.alloc _) _) _) _ = w0 at *
  obtain ⟨⟨c1_0, c1_1, c1_2⟩, -⟩ := (K.out.1.1).three
  go_wp2_with fail
  refine (T0.out _ K.out.2).mono ?_
  rintro e x2 ⟨rfl, hb⟩
  obtain ⟨⟨z1, z2, z3, z4⟩, -⟩ := (K.out.below hb).1.2.1.four
  replace K := Lib.hid (K.out.below hb)
  clear c1_0 c1_1 c1_2
  clear hb
  go_wp2_with fail
  refine (TC.out _ K.out.2).mono ?_
  rintro e x3 ⟨rfl, hb⟩
  replace K := Lib.hid (K.out.below hb)
  clear z1 z2 z3 z4
  clear hb
  obtain ⟨⟨c4_0, c4_1, c4_2⟩, -⟩ := (K.out.1.1).three
  go_upto_region 4 with fail
  have Bb := Lib.hid (Bx.new x3 34 #[.int .i64 0, .int .i64 0, .int .i64 W, .int .i64 H])
  have hb := bel1 x3 (.cells #[.int .i64 0, .int .i64 0, .int .i64 W, .int .i64 H] 34)
  replace K := Lib.hid (K.out.below hb)
  clear c4_0 c4_1 c4_2
  clear hb
  generalize World.alloc x3 _ = x5 at *
  generalize x3.heap.size = gb at *
  obtain ⟨⟨c6_0, c6_1, c6_2, c6_3⟩, -⟩ := (K.out.1.2.1).four
  obtain ⟨⟨c7_0, c7_1, c7_2, c7_3⟩, -⟩ := (K.out.1.2.2.1).four
  obtain ⟨⟨c8_0, c8_1, c8_2, c8_3⟩, -⟩ := (Bb.out).four
  go_wp2_with fail
  refine (TN.out _ K.out.2).mono ?_
  rintro e x9 ⟨rfl, hb⟩
  replace K := Lib.hid (K.out.below hb)
  replace Bb := Lib.hid (Bb.out.below hb)
  clear c6_0 c6_1 c6_2 c6_3 c7_0 c7_1 c7_2 c7_3 c8_0 c8_1 c8_2 c8_3
  clear hb
  go_upto_region 5 with fail
  have Bn := Lib.hid (Bx.new x9 34 #[.int .i64 n.x, .int .i64 n.y, .int .i64 n.w, .int .i64 n.h])
  have hb := bel1 x9 (.cells #[.int .i64 n.x, .int .i64 n.y, .int .i64 n.w, .int .i64 n.h] 34)
  replace K := Lib.hid (K.out.below hb)
  replace Bb := Lib.hid (Bb.out.below hb)
  clear hb
  generalize World.alloc x9 _ = x10 at *
  generalize x9.heap.size = gn at *
  obtain ⟨⟨c11_0, c11_1, c11_2⟩, -⟩ := (K.out.1.1).three
  obtain ⟨⟨c12_0, c12_1, c12_2, c12_3⟩, -⟩ := (Bb.out).four
  obtain ⟨⟨c13_0, c13_1, c13_2, c13_3⟩, -⟩ := (K.out.1.2.1).four
  obtain ⟨⟨c14_0, c14_1, c14_2, c14_3⟩, -⟩ := (K.out.1.2.2.1).four
  go_wp2_with fail
  refine (T1.out _ K.out.2).mono ?_
  rintro e x15 ⟨A1, n1, d1, rfl, hr1, hb⟩
  replace K := Lib.hid (K.out.below hb)
  replace Bb := Lib.hid (Bb.out.below hb)
  replace Bn := Lib.hid (Bn.out.below hb)
  clear c11_0 c11_1 c11_2 c12_0 c12_1 c12_2 c12_3 c13_0 c13_1 c13_2 c13_3 c14_0 c14_1 c14_2 c14_3
  clear hb
  go_upto_region 8 with fail
  have Bi1 := Lib.hid (Bx.new x15 40 #[.int .i64 o.w, .int .i64 o.h, .slice A1 n1 d1])
  have hb := bel1 x15 (.cells #[.int .i64 o.w, .int .i64 o.h, .slice A1 n1 d1] 40)
  replace K := Lib.hid (K.out.below hb)
  replace Bb := Lib.hid (Bb.out.below hb)
  replace Bn := Lib.hid (Bn.out.below hb)
  have Pi1 := Lib.hid (hr1.pixs.on hb)
  clear hr1
  clear hb
  generalize World.alloc x15 _ = x16 at *
  generalize x15.heap.size = gi1 at *
  obtain ⟨⟨c17_0, c17_1, c17_2⟩, -⟩ := (K.out.1.1).three
  obtain ⟨⟨c18_0, c18_1, c18_2, c18_3⟩, -⟩ := (Bn.out).four
  go_wp2_with fail
  refine (T2.out _ K.out.2).mono ?_
  rintro e x19 ⟨A2, n2, d2, rfl, hr2, hb⟩
  replace K := Lib.hid (K.out.below hb)
  replace Bb := Lib.hid (Bb.out.below hb)
  replace Bn := Lib.hid (Bn.out.below hb)
  replace Bi1 := Lib.hid (Bi1.out.below hb)
  replace Pi1 := Lib.hid (Pi1.out.on hb)
  clear c17_0 c17_1 c17_2 c18_0 c18_1 c18_2 c18_3
  clear hb
  go_upto_region 9 with fail
  have Bi2 := Lib.hid (Bx.new x19 40 #[.int .i64 n.w, .int .i64 n.h, .slice A2 n2 d2])
  have hb := bel1 x19 (.cells #[.int .i64 n.w, .int .i64 n.h, .slice A2 n2 d2] 40)
  replace K := Lib.hid (K.out.below hb)
  replace Bb := Lib.hid (Bb.out.below hb)
  replace Bn := Lib.hid (Bn.out.below hb)
  replace Bi1 := Lib.hid (Bi1.out.below hb)
  replace Pi1 := Lib.hid (Pi1.out.on hb)
  have Pi2 := Lib.hid (hr2.pixs.on hb)
  clear hr2
  clear hb
  generalize World.alloc x19 _ = x20 at *
  generalize x19.heap.size = gi2 at *
  obtain ⟨⟨c21_0, c21_1, c21_2⟩, -⟩ := (Bi2.out).three
  obtain ⟨⟨c22_0, c22_1, c22_2, c22_3⟩, -⟩ := (Bn.out).four
  obtain ⟨⟨c23_0, c23_1, c23_2, c23_3⟩, -⟩ := (Bb.out).four
  obtain ⟨⟨c24_0, c24_1, c24_2, c24_3⟩, -⟩ := (K.out.1.2.1).four
  obtain ⟨⟨c25_0, c25_1, c25_2, c25_3⟩, -⟩ := (K.out.1.2.2.1).four
  go_wp2_with fail
  refine (T3.out _ _ _ _ K.out.2 Pi2.out).mono ?_
  rintro e x26 ⟨A3, n3, d3, rfl, hr3, hb⟩
  replace K := Lib.hid (K.out.below hb)
  replace Bb := Lib.hid (Bb.out.below hb)
  replace Bn := Lib.hid (Bn.out.below hb)
  replace Bi1 := Lib.hid (Bi1.out.below hb)
  replace Pi1 := Lib.hid (Pi1.out.on hb)
  replace Bi2 := Lib.hid (Bi2.out.below hb)
  replace Pi2 := Lib.hid (Pi2.out.on hb)
  clear c21_0 c21_1 c21_2 c22_0 c22_1 c22_2 c22_3 c23_0 c23_1 c23_2 c23_3 c24_0 c24_1 c24_2 c24_3 c25_0 c25_1 c25_2 c25_3
  clear hb
  go_upto_region 10 with fail
  have Bi3 := Lib.hid (Bx.new x26 40 #[.int .i64 o.w, .int .i64 o.h, .slice A3 n3 d3])
  have hb := bel1 x26 (.cells #[.int .i64 o.w, .int .i64 o.h, .slice A3 n3 d3] 40)
  replace K := Lib.hid (K.out.below hb)
  replace Bb := Lib.hid (Bb.out.below hb)
  replace Bn := Lib.hid (Bn.out.below hb)
  replace Bi1 := Lib.hid (Bi1.out.below hb)
  replace Pi1 := Lib.hid (Pi1.out.on hb)
  replace Bi2 := Lib.hid (Bi2.out.below hb)
  replace Pi2 := Lib.hid (Pi2.out.on hb)
  have Pi3 := Lib.hid (hr3.pixs.on hb)
  clear hr3
  clear hb
  generalize World.alloc x26 _ = x27 at *
  generalize x26.heap.size = gi3 at *
  obtain ⟨⟨c28_0, c28_1, c28_2⟩, -⟩ := (Bi1.out).three
  obtain ⟨⟨c29_0, c29_1, c29_2⟩, -⟩ := (Bi3.out).three
  obtain ⟨⟨c30_0, c30_1, c30_2, c30_3⟩, -⟩ := (Bn.out).four
  obtain ⟨⟨c31_0, c31_1, c31_2, c31_3⟩, -⟩ := (Bb.out).four
  obtain ⟨⟨c32_0, c32_1, c32_2, c32_3⟩, -⟩ := (K.out.1.2.2.1).four
  go_wp2_with fail
  refine (isame_any o.w o.h o.w o.h _ _ L L _ Pi1.out Pi3.out).mono ?_
  rintro e y33 ⟨rfl, hb⟩
  rw [show decide (o.w = o.w ∧ o.h = o.h ∧ L = L) = true by simp]
  replace K := Lib.hid (K.out.below hb)
  replace Bb := Lib.hid (Bb.out.below hb)
  replace Bn := Lib.hid (Bn.out.below hb)
  replace Bi1 := Lib.hid (Bi1.out.below hb)
  replace Pi1 := Lib.hid (Pi1.out.on hb)
  replace Bi2 := Lib.hid (Bi2.out.below hb)
  replace Pi2 := Lib.hid (Pi2.out.on hb)
  replace Bi3 := Lib.hid (Bi3.out.below hb)
  replace Pi3 := Lib.hid (Pi3.out.on hb)
  clear c28_0 c28_1 c28_2 c29_0 c29_1 c29_2 c30_0 c30_1 c30_2 c30_3 c31_0 c31_1 c31_2 c31_3 c32_0 c32_1 c32_2 c32_3
  clear hb
  obtain ⟨⟨c34_0, c34_1, c34_2, c34_3⟩, -⟩ := (Bn.out).four
  obtain ⟨⟨c35_0, c35_1, c35_2, c35_3⟩, -⟩ := (Bb.out).four
  obtain ⟨⟨c36_0, c36_1, c36_2, c36_3⟩, -⟩ := (K.out.1.2.2.1).four
  go_wp2_with fail
  refine (W1.out _).mono ?_
  rintro e x37 ⟨rfl, hb⟩
  replace K := Lib.hid (K.out.below hb)
  replace Bb := Lib.hid (Bb.out.below hb)
  replace Bn := Lib.hid (Bn.out.below hb)
  replace Bi1 := Lib.hid (Bi1.out.below hb)
  replace Pi1 := Lib.hid (Pi1.out.on hb)
  replace Bi2 := Lib.hid (Bi2.out.below hb)
  replace Pi2 := Lib.hid (Pi2.out.on hb)
  replace Bi3 := Lib.hid (Bi3.out.below hb)
  replace Pi3 := Lib.hid (Pi3.out.on hb)
  clear c34_0 c34_1 c34_2 c34_3 c35_0 c35_1 c35_2 c35_3 c36_0 c36_1 c36_2 c36_3
  clear hb
  obtain ⟨⟨c38_0, c38_1, c38_2, c38_3⟩, -⟩ := (Bn.out).four
  obtain ⟨⟨c39_0, c39_1, c39_2, c39_3⟩, -⟩ := (K.out.1.2.2.1).four
  go_wp2_with fail
  refine (W2.out _).mono ?_
  rintro e x40 ⟨rfl, hb⟩
  replace K := Lib.hid (K.out.below hb)
  replace Bb := Lib.hid (Bb.out.below hb)
  replace Bn := Lib.hid (Bn.out.below hb)
  replace Bi1 := Lib.hid (Bi1.out.below hb)
  replace Pi1 := Lib.hid (Pi1.out.on hb)
  replace Bi2 := Lib.hid (Bi2.out.below hb)
  replace Pi2 := Lib.hid (Pi2.out.on hb)
  replace Bi3 := Lib.hid (Bi3.out.below hb)
  replace Pi3 := Lib.hid (Pi3.out.on hb)
  clear c38_0 c38_1 c38_2 c38_3 c39_0 c39_1 c39_2 c39_3
  clear hb
  obtain ⟨⟨c41_0, c41_1, c41_2⟩, -⟩ := (K.out.1.1).three
  obtain ⟨⟨c42_0, c42_1, c42_2, c42_3⟩, -⟩ := (K.out.1.2.2.2.1).four
  go_wp2_with fail
  refine (T4.out _ K.out.2).mono ?_
  rintro e x43 ⟨A4, n4, d4, rfl, hr4, hb⟩
  replace K := Lib.hid (K.out.below hb)
  replace Bb := Lib.hid (Bb.out.below hb)
  replace Bn := Lib.hid (Bn.out.below hb)
  replace Bi1 := Lib.hid (Bi1.out.below hb)
  replace Pi1 := Lib.hid (Pi1.out.on hb)
  replace Bi2 := Lib.hid (Bi2.out.below hb)
  replace Pi2 := Lib.hid (Pi2.out.on hb)
  replace Bi3 := Lib.hid (Bi3.out.below hb)
  replace Pi3 := Lib.hid (Pi3.out.on hb)
  clear c41_0 c41_1 c41_2 c42_0 c42_1 c42_2 c42_3
  clear hb
  go_upto_region 13 with fail
  have Bi4 := Lib.hid (Bx.new x43 40 #[.int .i64 W4, .int .i64 H4, .slice A4 n4 d4])
  have hb := bel1 x43 (.cells #[.int .i64 W4, .int .i64 H4, .slice A4 n4 d4] 40)
  replace K := Lib.hid (K.out.below hb)
  replace Bb := Lib.hid (Bb.out.below hb)
  replace Bn := Lib.hid (Bn.out.below hb)
  replace Bi1 := Lib.hid (Bi1.out.below hb)
  replace Pi1 := Lib.hid (Pi1.out.on hb)
  replace Bi2 := Lib.hid (Bi2.out.below hb)
  replace Pi2 := Lib.hid (Pi2.out.on hb)
  replace Bi3 := Lib.hid (Bi3.out.below hb)
  replace Pi3 := Lib.hid (Pi3.out.on hb)
  have Pi4 := Lib.hid (hr4.pixs.on hb)
  clear hr4
  clear hb
  generalize World.alloc x43 _ = x44 at *
  generalize x43.heap.size = gi4 at *
  rcases hf4.out with hf | ⟨rfl, rfl, rfl⟩
  · clear hf4
    have hf' : (f != 0) = true := by simpa using hf
    clear hf
    go_wp2_with fail
    refine (T7.out _).mono ?_
    rintro e x45 ⟨rfl, hb⟩
    replace K := Lib.hid (K.out.below hb)
    replace Bb := Lib.hid (Bb.out.below hb)
    replace Bn := Lib.hid (Bn.out.below hb)
    replace Bi1 := Lib.hid (Bi1.out.below hb)
    replace Pi1 := Lib.hid (Pi1.out.on hb)
    replace Bi2 := Lib.hid (Bi2.out.below hb)
    replace Pi2 := Lib.hid (Pi2.out.on hb)
    replace Bi3 := Lib.hid (Bi3.out.below hb)
    replace Pi3 := Lib.hid (Pi3.out.on hb)
    replace Bi4 := Lib.hid (Bi4.out.below hb)
    replace Pi4 := Lib.hid (Pi4.out.on hb)
    clear hb
    have HB := Lib.hid K.out.2
    clear K Bb Bn Bi1 Bi2 Bi3 Bi4 Pi1 Pi2 Pi3 Pi4
    go_wp2_with fail
    go_ret
    exact ⟨rfl, HB.out⟩
  · clear hf4
    replace T5 := Lib.hid (T5.out (by simp)); replace T6 := Lib.hid (T6.out (by simp))
    obtain ⟨⟨c45_0, c45_1, c45_2⟩, -⟩ := (Bi4.out).three
    obtain ⟨⟨c46_0, c46_1, c46_2⟩, -⟩ := (Bi2.out).three
    obtain ⟨⟨c47_0, c47_1, c47_2, c47_3⟩, -⟩ := (Bn.out).four
    go_wp2_with fail
    refine (T5.out _ _ _ _ _ _ _ K.out.2 Pi4.out Pi2.out).mono ?_
    rintro e x48 ⟨A5, n5, d5, rfl, hr5, hb⟩
    replace K := Lib.hid (K.out.below hb)
    replace Bb := Lib.hid (Bb.out.below hb)
    replace Bn := Lib.hid (Bn.out.below hb)
    replace Bi1 := Lib.hid (Bi1.out.below hb)
    replace Pi1 := Lib.hid (Pi1.out.on hb)
    replace Bi2 := Lib.hid (Bi2.out.below hb)
    replace Pi2 := Lib.hid (Pi2.out.on hb)
    replace Bi3 := Lib.hid (Bi3.out.below hb)
    replace Pi3 := Lib.hid (Pi3.out.on hb)
    replace Bi4 := Lib.hid (Bi4.out.below hb)
    replace Pi4 := Lib.hid (Pi4.out.on hb)
    clear c45_0 c45_1 c45_2 c46_0 c46_1 c46_2 c47_0 c47_1 c47_2 c47_3
    clear hb
    go_upto_region 16 with fail
    have Bi5 := Lib.hid (Bx.new x48 40 #[.int .i64 W, .int .i64 H, .slice A5 n5 d5])
    have hb := bel1 x48 (.cells #[.int .i64 W, .int .i64 H, .slice A5 n5 d5] 40)
    replace K := Lib.hid (K.out.below hb)
    replace Bb := Lib.hid (Bb.out.below hb)
    replace Bn := Lib.hid (Bn.out.below hb)
    replace Bi1 := Lib.hid (Bi1.out.below hb)
    replace Pi1 := Lib.hid (Pi1.out.on hb)
    replace Bi2 := Lib.hid (Bi2.out.below hb)
    replace Pi2 := Lib.hid (Pi2.out.on hb)
    replace Bi3 := Lib.hid (Bi3.out.below hb)
    replace Pi3 := Lib.hid (Pi3.out.on hb)
    replace Bi4 := Lib.hid (Bi4.out.below hb)
    replace Pi4 := Lib.hid (Pi4.out.on hb)
    have Pi5 := Lib.hid (hr5.pixs.on hb)
    clear hr5
    clear hb
    generalize World.alloc x48 _ = x49 at *
    generalize x48.heap.size = gi5 at *
    obtain ⟨⟨c50_0, c50_1, c50_2⟩, -⟩ := (Bi5.out).three
    obtain ⟨⟨c51_0, c51_1, c51_2, c51_3⟩, -⟩ := (Bb.out).four
    obtain ⟨⟨c52_0, c52_1, c52_2, c52_3⟩, -⟩ := (K.out.1.2.1).four
    obtain ⟨⟨c53_0, c53_1, c53_2, c53_3⟩, -⟩ := (K.out.1.2.2.1).four
    go_wp2_with fail
    refine (T6.out _ _ _ _ K.out.2 Pi5.out).mono ?_
    rintro e x54 ⟨A6, n6, d6, rfl, hr6, hb⟩
    replace K := Lib.hid (K.out.below hb)
    replace Bb := Lib.hid (Bb.out.below hb)
    replace Bn := Lib.hid (Bn.out.below hb)
    replace Bi1 := Lib.hid (Bi1.out.below hb)
    replace Pi1 := Lib.hid (Pi1.out.on hb)
    replace Bi2 := Lib.hid (Bi2.out.below hb)
    replace Pi2 := Lib.hid (Pi2.out.on hb)
    replace Bi3 := Lib.hid (Bi3.out.below hb)
    replace Pi3 := Lib.hid (Pi3.out.on hb)
    replace Bi4 := Lib.hid (Bi4.out.below hb)
    replace Pi4 := Lib.hid (Pi4.out.on hb)
    replace Bi5 := Lib.hid (Bi5.out.below hb)
    replace Pi5 := Lib.hid (Pi5.out.on hb)
    clear c50_0 c50_1 c50_2 c51_0 c51_1 c51_2 c51_3 c52_0 c52_1 c52_2 c52_3 c53_0 c53_1 c53_2 c53_3
    clear hb
    go_upto_region 17 with fail
    have Bi6 := Lib.hid (Bx.new x54 40 #[.int .i64 o.w, .int .i64 o.h, .slice A6 n6 d6])
    have hb := bel1 x54 (.cells #[.int .i64 o.w, .int .i64 o.h, .slice A6 n6 d6] 40)
    replace K := Lib.hid (K.out.below hb)
    replace Bb := Lib.hid (Bb.out.below hb)
    replace Bn := Lib.hid (Bn.out.below hb)
    replace Bi1 := Lib.hid (Bi1.out.below hb)
    replace Pi1 := Lib.hid (Pi1.out.on hb)
    replace Bi2 := Lib.hid (Bi2.out.below hb)
    replace Pi2 := Lib.hid (Pi2.out.on hb)
    replace Bi3 := Lib.hid (Bi3.out.below hb)
    replace Pi3 := Lib.hid (Pi3.out.on hb)
    replace Bi4 := Lib.hid (Bi4.out.below hb)
    replace Pi4 := Lib.hid (Pi4.out.on hb)
    replace Bi5 := Lib.hid (Bi5.out.below hb)
    replace Pi5 := Lib.hid (Pi5.out.on hb)
    have Pi6 := Lib.hid (hr6.pixs.on hb)
    clear hr6
    clear hb
    generalize World.alloc x54 _ = x55 at *
    generalize x54.heap.size = gi6 at *
    obtain ⟨⟨c56_0, c56_1, c56_2⟩, -⟩ := (Bi1.out).three
    obtain ⟨⟨c57_0, c57_1, c57_2⟩, -⟩ := (Bi6.out).three
    go_wp2_with fail
    refine (isame_any o.w o.h o.w o.h _ _ L L _ Pi1.out Pi6.out).mono ?_
    rintro e x58 ⟨rfl, hb⟩
    rw [show decide (o.w = o.w ∧ o.h = o.h ∧ L = L) = true by simp]
    replace K := Lib.hid (K.out.below hb)
    replace Bb := Lib.hid (Bb.out.below hb)
    replace Bn := Lib.hid (Bn.out.below hb)
    replace Bi1 := Lib.hid (Bi1.out.below hb)
    replace Pi1 := Lib.hid (Pi1.out.on hb)
    replace Bi2 := Lib.hid (Bi2.out.below hb)
    replace Pi2 := Lib.hid (Pi2.out.on hb)
    replace Bi3 := Lib.hid (Bi3.out.below hb)
    replace Pi3 := Lib.hid (Pi3.out.on hb)
    replace Bi4 := Lib.hid (Bi4.out.below hb)
    replace Pi4 := Lib.hid (Pi4.out.on hb)
    replace Bi5 := Lib.hid (Bi5.out.below hb)
    replace Pi5 := Lib.hid (Pi5.out.on hb)
    replace Bi6 := Lib.hid (Bi6.out.below hb)
    replace Pi6 := Lib.hid (Pi6.out.on hb)
    clear c56_0 c56_1 c56_2 c57_0 c57_1 c57_2
    clear hb
    go_wp2_with fail
    refine (T7.out _).mono ?_
    rintro e x59 ⟨rfl, hb⟩
    replace K := Lib.hid (K.out.below hb)
    replace Bb := Lib.hid (Bb.out.below hb)
    replace Bn := Lib.hid (Bn.out.below hb)
    replace Bi1 := Lib.hid (Bi1.out.below hb)
    replace Pi1 := Lib.hid (Pi1.out.on hb)
    replace Bi2 := Lib.hid (Bi2.out.below hb)
    replace Pi2 := Lib.hid (Pi2.out.on hb)
    replace Bi3 := Lib.hid (Bi3.out.below hb)
    replace Pi3 := Lib.hid (Pi3.out.on hb)
    replace Bi4 := Lib.hid (Bi4.out.below hb)
    replace Pi4 := Lib.hid (Pi4.out.on hb)
    replace Bi5 := Lib.hid (Bi5.out.below hb)
    replace Pi5 := Lib.hid (Pi5.out.on hb)
    replace Bi6 := Lib.hid (Bi6.out.below hb)
    replace Pi6 := Lib.hid (Pi6.out.on hb)
    clear hb
    have HB := Lib.hid K.out.2
    clear K Bb Bn Bi1 Bi2 Bi3 Bi4 Bi5 Bi6 Pi1 Pi2 Pi3 Pi4 Pi5 Pi6
    go_wp2_with fail
    go_ret
    exact ⟨rfl, HB.out⟩
theorem rep_iok {W H : Int} {ps : List Px} {p : Px} (io : IOk W H ps) (hf : nerr W H p = 0) : IOk W H (List.replicate (W * H).toNat p) := by
  have hp : p.ok := by
    unfold nerr at hf
    split at hf
    · split at hf
      · rename_i h; exact (pxOk_iff p).1 h
      · cases hf
    · cases hf
  have h0 : 0 ≤ W * H := Int.mul_nonneg io.w0 io.h0
  refine ⟨io.w0, io.w1, io.h0, io.h1, io.z, by rw [List.length_replicate]; omega, fun i hi => ?_⟩
  rw [List.length_replicate] at hi
  simpa [pat, hi] using hp
theorem walk_wparts (v0 : Value) (x0 : Int × Int × List Px) (v1 : Value) (x1 : Int × Int × Int × List (Int × Int)) (kind : Int) (v3 : Value) (o : Rk) (w : World) (h0 : ImgV w v0 x0) (h1 : WarpV w v1 x1) (h3 : RkV v3 o) :
    Calls Try.prog 8 #[v0, v1, .int .i64 kind, v3] w fun e w' => e = .returned (.bool true) ∧ Below w.heap.size w w' := by
  obtain ⟨W, H, ps⟩ := x0
  obtain ⟨⟨A0, n0, c0, rfl, hp⟩, -⟩ := h0
  obtain rfl := hp.len
  obtain ⟨C, R, S, ks⟩ := x1
  obtain ⟨⟨A, c, rfl, hk⟩, -⟩ := h1
  obtain ⟨rfl, -⟩ := h3
  dsimp only at hk hp ⊢
  have T0 := fun w' (hb : Below w.heap.size w w') => icheck_any W H A0 ps.length c0 ps w' (hp.on hb)
  by_cases h1 : ichk W H ps = 0
  rotate_left
  · exact wparts_e W H C R S kind _ o _ _ w (by simpa using h1) T0 awake_any
  have io := (ichk_iff W H ps).1 h1
  rw [h1] at T0
  refine wparts_core W H C R S kind (wDE W H 0 0 ps ⟨0, 0, W, H⟩ C R S ks kind ⟨0, 0, W, H⟩) (wDE W H 0 0 ps ⟨0, 0, W, H⟩ C R S ks kind o) _ _ _ _ _ _ _ o _ _ _ _ _ w ?_ T0 (fun w' hb => wdraw_any W H 0 0 A0 c0 ps ⟨0, 0, W, H⟩ C R S A c ks kind ⟨0, 0, W, H⟩ w' (hp.on hb) (hk.on hb)) (fun w' hb => wdraw_any W H 0 0 A0 c0 ps ⟨0, 0, W, H⟩ C R S A c ks kind o w' (hp.on hb) (hk.on hb)) (fun w' A n d hb hq => by
    obtain rfl := hq.len
    exact crop_any _ _ A d _ w' hq o.x o.y o.w o.h) awake_any
  by_cases h2 : wDE W H 0 0 ps ⟨0, 0, W, H⟩ C R S ks kind o = 0
  · right
    have no := (wDE_iff.1 h2).n
    have e1 : wDE W H 0 0 ps ⟨0, 0, W, H⟩ C R S ks kind ⟨0, 0, W, H⟩ = 0 := wDE_iff.2 (whole_ok io (whole_out no))
    have fo := full_bd no.eo; have fb := full_bd no.eb
    have x0 := no.x0; have x1 := no.x1; have y0 := no.y0; have y1 := no.y1
    have w1 := io.w1; have h1' := io.h1
    dsimp only at fb x0 x1 y0 y1
    rw [h2, e1]
    simp only [if_true]
    have i2 : ichk W H (wpic W 0 0 ⟨0, 0, W, H⟩ ps C R S ks kind ⟨0, 0, W, H⟩) = 0 := (ichk_iff _ _ _).2 (wpic_iok ⟨0, 0, W, H⟩ (whole_out no) (by dsimp only; omega) (by dsimp only; omega) 0 0)
    have c1 : cerr (ichk W H (wpic W 0 0 ⟨0, 0, W, H⟩ ps C R S ks kind ⟨0, 0, W, H⟩)) o.x o.y o.w o.h = 0 := by
      unfold cerr
      rw [i2, if_pos rfl, if_pos (rvalid_full no.eo), if_neg (by omega)]
    have c2 : ∀ a, cside o.w o.h a = a := fun a => by unfold cside; rw [if_neg (by omega)]
    rw [c1]
    simp only [if_true]
    rw [c2, c2, parts_law no]
    exact ⟨trivial, trivial, trivial, rfl, rfl, rfl⟩
  · left; exact h2
theorem walk_wign (v0 : Value) (x0 : Int × Int × List Px) (v1 : Value) (x1 : Int × Int × Int × List (Int × Int)) (kind : Int) (v3 : Value) (o : Rk) (v4 : Value) (p : Px) (w : World) (h0 : ImgV w v0 x0) (h1 : WarpV w v1 x1) (h3 : RkV v3 o) (h4 : PxV v4 p) :
    Calls Try.prog 9 #[v0, v1, .int .i64 kind, v3, v4] w fun e w' => e = .returned (.bool true) ∧ Below w.heap.size w w' := by
  obtain ⟨W, H, ps⟩ := x0
  obtain ⟨⟨A0, n0, c0, rfl, hp⟩, -⟩ := h0
  obtain rfl := hp.len
  obtain ⟨C, R, S, ks⟩ := x1
  obtain ⟨⟨A, c, rfl, hk⟩, -⟩ := h1
  obtain ⟨rfl, -⟩ := h3
  obtain ⟨rfl, -⟩ := h4
  dsimp only at hk hp ⊢
  have T0 := fun w' (hb : Below w.heap.size w w') => icheck_any W H A0 ps.length c0 ps w' (hp.on hb)
  have TC := fun w' (hb : Below w.heap.size w w') => rwcheck_any C R S A c ks w' (hk.on hb)
  have TN := fun w' (hb : Below w.heap.size w w') => needs_any C R S A c ks kind o ⟨0, 0, W, H⟩ w' (hk.on hb)
  by_cases h1 : ichk W H ps = 0
  rotate_left
  · exact wign_e1 W H C R S kind _ o p _ _ w (by simpa using h1) T0 awake_any
  have io := (ichk_iff W H ps).1 h1
  rw [h1] at T0
  by_cases h2 : wErr C R S ks = 0
  rotate_left
  · exact wign_e2 W H C R S kind _ o p _ _ w (by simpa using h2) T0 TC awake_any
  rw [h2] at TC
  by_cases h3 : wNE C R S ks kind o ⟨0, 0, W, H⟩ = 0
  rotate_left
  · exact wign_e3 W H C R S kind _ o _ p _ _ w (by simpa using h3) T0 TC TN awake_any
  rw [h3] at TN
  have no := wNE_iff.1 h3
  have hin := need_in no
  have nf := need_full no
  have fn := full_bd nf; have fo := full_bd no.eo
  have w1 := io.w1; have h1' := io.h1
  have pi := part_iok io no
  have dp := part_ok io no
  have pl := part_law (ps := ps) no
  have ol := fun qs => other_law (ps := ps) (qs := qs) no
  have hwi : (wNR C R S ks kind o ⟨0, 0, W, H⟩).within ⟨0, 0, W, H⟩ = true := by
    unfold Rk.within
    rw [nf, no.eb]
    simp only [Bool.false_or, Bool.not_false, Bool.true_and, Bool.and_eq_true, decide_eq_true_eq]
    dsimp only at hin
    omega
  have hwo : o.within (wNR C R S ks kind o ⟨0, 0, W, H⟩) = true := by
    unfold Rk.within
    rw [nf, no.eo]
    simp only [Bool.false_or, Bool.not_false, Bool.true_and, Bool.and_eq_true, decide_eq_true_eq]
    omega
  generalize wNR C R S ks kind o ⟨0, 0, W, H⟩ = n at *
  dsimp only at hin
  have d0 := wDE_iff.2 (whole_ok io no)
  have c1 : cerr (ichk W H ps) n.x n.y n.w n.h = 0 := by
    unfold cerr
    rw [h1, if_pos rfl, if_pos (rvalid_full nf), if_neg (by omega)]
  have c2 : ∀ a, cside n.w n.h a = a := fun a => by unfold cside; rw [if_neg (by omega)]
  refine wign_core W H C R S kind (nerr W H p) _ _ o n p _ _ (wpic W 0 0 ⟨0, 0, W, H⟩ ps C R S ks kind o) (cropL W H ps n.x n.y n.w n.h) _ (putL W H (List.replicate (W * H).toNat p) n.w n.h (cropL W H ps n.x n.y n.w n.h) n.x n.y) w T0 TC TN
    (fun w' hb => by
      have := wdraw_any W H 0 0 A0 c0 ps ⟨0, 0, W, H⟩ C R S A c ks kind o w' (hp.on hb) (hk.on hb)
      rw [d0, imOut_ok] at this
      exact this)
    (fun w' hb => by
      have := crop_any W H A0 c0 ps w' (hp.on hb) n.x n.y n.w n.h
      rw [c1, imOut_ok, c2, c2] at this
      exact this)
    (fun w' A2 n2 d2 hb hq => by
      obtain rfl := hq.len
      have := wdraw_any n.w n.h n.x n.y A2 d2 (cropL W H ps n.x n.y n.w n.h) ⟨0, 0, W, H⟩ C R S A c ks kind o w' hq (hk.on hb)
      rw [wDE_iff.2 dp, imOut_ok, pl] at this
      exact this)
    (fun w' => by
      have := within_any n.x n.y n.w n.h 0 0 W H w'
      rw [show Rk.within ⟨n.x, n.y, n.w, n.h⟩ ⟨0, 0, W, H⟩ = true from hwi] at this
      exact this)
    (fun w' => by
      have := within_any o.x o.y o.w o.h n.x n.y n.w n.h w'
      rw [show Rk.within ⟨o.x, o.y, o.w, o.h⟩ ⟨n.x, n.y, n.w, n.h⟩ = true from hwo] at this
      exact this)
    (fun w' hb => new_any W H p w') ?_ ?_ ?_ awake_any
  · by_cases hf : nerr W H p = 0
    · right; rw [hf]; exact ⟨rfl, rfl, rfl⟩
    · left; exact hf
  · intro hf w' A1 n1 d1 A2 n2 d2 hb q1 q2
    rw [hf] at q1
    simp only [if_true] at q1
    obtain rfl := q1.len
    obtain rfl := q2.len
    have i1 : ichk W H (List.replicate (W * H).toNat p) = 0 := (ichk_iff _ _ _).2 (rep_iok io hf)
    have i2 : ichk n.w n.h (cropL W H ps n.x n.y n.w n.h) = 0 := (ichk_iff _ _ _).2 pi
    have := put_any W H A1 d1 (List.replicate (W * H).toNat p) n.w n.h A2 d2 (cropL W H ps n.x n.y n.w n.h) n.x n.y w' q1 q2
    have e : perr W H (List.replicate (W * H).toNat p) n.w n.h (cropL W H ps n.x n.y n.w n.h) = 0 := by unfold perr; rw [i1, if_pos rfl, i2]
    rw [e, imOut_ok, show clampC n.x = n.x by unfold clampC; omega, show clampC n.y = n.y by unfold clampC; omega] at this
    exact this
  · intro hf w' A1 n1 d1 hb q1
    obtain rfl := q1.len
    have i5 : IOk W H (putL W H (List.replicate (W * H).toNat p) n.w n.h (cropL W H ps n.x n.y n.w n.h) n.x n.y) := grid_ok (by omega) w1 (by omega) h1' io.z (fun x y => putF_ok (rep_iok io hf) pi x y)
    have := wdraw_any W H 0 0 A1 d1 _ ⟨0, 0, W, H⟩ C R S A c ks kind o w' q1 (hk.on hb)
    rw [wDE_iff.2 (whole_ok i5 no), imOut_ok, ol] at this
    exact this
end Go.Proofs.Ytbakgdcajpagkaa
