/- Needs, of the program and of the reference, by cases. -/
import Derived.Test.YtbakgdcajpagkaaMD
import Derived.Test.YtbakgdcajpagkaaMH
import Derived.Deep.RegionHeld3
namespace Go.Proofs.Ytbakgdcajpagkaa
open Go.RowKit
/-- Since w0 only the box g was written. -/
def RSt (t : TypeId) (g : Nat) (w0 w' : World) : Prop := KB w0.heap.size g w0 w' ∧ ∃ a b c d, Bx w' g t #[a, b, c, d]
section
variable {t : TypeId} {g : Nat} {w0 w1 w2 : World}
theorem RSt.start {a b c d : Value} (h : Bx w0 g t #[a, b, c, d]) : RSt t g w0 w0.drew := ⟨(KB.refl _ _ _).drew, a, b, c, d, h.drew⟩
theorem RSt.call (h : RSt t g w0 w1) (hb : Below w1.heap.size w1 w2) : RSt t g w0 w2 := by
  obtain ⟨h1, a, b, c, d, h2⟩ := h
  exact ⟨h1.below hb h1.size, a, b, c, d, h2.below hb⟩
theorem RSt.drewN (h : RSt t g w0 w1) (n : Nat) : RSt t g w0 (w1.drewN n) := h.call (Below.drewN' (Below.refl _ _) n)
theorem RSt.put (h : RSt t g w0 w1) (a b c d : Value) : RSt t g w0 ((((w1.setCell ⟨g, 0, none⟩ a).setCell ⟨g, 1, none⟩ b).setCell ⟨g, 2, none⟩ c).setCell ⟨g, 3, none⟩ d) := by
  obtain ⟨h1, _, _, _, _, h2⟩ := h
  exact ⟨h1.set4 _ _ _ _ _ _ _ _, a, b, c, d, (((h2.set 0 a).set 1 b).set 2 c).set 3 d⟩
theorem RSt.cvs (h : RSt t g w0 w1) : (w1.cell? ⟨g, 0, none⟩ = some (cv w1 g 0) ∧ w1.cell? ⟨g, 1, none⟩ = some (cv w1 g 1) ∧ w1.cell? ⟨g, 2, none⟩ = some (cv w1 g 2) ∧ w1.cell? ⟨g, 3, none⟩ = some (cv w1 g 3)) ∧
    w1.frozen? ⟨g, 0, none⟩ = false ∧ w1.frozen? ⟨g, 1, none⟩ = false ∧ w1.frozen? ⟨g, 2, none⟩ = false ∧ w1.frozen? ⟨g, 3, none⟩ = false := by
  obtain ⟨_, a, b, c, d, h2⟩ := h
  obtain ⟨⟨r1, r2, r3, r4⟩, f⟩ := h2.four
  exact ⟨⟨by rw [cv, r1]; rfl, by rw [cv, r2]; rfl, by rw [cv, r3]; rfl, by rw [cv, r4]; rfl⟩, f⟩
theorem RSt.bx {g' : Nat} {t' : TypeId} {vs : Array Value} (h : RSt t g w0 w1) (hb : Bx w0 g' t' vs) (hn : g' ≠ g) : Bx w1 g' t' vs := h.1.bx hb hb.lt hn
theorem RSt.bel {w : World} (h : RSt t g w0 w1) (hb : Below w.heap.size w w0) (hg : w.heap.size ≤ g) : Below w.heap.size w w1 := h.1.toBelow hb hg hb.size
end
theorem fr_four (w : World) (vs us ts rs : Array Value) (t u v z : TypeId) (w0 : World) (hw : w0 = (((w.alloc (.cells vs t)).alloc (.cells us u)).alloc (.cells ts v)).alloc (.cells rs z)) : Fr w [(t, vs), (u, us), (v, ts), (z, rs)] w0 := by
  obtain ⟨a, b, c, d, e⟩ := three_boxes w vs us ts t u v _ rfl
  subst hw
  have n := Bx.new (((w.alloc (.cells vs t)).alloc (.cells us u)).alloc (.cells ts v)) z rs
  rw [e] at n
  exact ⟨⟨a.alloc _, b.alloc _, c.alloc _, n, trivial⟩, bel_alloc d _⟩
set_option maxRecDepth 100000 in
set_option maxHeartbeats 4000000 in
theorem needs_e1 (C R S : Int) (sl : Value) (kind x y p q x' y' p' q' E : Int) (w : World)
    (TC : ∀ w', Below w.heap.size w w' → Calls Try.prog 10 #[.agg #[.int .i64 C, .int .i64 R, .int .i64 S, sl]] w' fun e w'' => e = .returned (.int .i64 E) ∧ Below w'.heap.size w' w'')
    (hE : (E != 0) = true)
    : Calls Try.prog 17 #[.agg #[.int .i64 C, .int .i64 R, .int .i64 S, sl], .int .i64 kind, .agg #[.int .i64 x, .int .i64 y, .int .i64 p, .int .i64 q], .agg #[.int .i64 x', .int .i64 y', .int .i64 p', .int .i64 q']] w fun e w' => e = .returned (.tuple #[.agg #[.int .i64 0, .int .i64 0, .int .i64 0, .int .i64 0], .int .i64 E]) ∧ Below w.heap.size w w' := by
  replace TC := Lib.hid TC
  go_enter Try.func17, Try.ntmps17
  go_upto_region 1 with fail
  have K := Lib.hid (fr_four w #[.int .i64 C, .int .i64 R, .int .i64 S, sl] #[.int .i64 x, .int .i64 y, .int .i64 p, .int .i64 q] #[.int .i64 x', .int .i64 y', .int .i64 p', .int .i64 q'] #[.int .i64 0, .int .i64 0, .int .i64 0, .int .i64 0] 24 34 34 34 _ rfl)
  generalize World.alloc (World.alloc (World.alloc (w.alloc _) _) _) _ = w0 at *
  obtain ⟨⟨i1, i2, i3, i4⟩, -⟩ := K.out.1.1.four
  go_wp2_with fail
  refine (TC.out _ K.out.2).mono ?_
  rintro e w1 ⟨rfl, hb⟩
  replace K := Lib.hid (K.out.below hb)
  clear hb i1 i2 i3 i4
  have HB := Lib.hid K.out.2
  obtain ⟨⟨r1, r2, r3, r4⟩, f1, f2, f3, f4⟩ := K.out.1.2.2.2.1.four
  go_wp2_with fail
  refine bodyPost_ret (v := .tuple #[.agg #[.int .i64 0, .int .i64 0, .int .i64 0, .int .i64 0], .int .i64 E]) (by simp [results, Try.results17, go_sem, *]) rfl ⟨rfl, ?_⟩
  exact set4_below HB.out (by omega) _ _ _ _ _ _ _ _
set_option maxRecDepth 100000 in
set_option maxHeartbeats 4000000 in
theorem needs_e2 (C R S : Int) (sl : Value) (kind x y p q x' y' p' q' : Int) (w : World)
    (TC : ∀ w', Below w.heap.size w w' → Calls Try.prog 10 #[.agg #[.int .i64 C, .int .i64 R, .int .i64 S, sl]] w' fun e w'' => e = .returned (.int .i64 0) ∧ Below w'.heap.size w' w'')
    (KV : ∀ w, Calls Try.prog 34 #[.int .i64 kind] w fun e w' => e = .returned (.bool false) ∧ w = w')
    : Calls Try.prog 17 #[.agg #[.int .i64 C, .int .i64 R, .int .i64 S, sl], .int .i64 kind, .agg #[.int .i64 x, .int .i64 y, .int .i64 p, .int .i64 q], .agg #[.int .i64 x', .int .i64 y', .int .i64 p', .int .i64 q']] w fun e w' => e = .returned (.tuple #[.agg #[.int .i64 0, .int .i64 0, .int .i64 0, .int .i64 0], .int .i64 8]) ∧ Below w.heap.size w w' := by
  replace TC := Lib.hid TC; replace KV := Lib.hid KV
  go_enter Try.func17, Try.ntmps17
  go_upto_region 1 with fail
  have K := Lib.hid (fr_four w #[.int .i64 C, .int .i64 R, .int .i64 S, sl] #[.int .i64 x, .int .i64 y, .int .i64 p, .int .i64 q] #[.int .i64 x', .int .i64 y', .int .i64 p', .int .i64 q'] #[.int .i64 0, .int .i64 0, .int .i64 0, .int .i64 0] 24 34 34 34 _ rfl)
  generalize World.alloc (World.alloc (World.alloc (w.alloc _) _) _) _ = w0 at *
  obtain ⟨⟨i1, i2, i3, i4⟩, -⟩ := K.out.1.1.four
  go_wp2_with fail
  refine (TC.out _ K.out.2).mono ?_
  rintro e w1 ⟨rfl, hb⟩
  replace K := Lib.hid (K.out.below hb)
  clear hb i1 i2 i3 i4
  go_wp2_with fail
  refine (KV.out _).mono ?_
  rintro e w2 ⟨rfl, rfl⟩
  have HB := Lib.hid K.out.2
  obtain ⟨⟨r1, r2, r3, r4⟩, f1, f2, f3, f4⟩ := K.out.1.2.2.2.1.four
  go_wp2_with fail
  refine bodyPost_ret (v := .tuple #[.agg #[.int .i64 0, .int .i64 0, .int .i64 0, .int .i64 0], .int .i64 8]) (by simp [results, Try.results17, go_sem, *]) rfl ⟨rfl, ?_⟩
  exact set4_below HB.out (by omega) _ _ _ _ _ _ _ _
set_option maxRecDepth 100000 in
set_option maxHeartbeats 4000000 in
theorem needs_e3 (C R S : Int) (sl : Value) (kind x y p q x' y' p' q' : Int) (vo vb eo wi : Bool) (w : World) (tt : vo = false ∨ (vo = true ∧ vb = false) ∨ (vo = true ∧ vb = true ∧ eo = true) ∨ (vo = true ∧ vb = true ∧ eo = false ∧ wi = false))
    (TC : ∀ w', Below w.heap.size w w' → Calls Try.prog 10 #[.agg #[.int .i64 C, .int .i64 R, .int .i64 S, sl]] w' fun e w'' => e = .returned (.int .i64 0) ∧ Below w'.heap.size w' w'')
    (KV : ∀ w, Calls Try.prog 34 #[.int .i64 kind] w fun e w' => e = .returned (.bool true) ∧ w = w')
    (VO : ∀ w, Calls Try.prog 35 #[.agg #[.int .i64 x, .int .i64 y, .int .i64 p, .int .i64 q]] w fun e w' => e = .returned (.bool vo) ∧ Below w.heap.size w w')
    (VB : ∀ w, Calls Try.prog 35 #[.agg #[.int .i64 x', .int .i64 y', .int .i64 p', .int .i64 q']] w fun e w' => e = .returned (.bool vb) ∧ Below w.heap.size w w')
    (EO : ∀ w, Calls Try.prog 36 #[.agg #[.int .i64 x, .int .i64 y, .int .i64 p, .int .i64 q]] w fun e w' => e = .returned (.bool eo) ∧ Below w.heap.size w w')
    (WI : ∀ w, Calls Try.prog 25 #[.agg #[.int .i64 x, .int .i64 y, .int .i64 p, .int .i64 q], .agg #[.int .i64 x', .int .i64 y', .int .i64 p', .int .i64 q']] w fun e w' => e = .returned (.bool wi) ∧ Below w.heap.size w w')
    : Calls Try.prog 17 #[.agg #[.int .i64 C, .int .i64 R, .int .i64 S, sl], .int .i64 kind, .agg #[.int .i64 x, .int .i64 y, .int .i64 p, .int .i64 q], .agg #[.int .i64 x', .int .i64 y', .int .i64 p', .int .i64 q']] w fun e w' => e = .returned (.tuple #[.agg #[.int .i64 0, .int .i64 0, .int .i64 0, .int .i64 0], .int .i64 2]) ∧ Below w.heap.size w w' := by
  replace TC := Lib.hid TC; replace KV := Lib.hid KV; replace VO := Lib.hid VO; replace VB := Lib.hid VB; replace EO := Lib.hid EO; replace WI := Lib.hid WI
  rcases tt with rfl | ⟨rfl, rfl⟩ | ⟨rfl, rfl, rfl⟩ | ⟨rfl, rfl, rfl, rfl⟩
  · go_enter Try.func17, Try.ntmps17
    go_upto_region 1 with fail
    have K := Lib.hid (fr_four w #[.int .i64 C, .int .i64 R, .int .i64 S, sl] #[.int .i64 x, .int .i64 y, .int .i64 p, .int .i64 q] #[.int .i64 x', .int .i64 y', .int .i64 p', .int .i64 q'] #[.int .i64 0, .int .i64 0, .int .i64 0, .int .i64 0] 24 34 34 34 _ rfl)
    generalize World.alloc (World.alloc (World.alloc (w.alloc _) _) _) _ = w0 at *
    obtain ⟨⟨i1, i2, i3, i4⟩, -⟩ := K.out.1.1.four
    go_wp2_with fail
    refine (TC.out _ K.out.2).mono ?_
    rintro e w1 ⟨rfl, hb⟩
    replace K := Lib.hid (K.out.below hb)
    clear hb i1 i2 i3 i4
    go_wp2_with fail
    refine (KV.out _).mono ?_
    rintro e w2 ⟨rfl, rfl⟩
    obtain ⟨⟨a1, a2, a3, a4⟩, -⟩ := K.out.1.2.1.four
    go_wp2_with fail
    with_reducible refine (VO.out _).mono ?_
    rintro e w3 ⟨rfl, hb⟩
    replace K := Lib.hid (K.out.below hb)
    clear hb
    clear a1 a2 a3 a4
    have HB := Lib.hid K.out.2
    obtain ⟨⟨r1, r2, r3, r4⟩, f1, f2, f3, f4⟩ := K.out.1.2.2.2.1.four
    go_wp2_with fail
    refine bodyPost_ret (v := .tuple #[.agg #[.int .i64 0, .int .i64 0, .int .i64 0, .int .i64 0], .int .i64 2]) (by simp [results, Try.results17, go_sem, *]) rfl ⟨rfl, ?_⟩
    exact set4_below HB.out (by omega) _ _ _ _ _ _ _ _
  · go_enter Try.func17, Try.ntmps17
    go_upto_region 1 with fail
    have K := Lib.hid (fr_four w #[.int .i64 C, .int .i64 R, .int .i64 S, sl] #[.int .i64 x, .int .i64 y, .int .i64 p, .int .i64 q] #[.int .i64 x', .int .i64 y', .int .i64 p', .int .i64 q'] #[.int .i64 0, .int .i64 0, .int .i64 0, .int .i64 0] 24 34 34 34 _ rfl)
    generalize World.alloc (World.alloc (World.alloc (w.alloc _) _) _) _ = w0 at *
    obtain ⟨⟨i1, i2, i3, i4⟩, -⟩ := K.out.1.1.four
    go_wp2_with fail
    refine (TC.out _ K.out.2).mono ?_
    rintro e w1 ⟨rfl, hb⟩
    replace K := Lib.hid (K.out.below hb)
    clear hb i1 i2 i3 i4
    go_wp2_with fail
    refine (KV.out _).mono ?_
    rintro e w2 ⟨rfl, rfl⟩
    obtain ⟨⟨a1, a2, a3, a4⟩, -⟩ := K.out.1.2.1.four
    go_wp2_with fail
    with_reducible refine (VO.out _).mono ?_
    rintro e w3 ⟨rfl, hb⟩
    replace K := Lib.hid (K.out.below hb)
    clear hb
    clear a1 a2 a3 a4
    obtain ⟨⟨b1, b2, b3, b4⟩, -⟩ := K.out.1.2.2.1.four
    go_wp2_with fail
    with_reducible refine (VB.out _).mono ?_
    rintro e w3 ⟨rfl, hb⟩
    replace K := Lib.hid (K.out.below hb)
    clear hb
    clear b1 b2 b3 b4
    have HB := Lib.hid K.out.2
    obtain ⟨⟨r1, r2, r3, r4⟩, f1, f2, f3, f4⟩ := K.out.1.2.2.2.1.four
    go_wp2_with fail
    refine bodyPost_ret (v := .tuple #[.agg #[.int .i64 0, .int .i64 0, .int .i64 0, .int .i64 0], .int .i64 2]) (by simp [results, Try.results17, go_sem, *]) rfl ⟨rfl, ?_⟩
    exact set4_below HB.out (by omega) _ _ _ _ _ _ _ _
  · go_enter Try.func17, Try.ntmps17
    go_upto_region 1 with fail
    have K := Lib.hid (fr_four w #[.int .i64 C, .int .i64 R, .int .i64 S, sl] #[.int .i64 x, .int .i64 y, .int .i64 p, .int .i64 q] #[.int .i64 x', .int .i64 y', .int .i64 p', .int .i64 q'] #[.int .i64 0, .int .i64 0, .int .i64 0, .int .i64 0] 24 34 34 34 _ rfl)
    generalize World.alloc (World.alloc (World.alloc (w.alloc _) _) _) _ = w0 at *
    obtain ⟨⟨i1, i2, i3, i4⟩, -⟩ := K.out.1.1.four
    go_wp2_with fail
    refine (TC.out _ K.out.2).mono ?_
    rintro e w1 ⟨rfl, hb⟩
    replace K := Lib.hid (K.out.below hb)
    clear hb i1 i2 i3 i4
    go_wp2_with fail
    refine (KV.out _).mono ?_
    rintro e w2 ⟨rfl, rfl⟩
    obtain ⟨⟨a1, a2, a3, a4⟩, -⟩ := K.out.1.2.1.four
    go_wp2_with fail
    with_reducible refine (VO.out _).mono ?_
    rintro e w3 ⟨rfl, hb⟩
    replace K := Lib.hid (K.out.below hb)
    clear hb
    clear a1 a2 a3 a4
    obtain ⟨⟨b1, b2, b3, b4⟩, -⟩ := K.out.1.2.2.1.four
    go_wp2_with fail
    with_reducible refine (VB.out _).mono ?_
    rintro e w3 ⟨rfl, hb⟩
    replace K := Lib.hid (K.out.below hb)
    clear hb
    clear b1 b2 b3 b4
    obtain ⟨⟨a1, a2, a3, a4⟩, -⟩ := K.out.1.2.1.four
    go_wp2_with fail
    with_reducible refine (EO.out _).mono ?_
    rintro e w3 ⟨rfl, hb⟩
    replace K := Lib.hid (K.out.below hb)
    clear hb
    clear a1 a2 a3 a4
    have HB := Lib.hid K.out.2
    obtain ⟨⟨r1, r2, r3, r4⟩, f1, f2, f3, f4⟩ := K.out.1.2.2.2.1.four
    go_wp2_with fail
    refine bodyPost_ret (v := .tuple #[.agg #[.int .i64 0, .int .i64 0, .int .i64 0, .int .i64 0], .int .i64 2]) (by simp [results, Try.results17, go_sem, *]) rfl ⟨rfl, ?_⟩
    exact set4_below HB.out (by omega) _ _ _ _ _ _ _ _
  · go_enter Try.func17, Try.ntmps17
    go_upto_region 1 with fail
    have K := Lib.hid (fr_four w #[.int .i64 C, .int .i64 R, .int .i64 S, sl] #[.int .i64 x, .int .i64 y, .int .i64 p, .int .i64 q] #[.int .i64 x', .int .i64 y', .int .i64 p', .int .i64 q'] #[.int .i64 0, .int .i64 0, .int .i64 0, .int .i64 0] 24 34 34 34 _ rfl)
    generalize World.alloc (World.alloc (World.alloc (w.alloc _) _) _) _ = w0 at *
    obtain ⟨⟨i1, i2, i3, i4⟩, -⟩ := K.out.1.1.four
    go_wp2_with fail
    refine (TC.out _ K.out.2).mono ?_
    rintro e w1 ⟨rfl, hb⟩
    replace K := Lib.hid (K.out.below hb)
    clear hb i1 i2 i3 i4
    go_wp2_with fail
    refine (KV.out _).mono ?_
    rintro e w2 ⟨rfl, rfl⟩
    obtain ⟨⟨a1, a2, a3, a4⟩, -⟩ := K.out.1.2.1.four
    go_wp2_with fail
    with_reducible refine (VO.out _).mono ?_
    rintro e w3 ⟨rfl, hb⟩
    replace K := Lib.hid (K.out.below hb)
    clear hb
    clear a1 a2 a3 a4
    obtain ⟨⟨b1, b2, b3, b4⟩, -⟩ := K.out.1.2.2.1.four
    go_wp2_with fail
    with_reducible refine (VB.out _).mono ?_
    rintro e w3 ⟨rfl, hb⟩
    replace K := Lib.hid (K.out.below hb)
    clear hb
    clear b1 b2 b3 b4
    obtain ⟨⟨a1, a2, a3, a4⟩, -⟩ := K.out.1.2.1.four
    go_wp2_with fail
    with_reducible refine (EO.out _).mono ?_
    rintro e w3 ⟨rfl, hb⟩
    replace K := Lib.hid (K.out.below hb)
    clear hb
    clear a1 a2 a3 a4
    obtain ⟨⟨a1, a2, a3, a4⟩, -⟩ := K.out.1.2.1.four
    obtain ⟨⟨b1, b2, b3, b4⟩, -⟩ := K.out.1.2.2.1.four
    go_wp2_with fail
    with_reducible refine (WI.out _).mono ?_
    rintro e w3 ⟨rfl, hb⟩
    replace K := Lib.hid (K.out.below hb)
    clear hb
    clear a1 a2 a3 a4
    clear b1 b2 b3 b4
    have HB := Lib.hid K.out.2
    obtain ⟨⟨r1, r2, r3, r4⟩, f1, f2, f3, f4⟩ := K.out.1.2.2.2.1.four
    go_wp2_with fail
    refine bodyPost_ret (v := .tuple #[.agg #[.int .i64 0, .int .i64 0, .int .i64 0, .int .i64 0], .int .i64 2]) (by simp [results, Try.results17, go_sem, *]) rfl ⟨rfl, ?_⟩
    exact set4_below HB.out (by omega) _ _ _ _ _ _ _ _
set_option maxRecDepth 100000 in
set_option maxHeartbeats 4000000 in
theorem needs_ok (C R S : Int) (sl : Value) (kind x y p q x' y' p' q' n1 n2 n12 n3 g0 g1 g2 g3 m0 m1 m2 m3 : Int) (w : World)
    (TC : ∀ w', Below w.heap.size w w' → Calls Try.prog 10 #[.agg #[.int .i64 C, .int .i64 R, .int .i64 S, sl]] w' fun e w'' => e = .returned (.int .i64 0) ∧ Below w'.heap.size w' w'')
    (KV : ∀ w, Calls Try.prog 34 #[.int .i64 kind] w fun e w' => e = .returned (.bool true) ∧ w = w')
    (VO : ∀ w, Calls Try.prog 35 #[.agg #[.int .i64 x, .int .i64 y, .int .i64 p, .int .i64 q]] w fun e w' => e = .returned (.bool true) ∧ Below w.heap.size w w')
    (VB : ∀ w, Calls Try.prog 35 #[.agg #[.int .i64 x', .int .i64 y', .int .i64 p', .int .i64 q']] w fun e w' => e = .returned (.bool true) ∧ Below w.heap.size w w')
    (EO : ∀ w, Calls Try.prog 36 #[.agg #[.int .i64 x, .int .i64 y, .int .i64 p, .int .i64 q]] w fun e w' => e = .returned (.bool false) ∧ Below w.heap.size w w')
    (WI : ∀ w, Calls Try.prog 25 #[.agg #[.int .i64 x, .int .i64 y, .int .i64 p, .int .i64 q], .agg #[.int .i64 x', .int .i64 y', .int .i64 p', .int .i64 q']] w fun e w' => e = .returned (.bool true) ∧ Below w.heap.size w w')
    (RE : ∀ w', Below w.heap.size w w' → Calls Try.prog 14 #[.agg #[.int .i64 C, .int .i64 R, .int .i64 S, sl]] w' fun e w'' => e = .returned (.int .i64 n1) ∧ Below w'.heap.size w' w'')
    (SU : ∀ w, Calls Try.prog 39 #[.int .i64 kind] w fun e w' => e = .returned (.int .i64 n2) ∧ w = w')
    (v1 : IntKind.i64.wrap (n1 + n2) = n12)
    (v2 : IntKind.i64.wrap (n12 + 1) = n3)
    (GR : ∀ w, Calls Try.prog 38 #[.agg #[.int .i64 x, .int .i64 y, .int .i64 p, .int .i64 q], .int .i64 n3] w fun e w' => e = .returned (.agg #[.int .i64 g0, .int .i64 g1, .int .i64 g2, .int .i64 g3]) ∧ Below w.heap.size w w')
    (ME : ∀ w, Calls Try.prog 37 #[.agg #[.int .i64 g0, .int .i64 g1, .int .i64 g2, .int .i64 g3], .agg #[.int .i64 x', .int .i64 y', .int .i64 p', .int .i64 q']] w fun e w' => e = .returned (.agg #[.int .i64 m0, .int .i64 m1, .int .i64 m2, .int .i64 m3]) ∧ Below w.heap.size w w')
    : Calls Try.prog 17 #[.agg #[.int .i64 C, .int .i64 R, .int .i64 S, sl], .int .i64 kind, .agg #[.int .i64 x, .int .i64 y, .int .i64 p, .int .i64 q], .agg #[.int .i64 x', .int .i64 y', .int .i64 p', .int .i64 q']] w fun e w' => e = .returned (.tuple #[.agg #[.int .i64 m0, .int .i64 m1, .int .i64 m2, .int .i64 m3], .int .i64 0]) ∧ Below w.heap.size w w' := by
  replace TC := Lib.hid TC; replace KV := Lib.hid KV; replace VO := Lib.hid VO; replace VB := Lib.hid VB; replace EO := Lib.hid EO; replace WI := Lib.hid WI; replace RE := Lib.hid RE; replace SU := Lib.hid SU; replace GR := Lib.hid GR; replace ME := Lib.hid ME
  go_enter Try.func17, Try.ntmps17
  go_upto_region 1 with fail
  have K := Lib.hid (fr_four w #[.int .i64 C, .int .i64 R, .int .i64 S, sl] #[.int .i64 x, .int .i64 y, .int .i64 p, .int .i64 q] #[.int .i64 x', .int .i64 y', .int .i64 p', .int .i64 q'] #[.int .i64 0, .int .i64 0, .int .i64 0, .int .i64 0] 24 34 34 34 _ rfl)
  generalize World.alloc (World.alloc (World.alloc (w.alloc _) _) _) _ = w0 at *
  obtain ⟨⟨i1, i2, i3, i4⟩, -⟩ := K.out.1.1.four
  go_wp2_with fail
  refine (TC.out _ K.out.2).mono ?_
  rintro e w1 ⟨rfl, hb⟩
  replace K := Lib.hid (K.out.below hb)
  clear hb i1 i2 i3 i4
  go_wp2_with fail
  refine (KV.out _).mono ?_
  rintro e w2 ⟨rfl, rfl⟩
  obtain ⟨⟨a1, a2, a3, a4⟩, -⟩ := K.out.1.2.1.four
  go_wp2_with fail
  with_reducible refine (VO.out _).mono ?_
  rintro e w3 ⟨rfl, hb⟩
  replace K := Lib.hid (K.out.below hb)
  clear hb
  clear a1 a2 a3 a4
  obtain ⟨⟨b1, b2, b3, b4⟩, -⟩ := K.out.1.2.2.1.four
  go_wp2_with fail
  with_reducible refine (VB.out _).mono ?_
  rintro e w3 ⟨rfl, hb⟩
  replace K := Lib.hid (K.out.below hb)
  clear hb
  clear b1 b2 b3 b4
  obtain ⟨⟨a1, a2, a3, a4⟩, -⟩ := K.out.1.2.1.four
  go_wp2_with fail
  with_reducible refine (EO.out _).mono ?_
  rintro e w3 ⟨rfl, hb⟩
  replace K := Lib.hid (K.out.below hb)
  clear hb
  clear a1 a2 a3 a4
  obtain ⟨⟨a1, a2, a3, a4⟩, -⟩ := K.out.1.2.1.four
  obtain ⟨⟨b1, b2, b3, b4⟩, -⟩ := K.out.1.2.2.1.four
  go_wp2_with fail
  with_reducible refine (WI.out _).mono ?_
  rintro e w3 ⟨rfl, hb⟩
  replace K := Lib.hid (K.out.below hb)
  clear hb
  clear a1 a2 a3 a4
  clear b1 b2 b3 b4
  go_upto_region 8 with fail
  have KK := Lib.hid K.out
  generalize hw : w3 = w5 at *
  clear hw
  have HSA := Lib.hid (show ∀ wq, RSt 34 (w.heap.size + 1 + 1 + 1) w5 wq → RSt 34 (w.heap.size + 1 + 1 + 1) w5 wq ∧ wq.cell? ⟨w.heap.size, 0, none⟩ = some (.int .i64 C) ∧ wq.cell? ⟨w.heap.size, 1, none⟩ = some (.int .i64 R) ∧ wq.cell? ⟨w.heap.size, 2, none⟩ = some (.int .i64 S) ∧ wq.cell? ⟨w.heap.size, 3, none⟩ = some sl ∧ wq.cell? ⟨w.heap.size + 1, 0, none⟩ = some (.int .i64 x) ∧ wq.cell? ⟨w.heap.size + 1, 1, none⟩ = some (.int .i64 y) ∧ wq.cell? ⟨w.heap.size + 1, 2, none⟩ = some (.int .i64 p) ∧ wq.cell? ⟨w.heap.size + 1, 3, none⟩ = some (.int .i64 q) ∧ wq.cell? ⟨w.heap.size + 1 + 1, 0, none⟩ = some (.int .i64 x') ∧ wq.cell? ⟨w.heap.size + 1 + 1, 1, none⟩ = some (.int .i64 y') ∧ wq.cell? ⟨w.heap.size + 1 + 1, 2, none⟩ = some (.int .i64 p') ∧ wq.cell? ⟨w.heap.size + 1 + 1, 3, none⟩ = some (.int .i64 q') ∧ wq.cell? ⟨w.heap.size + 1 + 1 + 1, 0, none⟩ = some (cv wq (w.heap.size + 1 + 1 + 1) 0) ∧ wq.cell? ⟨w.heap.size + 1 + 1 + 1, 1, none⟩ = some (cv wq (w.heap.size + 1 + 1 + 1) 1) ∧ wq.cell? ⟨w.heap.size + 1 + 1 + 1, 2, none⟩ = some (cv wq (w.heap.size + 1 + 1 + 1) 2) ∧ wq.cell? ⟨w.heap.size + 1 + 1 + 1, 3, none⟩ = some (cv wq (w.heap.size + 1 + 1 + 1) 3) ∧ wq.frozen? ⟨w.heap.size + 1 + 1 + 1, 0, none⟩ = false ∧ wq.frozen? ⟨w.heap.size + 1 + 1 + 1, 1, none⟩ = false ∧ wq.frozen? ⟨w.heap.size + 1 + 1 + 1, 2, none⟩ = false ∧ wq.frozen? ⟨w.heap.size + 1 + 1 + 1, 3, none⟩ = false from
    fun wq h => ⟨h, (h.bx KK.out.1.1 (by omega)).four.1.1, (h.bx KK.out.1.1 (by omega)).four.1.2.1, (h.bx KK.out.1.1 (by omega)).four.1.2.2.1, (h.bx KK.out.1.1 (by omega)).four.1.2.2.2, (h.bx KK.out.1.2.1 (by omega)).four.1.1, (h.bx KK.out.1.2.1 (by omega)).four.1.2.1, (h.bx KK.out.1.2.1 (by omega)).four.1.2.2.1, (h.bx KK.out.1.2.1 (by omega)).four.1.2.2.2, (h.bx KK.out.1.2.2.1 (by omega)).four.1.1, (h.bx KK.out.1.2.2.1 (by omega)).four.1.2.1, (h.bx KK.out.1.2.2.1 (by omega)).four.1.2.2.1, (h.bx KK.out.1.2.2.1 (by omega)).four.1.2.2.2, h.cvs.1.1, h.cvs.1.2.1, h.cvs.1.2.2.1, h.cvs.1.2.2.2, h.cvs.2⟩)
  have HSP := Lib.hid (fun wq (h : RSt 34 (w.heap.size + 1 + 1 + 1) w5 wq) a b c d => HSA.out _ (h.put a b c d))
  have HRE := Lib.hid (show ∀ wq, RSt 34 (w.heap.size + 1 + 1 + 1) w5 wq → Calls Try.prog 14 #[.agg #[.int .i64 C, .int .i64 R, .int .i64 S, sl]] wq fun e w'' => e = .returned (.int .i64 n1) ∧ Below wq.heap.size wq w'' from fun wq h => RE.out wq (h.bel KK.out.2 (by omega)))
  have hBv : RSt 34 (w.heap.size + 1 + 1 + 1) w5 w5.drew := RSt.start KK.out.1.2.2.2.1
  have hS0 := HSA.out _ hBv
  clear K RE TC KV VO VB EO WI
  go_region_held3 (fun wq => RSt 34 (w.heap.size + 1 + 1 + 1) w5 wq ∧ wq.cell? ⟨w.heap.size, 0, none⟩ = some (.int .i64 C) ∧ wq.cell? ⟨w.heap.size, 1, none⟩ = some (.int .i64 R) ∧ wq.cell? ⟨w.heap.size, 2, none⟩ = some (.int .i64 S) ∧ wq.cell? ⟨w.heap.size, 3, none⟩ = some sl ∧ wq.cell? ⟨w.heap.size + 1, 0, none⟩ = some (.int .i64 x) ∧ wq.cell? ⟨w.heap.size + 1, 1, none⟩ = some (.int .i64 y) ∧ wq.cell? ⟨w.heap.size + 1, 2, none⟩ = some (.int .i64 p) ∧ wq.cell? ⟨w.heap.size + 1, 3, none⟩ = some (.int .i64 q) ∧ wq.cell? ⟨w.heap.size + 1 + 1, 0, none⟩ = some (.int .i64 x') ∧ wq.cell? ⟨w.heap.size + 1 + 1, 1, none⟩ = some (.int .i64 y') ∧ wq.cell? ⟨w.heap.size + 1 + 1, 2, none⟩ = some (.int .i64 p') ∧ wq.cell? ⟨w.heap.size + 1 + 1, 3, none⟩ = some (.int .i64 q') ∧ wq.cell? ⟨w.heap.size + 1 + 1 + 1, 0, none⟩ = some (cv wq (w.heap.size + 1 + 1 + 1) 0) ∧ wq.cell? ⟨w.heap.size + 1 + 1 + 1, 1, none⟩ = some (cv wq (w.heap.size + 1 + 1 + 1) 1) ∧ wq.cell? ⟨w.heap.size + 1 + 1 + 1, 2, none⟩ = some (cv wq (w.heap.size + 1 + 1 + 1) 2) ∧ wq.cell? ⟨w.heap.size + 1 + 1 + 1, 3, none⟩ = some (cv wq (w.heap.size + 1 + 1 + 1) 3) ∧ wq.frozen? ⟨w.heap.size + 1 + 1 + 1, 0, none⟩ = false ∧ wq.frozen? ⟨w.heap.size + 1 + 1 + 1, 1, none⟩ = false ∧ wq.frozen? ⟨w.heap.size + 1 + 1 + 1, 2, none⟩ = false ∧ wq.frozen? ⟨w.heap.size + 1 + 1 + 1, 3, none⟩ = false)
    (first | assumption | exact hS0 | exact HSA.out _ hBv | exact HSP.out _ hBv _ _ _ _ | go_keep)
    (first | (go_at_call 14; (with_reducible refine (HRE.out _ hBv).mono ?_); rintro e wv ⟨rfl, hbv⟩; have hBv := RSt.call hBv hbv) | (go_at_call 39; (with_reducible refine (SU.out _).mono ?_); rintro e wv ⟨rfl, rfl⟩) | (go_at_call 38; (with_reducible refine (GR.out _).mono ?_); rintro e wv ⟨rfl, hbv⟩; have hBv := RSt.call hBv hbv) | (go_at_call 37; (with_reducible refine (ME.out _).mono ?_); rintro e wv ⟨rfl, hbv⟩; have hBv := RSt.call hBv hbv))
  obtain ⟨⟨r1, r2, r3, r4⟩, f1, f2, f3, f4⟩ := hBv.cvs
  go_wp2_with fail
  refine bodyPost_ret (v := .tuple #[.agg #[.int .i64 m0, .int .i64 m1, .int .i64 m2, .int .i64 m3], .int .i64 0]) (by simp [results, Try.results17, go_sem, r1, r2, r3, r4]) rfl ⟨rfl, ?_⟩
  exact set4_below (hBv.bel KK.out.2 (by omega)) (by omega) _ _ _ _ _ _ _ _
set_option maxRecDepth 100000 in
set_option maxHeartbeats 4000000 in
theorem rneeds_e1 (C R S : Int) (sl : Value) (kind x y p q x' y' p' q' E : Int) (w : World)
    (TC : ∀ w', Below w.heap.size w w' → Calls Try.prog 11 #[.agg #[.int .i64 C, .int .i64 R, .int .i64 S, sl]] w' fun e w'' => e = .returned (.int .i64 E) ∧ Below w'.heap.size w' w'')
    (hE : (E != 0) = true)
    : Calls Try.prog 18 #[.agg #[.int .i64 C, .int .i64 R, .int .i64 S, sl], .int .i64 kind, .agg #[.int .i64 x, .int .i64 y, .int .i64 p, .int .i64 q], .agg #[.int .i64 x', .int .i64 y', .int .i64 p', .int .i64 q']] w fun e w' => e = .returned (.tuple #[.agg #[.int .i64 0, .int .i64 0, .int .i64 0, .int .i64 0], .int .i64 E]) ∧ Below w.heap.size w w' := by
  replace TC := Lib.hid TC
  go_enter Try.func18, Try.ntmps18
  go_upto_region 1 with fail
  have K := Lib.hid (fr_four w #[.int .i64 C, .int .i64 R, .int .i64 S, sl] #[.int .i64 x, .int .i64 y, .int .i64 p, .int .i64 q] #[.int .i64 x', .int .i64 y', .int .i64 p', .int .i64 q'] #[.int .i64 0, .int .i64 0, .int .i64 0, .int .i64 0] 24 34 34 34 _ rfl)
  generalize World.alloc (World.alloc (World.alloc (w.alloc _) _) _) _ = w0 at *
  obtain ⟨⟨i1, i2, i3, i4⟩, -⟩ := K.out.1.1.four
  go_wp2_with fail
  refine (TC.out _ K.out.2).mono ?_
  rintro e w1 ⟨rfl, hb⟩
  replace K := Lib.hid (K.out.below hb)
  clear hb i1 i2 i3 i4
  have HB := Lib.hid K.out.2
  obtain ⟨⟨r1, r2, r3, r4⟩, f1, f2, f3, f4⟩ := K.out.1.2.2.2.1.four
  go_wp2_with fail
  refine bodyPost_ret (v := .tuple #[.agg #[.int .i64 0, .int .i64 0, .int .i64 0, .int .i64 0], .int .i64 E]) (by simp [results, Try.results18, go_sem, *]) rfl ⟨rfl, ?_⟩
  exact set4_below HB.out (by omega) _ _ _ _ _ _ _ _
set_option maxRecDepth 100000 in
set_option maxHeartbeats 4000000 in
theorem rneeds_e2 (C R S : Int) (sl : Value) (kind x y p q x' y' p' q' : Int) (w : World)
    (TC : ∀ w', Below w.heap.size w w' → Calls Try.prog 11 #[.agg #[.int .i64 C, .int .i64 R, .int .i64 S, sl]] w' fun e w'' => e = .returned (.int .i64 0) ∧ Below w'.heap.size w' w'')
    (KV : ∀ w, Calls Try.prog 40 #[.int .i64 kind] w fun e w' => e = .returned (.bool false) ∧ w = w')
    : Calls Try.prog 18 #[.agg #[.int .i64 C, .int .i64 R, .int .i64 S, sl], .int .i64 kind, .agg #[.int .i64 x, .int .i64 y, .int .i64 p, .int .i64 q], .agg #[.int .i64 x', .int .i64 y', .int .i64 p', .int .i64 q']] w fun e w' => e = .returned (.tuple #[.agg #[.int .i64 0, .int .i64 0, .int .i64 0, .int .i64 0], .int .i64 8]) ∧ Below w.heap.size w w' := by
  replace TC := Lib.hid TC; replace KV := Lib.hid KV
  go_enter Try.func18, Try.ntmps18
  go_upto_region 1 with fail
  have K := Lib.hid (fr_four w #[.int .i64 C, .int .i64 R, .int .i64 S, sl] #[.int .i64 x, .int .i64 y, .int .i64 p, .int .i64 q] #[.int .i64 x', .int .i64 y', .int .i64 p', .int .i64 q'] #[.int .i64 0, .int .i64 0, .int .i64 0, .int .i64 0] 24 34 34 34 _ rfl)
  generalize World.alloc (World.alloc (World.alloc (w.alloc _) _) _) _ = w0 at *
  obtain ⟨⟨i1, i2, i3, i4⟩, -⟩ := K.out.1.1.four
  go_wp2_with fail
  refine (TC.out _ K.out.2).mono ?_
  rintro e w1 ⟨rfl, hb⟩
  replace K := Lib.hid (K.out.below hb)
  clear hb i1 i2 i3 i4
  go_wp2_with fail
  refine (KV.out _).mono ?_
  rintro e w2 ⟨rfl, rfl⟩
  have HB := Lib.hid K.out.2
  obtain ⟨⟨r1, r2, r3, r4⟩, f1, f2, f3, f4⟩ := K.out.1.2.2.2.1.four
  go_wp2_with fail
  refine bodyPost_ret (v := .tuple #[.agg #[.int .i64 0, .int .i64 0, .int .i64 0, .int .i64 0], .int .i64 8]) (by simp [results, Try.results18, go_sem, *]) rfl ⟨rfl, ?_⟩
  exact set4_below HB.out (by omega) _ _ _ _ _ _ _ _
set_option maxRecDepth 100000 in
set_option maxHeartbeats 4000000 in
theorem rneeds_e3 (C R S : Int) (sl : Value) (kind x y p q x' y' p' q' : Int) (vo vb eo wi : Bool) (w : World) (tt : vo = false ∨ (vo = true ∧ vb = false) ∨ (vo = true ∧ vb = true ∧ eo = true) ∨ (vo = true ∧ vb = true ∧ eo = false ∧ wi = false))
    (TC : ∀ w', Below w.heap.size w w' → Calls Try.prog 11 #[.agg #[.int .i64 C, .int .i64 R, .int .i64 S, sl]] w' fun e w'' => e = .returned (.int .i64 0) ∧ Below w'.heap.size w' w'')
    (KV : ∀ w, Calls Try.prog 40 #[.int .i64 kind] w fun e w' => e = .returned (.bool true) ∧ w = w')
    (VO : ∀ w, Calls Try.prog 41 #[.agg #[.int .i64 x, .int .i64 y, .int .i64 p, .int .i64 q]] w fun e w' => e = .returned (.bool vo) ∧ Below w.heap.size w w')
    (VB : ∀ w, Calls Try.prog 41 #[.agg #[.int .i64 x', .int .i64 y', .int .i64 p', .int .i64 q']] w fun e w' => e = .returned (.bool vb) ∧ Below w.heap.size w w')
    (EO : ∀ w, Calls Try.prog 42 #[.agg #[.int .i64 x, .int .i64 y, .int .i64 p, .int .i64 q]] w fun e w' => e = .returned (.bool eo) ∧ Below w.heap.size w w')
    (WI : ∀ w, Calls Try.prog 43 #[.agg #[.int .i64 x, .int .i64 y, .int .i64 p, .int .i64 q], .agg #[.int .i64 x', .int .i64 y', .int .i64 p', .int .i64 q']] w fun e w' => e = .returned (.bool wi) ∧ Below w.heap.size w w')
    : Calls Try.prog 18 #[.agg #[.int .i64 C, .int .i64 R, .int .i64 S, sl], .int .i64 kind, .agg #[.int .i64 x, .int .i64 y, .int .i64 p, .int .i64 q], .agg #[.int .i64 x', .int .i64 y', .int .i64 p', .int .i64 q']] w fun e w' => e = .returned (.tuple #[.agg #[.int .i64 0, .int .i64 0, .int .i64 0, .int .i64 0], .int .i64 2]) ∧ Below w.heap.size w w' := by
  replace TC := Lib.hid TC; replace KV := Lib.hid KV; replace VO := Lib.hid VO; replace VB := Lib.hid VB; replace EO := Lib.hid EO; replace WI := Lib.hid WI
  rcases tt with rfl | ⟨rfl, rfl⟩ | ⟨rfl, rfl, rfl⟩ | ⟨rfl, rfl, rfl, rfl⟩
  · go_enter Try.func18, Try.ntmps18
    go_upto_region 1 with fail
    have K := Lib.hid (fr_four w #[.int .i64 C, .int .i64 R, .int .i64 S, sl] #[.int .i64 x, .int .i64 y, .int .i64 p, .int .i64 q] #[.int .i64 x', .int .i64 y', .int .i64 p', .int .i64 q'] #[.int .i64 0, .int .i64 0, .int .i64 0, .int .i64 0] 24 34 34 34 _ rfl)
    generalize World.alloc (World.alloc (World.alloc (w.alloc _) _) _) _ = w0 at *
    obtain ⟨⟨i1, i2, i3, i4⟩, -⟩ := K.out.1.1.four
    go_wp2_with fail
    refine (TC.out _ K.out.2).mono ?_
    rintro e w1 ⟨rfl, hb⟩
    replace K := Lib.hid (K.out.below hb)
    clear hb i1 i2 i3 i4
    go_wp2_with fail
    refine (KV.out _).mono ?_
    rintro e w2 ⟨rfl, rfl⟩
    obtain ⟨⟨a1, a2, a3, a4⟩, -⟩ := K.out.1.2.1.four
    go_wp2_with fail
    with_reducible refine (VO.out _).mono ?_
    rintro e w3 ⟨rfl, hb⟩
    replace K := Lib.hid (K.out.below hb)
    clear hb
    clear a1 a2 a3 a4
    have HB := Lib.hid K.out.2
    obtain ⟨⟨r1, r2, r3, r4⟩, f1, f2, f3, f4⟩ := K.out.1.2.2.2.1.four
    go_wp2_with fail
    refine bodyPost_ret (v := .tuple #[.agg #[.int .i64 0, .int .i64 0, .int .i64 0, .int .i64 0], .int .i64 2]) (by simp [results, Try.results18, go_sem, *]) rfl ⟨rfl, ?_⟩
    exact set4_below HB.out (by omega) _ _ _ _ _ _ _ _
  · go_enter Try.func18, Try.ntmps18
    go_upto_region 1 with fail
    have K := Lib.hid (fr_four w #[.int .i64 C, .int .i64 R, .int .i64 S, sl] #[.int .i64 x, .int .i64 y, .int .i64 p, .int .i64 q] #[.int .i64 x', .int .i64 y', .int .i64 p', .int .i64 q'] #[.int .i64 0, .int .i64 0, .int .i64 0, .int .i64 0] 24 34 34 34 _ rfl)
    generalize World.alloc (World.alloc (World.alloc (w.alloc _) _) _) _ = w0 at *
    obtain ⟨⟨i1, i2, i3, i4⟩, -⟩ := K.out.1.1.four
    go_wp2_with fail
    refine (TC.out _ K.out.2).mono ?_
    rintro e w1 ⟨rfl, hb⟩
    replace K := Lib.hid (K.out.below hb)
    clear hb i1 i2 i3 i4
    go_wp2_with fail
    refine (KV.out _).mono ?_
    rintro e w2 ⟨rfl, rfl⟩
    obtain ⟨⟨a1, a2, a3, a4⟩, -⟩ := K.out.1.2.1.four
    go_wp2_with fail
    with_reducible refine (VO.out _).mono ?_
    rintro e w3 ⟨rfl, hb⟩
    replace K := Lib.hid (K.out.below hb)
    clear hb
    clear a1 a2 a3 a4
    obtain ⟨⟨b1, b2, b3, b4⟩, -⟩ := K.out.1.2.2.1.four
    go_wp2_with fail
    with_reducible refine (VB.out _).mono ?_
    rintro e w3 ⟨rfl, hb⟩
    replace K := Lib.hid (K.out.below hb)
    clear hb
    clear b1 b2 b3 b4
    have HB := Lib.hid K.out.2
    obtain ⟨⟨r1, r2, r3, r4⟩, f1, f2, f3, f4⟩ := K.out.1.2.2.2.1.four
    go_wp2_with fail
    refine bodyPost_ret (v := .tuple #[.agg #[.int .i64 0, .int .i64 0, .int .i64 0, .int .i64 0], .int .i64 2]) (by simp [results, Try.results18, go_sem, *]) rfl ⟨rfl, ?_⟩
    exact set4_below HB.out (by omega) _ _ _ _ _ _ _ _
  · go_enter Try.func18, Try.ntmps18
    go_upto_region 1 with fail
    have K := Lib.hid (fr_four w #[.int .i64 C, .int .i64 R, .int .i64 S, sl] #[.int .i64 x, .int .i64 y, .int .i64 p, .int .i64 q] #[.int .i64 x', .int .i64 y', .int .i64 p', .int .i64 q'] #[.int .i64 0, .int .i64 0, .int .i64 0, .int .i64 0] 24 34 34 34 _ rfl)
    generalize World.alloc (World.alloc (World.alloc (w.alloc _) _) _) _ = w0 at *
    obtain ⟨⟨i1, i2, i3, i4⟩, -⟩ := K.out.1.1.four
    go_wp2_with fail
    refine (TC.out _ K.out.2).mono ?_
    rintro e w1 ⟨rfl, hb⟩
    replace K := Lib.hid (K.out.below hb)
    clear hb i1 i2 i3 i4
    go_wp2_with fail
    refine (KV.out _).mono ?_
    rintro e w2 ⟨rfl, rfl⟩
    obtain ⟨⟨a1, a2, a3, a4⟩, -⟩ := K.out.1.2.1.four
    go_wp2_with fail
    with_reducible refine (VO.out _).mono ?_
    rintro e w3 ⟨rfl, hb⟩
    replace K := Lib.hid (K.out.below hb)
    clear hb
    clear a1 a2 a3 a4
    obtain ⟨⟨b1, b2, b3, b4⟩, -⟩ := K.out.1.2.2.1.four
    go_wp2_with fail
    with_reducible refine (VB.out _).mono ?_
    rintro e w3 ⟨rfl, hb⟩
    replace K := Lib.hid (K.out.below hb)
    clear hb
    clear b1 b2 b3 b4
    obtain ⟨⟨a1, a2, a3, a4⟩, -⟩ := K.out.1.2.1.four
    go_wp2_with fail
    with_reducible refine (EO.out _).mono ?_
    rintro e w3 ⟨rfl, hb⟩
    replace K := Lib.hid (K.out.below hb)
    clear hb
    clear a1 a2 a3 a4
    have HB := Lib.hid K.out.2
    obtain ⟨⟨r1, r2, r3, r4⟩, f1, f2, f3, f4⟩ := K.out.1.2.2.2.1.four
    go_wp2_with fail
    refine bodyPost_ret (v := .tuple #[.agg #[.int .i64 0, .int .i64 0, .int .i64 0, .int .i64 0], .int .i64 2]) (by simp [results, Try.results18, go_sem, *]) rfl ⟨rfl, ?_⟩
    exact set4_below HB.out (by omega) _ _ _ _ _ _ _ _
  · go_enter Try.func18, Try.ntmps18
    go_upto_region 1 with fail
    have K := Lib.hid (fr_four w #[.int .i64 C, .int .i64 R, .int .i64 S, sl] #[.int .i64 x, .int .i64 y, .int .i64 p, .int .i64 q] #[.int .i64 x', .int .i64 y', .int .i64 p', .int .i64 q'] #[.int .i64 0, .int .i64 0, .int .i64 0, .int .i64 0] 24 34 34 34 _ rfl)
    generalize World.alloc (World.alloc (World.alloc (w.alloc _) _) _) _ = w0 at *
    obtain ⟨⟨i1, i2, i3, i4⟩, -⟩ := K.out.1.1.four
    go_wp2_with fail
    refine (TC.out _ K.out.2).mono ?_
    rintro e w1 ⟨rfl, hb⟩
    replace K := Lib.hid (K.out.below hb)
    clear hb i1 i2 i3 i4
    go_wp2_with fail
    refine (KV.out _).mono ?_
    rintro e w2 ⟨rfl, rfl⟩
    obtain ⟨⟨a1, a2, a3, a4⟩, -⟩ := K.out.1.2.1.four
    go_wp2_with fail
    with_reducible refine (VO.out _).mono ?_
    rintro e w3 ⟨rfl, hb⟩
    replace K := Lib.hid (K.out.below hb)
    clear hb
    clear a1 a2 a3 a4
    obtain ⟨⟨b1, b2, b3, b4⟩, -⟩ := K.out.1.2.2.1.four
    go_wp2_with fail
    with_reducible refine (VB.out _).mono ?_
    rintro e w3 ⟨rfl, hb⟩
    replace K := Lib.hid (K.out.below hb)
    clear hb
    clear b1 b2 b3 b4
    obtain ⟨⟨a1, a2, a3, a4⟩, -⟩ := K.out.1.2.1.four
    go_wp2_with fail
    with_reducible refine (EO.out _).mono ?_
    rintro e w3 ⟨rfl, hb⟩
    replace K := Lib.hid (K.out.below hb)
    clear hb
    clear a1 a2 a3 a4
    obtain ⟨⟨a1, a2, a3, a4⟩, -⟩ := K.out.1.2.1.four
    obtain ⟨⟨b1, b2, b3, b4⟩, -⟩ := K.out.1.2.2.1.four
    go_wp2_with fail
    with_reducible refine (WI.out _).mono ?_
    rintro e w3 ⟨rfl, hb⟩
    replace K := Lib.hid (K.out.below hb)
    clear hb
    clear a1 a2 a3 a4
    clear b1 b2 b3 b4
    have HB := Lib.hid K.out.2
    obtain ⟨⟨r1, r2, r3, r4⟩, f1, f2, f3, f4⟩ := K.out.1.2.2.2.1.four
    go_wp2_with fail
    refine bodyPost_ret (v := .tuple #[.agg #[.int .i64 0, .int .i64 0, .int .i64 0, .int .i64 0], .int .i64 2]) (by simp [results, Try.results18, go_sem, *]) rfl ⟨rfl, ?_⟩
    exact set4_below HB.out (by omega) _ _ _ _ _ _ _ _
set_option maxRecDepth 100000 in
set_option maxHeartbeats 4000000 in
theorem rneeds_ok (C R S : Int) (sl : Value) (kind x y p q x' y' p' q' n1 n2 n12 n3 g0 g1 g2 g3 m0 m1 m2 m3 : Int) (w : World)
    (TC : ∀ w', Below w.heap.size w w' → Calls Try.prog 11 #[.agg #[.int .i64 C, .int .i64 R, .int .i64 S, sl]] w' fun e w'' => e = .returned (.int .i64 0) ∧ Below w'.heap.size w' w'')
    (KV : ∀ w, Calls Try.prog 40 #[.int .i64 kind] w fun e w' => e = .returned (.bool true) ∧ w = w')
    (VO : ∀ w, Calls Try.prog 41 #[.agg #[.int .i64 x, .int .i64 y, .int .i64 p, .int .i64 q]] w fun e w' => e = .returned (.bool true) ∧ Below w.heap.size w w')
    (VB : ∀ w, Calls Try.prog 41 #[.agg #[.int .i64 x', .int .i64 y', .int .i64 p', .int .i64 q']] w fun e w' => e = .returned (.bool true) ∧ Below w.heap.size w w')
    (EO : ∀ w, Calls Try.prog 42 #[.agg #[.int .i64 x, .int .i64 y, .int .i64 p, .int .i64 q]] w fun e w' => e = .returned (.bool false) ∧ Below w.heap.size w w')
    (WI : ∀ w, Calls Try.prog 43 #[.agg #[.int .i64 x, .int .i64 y, .int .i64 p, .int .i64 q], .agg #[.int .i64 x', .int .i64 y', .int .i64 p', .int .i64 q']] w fun e w' => e = .returned (.bool true) ∧ Below w.heap.size w w')
    (RE : ∀ w', Below w.heap.size w w' → Calls Try.prog 15 #[.agg #[.int .i64 C, .int .i64 R, .int .i64 S, sl]] w' fun e w'' => e = .returned (.int .i64 n1) ∧ Below w'.heap.size w' w'')
    (SU : ∀ w, Calls Try.prog 46 #[.int .i64 kind] w fun e w' => e = .returned (.int .i64 n2) ∧ w = w')
    (v1 : IntKind.i64.wrap (n1 + n2) = n12)
    (v2 : IntKind.i64.wrap (n12 + 1) = n3)
    (GR : ∀ w, Calls Try.prog 45 #[.agg #[.int .i64 x, .int .i64 y, .int .i64 p, .int .i64 q], .int .i64 n3] w fun e w' => e = .returned (.agg #[.int .i64 g0, .int .i64 g1, .int .i64 g2, .int .i64 g3]) ∧ Below w.heap.size w w')
    (ME : ∀ w, Calls Try.prog 44 #[.agg #[.int .i64 g0, .int .i64 g1, .int .i64 g2, .int .i64 g3], .agg #[.int .i64 x', .int .i64 y', .int .i64 p', .int .i64 q']] w fun e w' => e = .returned (.agg #[.int .i64 m0, .int .i64 m1, .int .i64 m2, .int .i64 m3]) ∧ Below w.heap.size w w')
    : Calls Try.prog 18 #[.agg #[.int .i64 C, .int .i64 R, .int .i64 S, sl], .int .i64 kind, .agg #[.int .i64 x, .int .i64 y, .int .i64 p, .int .i64 q], .agg #[.int .i64 x', .int .i64 y', .int .i64 p', .int .i64 q']] w fun e w' => e = .returned (.tuple #[.agg #[.int .i64 m0, .int .i64 m1, .int .i64 m2, .int .i64 m3], .int .i64 0]) ∧ Below w.heap.size w w' := by
  replace TC := Lib.hid TC; replace KV := Lib.hid KV; replace VO := Lib.hid VO; replace VB := Lib.hid VB; replace EO := Lib.hid EO; replace WI := Lib.hid WI; replace RE := Lib.hid RE; replace SU := Lib.hid SU; replace GR := Lib.hid GR; replace ME := Lib.hid ME
  go_enter Try.func18, Try.ntmps18
  go_upto_region 1 with fail
  have K := Lib.hid (fr_four w #[.int .i64 C, .int .i64 R, .int .i64 S, sl] #[.int .i64 x, .int .i64 y, .int .i64 p, .int .i64 q] #[.int .i64 x', .int .i64 y', .int .i64 p', .int .i64 q'] #[.int .i64 0, .int .i64 0, .int .i64 0, .int .i64 0] 24 34 34 34 _ rfl)
  generalize World.alloc (World.alloc (World.alloc (w.alloc _) _) _) _ = w0 at *
  obtain ⟨⟨i1, i2, i3, i4⟩, -⟩ := K.out.1.1.four
  go_wp2_with fail
  refine (TC.out _ K.out.2).mono ?_
  rintro e w1 ⟨rfl, hb⟩
  replace K := Lib.hid (K.out.below hb)
  clear hb i1 i2 i3 i4
  go_wp2_with fail
  refine (KV.out _).mono ?_
  rintro e w2 ⟨rfl, rfl⟩
  obtain ⟨⟨a1, a2, a3, a4⟩, -⟩ := K.out.1.2.1.four
  go_wp2_with fail
  with_reducible refine (VO.out _).mono ?_
  rintro e w3 ⟨rfl, hb⟩
  replace K := Lib.hid (K.out.below hb)
  clear hb
  clear a1 a2 a3 a4
  obtain ⟨⟨b1, b2, b3, b4⟩, -⟩ := K.out.1.2.2.1.four
  go_wp2_with fail
  with_reducible refine (VB.out _).mono ?_
  rintro e w3 ⟨rfl, hb⟩
  replace K := Lib.hid (K.out.below hb)
  clear hb
  clear b1 b2 b3 b4
  obtain ⟨⟨a1, a2, a3, a4⟩, -⟩ := K.out.1.2.1.four
  go_wp2_with fail
  with_reducible refine (EO.out _).mono ?_
  rintro e w3 ⟨rfl, hb⟩
  replace K := Lib.hid (K.out.below hb)
  clear hb
  clear a1 a2 a3 a4
  obtain ⟨⟨a1, a2, a3, a4⟩, -⟩ := K.out.1.2.1.four
  obtain ⟨⟨b1, b2, b3, b4⟩, -⟩ := K.out.1.2.2.1.four
  go_wp2_with fail
  with_reducible refine (WI.out _).mono ?_
  rintro e w3 ⟨rfl, hb⟩
  replace K := Lib.hid (K.out.below hb)
  clear hb
  clear a1 a2 a3 a4
  clear b1 b2 b3 b4
  go_upto_region 8 with fail
  have KK := Lib.hid K.out
  generalize hw : w3 = w5 at *
  clear hw
  have HSA := Lib.hid (show ∀ wq, RSt 34 (w.heap.size + 1 + 1 + 1) w5 wq → RSt 34 (w.heap.size + 1 + 1 + 1) w5 wq ∧ wq.cell? ⟨w.heap.size, 0, none⟩ = some (.int .i64 C) ∧ wq.cell? ⟨w.heap.size, 1, none⟩ = some (.int .i64 R) ∧ wq.cell? ⟨w.heap.size, 2, none⟩ = some (.int .i64 S) ∧ wq.cell? ⟨w.heap.size, 3, none⟩ = some sl ∧ wq.cell? ⟨w.heap.size + 1, 0, none⟩ = some (.int .i64 x) ∧ wq.cell? ⟨w.heap.size + 1, 1, none⟩ = some (.int .i64 y) ∧ wq.cell? ⟨w.heap.size + 1, 2, none⟩ = some (.int .i64 p) ∧ wq.cell? ⟨w.heap.size + 1, 3, none⟩ = some (.int .i64 q) ∧ wq.cell? ⟨w.heap.size + 1 + 1, 0, none⟩ = some (.int .i64 x') ∧ wq.cell? ⟨w.heap.size + 1 + 1, 1, none⟩ = some (.int .i64 y') ∧ wq.cell? ⟨w.heap.size + 1 + 1, 2, none⟩ = some (.int .i64 p') ∧ wq.cell? ⟨w.heap.size + 1 + 1, 3, none⟩ = some (.int .i64 q') ∧ wq.cell? ⟨w.heap.size + 1 + 1 + 1, 0, none⟩ = some (cv wq (w.heap.size + 1 + 1 + 1) 0) ∧ wq.cell? ⟨w.heap.size + 1 + 1 + 1, 1, none⟩ = some (cv wq (w.heap.size + 1 + 1 + 1) 1) ∧ wq.cell? ⟨w.heap.size + 1 + 1 + 1, 2, none⟩ = some (cv wq (w.heap.size + 1 + 1 + 1) 2) ∧ wq.cell? ⟨w.heap.size + 1 + 1 + 1, 3, none⟩ = some (cv wq (w.heap.size + 1 + 1 + 1) 3) ∧ wq.frozen? ⟨w.heap.size + 1 + 1 + 1, 0, none⟩ = false ∧ wq.frozen? ⟨w.heap.size + 1 + 1 + 1, 1, none⟩ = false ∧ wq.frozen? ⟨w.heap.size + 1 + 1 + 1, 2, none⟩ = false ∧ wq.frozen? ⟨w.heap.size + 1 + 1 + 1, 3, none⟩ = false from
    fun wq h => ⟨h, (h.bx KK.out.1.1 (by omega)).four.1.1, (h.bx KK.out.1.1 (by omega)).four.1.2.1, (h.bx KK.out.1.1 (by omega)).four.1.2.2.1, (h.bx KK.out.1.1 (by omega)).four.1.2.2.2, (h.bx KK.out.1.2.1 (by omega)).four.1.1, (h.bx KK.out.1.2.1 (by omega)).four.1.2.1, (h.bx KK.out.1.2.1 (by omega)).four.1.2.2.1, (h.bx KK.out.1.2.1 (by omega)).four.1.2.2.2, (h.bx KK.out.1.2.2.1 (by omega)).four.1.1, (h.bx KK.out.1.2.2.1 (by omega)).four.1.2.1, (h.bx KK.out.1.2.2.1 (by omega)).four.1.2.2.1, (h.bx KK.out.1.2.2.1 (by omega)).four.1.2.2.2, h.cvs.1.1, h.cvs.1.2.1, h.cvs.1.2.2.1, h.cvs.1.2.2.2, h.cvs.2⟩)
  have HSP := Lib.hid (fun wq (h : RSt 34 (w.heap.size + 1 + 1 + 1) w5 wq) a b c d => HSA.out _ (h.put a b c d))
  have HRE := Lib.hid (show ∀ wq, RSt 34 (w.heap.size + 1 + 1 + 1) w5 wq → Calls Try.prog 15 #[.agg #[.int .i64 C, .int .i64 R, .int .i64 S, sl]] wq fun e w'' => e = .returned (.int .i64 n1) ∧ Below wq.heap.size wq w'' from fun wq h => RE.out wq (h.bel KK.out.2 (by omega)))
  have hBv : RSt 34 (w.heap.size + 1 + 1 + 1) w5 w5.drew := RSt.start KK.out.1.2.2.2.1
  have hS0 := HSA.out _ hBv
  clear K RE TC KV VO VB EO WI
  go_region_held3 (fun wq => RSt 34 (w.heap.size + 1 + 1 + 1) w5 wq ∧ wq.cell? ⟨w.heap.size, 0, none⟩ = some (.int .i64 C) ∧ wq.cell? ⟨w.heap.size, 1, none⟩ = some (.int .i64 R) ∧ wq.cell? ⟨w.heap.size, 2, none⟩ = some (.int .i64 S) ∧ wq.cell? ⟨w.heap.size, 3, none⟩ = some sl ∧ wq.cell? ⟨w.heap.size + 1, 0, none⟩ = some (.int .i64 x) ∧ wq.cell? ⟨w.heap.size + 1, 1, none⟩ = some (.int .i64 y) ∧ wq.cell? ⟨w.heap.size + 1, 2, none⟩ = some (.int .i64 p) ∧ wq.cell? ⟨w.heap.size + 1, 3, none⟩ = some (.int .i64 q) ∧ wq.cell? ⟨w.heap.size + 1 + 1, 0, none⟩ = some (.int .i64 x') ∧ wq.cell? ⟨w.heap.size + 1 + 1, 1, none⟩ = some (.int .i64 y') ∧ wq.cell? ⟨w.heap.size + 1 + 1, 2, none⟩ = some (.int .i64 p') ∧ wq.cell? ⟨w.heap.size + 1 + 1, 3, none⟩ = some (.int .i64 q') ∧ wq.cell? ⟨w.heap.size + 1 + 1 + 1, 0, none⟩ = some (cv wq (w.heap.size + 1 + 1 + 1) 0) ∧ wq.cell? ⟨w.heap.size + 1 + 1 + 1, 1, none⟩ = some (cv wq (w.heap.size + 1 + 1 + 1) 1) ∧ wq.cell? ⟨w.heap.size + 1 + 1 + 1, 2, none⟩ = some (cv wq (w.heap.size + 1 + 1 + 1) 2) ∧ wq.cell? ⟨w.heap.size + 1 + 1 + 1, 3, none⟩ = some (cv wq (w.heap.size + 1 + 1 + 1) 3) ∧ wq.frozen? ⟨w.heap.size + 1 + 1 + 1, 0, none⟩ = false ∧ wq.frozen? ⟨w.heap.size + 1 + 1 + 1, 1, none⟩ = false ∧ wq.frozen? ⟨w.heap.size + 1 + 1 + 1, 2, none⟩ = false ∧ wq.frozen? ⟨w.heap.size + 1 + 1 + 1, 3, none⟩ = false)
    (first | assumption | exact hS0 | exact HSA.out _ hBv | exact HSP.out _ hBv _ _ _ _ | go_keep)
    (first | (go_at_call 15; (with_reducible refine (HRE.out _ hBv).mono ?_); rintro e wv ⟨rfl, hbv⟩; have hBv := RSt.call hBv hbv) | (go_at_call 46; (with_reducible refine (SU.out _).mono ?_); rintro e wv ⟨rfl, rfl⟩) | (go_at_call 45; (with_reducible refine (GR.out _).mono ?_); rintro e wv ⟨rfl, hbv⟩; have hBv := RSt.call hBv hbv) | (go_at_call 44; (with_reducible refine (ME.out _).mono ?_); rintro e wv ⟨rfl, hbv⟩; have hBv := RSt.call hBv hbv))
  obtain ⟨⟨r1, r2, r3, r4⟩, f1, f2, f3, f4⟩ := hBv.cvs
  go_wp2_with fail
  refine bodyPost_ret (v := .tuple #[.agg #[.int .i64 m0, .int .i64 m1, .int .i64 m2, .int .i64 m3], .int .i64 0]) (by simp [results, Try.results18, go_sem, r1, r2, r3, r4]) rfl ⟨rfl, ?_⟩
  exact set4_below (hBv.bel KK.out.2 (by omega)) (by omega) _ _ _ _ _ _ _ _
end Go.Proofs.Ytbakgdcajpagkaa
