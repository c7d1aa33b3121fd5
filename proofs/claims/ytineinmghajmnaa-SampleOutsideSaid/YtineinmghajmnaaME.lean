/- Words for boxes and for what lies in them. -/
import Derived.Test.YtineinmghajmnaaMD
import Derived.Deep.RegionHeld3
import Derived.Test.YtineinmghajmnaaMB
import Derived.Deep.Onto
import Derived.StillTailTactics
namespace Go.Proofs.Ytineinmghajmnaa
open Go.RowKit
def cv (w : World) (g j : Nat) : Value := (w.cell? ⟨g, j, none⟩).getD undef
theorem cv_ok {w : World} {g j : Nat} {v : Value} (h : w.cell? ⟨g, j, none⟩ = some v) : w.cell? ⟨g, j, none⟩ = some (cv w g j) := by unfold cv; rw [h]; rfl
theorem drewN_cell (X : World) (k : Nat) (a : Addr) : (X.drewN k).cell? a = X.cell? a := rfl
theorem drewN_frozen (X : World) (k : Nat) (a : Addr) : (X.drewN k).frozen? a = X.frozen? a := rfl
theorem cv_drewN (X : World) (k g j : Nat) : cv (X.drewN k) g j = cv X g j := rfl
theorem ret_two {a b a' b' : Int} (h : a = a') (h' : b = b') : Ending.returned (.agg #[.int .i64 a, .int .i64 b]) = .returned (.agg #[.int .i64 a', .int .i64 b']) := by rw [h, h']
/-- Since w0 only the box g was written. -/
def RSt (t : TypeId) (g : Nat) (w0 w' : World) : Prop := KB w0.heap.size g w0 w' ∧ ∃ a b c d, Bx w' g t #[a, b, c, d]
section
variable {t : TypeId} {g : Nat} {w0 w1 w2 : World}
theorem RSt.start {a b c d : Value} (h : Bx w0 g t #[a, b, c, d]) : RSt t g w0 w0.drew := ⟨(KB.refl _ _ _).drew, a, b, c, d, h.drew⟩
theorem RSt.call (h : RSt t g w0 w1) (hb : Below w1.heap.size w1 w2) : RSt t g w0 w2 := by
  obtain ⟨h1, a, b, c, d, h2⟩ := h
  exact ⟨h1.below hb h1.size, a, b, c, d, h2.below hb⟩
theorem RSt.drewN (h : RSt t g w0 w1) (n : Nat) : RSt t g w0 (w1.drewN n) := h.call (Below.drewN' (Below.refl _ _) n)
theorem RSt.put (h : RSt t g w0 w1) (a b c d : Value) : RSt t g w0 ((((w1.setCell ⟨g, 0, none⟩ a).setCell ⟨g, 1, none⟩ b).setCell ⟨g, 2, none⟩ c).setCell ⟨g, 3, none⟩ d) := by
  obtain ⟨h1, _, _, _, _, h2⟩ := h
  exact ⟨h1.set4 _ _ _ _ _ _ _ _, a, b, c, d, (((h2.set 0 a).set 1 b).set 2 c).set 3 d⟩
theorem RSt.cvs (h : RSt t g w0 w1) : (w1.cell? ⟨g, 0, none⟩ = some (cv w1 g 0) ∧ w1.cell? ⟨g, 1, none⟩ = some (cv w1 g 1) ∧ w1.cell? ⟨g, 2, none⟩ = some (cv w1 g 2) ∧ w1.cell? ⟨g, 3, none⟩ = some (cv w1 g 3)) ∧
    w1.frozen? ⟨g, 0, none⟩ = false ∧ w1.frozen? ⟨g, 1, none⟩ = false ∧ w1.frozen? ⟨g, 2, none⟩ = false ∧ w1.frozen? ⟨g, 3, none⟩ = false := by
  obtain ⟨_, a, b, c, d, h2⟩ := h
  obtain ⟨⟨r1, r2, r3, r4⟩, f⟩ := h2.four
  exact ⟨⟨by rw [cv, r1]; rfl, by rw [cv, r2]; rfl, by rw [cv, r3]; rfl, by rw [cv, r4]; rfl⟩, f⟩
theorem RSt.bx {g' : Nat} {t' : TypeId} {vs : Array Value} (h : RSt t g w0 w1) (hb : Bx w0 g' t' vs) (hn : g' ≠ g) : Bx w1 g' t' vs := h.1.bx hb hb.lt hn
theorem RSt.bel {w : World} (h : RSt t g w0 w1) (hb : Below w.heap.size w w0) (hg : w.heap.size ≤ g) : Below w.heap.size w w1 := h.1.toBelow hb hg hb.size
end
theorem fr_four (w : World) (vs us ts rs : Array Value) (t u v z : TypeId) (w0 : World) (hw : w0 = (((w.alloc (.cells vs t)).alloc (.cells us u)).alloc (.cells ts v)).alloc (.cells rs z)) : Fr w [(t, vs), (u, us), (v, ts), (z, rs)] w0 := by
  obtain ⟨a, b, c, d, e⟩ := three_boxes w vs us ts t u v _ rfl
  subst hw
  have n := Bx.new (((w.alloc (.cells vs t)).alloc (.cells us u)).alloc (.cells ts v)) z rs
  rw [e] at n
  exact ⟨⟨a.alloc _, b.alloc _, c.alloc _, n, trivial⟩, bel_alloc d _⟩
theorem fr_five (w : World) (a b c d e : Array Value) (ta tb tc td te : TypeId) (w0 : World) (hw : w0 = ((((w.alloc (.cells a ta)).alloc (.cells b tb)).alloc (.cells c tc)).alloc (.cells d td)).alloc (.cells e te)) : Fr w [(ta, a), (tb, b), (tc, c), (td, d), (te, e)] w0 := by
  obtain ⟨⟨k1, k2, k3, k4, -⟩, hB⟩ := fr_four w a b c d ta tb tc td _ rfl
  subst hw
  have n5 := Bx.new ((((w.alloc (.cells a ta)).alloc (.cells b tb)).alloc (.cells c tc)).alloc (.cells d td)) te e
  simp only [World.size_alloc] at n5
  exact ⟨⟨k1.alloc _, k2.alloc _, k3.alloc _, k4.alloc _, n5, trivial⟩, bel_alloc hB _⟩
theorem fr_six (w : World) (a b c d e f : Array Value) (ta tb tc td te tf : TypeId) (w0 : World) (hw : w0 = (((((w.alloc (.cells a ta)).alloc (.cells b tb)).alloc (.cells c tc)).alloc (.cells d td)).alloc (.cells e te)).alloc (.cells f tf)) : Fr w [(ta, a), (tb, b), (tc, c), (td, d), (te, e), (tf, f)] w0 := by
  obtain ⟨⟨k1, k2, k3, k4, -⟩, hB⟩ := fr_four w a b c d ta tb tc td _ rfl
  subst hw
  have n5 := Bx.new ((((w.alloc (.cells a ta)).alloc (.cells b tb)).alloc (.cells c tc)).alloc (.cells d td)) te e
  have n6 := Bx.new (((((w.alloc (.cells a ta)).alloc (.cells b tb)).alloc (.cells c tc)).alloc (.cells d td)).alloc (.cells e te)) tf f
  simp only [World.size_alloc] at n5 n6
  exact ⟨⟨(k1.alloc _).alloc _, (k2.alloc _).alloc _, (k3.alloc _).alloc _, (k4.alloc _).alloc _, n5.alloc _, n6, trivial⟩, bel_alloc (bel_alloc hB _) _⟩
theorem Bxs.kb {w w' : World} {g : Nat} (hk : KB w.heap.size g w w') : ∀ {l : List (TypeId × Array Value)} {b : Nat}, b + l.length ≤ g → Bxs w b l → Bxs w' b l
  | [], _, _, _ => trivial
  | (_, _) :: l, b, hg, h => ⟨hk.bx h.1 h.1.lt (by simp only [List.length_cons] at hg; omega), Bxs.kb hk (by simp only [List.length_cons] at hg; omega) h.2⟩
theorem Fr.kb {w0 w w' : World} {g : Nat} {l : List (TypeId × Array Value)} (h : Fr w0 l w) (hk : KB w.heap.size g w w') (hg : w0.heap.size + l.length ≤ g) : Fr w0 l w' :=
  ⟨Bxs.kb hk hg h.1, hk.toBelow h.2 (by omega) h.2.size⟩
end Go.Proofs.Ytineinmghajmnaa
namespace Go.Proofs.Ytineinmghajmnaa
open Go.RowKit
attribute [local go_sem 2000] run_max2m run_min2m
def atP (W H : Int) (ps : List Px) (x y : Int) : Px := if ichk W H ps = 0 then pick W H ps x y else Px.zero
set_option maxHeartbeats 2000000 in
theorem pat_any (W H : Int) (A : Option Addr) (c : Nat) (ps : List Px) (x y : Int) (w : World) (h : Pixs w w.heap.size (.slice A ps.length c) ps) :
    Calls Try.prog 25 #[.agg #[.int .i64 W, .int .i64 H, .slice A ps.length c], .int .i64 x, .int .i64 y] w (PxPost (atP W H ps x y) w) := by
  have HP := Lib.hid h; clear h
  have HD := Lib.hid (show ichk W H ps = 0 ∨ ichk W H ps ≠ 0 by omega)
  have HI := Lib.hid (ichk_iff W H ps)
  have HA := Lib.hid (show ∀ x y, atP W H ps x y = if ichk W H ps = 0 then pick W H ps x y else Px.zero from fun _ _ => rfl)
  have HC := Lib.hid (icheck_any W H A ps.length c ps)
  generalize ichk W H ps = ch at *
  go_enter Try.func25, Try.ntmps25
  go_upto_region 1 with fail
  obtain ⟨hb1, hb2, hB⟩ := two_boxes w #[.int .i64 W, .int .i64 H, .slice A ps.length c] #[.int .i64 0, .int .i64 0, .int .i64 0, .int .i64 0] 24 27 _ rfl
  generalize World.alloc (w.alloc _) _ = w0 at *
  obtain ⟨⟨i1, i2, i3⟩, _, _, _⟩ := hb1.three
  go_wp2_with fail
  refine (HC.out _ (HP.out.on hB)).mono ?_
  rintro e w1 ⟨rfl, hb⟩
  replace hb1 := hb1.below hb; replace hb2 := hb2.below hb; replace hB := bel_trans hB hb
  clear i1 i2 i3 hb
  rcases HD.out with rfl | hc
  · have hiok := HI.out.1 rfl
    have hw0 := hiok.w0; have hw1 := hiok.w1; have hh0 := hiok.h0; have hh1 := hiok.h1
    have HIO := Lib.hid hiok; clear hiok
    obtain ⟨⟨i1, i2, i3⟩, _, _, _⟩ := hb1.three
    go_wp2_with fail
    refine (at_any W H A ps.length c ps _ _ _ HIO.out (HP.out.on hB)).mono ?_
    rintro e w2 ⟨rfl, hb⟩
    replace hb2 := hb2.below hb; replace hB := bel_trans hB hb
    clear i1 i2 i3 hb
    obtain ⟨⟨r1, r2, r3, r4⟩, rf1, rf2, rf3, rf4⟩ := hb2.four
    go_wp2_with fail
    refine bodyPost_ret (v := _) (by simp [results, Try.results25, go_sem, r1, r2, r3, r4]; rfl) rfl ⟨?_, set4_below hB (Nat.le_succ _) _ _ _ _ _ _ _ _⟩
    simp [HA.out]
  · have hne : (ch != 0) = true := by simp [hc]
    obtain ⟨⟨r1, r2, r3, r4⟩, rf1, rf2, rf3, rf4⟩ := hb2.four
    go_wp2_with fail
    refine bodyPost_ret (v := .agg #[.int .i64 0, .int .i64 0, .int .i64 0, .int .i64 0]) (by simp [results, Try.results25, go_sem, r1, r2, r3, r4]) rfl ⟨?_, set4_below hB (Nat.le_succ _) _ _ _ _ _ _ _ _⟩
    rw [HA.out, if_neg hc]; rfl
end Go.Proofs.Ytineinmghajmnaa
namespace Go.Proofs.Ytineinmghajmnaa
open Go.RowKit
theorem still_of {P : Program} {f : FuncId} {args : Array Value} {W : World} {v : Value} (h : Calls P f args W fun e w' => e = .returned v ∧ W = w') : Calls P f args W fun e w'' => e = .returned v ∧ w'' = W := h.mono fun _ _ ⟨a, b⟩ => ⟨a, b.symm⟩
/-- A call of the function number F enters it. -/
def Ent (F : Nat) : Prop := ∀ (args : Array Value) (w : World), (callFunc F args).run Try.prog w = .ok (.enter F args) w
theorem ent_in : Ent 61 := fun _ _ => by simp [go_sem]
theorem ent_ne : Ent 83 := fun _ _ => by simp [go_sem]
set_option maxHeartbeats 1000000 in
theorem center_any (x y : Int) (w : World) (hx : -4194304 ≤ x ∧ x ≤ 4194304) (hy : -4194304 ≤ y ∧ y ≤ 4194304) :
    Calls Try.prog 38 #[.int .i64 x, .int .i64 y] w fun e w' => e = .returned (.agg #[.int .i64 (x * 65536 + 32768), .int .i64 (y * 65536 + 32768)]) ∧ Below w.heap.size w w' := by
  have e1 := wrap_in (x * 65536) (by omega); have e2 := wrap_in (x * 65536 + 32768) (by omega); have e3 := wrap_in (y * 65536) (by omega); have e4 := wrap_in (y * 65536 + 32768) (by omega)
  clear hx hy
  go_enter Try.func38, Try.ntmps38
  go_upto_region 1 with fail
  obtain ⟨hb1, hB, -⟩ := one_box w #[.int .i64 0, .int .i64 0] 49 _ rfl
  generalize World.alloc w _ = w0 at *
  obtain ⟨⟨r1, r2⟩, f1, f2⟩ := hb1.two
  have HB := Lib.hid hB
  clear hb1 hB
  go_wp2_with fail
  refine bodyPost_ret (v := .agg #[.int .i64 (x * 65536 + 32768), .int .i64 (y * 65536 + 32768)]) (by simp [results, Try.results38, go_sem, r1, r2]) rfl ⟨rfl, ?_⟩
  exact (HB.out.setCell (p := ⟨w.heap.size, 0, none⟩) (Nat.le_refl _) _).setCell (p := ⟨w.heap.size, 1, none⟩) (Nat.le_refl _) _
set_option maxHeartbeats 1000000 in
theorem inside_any (v1 v2 v3 : Value) (w : World) : Calls Try.prog 31 #[.agg #[v1, v2, v3]] w fun e w' => e = .returned (.func (.func 61) #[] #[.pointer (some ⟨w.heap.size, 0, none⟩)]) ∧ Bx w' w.heap.size 24 #[v1, v2, v3] ∧ Below w.heap.size w w' := by
  go_enter Try.func31, Try.ntmps31
  go_upto_region 1 with fail
  obtain ⟨hb1, hB, -⟩ := one_box w #[v1, v2, v3] 24 _ rfl
  have H1 := Lib.hid hb1; have HB := Lib.hid hB
  clear hb1 hB
  generalize World.alloc w _ = w0 at *
  go_wp2_with fail
  go_ret
  exact ⟨rfl, H1.out, HB.out⟩
set_option maxHeartbeats 1000000 in
theorem nearest_any (v1 v2 v3 : Value) (w : World) : Calls Try.prog 49 #[.agg #[v1, v2, v3]] w fun e w' => e = .returned (.func (.func 83) #[] #[.pointer (some ⟨w.heap.size, 0, none⟩)]) ∧ Bx w' w.heap.size 24 #[v1, v2, v3] ∧ Below w.heap.size w w' := by
  go_enter Try.func49, Try.ntmps49
  go_upto_region 1 with fail
  obtain ⟨hb1, hB, -⟩ := one_box w #[v1, v2, v3] 24 _ rfl
  have H1 := Lib.hid hb1; have HB := Lib.hid hB
  clear hb1 hB
  generalize World.alloc w _ = w0 at *
  go_wp2_with fail
  go_ret
  exact ⟨rfl, H1.out, HB.out⟩
/-- The pixel of a place that lies in the image. -/
theorem at_place {W H : Int} {ps : List Px} (io : IOk W H ps) {x y : Int} (h : 0 ≤ x ∧ x < W ∧ 0 ≤ y ∧ y < H) : 0 ≤ y * W ∧ y * W ≤ 65536 ∧ y * W + x < ps.length ∧ (y * W + x).toNat < ps.length := by
  have a := idx_lt h
  have b : y * W ≤ 256 * 256 := Int.mul_le_mul (by have := io.h1; omega) io.w1 io.w0 (by omega)
  have c := io.n
  omega
set_option maxRecDepth 100000 in
set_option maxHeartbeats 4000000 in
theorem in_out (W H x y : Int) (g : Nat) (v : Value) (w : World) (hg : Bx w g 24 #[.int .i64 W, .int .i64 H, v]) (h : x < 0 ∨ W ≤ x ∨ y < 0 ∨ H ≤ y) :
    Calls Try.prog 61 #[.int .i64 x, .int .i64 y, .pointer (some ⟨g, 0, none⟩)] w (PxPost Px.zero w) := by
  rcases (show x < 0 ∨ (¬ x < 0 ∧ W ≤ x) ∨ (¬ x < 0 ∧ ¬ W ≤ x ∧ y < 0) ∨ (¬ x < 0 ∧ ¬ W ≤ x ∧ ¬ y < 0 ∧ H ≤ y) by omega) with t1 | ⟨t1, t2⟩ | ⟨t1, t2, t3⟩ | ⟨t1, t2, t3, t4⟩
  all_goals
    clear h
    go_enter Try.func61, Try.ntmps61
    go_upto_region 1 with fail
    obtain ⟨hb1, hB, -⟩ := one_box w #[.int .i64 0, .int .i64 0, .int .i64 0, .int .i64 0] 27 _ rfl
    have hg2 := hg.below hB
    have HB := Lib.hid hB
    generalize World.alloc w _ = w0 at *
    obtain ⟨⟨m1, m2, m3⟩, -⟩ := hg2.three
    obtain ⟨⟨r1, r2, r3, r4⟩, f1, f2, f3, f4⟩ := hb1.four
    clear hg hg2 hb1 hB
    go_wp2_with fail
    refine bodyPost_ret (v := .agg #[.int .i64 0, .int .i64 0, .int .i64 0, .int .i64 0]) (by simp [results, Try.results61, go_sem, r1, r2, r3, r4]) rfl ⟨rfl, ?_⟩
    exact set4_below HB.out (Nat.le_refl _) _ _ _ _ _ _ _ _
set_option maxRecDepth 100000 in
set_option maxHeartbeats 4000000 in
theorem in_core (W H x y yW : Int) (g b o c n i : Nat) (u : Px) (w : World) (hg : Bx w g 24 #[.int .i64 W, .int .i64 H, .slice (some ⟨b, o, none⟩) n c])
    (t1 : ¬ x < 0) (t2 : ¬ W ≤ x) (t3 : ¬ y < 0) (t4 : ¬ H ≤ y) (e1 : IntKind.i64.wrap (y * W) = yW) (e2 : IntKind.i64.wrap (yW + x) = (i : Int)) (hi : i < n) (hb : b < w.heap.size)
    (p1 : w.cell? ⟨b, o + i * 4, none⟩ = some (.int .i64 u.r)) (p2 : w.cell? ⟨b, o + i * 4 + 1, none⟩ = some (.int .i64 u.g)) (p3 : w.cell? ⟨b, o + i * 4 + 2, none⟩ = some (.int .i64 u.b)) (p4 : w.cell? ⟨b, o + i * 4 + 3, none⟩ = some (.int .i64 u.a)) :
    Calls Try.prog 61 #[.int .i64 x, .int .i64 y, .pointer (some ⟨g, 0, none⟩)] w (PxPost u w) := by
  go_enter Try.func61, Try.ntmps61
  go_upto_region 1 with fail
  obtain ⟨hb1, hB, -⟩ := one_box w #[.int .i64 0, .int .i64 0, .int .i64 0, .int .i64 0] 27 _ rfl
  have hg2 := hg.below hB
  replace p1 := (hB.cell (p := ⟨b, _, none⟩) hb).trans p1; replace p2 := (hB.cell (p := ⟨b, _, none⟩) hb).trans p2; replace p3 := (hB.cell (p := ⟨b, _, none⟩) hb).trans p3; replace p4 := (hB.cell (p := ⟨b, _, none⟩) hb).trans p4
  have HB := Lib.hid hB
  generalize World.alloc w _ = w0 at *
  obtain ⟨⟨m1, m2, m3⟩, -⟩ := hg2.three
  obtain ⟨⟨r1, r2, r3, r4⟩, f1, f2, f3, f4⟩ := hb1.four
  have hk0 : (0 : Int) ≤ (i : Int) := by omega
  have hk1 : (i : Int) < (n : Int) := by omega
  clear hg hg2 hb1 hB
  go_wp2_with fail
  refine bodyPost_ret (v := .agg #[.int .i64 u.r, .int .i64 u.g, .int .i64 u.b, .int .i64 u.a]) (by simp [results, Try.results61, go_sem, r1, r2, r3, r4]) rfl ⟨rfl, ?_⟩
  exact set4_below HB.out (Nat.le_refl _) _ _ _ _ _ _ _ _
theorem in_any (W H : Int) (A : Option Addr) (c : Nat) (ps : List Px) (io : IOk W H ps) (x y : Int) (g : Nat) (w : World) (hg : Bx w g 24 #[.int .i64 W, .int .i64 H, .slice A ps.length c]) (hp : Pixs w w.heap.size (.slice A ps.length c) ps) :
    Calls Try.prog 61 #[.int .i64 x, .int .i64 y, .pointer (some ⟨g, 0, none⟩)] w (PxPost (pick W H ps x y) w) := by
  by_cases h : 0 ≤ x ∧ x < W ∧ 0 ≤ y ∧ y < H
  · rw [pick_in h]
    have i1 := io.w1
    obtain ⟨a1, a2, a3, a4⟩ := at_place io h
    obtain ⟨A', c', ev, -, hcc⟩ := hp
    injection ev with u1 u2 u3
    subst u1
    obtain ⟨b, o, rfl, hb, p1, p2, p3, p4⟩ := hcc _ a4
    exact in_core W H x y (y * W) g b o c ps.length (y * W + x).toNat (pat ps (y * W + x).toNat) w hg (by omega) (by omega) (by omega) (by omega) (wrap_in _ (by omega)) (by rw [wrap_in _ (by omega)]; omega) a4 hb p1 p2 p3 p4
  · rw [pick_out h]
    exact in_out W H x y g _ w hg (by omega)
/-- The nearest pixel. -/
def pnear (W H : Int) (ps : List Px) (x y : Int) : Px := pick W H ps (min (max x 0) (W - 1)) (min (max y 0) (H - 1))
set_option maxRecDepth 100000 in
set_option maxHeartbeats 4000000 in
theorem ne_core (W H x y cx cy yW : Int) (g b o c n i : Nat) (u : Px) (w : World) (hg : Bx w g 24 #[.int .i64 W, .int .i64 H, .slice (some ⟨b, o, none⟩) n c])
    (e5 : IntKind.i64.wrap (W - 1) = W - 1) (e6 : IntKind.i64.wrap (H - 1) = H - 1) (e1 : IntKind.i64.wrap (cy * W) = yW) (e2 : IntKind.i64.wrap (yW + cx) = (i : Int)) (hi : i < n) (hb : b < w.heap.size)
    (C1 : ∀ w, Calls Try.prog 29 #[.int .i64 x, .int .i64 0, .int .i64 (W - 1)] w fun e w' => e = .returned (.int .i64 cx) ∧ w = w') (C2 : ∀ w, Calls Try.prog 29 #[.int .i64 y, .int .i64 0, .int .i64 (H - 1)] w fun e w' => e = .returned (.int .i64 cy) ∧ w = w')
    (p1 : w.cell? ⟨b, o + i * 4, none⟩ = some (.int .i64 u.r)) (p2 : w.cell? ⟨b, o + i * 4 + 1, none⟩ = some (.int .i64 u.g)) (p3 : w.cell? ⟨b, o + i * 4 + 2, none⟩ = some (.int .i64 u.b)) (p4 : w.cell? ⟨b, o + i * 4 + 3, none⟩ = some (.int .i64 u.a)) :
    Calls Try.prog 83 #[.int .i64 x, .int .i64 y, .pointer (some ⟨g, 0, none⟩)] w (PxPost u w) := by
  replace C1 := Lib.hid C1; replace C2 := Lib.hid C2
  go_enter Try.func83, Try.ntmps83
  go_upto_region 1 with fail
  obtain ⟨hb1, hB, -⟩ := one_box w #[.int .i64 0, .int .i64 0, .int .i64 0, .int .i64 0] 27 _ rfl
  have hg2 := hg.below hB
  replace p1 := (hB.cell (p := ⟨b, _, none⟩) hb).trans p1; replace p2 := (hB.cell (p := ⟨b, _, none⟩) hb).trans p2; replace p3 := (hB.cell (p := ⟨b, _, none⟩) hb).trans p3; replace p4 := (hB.cell (p := ⟨b, _, none⟩) hb).trans p4
  have HB := Lib.hid hB
  generalize World.alloc w _ = w0 at *
  obtain ⟨⟨m1, m2, m3⟩, -⟩ := hg2.three
  obtain ⟨⟨r1, r2, r3, r4⟩, f1, f2, f3, f4⟩ := hb1.four
  have hk0 : (0 : Int) ≤ (i : Int) := by omega
  have hk1 : (i : Int) < (n : Int) := by omega
  clear hg hg2 hb1 hB
  go_still_tail 18, (by kernel_rfl)
  still_call (still_of (C2.out _))
  repeat still_step
  still_call (still_of (C1.out _))
  repeat still_step
  refine wpStill_nil ?_
  change wpList _ _ _ _ _ w0.drew
  replace r1 : w0.drew.cell? ⟨w.heap.size, 0, none⟩ = _ := r1; replace r2 : w0.drew.cell? ⟨w.heap.size, 1, none⟩ = _ := r2; replace r3 : w0.drew.cell? ⟨w.heap.size, 2, none⟩ = _ := r3; replace r4 : w0.drew.cell? ⟨w.heap.size, 3, none⟩ = _ := r4
  replace f1 : w0.drew.frozen? ⟨w.heap.size, 0, none⟩ = false := f1; replace f2 : w0.drew.frozen? ⟨w.heap.size, 1, none⟩ = false := f2; replace f3 : w0.drew.frozen? ⟨w.heap.size, 2, none⟩ = false := f3; replace f4 : w0.drew.frozen? ⟨w.heap.size, 3, none⟩ = false := f4
  replace HB := Lib.hid HB.out.drew
  generalize w0.drew = wx at *
  go_wp2_with fail
  refine bodyPost_ret (v := .agg #[.int .i64 u.r, .int .i64 u.g, .int .i64 u.b, .int .i64 u.a]) (by simp [results, Try.results83, go_sem, r1, r2, r3, r4]) rfl ⟨rfl, ?_⟩
  exact set4_below HB.out (Nat.le_refl _) _ _ _ _ _ _ _ _
theorem ne_any (W H : Int) (A : Option Addr) (c : Nat) (ps : List Px) (io : IOk W H ps) (hW : 0 < W) (x y : Int) (g : Nat) (w : World) (hg : Bx w g 24 #[.int .i64 W, .int .i64 H, .slice A ps.length c]) (hp : Pixs w w.heap.size (.slice A ps.length c) ps) :
    Calls Try.prog 83 #[.int .i64 x, .int .i64 y, .pointer (some ⟨g, 0, none⟩)] w (PxPost (pnear W H ps x y) w) := by
  have i0 := io.w0; have i1 := io.w1; have i2 := io.h0; have i3 := io.h1; have iz := io.z
  have h : 0 ≤ min (max x 0) (W - 1) ∧ min (max x 0) (W - 1) < W ∧ 0 ≤ min (max y 0) (H - 1) ∧ min (max y 0) (H - 1) < H := by omega
  unfold pnear
  rw [pick_in h]
  obtain ⟨a1, a2, a3, a4⟩ := at_place io h
  obtain ⟨A', c', ev, -, hcc⟩ := hp
  injection ev with u1 u2 u3
  subst u1
  obtain ⟨b, o, rfl, hb, p1, p2, p3, p4⟩ := hcc _ a4
  exact ne_core W H x y _ _ (min (max y 0) (H - 1) * W) g b o c ps.length _ (pat ps (min (max y 0) (H - 1) * W + min (max x 0) (W - 1)).toNat) w hg (wrap_in _ (by omega)) (wrap_in _ (by omega)) (wrap_in _ (by omega)) (by rw [wrap_in (min (max y 0) (H - 1) * W + min (max x 0) (W - 1)) (by omega)]; exact (Int.toNat_of_nonneg (by omega)).symm) a4 hb
    (fun w => by have := clamp_any x 0 (W - 1) w; rw [show min (W - 1) (max x 0) = min (max x 0) (W - 1) by omega] at this; exact this) (fun w => by have := clamp_any y 0 (H - 1) w; rw [show min (H - 1) (max y 0) = min (max y 0) (H - 1) by omega] at this; exact this) p1 p2 p3 p4
end Go.Proofs.Ytineinmghajmnaa
