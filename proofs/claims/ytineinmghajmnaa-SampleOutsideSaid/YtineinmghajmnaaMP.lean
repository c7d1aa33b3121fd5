/- The reference's Box: the box of four corners. -/
import Derived.Test.YtineinmghajmnaaMI
import Derived.Deep.LoopGhost
namespace Go.Proofs.Ytineinmghajmnaa
open Go.RowKit
attribute [local go_sem 2000] run_max2m run_min2m
theorem rbox_boxes (w : World) (a b c d e f rx ry rw rh : Int) (w0 : World)
    (hw : w0 = ((w.alloc (.cells #[.int .i64 a, .int .i64 b, .int .i64 c, .int .i64 d, .int .i64 e, .int .i64 f] 31)).alloc (.cells #[.int .i64 rx, .int .i64 ry, .int .i64 rw, .int .i64 rh] 33)).alloc (.cells #[.int .i64 0, .int .i64 0, .int .i64 0, .int .i64 0] 33)) :
    Bx w0 w.heap.size 31 #[.int .i64 a, .int .i64 b, .int .i64 c, .int .i64 d, .int .i64 e, .int .i64 f] ∧ Bx w0 (w.heap.size + 1) 33 #[.int .i64 rx, .int .i64 ry, .int .i64 rw, .int .i64 rh] ∧ Bx w0 (w.heap.size + 1 + 1) 33 #[.int .i64 0, .int .i64 0, .int .i64 0, .int .i64 0] ∧ Below w.heap.size w w0 := by
  subst hw
  have h1 := Bx.new w 31 #[.int .i64 a, .int .i64 b, .int .i64 c, .int .i64 d, .int .i64 e, .int .i64 f]
  have h2 := Bx.new (w.alloc (.cells #[.int .i64 a, .int .i64 b, .int .i64 c, .int .i64 d, .int .i64 e, .int .i64 f] 31)) 33 #[.int .i64 rx, .int .i64 ry, .int .i64 rw, .int .i64 rh]
  have h3 := Bx.new ((w.alloc (.cells #[.int .i64 a, .int .i64 b, .int .i64 c, .int .i64 d, .int .i64 e, .int .i64 f] 31)).alloc (.cells #[.int .i64 rx, .int .i64 ry, .int .i64 rw, .int .i64 rh] 33)) 33 #[.int .i64 0, .int .i64 0, .int .i64 0, .int .i64 0]
  simp only [World.size_alloc] at h2 h3
  exact ⟨(h1.alloc _).alloc _, h2.alloc _, h3, bel_alloc (bel_alloc (bel_alloc (Below.refl _ _) _) _) _⟩
/-- What lies in memory inside the reference's loops. -/
def RB (a b c d e f : Int) (X Y : Nat → Int) (lx ly hx hy : Int) (w : World) (g7 g8 g9 g10 : Nat) (wr : World) : Prop :=
  Bx wr w.heap.size 31 #[.int .i64 a, .int .i64 b, .int .i64 c, .int .i64 d, .int .i64 e, .int .i64 f] ∧ Bx wr (w.heap.size + 1 + 1) 33 #[.int .i64 0, .int .i64 0, .int .i64 0, .int .i64 0] ∧
  (Bx wr g7 3 #[.int .i64 (X 0), .int .i64 (X 1)] ∧ Bx wr g8 3 #[.int .i64 (Y 0), .int .i64 (Y 1)]) ∧
  (Bx wr g9 49 #[.int .i64 lx, .int .i64 ly] ∧ Bx wr g10 49 #[.int .i64 hx, .int .i64 hy]) ∧ Below w.heap.size w wr
def RDis (w : World) (g7 g8 g9 g10 : Nat) : Prop := (w.heap.size + 1 + 1 < g7 ∧ w.heap.size + 1 + 1 < g8) ∧ (g7 < g9 ∧ g8 < g9) ∧ g9 < g10
section
variable {a b c d e f : Int} {X Y : Nat → Int} {lx ly hx hy : Int} {w : World} {g7 g8 g9 g10 : Nat} {wr w' : World}
theorem RB.below (h : RB a b c d e f X Y lx ly hx hy w g7 g8 g9 g10 wr) (hb : Below wr.heap.size wr w') : RB a b c d e f X Y lx ly hx hy w g7 g8 g9 g10 w' :=
  ⟨h.1.below hb, h.2.1.below hb, ⟨h.2.2.1.1.below hb, h.2.2.1.2.below hb⟩, ⟨h.2.2.2.1.1.below hb, h.2.2.2.1.2.below hb⟩, bel_trans h.2.2.2.2 hb⟩
theorem RB.alloc (h : RB a b c d e f X Y lx ly hx hy w g7 g8 g9 g10 wr) (o : Obj) : RB a b c d e f X Y lx ly hx hy w g7 g8 g9 g10 (wr.alloc o) := h.below (bel_alloc (Below.refl _ _) o)
theorem RB.drew (h : RB a b c d e f X Y lx ly hx hy w g7 g8 g9 g10 wr) : RB a b c d e f X Y lx ly hx hy w g7 g8 g9 g10 wr.drew := h.below (Below.drew (Below.refl _ _))
theorem RB.drewN (h : RB a b c d e f X Y lx ly hx hy w g7 g8 g9 g10 wr) (n : Nat) : RB a b c d e f X Y lx ly hx hy w g7 g8 g9 g10 (wr.drewN n) := h.below (Below.drewN' (Below.refl _ _) n)
theorem RB.set (h : RB a b c d e f X Y lx ly hx hy w g7 g8 g9 g10 wr) {g : Nat} (hg : g10 < g) (D : RDis w g7 g8 g9 g10) (j : Nat) (v : Value) : RB a b c d e f X Y lx ly hx hy w g7 g8 g9 g10 (wr.setCell ⟨g, j, none⟩ v) := by
  obtain ⟨⟨d1, d2⟩, ⟨d3, d4⟩, d5⟩ := D
  exact ⟨h.1.other (by omega) _ _, h.2.1.other (by omega) _ _, ⟨h.2.2.1.1.other (by omega) _ _, h.2.2.1.2.other (by omega) _ _⟩, ⟨h.2.2.2.1.1.other (by omega) _ _, h.2.2.2.1.2.other (by omega) _ _⟩, h.2.2.2.2.setCell (p := ⟨g, j, none⟩) (by show w.heap.size ≤ g; omega) _⟩
theorem RB.set9 (h : RB a b c d e f X Y lx ly hx hy w g7 g8 g9 g10 wr) (D : RDis w g7 g8 g9 g10) (v : Int) : RB a b c d e f X Y v ly hx hy w g7 g8 g9 g10 (wr.setCell ⟨g9, 0, none⟩ (.int .i64 v)) := by
  obtain ⟨⟨d1, d2⟩, ⟨d3, d4⟩, d5⟩ := D
  exact ⟨h.1.other (by omega) _ _, h.2.1.other (by omega) _ _, ⟨h.2.2.1.1.other (by omega) _ _, h.2.2.1.2.other (by omega) _ _⟩, ⟨h.2.2.2.1.1.set 0 _, h.2.2.2.1.2.other (by omega) _ _⟩, h.2.2.2.2.setCell (p := ⟨g9, 0, none⟩) (by show w.heap.size ≤ g9; omega) _⟩
theorem RB.set91 (h : RB a b c d e f X Y lx ly hx hy w g7 g8 g9 g10 wr) (D : RDis w g7 g8 g9 g10) (v : Int) : RB a b c d e f X Y lx v hx hy w g7 g8 g9 g10 (wr.setCell ⟨g9, 1, none⟩ (.int .i64 v)) := by
  obtain ⟨⟨d1, d2⟩, ⟨d3, d4⟩, d5⟩ := D
  exact ⟨h.1.other (by omega) _ _, h.2.1.other (by omega) _ _, ⟨h.2.2.1.1.other (by omega) _ _, h.2.2.1.2.other (by omega) _ _⟩, ⟨h.2.2.2.1.1.set 1 _, h.2.2.2.1.2.other (by omega) _ _⟩, h.2.2.2.2.setCell (p := ⟨g9, 1, none⟩) (by show w.heap.size ≤ g9; omega) _⟩
theorem RB.set10 (h : RB a b c d e f X Y lx ly hx hy w g7 g8 g9 g10 wr) (D : RDis w g7 g8 g9 g10) (v : Int) : RB a b c d e f X Y lx ly v hy w g7 g8 g9 g10 (wr.setCell ⟨g10, 0, none⟩ (.int .i64 v)) := by
  obtain ⟨⟨d1, d2⟩, ⟨d3, d4⟩, d5⟩ := D
  exact ⟨h.1.other (by omega) _ _, h.2.1.other (by omega) _ _, ⟨h.2.2.1.1.other (by omega) _ _, h.2.2.1.2.other (by omega) _ _⟩, ⟨h.2.2.2.1.1.other (by omega) _ _, h.2.2.2.1.2.set 0 _⟩, h.2.2.2.2.setCell (p := ⟨g10, 0, none⟩) (by show w.heap.size ≤ g10; omega) _⟩
theorem RB.set101 (h : RB a b c d e f X Y lx ly hx hy w g7 g8 g9 g10 wr) (D : RDis w g7 g8 g9 g10) (v : Int) : RB a b c d e f X Y lx ly hx v w g7 g8 g9 g10 (wr.setCell ⟨g10, 1, none⟩ (.int .i64 v)) := by
  obtain ⟨⟨d1, d2⟩, ⟨d3, d4⟩, d5⟩ := D
  exact ⟨h.1.other (by omega) _ _, h.2.1.other (by omega) _ _, ⟨h.2.2.1.1.other (by omega) _ _, h.2.2.1.2.other (by omega) _ _⟩, ⟨h.2.2.2.1.1.other (by omega) _ _, h.2.2.2.1.2.set 1 _⟩, h.2.2.2.2.setCell (p := ⟨g10, 1, none⟩) (by show w.heap.size ≤ g10; omega) _⟩
end
theorem Bx.ix {w : World} {g : Nat} {t : TypeId} {X : Nat → Int} (h : Bx w g t #[.int .i64 (X 0), .int .i64 (X 1)]) {i : Nat} (hi : i < 2) : w.cell? ⟨g, i, none⟩ = some (.int .i64 (X i)) := by
  match i, hi with
  | 0, _ => exact h.cell rfl
  | 1, _ => exact h.cell rfl
/-- Behind the two slices. -/
def RMid (a b c d e f : Int) (X Y : Nat → Int) (rw rh : Int) (w : World) (v7 v8 : Value) (wr : World) : Prop :=
  ∃ g7 g8, v7 = .slice (some ⟨g7, 0, none⟩) 2 2 ∧ v8 = .slice (some ⟨g8, 0, none⟩) 2 2 ∧ (w.heap.size + 1 + 1 < g7 ∧ w.heap.size + 1 + 1 < g8) ∧
  Bx wr w.heap.size 31 #[.int .i64 a, .int .i64 b, .int .i64 c, .int .i64 d, .int .i64 e, .int .i64 f] ∧ Bx wr (w.heap.size + 1) 33 #[.int .i64 (X 0), .int .i64 (Y 0), .int .i64 rw, .int .i64 rh] ∧ Bx wr (w.heap.size + 1 + 1) 33 #[.int .i64 0, .int .i64 0, .int .i64 0, .int .i64 0] ∧
  (Bx wr g7 3 #[.int .i64 (X 0), .int .i64 (X 1)] ∧ Bx wr g8 3 #[.int .i64 (Y 0), .int .i64 (Y 1)]) ∧ Below w.heap.size w wr
theorem rmid {a b c d e f rw rh : Int} {X Y : Nat → Int} {w wx : World} (k1 : Bx wx w.heap.size 31 #[.int .i64 a, .int .i64 b, .int .i64 c, .int .i64 d, .int .i64 e, .int .i64 f]) (k2 : Bx wx (w.heap.size + 1) 33 #[.int .i64 (X 0), .int .i64 (Y 0), .int .i64 rw, .int .i64 rh]) (k3 : Bx wx (w.heap.size + 1 + 1) 33 #[.int .i64 0, .int .i64 0, .int .i64 0, .int .i64 0]) (hB : Below w.heap.size w wx) :
    RMid a b c d e f X Y rw rh w (.slice (some ⟨wx.heap.size, 0, none⟩) 2 2) (.slice (some ⟨wx.heap.size + 1, 0, none⟩) 2 2) ((wx.alloc (.cells #[.int .i64 (X 0), .int .i64 (X 1)] 3)).alloc (.cells #[.int .i64 (Y 0), .int .i64 (Y 1)] 3)) ∧
    RMid a b c d e f X Y rw rh w (.slice (some ⟨wx.heap.size + 1, 0, none⟩) 2 2) (.slice (some ⟨wx.heap.size, 0, none⟩) 2 2) ((wx.alloc (.cells #[.int .i64 (Y 0), .int .i64 (Y 1)] 3)).alloc (.cells #[.int .i64 (X 0), .int .i64 (X 1)] 3)) := by
  have hl := k3.lt
  constructor
  · have n2 := Bx.new (wx.alloc (.cells #[.int .i64 (X 0), .int .i64 (X 1)] 3)) 3 #[.int .i64 (Y 0), .int .i64 (Y 1)]
    simp only [World.size_alloc] at n2
    exact ⟨_, _, rfl, rfl, ⟨by omega, by omega⟩, (k1.alloc _).alloc _, (k2.alloc _).alloc _, (k3.alloc _).alloc _, ⟨(Bx.new _ _ _).alloc _, n2⟩, bel_alloc (bel_alloc hB _) _⟩
  · have n2 := Bx.new (wx.alloc (.cells #[.int .i64 (Y 0), .int .i64 (Y 1)] 3)) 3 #[.int .i64 (X 0), .int .i64 (X 1)]
    simp only [World.size_alloc] at n2
    exact ⟨_, _, rfl, rfl, ⟨by omega, by omega⟩, (k1.alloc _).alloc _, (k2.alloc _).alloc _, (k3.alloc _).alloc _, ⟨n2, (Bx.new _ _ _).alloc _⟩, bel_alloc (bel_alloc hB _) _⟩
def PMid (a b c d e f : Int) (X Y : Nat → Int) (lx ly hx hy px py : Int) (w : World) (g7 g8 g9 g10 : Nat) (v : Value) (wr : World) : Prop :=
  ∃ g, v = .pointer (some ⟨g, 0, none⟩) ∧ g10 < g ∧ Bx wr g 49 #[.int .i64 px, .int .i64 py] ∧ RB a b c d e f X Y lx ly hx hy w g7 g8 g9 g10 wr
theorem pmid0 {a b c d e f lx ly hx hy px py : Int} {X Y : Nat → Int} {w wx : World} {g7 g8 g9 g10 : Nat} (h : RB a b c d e f X Y lx ly hx hy w g7 g8 g9 g10 wx) :
    PMid a b c d e f X Y lx ly hx hy px py w g7 g8 g9 g10 (.pointer (some ⟨wx.heap.size, 0, none⟩)) (wx.alloc (.cells #[.int .i64 px, .int .i64 py] 49)) :=
  ⟨_, rfl, h.2.2.2.1.2.lt, Bx.new _ _ _, h.alloc _⟩
theorem pmid1 {a b c d e f lx ly hx hy px py : Int} {X Y : Nat → Int} {w wx : World} {g g7 g8 g9 g10 : Nat} (h : RB a b c d e f X Y lx ly hx hy w g7 g8 g9 g10 wx) (hb : Bx wx g 49 #[.int .i64 0, .int .i64 0]) (hg : g10 < g) (D : RDis w g7 g8 g9 g10) :
    PMid a b c d e f X Y lx ly hx hy px py w g7 g8 g9 g10 (.pointer (some ⟨g, 0, none⟩)) ((wx.setCell ⟨g, 0, none⟩ (.int .i64 px)).setCell ⟨g, 1, none⟩ (.int .i64 py)) :=
  ⟨_, rfl, hg, (hb.set 0 _).set 1 _, (h.set hg D 0 _).set hg D 1 _⟩
def ROut (a b c d e f : Int) (X Y LX LY HX HY : Nat → Int) (w : World) (g7 g8 g9 g10 : Nat) (k : Nat) (u : Value) (wr : World) : Prop :=
  ∃ i, i ≤ 2 ∧ k = 2 - i ∧ u = .int .i64 (i : Nat) ∧ RB a b c d e f X Y (LX (2 * i)) (LY (2 * i)) (HX (2 * i)) (HY (2 * i)) w g7 g8 g9 g10 wr
def RIn (a b c d e f : Int) (X Y LX LY HX HY : Nat → Int) (w : World) (g7 g8 g9 g10 i : Nat) (k : Nat) (u : Value) (wr : World) : Prop :=
  ∃ j, j ≤ 2 ∧ k = 2 - j ∧ u = .int .i64 (j : Nat) ∧ RB a b c d e f X Y (LX (2 * i + j)) (LY (2 * i + j)) (HX (2 * i + j)) (HY (2 * i + j)) w g7 g8 g9 g10 wr
theorem rb_start {a b c d e f lx ly : Int} {X Y : Nat → Int} {w wf : World} {g7 g8 : Nat} (k1 : Bx wf w.heap.size 31 #[.int .i64 a, .int .i64 b, .int .i64 c, .int .i64 d, .int .i64 e, .int .i64 f]) (k3 : Bx wf (w.heap.size + 1 + 1) 33 #[.int .i64 0, .int .i64 0, .int .i64 0, .int .i64 0])
    (k7 : Bx wf g7 3 #[.int .i64 (X 0), .int .i64 (X 1)]) (k8 : Bx wf g8 3 #[.int .i64 (Y 0), .int .i64 (Y 1)]) (hB : Below w.heap.size w wf) (hd : w.heap.size + 1 + 1 < g7 ∧ w.heap.size + 1 + 1 < g8) (wh : World)
    (he : wh = (wf.alloc (.cells #[.int .i64 lx, .int .i64 ly] 49)).alloc (.cells #[.int .i64 lx, .int .i64 ly] 49)) :
    RB a b c d e f X Y lx ly lx ly w g7 g8 wf.heap.size (wf.heap.size + 1) wh ∧ RDis w g7 g8 wf.heap.size (wf.heap.size + 1) := by
  subst he
  have n2 := Bx.new (wf.alloc (.cells #[.int .i64 lx, .int .i64 ly] 49)) 49 #[.int .i64 lx, .int .i64 ly]
  simp only [World.size_alloc] at n2
  exact ⟨⟨(k1.alloc _).alloc _, (k3.alloc _).alloc _, ⟨(k7.alloc _).alloc _, (k8.alloc _).alloc _⟩, ⟨(Bx.new _ _ _).alloc _, n2⟩, bel_alloc (bel_alloc hB _) _⟩, hd, ⟨k7.lt, k8.lt⟩, Nat.lt_succ_self _⟩
set_option maxRecDepth 100000 in
set_option maxHeartbeats 8000000 in
theorem rbox_main (a b c d e f rw rh : Int) (X Y MX MY PX PY LX LY HX HY : Nat → Int) (fx0 fy0 cx0 cy0 nhx nhy fx1 fy1 nx1 ny1 cx1 cy1 r0 r1 r2 r3 : Int) (w : World)
    (CK1 : ∀ w, Calls Try.prog 74 #[.agg #[.int .i64 a, .int .i64 b, .int .i64 c, .int .i64 d, .int .i64 e, .int .i64 f]] w fun z w' => z = .returned (.int .i64 0) ∧ Below w.heap.size w w')
    (VA : ∀ w, Calls Try.prog 39 #[.agg #[.int .i64 (X 0), .int .i64 (Y 0), .int .i64 rw, .int .i64 rh]] w fun z w' => z = .returned (.bool true) ∧ Below w.heap.size w w')
    (EM : ∀ w, Calls Try.prog 41 #[.agg #[.int .i64 (X 0), .int .i64 (Y 0), .int .i64 rw, .int .i64 rh]] w fun z w' => z = .returned (.bool false) ∧ Below w.heap.size w w')
    (v1 : IntKind.i64.wrap (X 0 + rw) = X 1) (v2 : IntKind.i64.wrap (Y 0 + rh) = Y 1)
    (mx : ∀ i, i < 2 → IntKind.i64.wrap (X i * 65536) = MX i) (my : ∀ i, i < 2 → IntKind.i64.wrap (Y i * 65536) = MY i)
    (P0 : ∀ w, Calls Try.prog 42 #[.agg #[.int .i64 a, .int .i64 b, .int .i64 c, .int .i64 d, .int .i64 e, .int .i64 f], .agg #[.int .i64 (MX 0), .int .i64 (MY 0)]] w fun z w' => z = .returned (.agg #[.int .i64 (LX 0), .int .i64 (LY 0)]) ∧ Below w.heap.size w w')
    (P : ∀ i j, i < 2 → j < 2 → ∀ w, Calls Try.prog 42 #[.agg #[.int .i64 a, .int .i64 b, .int .i64 c, .int .i64 d, .int .i64 e, .int .i64 f], .agg #[.int .i64 (MX i), .int .i64 (MY j)]] w fun z w' => z = .returned (.agg #[.int .i64 (PX (2 * i + j)), .int .i64 (PY (2 * i + j))]) ∧ Below w.heap.size w w')
    (hh0 : HX 0 = LX 0) (hh1 : HY 0 = LY 0)
    (s1 : ∀ q, LX (q + 1) = if PX q < LX q then PX q else LX q) (s2 : ∀ q, HX (q + 1) = if PX q > HX q then PX q else HX q)
    (s3 : ∀ q, LY (q + 1) = if PY q < LY q then PY q else LY q) (s4 : ∀ q, HY (q + 1) = if PY q > HY q then PY q else HY q)
    (F1 : ∀ w, Calls Try.prog 64 #[.int .i64 (LX 4), .int .i64 65536] w fun z w' => z = .returned (.int .i64 fx0) ∧ ∃ n, w' = w.drewN n)
    (F2 : ∀ w, Calls Try.prog 64 #[.int .i64 (LY 4), .int .i64 65536] w fun z w' => z = .returned (.int .i64 fy0) ∧ ∃ n, w' = w.drewN n)
    (C1 : ∀ w, Calls Try.prog 79 #[.int .i64 fx0, .int .i64 (-1048576), .int .i64 1048576] w fun z w' => z = .returned (.int .i64 cx0) ∧ w = w')
    (C2 : ∀ w, Calls Try.prog 79 #[.int .i64 fy0, .int .i64 (-1048576), .int .i64 1048576] w fun z w' => z = .returned (.int .i64 cy0) ∧ w = w')
    (n1 : IntKind.i64.wrap (-HX 4) = nhx) (n2 : IntKind.i64.wrap (-HY 4) = nhy)
    (F3 : ∀ w, Calls Try.prog 64 #[.int .i64 nhx, .int .i64 65536] w fun z w' => z = .returned (.int .i64 fx1) ∧ ∃ n, w' = w.drewN n)
    (F4 : ∀ w, Calls Try.prog 64 #[.int .i64 nhy, .int .i64 65536] w fun z w' => z = .returned (.int .i64 fy1) ∧ ∃ n, w' = w.drewN n)
    (n3 : IntKind.i64.wrap (-fx1) = nx1) (n4 : IntKind.i64.wrap (-fy1) = ny1)
    (C3 : ∀ w, Calls Try.prog 79 #[.int .i64 nx1, .int .i64 (-1048576), .int .i64 1048576] w fun z w' => z = .returned (.int .i64 cx1) ∧ w = w')
    (C4 : ∀ w, Calls Try.prog 79 #[.int .i64 ny1, .int .i64 (-1048576), .int .i64 1048576] w fun z w' => z = .returned (.int .i64 cy1) ∧ w = w')
    (tt : ((cx1 == cx0) = true ∧ r0 = 0 ∧ r1 = 0 ∧ r2 = 0 ∧ r3 = 0) ∨ ((cx1 == cx0) = false ∧ (cy1 == cy0) = true ∧ r0 = 0 ∧ r1 = 0 ∧ r2 = 0 ∧ r3 = 0) ∨ ((cx1 == cx0) = false ∧ (cy1 == cy0) = false ∧ r0 = cx0 ∧ r1 = cy0 ∧ IntKind.i64.wrap (cx1 - cx0) = r2 ∧ IntKind.i64.wrap (cy1 - cy0) = r3))
    : Calls Try.prog 46 #[.agg #[.int .i64 a, .int .i64 b, .int .i64 c, .int .i64 d, .int .i64 e, .int .i64 f], .agg #[.int .i64 (X 0), .int .i64 (Y 0), .int .i64 rw, .int .i64 rh]] w fun z w' => z = .returned (.tuple #[.agg #[.int .i64 r0, .int .i64 r1, .int .i64 r2, .int .i64 r3], .int .i64 0]) ∧ Below w.heap.size w w' := by
  replace CK1 := Lib.hid CK1; replace VA := Lib.hid VA; replace EM := Lib.hid EM; replace P0 := Lib.hid P0; replace P := Lib.hid P
  replace F1 := Lib.hid F1; replace F2 := Lib.hid F2; replace F3 := Lib.hid F3; replace F4 := Lib.hid F4
  replace C1 := Lib.hid C1; replace C2 := Lib.hid C2; replace C3 := Lib.hid C3; replace C4 := Lib.hid C4
  have TT := Lib.hid tt; have NN := Lib.hid (And.intro n1 (And.intro n2 (And.intro n3 n4))); clear tt n1 n2 n3 n4
  have M0 := Lib.hid (And.intro (mx 0 (by omega)) (my 0 (by omega)))
  replace mx := Lib.hid mx; replace my := Lib.hid my; replace s1 := Lib.hid s1; replace s2 := Lib.hid s2; replace s3 := Lib.hid s3; replace s4 := Lib.hid s4
  have HH := Lib.hid (And.intro hh0 hh1); clear hh0 hh1
  have VV := Lib.hid (And.intro v1 v2); clear v1 v2
  go_enter Try.func46, Try.ntmps46
  go_wp2_with fail
  obtain ⟨k1, k2, k3, hB⟩ := rbox_boxes w a b c d e f (X 0) (Y 0) rw rh _ rfl
  refine (CK1.out _).mono ?_
  rintro z wa ⟨rfl, hb⟩
  replace k1 := Lib.hid (k1.below hb); replace k2 := Lib.hid (k2.below hb); replace k3 := Lib.hid (k3.below hb); replace hB := Lib.hid (bel_trans hB hb)
  clear hb CK1
  obtain ⟨⟨d0, d1, d2, d3⟩, g0, g1, g2, g3⟩ := k2.out.four
  go_wp2_with fail
  clear d0 d1 d2 d3 g0 g1 g2 g3
  refine (VA.out _).mono ?_
  rintro z wb ⟨rfl, hb⟩
  replace k1 := Lib.hid (k1.out.below hb); replace k2 := Lib.hid (k2.out.below hb); replace k3 := Lib.hid (k3.out.below hb); replace hB := Lib.hid (bel_trans hB.out hb)
  clear hb VA
  obtain ⟨⟨d0, d1, d2, d3⟩, g0, g1, g2, g3⟩ := k2.out.four
  go_wp2_with fail
  clear d0 d1 d2 d3 g0 g1 g2 g3
  refine (EM.out _).mono ?_
  rintro z wc ⟨rfl, hb⟩
  replace k1 := Lib.hid (k1.out.below hb); replace k2 := Lib.hid (k2.out.below hb); replace k3 := Lib.hid (k3.out.below hb); replace hB := Lib.hid (bel_trans hB.out hb)
  clear hb EM
  obtain ⟨⟨d0, d1, d2, d3⟩, g0, g1, g2, g3⟩ := k2.out.four
  go_upto_region 8 with fail
  go_cut [7, 8] (RMid a b c d e f X Y rw rh w)
  case first =>
    have K := Lib.hid (rmid k1.out.drew k2.out.drew k3.out.drew hB.out.drew)
    have r1 := ((k2.out.alloc (.cells #[.int .i64 (X 0), .int .i64 (X 1)] 3)).drew).four.1
    have r2 := ((k2.out.alloc (.cells #[.int .i64 (Y 0), .int .i64 (Y 1)] 3)).drew).four.1
    obtain ⟨r1a, r1b, r1c, r1d⟩ := r1
    obtain ⟨r2a, r2b, r2c, r2d⟩ := r2
    clear k1 k2 k3 hB g0 g1 g2 g3
    obtain ⟨v1, v2⟩ := VV.out
    go_region
    all_goals (try go_wp2_with fail)
    all_goals go_meet
    all_goals first
      | exact K.out.1
      | exact K.out.2
  case rest =>
  clear k1 k2 k3 hB d0 d1 d2 d3 g0 g1 g2 g3 VV
  obtain ⟨g7, g8, rfl, rfl, hd, k1, k2, k3, k78, hB⟩ := hcut
  replace k1 := Lib.hid k1; replace k3 := Lib.hid k3; replace k78 := Lib.hid k78; replace hB := Lib.hid hB; have HD := Lib.hid hd; clear hd
  obtain ⟨⟨d0, d1, d2, d3⟩, g0, g1, g2, g3⟩ := k2.four
  obtain ⟨⟨c0, c1, c2, c3, c4, c5⟩, f0, f1, f2, f3, f4, f5⟩ := k1.out.six
  clear k2
  obtain ⟨m1, m2⟩ := M0.out
  go_wp2_with fail
  clear c0 c1 c2 c3 c4 c5 f0 f1 f2 f3 f4 f5 d0 d1 d2 d3 g0 g1 g2 g3 m1 m2 M0
  refine (P0.out _).mono ?_
  rintro z wf ⟨rfl, hb⟩
  go_upto_region 12 with fail
  obtain ⟨K, D⟩ := rb_start (lx := LX 0) (ly := LY 0) (k1.out.below hb) (k3.out.below hb) (k78.out.1.below hb) (k78.out.2.below hb) (bel_trans hB.out hb) HD.out _ rfl
  replace K := Lib.hid K; replace D := Lib.hid D
  clear hb k1 k3 k78 hB P0 HD
  generalize World.alloc (World.alloc wf _) _ = wg at *
  generalize wf.heap.size = g9 at *
  generalize hg10 : g9 + 1 = g10 at *
  clear hg10
  go_loopg [60] 2 (ROut a b c d e f X Y LX LY HX HY w g7 g8 g9 g10)
  case atStart =>
    refine ⟨0, by omega, rfl, rfl, ?_⟩
    show RB a b c d e f X Y (LX 0) (LY 0) (HX 0) (HY 0) w g7 g8 g9 g10 _
    rw [HH.out.1, HH.out.2]
    exact K.out
  case round =>
  clear K HH
  obtain ⟨i, hi, rfl, rfl, K⟩ := hrel
  replace K := Lib.hid K
  by_cases hlt : i < 2
  · have hlt' : (i : Int) < 2 := by omega
    go_upto_region 15 with fail
    go_loopg [65] 2 (RIn a b c d e f X Y LX LY HX HY w g7 g8 g9 g10 i)
    case atStart => exact ⟨0, by omega, rfl, rfl, K.out⟩
    case round =>
      clear K
      obtain ⟨j, hj, rfl, rfl, K⟩ := hrel
      replace K := Lib.hid K
      by_cases hjl : j < 2
      · have hjl' : (j : Int) < 2 := by omega
        have PC := Lib.hid (P.out i j hlt hjl)
        have M := Lib.hid (And.intro (mx.out i hlt) (my.out j hjl))
        have T1 := Lib.hid (fun (X' Y' : Int) (hx : X i = X') (hy : Y j = Y') => show wr.cell? ⟨g7, i, none⟩ = some (.int .i64 X') ∧ wr.cell? ⟨g8, j, none⟩ = some (.int .i64 Y') from ⟨hx ▸ K.out.2.2.1.1.ix hlt, hy ▸ K.out.2.2.1.2.ix hjl⟩)
        have TA := Lib.hid (fun (w' : World) (h : RB a b c d e f X Y (LX (2 * i + j)) (LY (2 * i + j)) (HX (2 * i + j)) (HY (2 * i + j)) w g7 g8 g9 g10 w') => show w'.cell? ⟨g7, i, none⟩ = some (.int .i64 (X i)) ∧ w'.cell? ⟨g8, j, none⟩ = some (.int .i64 (Y j)) from ⟨h.2.2.1.1.ix hlt, h.2.2.1.2.ix hjl⟩)
        have e1 := Lib.hid (s1.out (2 * i + j)); have e2 := Lib.hid (s2.out (2 * i + j)); have e3 := Lib.hid (s3.out (2 * i + j)); have e4 := Lib.hid (s4.out (2 * i + j))
        generalize hxi : X i = xi at M T1 TA
        generalize hyj : Y j = yj at M T1 TA
        generalize MX i = mi at M PC
        generalize MY j = mj at M PC
        generalize PX (2 * i + j) = px at *
        generalize PY (2 * i + j) = py at *
        generalize LX (2 * i + j) = lx at *
        generalize LY (2 * i + j) = ly at *
        generalize HX (2 * i + j) = hx at *
        generalize HY (2 * i + j) = hy at *
        clear hxi hyj T1
        go_upto_region 17 with fail
        go_cut [13] (PMid a b c d e f X Y lx ly hx hy px py w g7 g8 g9 g10)
        case first =>
          have KD := Lib.hid K.out.drew
          have hi0 : (0 : Int) ≤ (i : Int) := by omega
          have hj0 : (0 : Int) ≤ (j : Int) := by omega
          obtain ⟨t1, t2⟩ := TA.out _ K.out
          obtain ⟨⟨c0, c1, c2, c3, c4, c5⟩, f0, f1, f2, f3, f4, f5⟩ := K.out.1.six
          clear f0 f1 f2 f3 f4 f5
          obtain ⟨m1, m2⟩ := M.out
          have j0 := World.new_ne wr _ c0; have j7 := World.new_ne wr _ t1; have j8 := World.new_ne wr _ t2
          clear M e1 e2 e3 e4 s1 s2 s3 s4 F1 F2 F3 F4 C1 C2 C3 C4 TT NN P mx my
          go_region_held3 (fun w' => (w'.cell? ⟨w.heap.size, 0, none⟩ = some (.int .i64 a) ∧ w'.cell? ⟨w.heap.size, 1, none⟩ = some (.int .i64 b) ∧ w'.cell? ⟨w.heap.size, 2, none⟩ = some (.int .i64 c) ∧ w'.cell? ⟨w.heap.size, 3, none⟩ = some (.int .i64 d) ∧ w'.cell? ⟨w.heap.size, 4, none⟩ = some (.int .i64 e) ∧ w'.cell? ⟨w.heap.size, 5, none⟩ = some (.int .i64 f)) ∧ w'.cell? ⟨g7, i, none⟩ = some (.int .i64 xi) ∧ w'.cell? ⟨g8, j, none⟩ = some (.int .i64 yj))
            (go_keep)
            ((go_at_call 42; (with_reducible refine (PC.out _).mono ?_); rintro z w6 ⟨rfl, hb⟩; (first | (with_reducible have Kn := Lib.hid (KD.out.below hb)) | ((with_reducible have Kn := Lib.hid (((K.out.alloc _).drew).below hb)); have JX0 := j0; have JX7 := j7; have JX8 := j8; have HG := Lib.hid K.out.2.2.2.1.2.lt; have K5 := Lib.hid (((Bx.new _ 49 _).drew).below hb))); clear hb j0 j7 j8 c0 c1 c2 c3 c4 c5 t1 t2; obtain ⟨t1, t2⟩ := TA.out _ Kn.out; obtain ⟨⟨c0, c1, c2, c3, c4, c5⟩, f0, f1, f2, f3, f4, f5⟩ := Kn.out.1.six; clear f0 f1 f2 f3 f4 f5; have j0 := World.new_ne _ _ c0; have j7 := World.new_ne _ _ t1; have j8 := World.new_ne _ _ t2; (try (obtain ⟨⟨d0, d1⟩, g0, g1⟩ := K5.out.two))))
          all_goals
            go_wp2_with fail
            go_meet
            first
              | with_reducible exact pmid1 Kn.out K5.out HG.out D.out
              | with_reducible exact pmid0 Kn.out
        case rest =>
        clear K PC TA M
        obtain ⟨g, rfl, hg, k5, K⟩ := hcut
        replace K := Lib.hid K
        have HE := Lib.hid (show g9 ≠ g ∧ g10 ≠ g ∧ g9 ≠ g10 from by have := D.out.2.2; omega)
        clear hg
        obtain ⟨⟨p0, p1⟩, p2, p3⟩ := k5.two
        clear k5
        obtain ⟨⟨z0, z1⟩, z2, z3⟩ := K.out.2.2.2.1.1.two
        obtain ⟨⟨y0, y1⟩, y2, y3⟩ := K.out.2.2.2.1.2.two
        obtain ⟨n1, n2, n3⟩ := HE.out
        clear F1 F2 F3 F4 C1 C2 C3 C4 TT NN
        by_cases h1 : px < lx <;> by_cases h2 : px > hx <;> by_cases h3 : py < ly <;> by_cases h4 : py > hy
        all_goals
          go_wp2_with fail
          go_roundg (2 - (j + 1))
          case measure => omega
          case rel =>
            refine ⟨j + 1, by omega, rfl, by go_num, ?_⟩
            rw [show 2 * i + (j + 1) = 2 * i + j + 1 from rfl, e1.out, e2.out, e3.out, e4.out]
            first | rw [if_pos h1] | rw [if_neg (Int.not_lt.mpr h1)]
            first | rw [if_pos h2] | rw [if_neg (Int.not_lt.mpr h2)]
            first | rw [if_pos h3] | rw [if_neg (Int.not_lt.mpr h3)]
            first | rw [if_pos h4] | rw [if_neg (Int.not_lt.mpr h4)]
            first | with_reducible exact K.out | with_reducible exact (K.out.set101 D.out _) | with_reducible exact (K.out.set91 D.out _) | with_reducible exact ((K.out.set91 D.out _).set101 D.out _) | with_reducible exact (K.out.set10 D.out _) | with_reducible exact ((K.out.set10 D.out _).set101 D.out _) | with_reducible exact ((K.out.set10 D.out _).set91 D.out _) | with_reducible exact (((K.out.set10 D.out _).set91 D.out _).set101 D.out _) | with_reducible exact (K.out.set9 D.out _) | with_reducible exact ((K.out.set9 D.out _).set101 D.out _) | with_reducible exact ((K.out.set9 D.out _).set91 D.out _) | with_reducible exact (((K.out.set9 D.out _).set91 D.out _).set101 D.out _) | with_reducible exact ((K.out.set9 D.out _).set10 D.out _) | with_reducible exact (((K.out.set9 D.out _).set10 D.out _).set101 D.out _) | with_reducible exact (((K.out.set9 D.out _).set10 D.out _).set91 D.out _) | with_reducible exact ((((K.out.set9 D.out _).set10 D.out _).set91 D.out _).set101 D.out _)
      · obtain rfl : j = 2 := by omega
        go_wp2_with fail
        go_roundg (2 - (i + 1))
        case measure => omega
        case rel => exact ⟨i + 1, by omega, rfl, by go_num, K.out⟩
  · obtain rfl : i = 2 := by omega
    replace K := Lib.hid (show RB a b c d e f X Y (LX 4) (LY 4) (HX 4) (HY 4) w g7 g8 g9 g10 wr from K.out)
    clear P mx my s1 s2 s3 s4 hi hlt
    obtain ⟨n1, n2, n3, n4⟩ := NN.out
    generalize LX 4 = lx at *
    generalize LY 4 = ly at *
    generalize HX 4 = hx at *
    generalize HY 4 = hy at *
    obtain ⟨⟨z0, z1⟩, z2, z3⟩ := K.out.2.2.2.1.1.two
    go_wp2_with fail
    go_quiet (first | (go_at_call 64; (with_reducible refine quiet_tolN (F1.out _) ?_); exact fun _ => ⟨_, World.drewN_drewN _ _ _⟩) | (go_at_call 64; (with_reducible refine quiet_tolN (F2.out _) ?_); exact fun _ => ⟨_, World.drewN_drewN _ _ _⟩) | (go_at_call 79; (with_reducible refine quiet_tol (C1.out _) ?_); exact ⟨_, rfl⟩) | (go_at_call 79; (with_reducible refine quiet_tol (C2.out _) ?_); exact ⟨_, rfl⟩))
    clear z0 z1 z2 z3
    replace K := Lib.hid (K.out.drewN nq)
    generalize wr.drewN nq = ws at *
    clear nq
    obtain ⟨⟨z0, z1⟩, z2, z3⟩ := K.out.2.2.2.1.2.two
    go_wp2_with fail
    go_quiet (first | (go_at_call 64; (with_reducible refine quiet_tolN (F3.out _) ?_); exact fun _ => ⟨_, World.drewN_drewN _ _ _⟩) | (go_at_call 64; (with_reducible refine quiet_tolN (F4.out _) ?_); exact fun _ => ⟨_, World.drewN_drewN _ _ _⟩) | (go_at_call 79; (with_reducible refine quiet_tol (C3.out _) ?_); exact ⟨_, rfl⟩) | (go_at_call 79; (with_reducible refine quiet_tol (C4.out _) ?_); exact ⟨_, rfl⟩))
    clear z0 z1 z2 z3
    replace K := Lib.hid (K.out.drewN nq)
    generalize ws.drewN nq = wt at *
    clear nq n1 n2 n3 n4
    obtain ⟨⟨q0, q1, q2, q3⟩, o0, o1, o2, o3⟩ := K.out.2.1.four
    have HB := Lib.hid K.out.2.2.2.2
    rcases TT.out with ⟨t5, rfl, rfl, rfl, rfl⟩ | ⟨t5, t6, rfl, rfl, rfl, rfl⟩ | ⟨t5, t6, rfl, rfl, e7, e8⟩
    all_goals
      go_wp2_with fail
      refine bodyPost_ret (v := .tuple #[.agg #[.int .i64 _, .int .i64 _, .int .i64 _, .int .i64 _], .int .i64 0]) (by simp [results, Try.results46, go_sem, *]) rfl ⟨rfl, ?_⟩
      repeat' (first | with_reducible exact HB.out | with_reducible apply Below.drew | with_reducible apply Below.drewN' | with_reducible apply Below.setCell)
      all_goals (show w.heap.size ≤ w.heap.size + 1 + 1; omega)
end Go.Proofs.Ytineinmghajmnaa
