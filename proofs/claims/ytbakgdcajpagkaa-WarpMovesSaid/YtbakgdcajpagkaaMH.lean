/- The reference's At. -/
import Derived.Test.YtbakgdcajpagkaaMG
namespace Go.Proofs.Ytbakgdcajpagkaa
open Go.RowKit
def cv (w : World) (g j : Nat) : Value := (w.cell? ⟨g, j, none⟩).getD undef
theorem cv_ok {w : World} {g j : Nat} {v : Value} (h : w.cell? ⟨g, j, none⟩ = some v) : w.cell? ⟨g, j, none⟩ = some (cv w g j) := by unfold cv; rw [h]; rfl
theorem drewN_cell (X : World) (k : Nat) (a : Addr) : (X.drewN k).cell? a = X.cell? a := rfl
theorem drewN_frozen (X : World) (k : Nat) (a : Addr) : (X.drewN k).frozen? a = X.frozen? a := rfl
theorem cv_drewN (X : World) (k g j : Nat) : cv (X.drewN k) g j = cv X g j := rfl
theorem ret_two {a b a' b' : Int} (h : a = a') (h' : b = b') : Ending.returned (.agg #[.int .i64 a, .int .i64 b]) = .returned (.agg #[.int .i64 a', .int .i64 b']) := by rw [h, h']
theorem ra_store {X : World} {g14 g15 g16 g17 g : Nat} {x0 y0 x1 y1 x2 y2 x3 y3 : Value} (hne : g14 ≠ g ∧ g15 ≠ g ∧ g16 ≠ g ∧ g17 ≠ g) (u0 u1 : Value)
    (h : X.cell? ⟨g14, 0, none⟩ = some x0 ∧ X.cell? ⟨g14, 1, none⟩ = some y0 ∧ X.cell? ⟨g15, 0, none⟩ = some x1 ∧ X.cell? ⟨g15, 1, none⟩ = some y1 ∧ X.cell? ⟨g16, 0, none⟩ = some x2 ∧ X.cell? ⟨g16, 1, none⟩ = some y2 ∧ X.cell? ⟨g17, 0, none⟩ = some x3 ∧ X.cell? ⟨g17, 1, none⟩ = some y3 ∧ X.cell? ⟨g, 0, none⟩ = some (cv X g 0) ∧ X.cell? ⟨g, 1, none⟩ = some (cv X g 1) ∧ X.frozen? ⟨g, 0, none⟩ = false ∧ X.frozen? ⟨g, 1, none⟩ = false) :
    ((X.setCell ⟨g, 0, none⟩ u0).setCell ⟨g, 1, none⟩ u1).cell? ⟨g14, 0, none⟩ = some x0 ∧ ((X.setCell ⟨g, 0, none⟩ u0).setCell ⟨g, 1, none⟩ u1).cell? ⟨g14, 1, none⟩ = some y0 ∧ ((X.setCell ⟨g, 0, none⟩ u0).setCell ⟨g, 1, none⟩ u1).cell? ⟨g15, 0, none⟩ = some x1 ∧ ((X.setCell ⟨g, 0, none⟩ u0).setCell ⟨g, 1, none⟩ u1).cell? ⟨g15, 1, none⟩ = some y1 ∧ ((X.setCell ⟨g, 0, none⟩ u0).setCell ⟨g, 1, none⟩ u1).cell? ⟨g16, 0, none⟩ = some x2 ∧ ((X.setCell ⟨g, 0, none⟩ u0).setCell ⟨g, 1, none⟩ u1).cell? ⟨g16, 1, none⟩ = some y2 ∧ ((X.setCell ⟨g, 0, none⟩ u0).setCell ⟨g, 1, none⟩ u1).cell? ⟨g17, 0, none⟩ = some x3 ∧ ((X.setCell ⟨g, 0, none⟩ u0).setCell ⟨g, 1, none⟩ u1).cell? ⟨g17, 1, none⟩ = some y3 ∧ ((X.setCell ⟨g, 0, none⟩ u0).setCell ⟨g, 1, none⟩ u1).cell? ⟨g, 0, none⟩ = some (cv ((X.setCell ⟨g, 0, none⟩ u0).setCell ⟨g, 1, none⟩ u1) g 0) ∧ ((X.setCell ⟨g, 0, none⟩ u0).setCell ⟨g, 1, none⟩ u1).cell? ⟨g, 1, none⟩ = some (cv ((X.setCell ⟨g, 0, none⟩ u0).setCell ⟨g, 1, none⟩ u1) g 1) ∧ ((X.setCell ⟨g, 0, none⟩ u0).setCell ⟨g, 1, none⟩ u1).frozen? ⟨g, 0, none⟩ = false ∧ ((X.setCell ⟨g, 0, none⟩ u0).setCell ⟨g, 1, none⟩ u1).frozen? ⟨g, 1, none⟩ = false := by
  obtain ⟨h0, h1, h2, h3, h4, h5, h6, h7, h8, h9, h10, h11⟩ := h
  obtain ⟨e0, e1, e2, e3⟩ := hne
  have far : ∀ b j, b ≠ g → ((X.setCell ⟨g, 0, none⟩ u0).setCell ⟨g, 1, none⟩ u1).cell? ⟨b, j, none⟩ = X.cell? ⟨b, j, none⟩ := fun b j hb => by
    rw [World.cell?_setCell_far _ _ _ _ (show g ≠ b from fun e => hb e.symm), World.cell?_setCell_far _ _ _ _ (show g ≠ b from fun e => hb e.symm)]
  have fz : ∀ j, ((X.setCell ⟨g, 0, none⟩ u0).setCell ⟨g, 1, none⟩ u1).frozen? ⟨g, j, none⟩ = X.frozen? ⟨g, j, none⟩ := fun j => by rw [World.frozen?_setCell, World.frozen?_setCell]
  have z0 : ((X.setCell ⟨g, 0, none⟩ u0).setCell ⟨g, 1, none⟩ u1).cell? ⟨g, 0, none⟩ = some u0 := by
    rw [World.cell?_setCell_other _ _ _ _ (by simp)]
    refine World.cell?_setCell_same _ _ _ (u := cv X g 0) ?_
    exact h8
  have z1 : ((X.setCell ⟨g, 0, none⟩ u0).setCell ⟨g, 1, none⟩ u1).cell? ⟨g, 1, none⟩ = some u1 := by
    refine World.cell?_setCell_same _ _ _ (u := cv X g 1) ?_
    rw [World.cell?_setCell_other _ _ _ _ (by simp)]; exact h9
  exact ⟨(far _ 0 e0).trans h0, (far _ 1 e0).trans h1, (far _ 0 e1).trans h2, (far _ 1 e1).trans h3, (far _ 0 e2).trans h4, (far _ 1 e2).trans h5, (far _ 0 e3).trans h6, (far _ 1 e3).trans h7, cv_ok z0, cv_ok z1, (fz 0).trans h10, (fz 1).trans h11⟩
theorem ra_storeN {X : World} {g14 g15 g16 g17 g : Nat} {x0 y0 x1 y1 x2 y2 x3 y3 : Value} (hne : g14 ≠ g ∧ g15 ≠ g ∧ g16 ≠ g ∧ g17 ≠ g) (k : Nat) (u0 u1 : Value) (h : Hid (X.cell? ⟨g14, 0, none⟩ = some x0 ∧ X.cell? ⟨g14, 1, none⟩ = some y0 ∧ X.cell? ⟨g15, 0, none⟩ = some x1 ∧ X.cell? ⟨g15, 1, none⟩ = some y1 ∧ X.cell? ⟨g16, 0, none⟩ = some x2 ∧ X.cell? ⟨g16, 1, none⟩ = some y2 ∧ X.cell? ⟨g17, 0, none⟩ = some x3 ∧ X.cell? ⟨g17, 1, none⟩ = some y3 ∧ X.cell? ⟨g, 0, none⟩ = some (cv X g 0) ∧ X.cell? ⟨g, 1, none⟩ = some (cv X g 1) ∧ X.frozen? ⟨g, 0, none⟩ = false ∧ X.frozen? ⟨g, 1, none⟩ = false)) :
    (((X.drewN k).setCell ⟨g, 0, none⟩ u0).setCell ⟨g, 1, none⟩ u1).cell? ⟨g14, 0, none⟩ = some x0 ∧ (((X.drewN k).setCell ⟨g, 0, none⟩ u0).setCell ⟨g, 1, none⟩ u1).cell? ⟨g14, 1, none⟩ = some y0 ∧ (((X.drewN k).setCell ⟨g, 0, none⟩ u0).setCell ⟨g, 1, none⟩ u1).cell? ⟨g15, 0, none⟩ = some x1 ∧ (((X.drewN k).setCell ⟨g, 0, none⟩ u0).setCell ⟨g, 1, none⟩ u1).cell? ⟨g15, 1, none⟩ = some y1 ∧ (((X.drewN k).setCell ⟨g, 0, none⟩ u0).setCell ⟨g, 1, none⟩ u1).cell? ⟨g16, 0, none⟩ = some x2 ∧ (((X.drewN k).setCell ⟨g, 0, none⟩ u0).setCell ⟨g, 1, none⟩ u1).cell? ⟨g16, 1, none⟩ = some y2 ∧ (((X.drewN k).setCell ⟨g, 0, none⟩ u0).setCell ⟨g, 1, none⟩ u1).cell? ⟨g17, 0, none⟩ = some x3 ∧ (((X.drewN k).setCell ⟨g, 0, none⟩ u0).setCell ⟨g, 1, none⟩ u1).cell? ⟨g17, 1, none⟩ = some y3 ∧ (((X.drewN k).setCell ⟨g, 0, none⟩ u0).setCell ⟨g, 1, none⟩ u1).cell? ⟨g, 0, none⟩ = some (cv (((X.drewN k).setCell ⟨g, 0, none⟩ u0).setCell ⟨g, 1, none⟩ u1) g 0) ∧ (((X.drewN k).setCell ⟨g, 0, none⟩ u0).setCell ⟨g, 1, none⟩ u1).cell? ⟨g, 1, none⟩ = some (cv (((X.drewN k).setCell ⟨g, 0, none⟩ u0).setCell ⟨g, 1, none⟩ u1) g 1) ∧ (((X.drewN k).setCell ⟨g, 0, none⟩ u0).setCell ⟨g, 1, none⟩ u1).frozen? ⟨g, 0, none⟩ = false ∧ (((X.drewN k).setCell ⟨g, 0, none⟩ u0).setCell ⟨g, 1, none⟩ u1).frozen? ⟨g, 1, none⟩ = false := by
  refine ra_store hne u0 u1 ?_
  simp only [drewN_cell, drewN_frozen, cv_drewN]
  exact h
theorem ra_store0 {X : World} {g14 g15 g16 g17 g : Nat} {x0 y0 x1 y1 x2 y2 x3 y3 : Value} (hne : g14 ≠ g ∧ g15 ≠ g ∧ g16 ≠ g ∧ g17 ≠ g) (u0 u1 : Value) (h : Hid (X.cell? ⟨g14, 0, none⟩ = some x0 ∧ X.cell? ⟨g14, 1, none⟩ = some y0 ∧ X.cell? ⟨g15, 0, none⟩ = some x1 ∧ X.cell? ⟨g15, 1, none⟩ = some y1 ∧ X.cell? ⟨g16, 0, none⟩ = some x2 ∧ X.cell? ⟨g16, 1, none⟩ = some y2 ∧ X.cell? ⟨g17, 0, none⟩ = some x3 ∧ X.cell? ⟨g17, 1, none⟩ = some y3 ∧ X.cell? ⟨g, 0, none⟩ = some (cv X g 0) ∧ X.cell? ⟨g, 1, none⟩ = some (cv X g 1) ∧ X.frozen? ⟨g, 0, none⟩ = false ∧ X.frozen? ⟨g, 1, none⟩ = false)) :
    ((X.setCell ⟨g, 0, none⟩ u0).setCell ⟨g, 1, none⟩ u1).drew.cell? ⟨g14, 0, none⟩ = some x0 ∧ ((X.setCell ⟨g, 0, none⟩ u0).setCell ⟨g, 1, none⟩ u1).drew.cell? ⟨g14, 1, none⟩ = some y0 ∧ ((X.setCell ⟨g, 0, none⟩ u0).setCell ⟨g, 1, none⟩ u1).drew.cell? ⟨g15, 0, none⟩ = some x1 ∧ ((X.setCell ⟨g, 0, none⟩ u0).setCell ⟨g, 1, none⟩ u1).drew.cell? ⟨g15, 1, none⟩ = some y1 ∧ ((X.setCell ⟨g, 0, none⟩ u0).setCell ⟨g, 1, none⟩ u1).drew.cell? ⟨g16, 0, none⟩ = some x2 ∧ ((X.setCell ⟨g, 0, none⟩ u0).setCell ⟨g, 1, none⟩ u1).drew.cell? ⟨g16, 1, none⟩ = some y2 ∧ ((X.setCell ⟨g, 0, none⟩ u0).setCell ⟨g, 1, none⟩ u1).drew.cell? ⟨g17, 0, none⟩ = some x3 ∧ ((X.setCell ⟨g, 0, none⟩ u0).setCell ⟨g, 1, none⟩ u1).drew.cell? ⟨g17, 1, none⟩ = some y3 ∧ ((X.setCell ⟨g, 0, none⟩ u0).setCell ⟨g, 1, none⟩ u1).drew.cell? ⟨g, 0, none⟩ = some (cv ((X.setCell ⟨g, 0, none⟩ u0).setCell ⟨g, 1, none⟩ u1).drew g 0) ∧ ((X.setCell ⟨g, 0, none⟩ u0).setCell ⟨g, 1, none⟩ u1).drew.cell? ⟨g, 1, none⟩ = some (cv ((X.setCell ⟨g, 0, none⟩ u0).setCell ⟨g, 1, none⟩ u1).drew g 1) ∧ ((X.setCell ⟨g, 0, none⟩ u0).setCell ⟨g, 1, none⟩ u1).drew.frozen? ⟨g, 0, none⟩ = false ∧ ((X.setCell ⟨g, 0, none⟩ u0).setCell ⟨g, 1, none⟩ u1).drew.frozen? ⟨g, 1, none⟩ = false := ra_store hne u0 u1 h
/-- Behind two of the points: what lies in memory. -/
def RaMid (x0 y0 x1 y1 : Int) (wb : World) (v v' : Value) (wx : World) : Prop :=
  ∃ g g', v = .pointer (some ⟨g, 0, none⟩) ∧ v' = .pointer (some ⟨g', 0, none⟩) ∧ Bx wx g 28 #[.int .i64 x0, .int .i64 y0] ∧ Bx wx g' 28 #[.int .i64 x1, .int .i64 y1] ∧ (wb.heap.size ≤ g ∧ wb.heap.size ≤ g') ∧ Below wb.heap.size wb wx
theorem raMid {x0 y0 x1 y1 : Int} {wb : World} :
    RaMid x0 y0 x1 y1 wb (.pointer (some ⟨wb.heap.size, 0, none⟩)) (.pointer (some ⟨wb.heap.size + 1, 0, none⟩)) ((wb.alloc (.cells #[.int .i64 x0, .int .i64 y0] 28)).alloc (.cells #[.int .i64 x1, .int .i64 y1] 28)).drew ∧
    RaMid x0 y0 x1 y1 wb (.pointer (some ⟨wb.heap.size + 1, 0, none⟩)) (.pointer (some ⟨wb.heap.size, 0, none⟩)) ((wb.alloc (.cells #[.int .i64 x1, .int .i64 y1] 28)).alloc (.cells #[.int .i64 x0, .int .i64 y0] 28)).drew := by
  obtain ⟨a1, a2, a3⟩ := two_boxes wb #[.int .i64 x0, .int .i64 y0] #[.int .i64 x1, .int .i64 y1] 28 28 _ rfl
  obtain ⟨b1, b2, b3⟩ := two_boxes wb #[.int .i64 x1, .int .i64 y1] #[.int .i64 x0, .int .i64 y0] 28 28 _ rfl
  exact ⟨⟨_, _, rfl, rfl, a1.drew, a2.drew, ⟨by omega, by omega⟩, a3.drew⟩, ⟨_, _, rfl, rfl, b2.drew, b1.drew, ⟨by omega, by omega⟩, b3.drew⟩⟩
set_option maxRecDepth 100000 in
set_option maxHeartbeats 8000000 in
theorem rat_yes (C R S : Int) (A : Option Addr) (c : Nat) (ks : List (Int × Int)) (x y : Int) (w : World) (ok : WOk C R S ks) (h : Knots w w.heap.size (.slice A ks.length c) ks)
    (TC : ∀ w', Below w.heap.size w w' → Calls Try.prog 11 #[.agg #[.int .i64 C, .int .i64 R, .int .i64 S, .slice A ks.length c]] w' fun e w'' => e = .returned (.int .i64 0) ∧ Below w'.heap.size w' w'') :
    Calls Try.prog 13 #[.agg #[.int .i64 C, .int .i64 R, .int .i64 S, .slice A ks.length c], .int .i64 x, .int .i64 y] w (PtPost (rdiv (watX C R S ks x y) (S * S), rdiv (watY C R S ks x y) (S * S)) w) := by
  have HTC := Lib.hid TC; have HOK := Lib.hid ok
  have hl64 : ks.length ≤ 64 := by have := ok.n; have := mul8 (C := C) (R := R) ⟨ok.c0, ok.c1⟩ ⟨ok.r0, ok.r1⟩; omega
  obtain ⟨b, o, cc, ev, hb, hc⟩ := h.form (by have := ok.n; have := ok.c0; have := ok.r0; have : 0 < C * R := Int.mul_pos (by omega) (by omega); omega)
  injection ev with u1 u2 u3
  subst u1 u3
  have HC := Lib.hid hc
  have hcb : 2 ≤ C ∧ C ≤ 8 := ⟨ok.c0, ok.c1⟩
  have hrb : 2 ≤ R ∧ R ≤ 8 := ⟨ok.r0, ok.r1⟩
  have hsb : 1 ≤ S ∧ S ≤ 256 := ⟨ok.s0, ok.s1⟩
  obtain ⟨hU, hI, hF⟩ := wc_bd (x := x) ok.c0 ok.c1 ok.s0 ok.s1
  obtain ⟨hV, hJ, hG⟩ := wc_bd (x := y) ok.r0 ok.r1 ok.s0 ok.s1
  obtain ⟨n, n1, n2, n3, e0, e1, e2, e3, g0, g1, g2, g3, l3, l1, l2, l0⟩ := at_idx (x := x) (y := y) ok
  have E0 := Lib.hid e0; have E1 := Lib.hid e1; have E2 := Lib.hid e2; have E3 := Lib.hid e3
  clear hc u2 TC ok h e0 e1 e2 e3
  have mC : 0 ≤ (C - 1) * S ∧ (C - 1) * S ≤ 1792 := ⟨Int.mul_nonneg (by omega) (by omega), by have : (C - 1) * S ≤ 7 * 256 := Int.mul_le_mul (by omega) hsb.2 (by omega) (by omega); omega⟩
  have mR : 0 ≤ (R - 1) * S ∧ (R - 1) * S ≤ 1792 := ⟨Int.mul_nonneg (by omega) (by omega), by have : (R - 1) * S ≤ 7 * 256 := Int.mul_le_mul (by omega) hsb.2 (by omega) (by omega); omega⟩
  have CU := Lib.hid (show ∀ w', Calls Try.prog 30 #[.int .i64 x, .int .i64 0, .int .i64 ((C - 1) * S)] w' fun e w'' => e = .returned (.int .i64 (wcU x C S)) ∧ w' = w'' from fun w' => rclamp_any x 0 ((C - 1) * S) w')
  have CV := Lib.hid (show ∀ w', Calls Try.prog 30 #[.int .i64 y, .int .i64 0, .int .i64 ((R - 1) * S)] w' fun e w'' => e = .returned (.int .i64 (wcU y R S)) ∧ w' = w'' from fun w' => rclamp_any y 0 ((R - 1) * S) w')
  have qU : 0 ≤ wcU x C S / S := Int.ediv_nonneg hU.1 (by omega)
  have qV : 0 ≤ wcU y R S / S := Int.ediv_nonneg hV.1 (by omega)
  have CI := Lib.hid (show ∀ w', Calls Try.prog 30 #[.int .i64 (wcU x C S / S), .int .i64 0, .int .i64 (C - 2)] w' fun e w'' => e = .returned (.int .i64 (wcI x C S)) ∧ w' = w'' from fun w' => by
    have := rclamp_any (wcU x C S / S) 0 (C - 2) w'
    rw [show min (C - 2) (max (wcU x C S / S) 0) = wcI x C S by unfold wcI; omega] at this
    exact this)
  have CJ := Lib.hid (show ∀ w', Calls Try.prog 30 #[.int .i64 (wcU y R S / S), .int .i64 0, .int .i64 (R - 2)] w' fun e w'' => e = .returned (.int .i64 (wcI y R S)) ∧ w' = w'' from fun w' => by
    have := rclamp_any (wcU y R S / S) 0 (R - 2) w'
    rw [show min (R - 2) (max (wcU y R S / S) 0) = wcI y R S by unfold wcI; omega] at this
    exact this)
  have td1 : (wcU x C S).tdiv S = wcU x C S / S := Int.tdiv_eq_ediv_of_nonneg hU.1
  have td2 : (wcU y R S).tdiv S = wcU y R S / S := Int.tdiv_eq_ediv_of_nonneg hV.1
  have hz : (S == 0) = false := by simp; omega
  have fE : wcU x C S - wcI x C S * S = wcF x C S := rfl
  have gE : wcU y R S - wcI y R S * S = wcF y R S := rfl
  have hIS : 0 ≤ wcI x C S * S ∧ wcI x C S * S ≤ 1792 := by have := Int.mul_nonneg hI.1 (show 0 ≤ S by omega); omega
  have hJS : 0 ≤ wcI y R S * S ∧ wcI y R S * S ≤ 1792 := by have := Int.mul_nonneg hJ.1 (show 0 ≤ S by omega); omega
  have hJC : 0 ≤ wcI y R S * C ∧ wcI y R S * C ≤ 64 := by
    have := Int.mul_nonneg hJ.1 (show 0 ≤ C by omega)
    omega
  have hJ1C : (wcI y R S + 1) * C = wcI y R S * C + C := by rw [Int.add_mul, Int.one_mul]
  have g2' : (wcI y R S + 1) * C + wcI x C S = (n2 : Int) := by omega
  clear hJ1C
  have KB := wk_bd hsb.1 hsb.2 hF hG
  have RG := HOK.out.rng
  have sX := wsum_bd hsb.1 hsb.2 hF hG (RG n l0).1 (RG n1 l1).1 (RG n2 l2).1 (RG n3 l3).1
  have sY := wsum_bd hsb.1 hsb.2 hF hG (RG n l0).2 (RG n1 l1).2 (RG n2 l2).2 (RG n3 l3).2
  have eX : wsum (wk S (wcF x C S) (wcF y R S)) (kx ks n) (kx ks n1) (kx ks n2) (kx ks n3) = watX C R S ks x y := by rw [E1.out, E2.out, E3.out, E0.out]; rfl
  have eY : wsum (wk S (wcF x C S) (wcF y R S)) (ky ks n) (ky ks n1) (ky ks n2) (ky ks n3) = watY C R S ks x y := by rw [E1.out, E2.out, E3.out, E0.out]; rfl
  have S2 : 0 < S * S ∧ S * S ≤ 65536 := ⟨Int.mul_pos (by omega) (by omega), by have : S * S ≤ 256 * 256 := Int.mul_le_mul hsb.2 hsb.2 (by omega) (by omega); omega⟩
  have sM : S * S * 1048576 ≤ 65536 * 1048576 := Int.mul_le_mul_of_nonneg_right S2.2 (by omega)
  have hK : ∀ k a : Int, (0 ≤ k ∧ k ≤ 65536) → (-1048576 ≤ a ∧ a ≤ 1048576) → -68719476736 ≤ k * a ∧ k * a ≤ 68719476736 := fun k a h0 ha => by
    have h := mul_abs h0.1 ha
    have : k * 1048576 ≤ 65536 * 1048576 := Int.mul_le_mul_of_nonneg_right h0.2 (by omega)
    omega
  obtain ⟨o1, ho1⟩ : ∃ r, rdiv ((wk S (wcF x C S) (wcF y R S)).1 * kx ks n + (wk S (wcF x C S) (wcF y R S)).2.1 * kx ks n1 + (wk S (wcF x C S) (wcF y R S)).2.2.1 * kx ks n2 + (wk S (wcF x C S) (wcF y R S)).2.2.2 * kx ks n3) (S * S) = r := ⟨_, rfl⟩
  obtain ⟨o2, ho2⟩ : ∃ r, rdiv ((wk S (wcF x C S) (wcF y R S)).1 * ky ks n + (wk S (wcF x C S) (wcF y R S)).2.1 * ky ks n1 + (wk S (wcF x C S) (wcF y R S)).2.2.1 * ky ks n2 + (wk S (wcF x C S) (wcF y R S)).2.2.2 * ky ks n3) (S * S) = r := ⟨_, rfl⟩
  have O1 := Lib.hid (show rdiv (watX C R S ks x y) (S * S) = o1 by rw [← eX, ← ho1]; rfl)
  have O2 := Lib.hid (show rdiv (watY C R S ks x y) (S * S) = o2 by rw [← eY, ← ho2]; rfl)
  have D1 := fun w' => rdiv_any ((wk S (wcF x C S) (wcF y R S)).1 * kx ks n + (wk S (wcF x C S) (wcF y R S)).2.1 * kx ks n1 + (wk S (wcF x C S) (wcF y R S)).2.2.1 * kx ks n2 + (wk S (wcF x C S) (wcF y R S)).2.2.2 * kx ks n3) (S * S) w' (by unfold wsum at sX; omega) (by unfold wsum at sX; omega) S2.1 (by omega)
  have D2 := fun w' => rdiv_any ((wk S (wcF x C S) (wcF y R S)).1 * ky ks n + (wk S (wcF x C S) (wcF y R S)).2.1 * ky ks n1 + (wk S (wcF x C S) (wcF y R S)).2.2.1 * ky ks n2 + (wk S (wcF x C S) (wcF y R S)).2.2.2 * ky ks n3) (S * S) w' (by unfold wsum at sY; omega) (by unfold wsum at sY; omega) S2.1 (by omega)
  rw [ho1] at D1
  rw [ho2] at D2
  replace D1 := Lib.hid D1; replace D2 := Lib.hid D2
  have u0 := wrap_in (S * S) (by omega)
  have pX0 := hK _ _ KB.1 (RG n l0).1; have pX1 := hK _ _ KB.2.1 (RG n1 l1).1; have pX2 := hK _ _ KB.2.2.1 (RG n2 l2).1; have pX3 := hK _ _ KB.2.2.2.1 (RG n3 l3).1
  have pY0 := hK _ _ KB.1 (RG n l0).2; have pY1 := hK _ _ KB.2.1 (RG n1 l1).2; have pY2 := hK _ _ KB.2.2.1 (RG n2 l2).2; have pY3 := hK _ _ KB.2.2.2.1 (RG n3 l3).2
  have u2 := wrap_in (S - wcF x C S) (by omega); have u3 := wrap_in (S - wcF y R S) (by omega)
  have m1 : IntKind.i64.wrap ((S - wcF x C S) * (S - wcF y R S)) = (wk S (wcF x C S) (wcF y R S)).1 := wrap_in (wk S (wcF x C S) (wcF y R S)).1 (by omega)
  have m2 : IntKind.i64.wrap (wcF x C S * (S - wcF y R S)) = (wk S (wcF x C S) (wcF y R S)).2.1 := wrap_in (wk S (wcF x C S) (wcF y R S)).2.1 (by omega)
  have m3 : IntKind.i64.wrap ((S - wcF x C S) * wcF y R S) = (wk S (wcF x C S) (wcF y R S)).2.2.1 := wrap_in (wk S (wcF x C S) (wcF y R S)).2.2.1 (by omega)
  have m4 : IntKind.i64.wrap (wcF x C S * wcF y R S) = (wk S (wcF x C S) (wcF y R S)).2.2.2 := wrap_in (wk S (wcF x C S) (wcF y R S)).2.2.2 (by omega)
  have M := Lib.hid (And.intro u2 (And.intro u3 (And.intro m1 (And.intro m2 (And.intro m3 m4)))))
  clear KB sX sY eX eY S2 sM hK ho1 ho2 u2 u3 m1 m2 m3 m4 HOK RG
  generalize (wk S (wcF x C S) (wcF y R S)).1 = k0 at *
  generalize (wk S (wcF x C S) (wcF y R S)).2.1 = k1 at *
  generalize (wk S (wcF x C S) (wcF y R S)).2.2.1 = k2 at *
  generalize (wk S (wcF x C S) (wcF y R S)).2.2.2 = k3 at *
  have cc0 := HC.out n l0; have cc1 := HC.out n1 l1; have cc2 := HC.out n2 l2; have cc3 := HC.out n3 l3
  generalize kx ks n = x0 at *
  generalize ky ks n = y0 at *
  generalize kx ks n1 = x1 at *
  generalize ky ks n1 = y1 at *
  generalize kx ks n2 = x2 at *
  generalize ky ks n2 = y2 at *
  generalize kx ks n3 = x3 at *
  generalize ky ks n3 = y3 at *
  have RR := Lib.hid (And.intro (And.intro pX0 (And.intro pX1 (And.intro pX2 pX3))) (And.intro pY0 (And.intro pY1 (And.intro pY2 pY3))))
  clear pX0 pX1 pX2 pX3 pY0 pY1 pY2 pY3 HC E0 E1 E2 E3
  replace cc0 := Lib.hid cc0; replace cc1 := Lib.hid cc1; replace cc2 := Lib.hid cc2; replace cc3 := Lib.hid cc3
  have LL := Lib.hid (show (n : Int) < ks.length ∧ (n1 : Int) < ks.length ∧ (n2 : Int) < ks.length ∧ (n3 : Int) < ks.length from by omega)
  generalize wcF x C S = F at *
  generalize wcF y R S = G at *
  generalize hQU : wcU x C S / S = QU at *
  generalize hQV : wcU y R S / S = QV at *
  generalize wcU x C S = U at *
  generalize wcU y R S = V at *
  generalize wcI x C S = I at *
  generalize wcI y R S = J at *
  have hQ : QU ≤ 1792 ∧ QV ≤ 1792 := by
    have a1 := Int.ediv_le_self S hU.1
    have a2 := Int.ediv_le_self S hV.1
    omega
  clear hQU hQV l0 l1 l2 l3
  have GG := Lib.hid (And.intro g0 (And.intro g1 (And.intro g2' g3))); clear g0 g1 g2 g2' g3
  go_enter Try.func13, Try.ntmps13
  go_upto_region 1 with fail
  obtain ⟨hb3, hb6, hB⟩ := two_boxes w #[.int .i64 C, .int .i64 R, .int .i64 S, .slice (some ⟨b, o, none⟩) ks.length c] #[.int .i64 0, .int .i64 0] 24 28 _ rfl
  generalize World.alloc (World.alloc w _) _ = w0 at *
  obtain ⟨⟨i1, i2, i3, i4⟩, -⟩ := hb3.four
  go_wp2_with fail
  refine (HTC.out _ hB).mono ?_
  rintro e w1 ⟨rfl, hbb⟩
  replace hb3 := hb3.below hbb; replace hb6 := hb6.below hbb; replace hB := bel_trans hB hbb
  clear i1 i2 i3 i4 hbb HTC
  obtain ⟨⟨i1, i2, i3, i4⟩, -⟩ := hb3.four
  have v1 := wrap_in (C - 1) (by omega); have v2 := wrap_in (R - 1) (by omega); have v3 := wrap_in (C - 2) (by omega); have v4 := wrap_in (R - 2) (by omega)
  have v5 := wrap_in ((C - 1) * S) (by omega); have v6 := wrap_in ((R - 1) * S) (by omega)
  go_upto_region 4 with fail
  go_quiet (first | (go_at_call 30; (with_reducible refine quiet_tol (CU.out _) ?_); exact ⟨_, rfl⟩) | (go_at_call 30; (with_reducible refine quiet_tol (CV.out _) ?_); exact ⟨_, rfl⟩))
  clear i1 i2 i3 i4
  replace hb3 := hb3.drewN nq; replace hb6 := hb6.drewN nq; replace hB := Below.drewN' hB nq
  generalize w1.drewN nq = w2 at *
  clear nq v1 v2 v5 v6 CU CV
  obtain ⟨⟨i1, i2, i3, i4⟩, -⟩ := hb3.four
  go_wp2_with fail
  go_quiet (first | (go_at_call 30; (with_reducible refine quiet_tol (CI.out _) ?_); exact ⟨_, rfl⟩) | (go_at_call 30; (with_reducible refine quiet_tol (CJ.out _) ?_); exact ⟨_, rfl⟩))
  clear i1 i2 i3 i4
  replace hb3 := hb3.drewN nq; replace hb6 := hb6.drewN nq; replace hB := Below.drewN' hB nq
  generalize w2.drewN nq = w3 at *
  clear nq v3 v4 CI CJ td1 td2
  have v7 := wrap_in (I * S) (by omega); have v8 := wrap_in (J * S) (by omega)
  go_upto_region 7 with fail
  clear v7 v8 fE gE
  obtain ⟨g0, g1, g2, g3⟩ := GG.out
  obtain ⟨ll0, ll1, ll2, ll3⟩ := LL.out
  have q1 := wrap_in (J * C) (by omega); have q2 := wrap_in ((J + 1) * C) (by omega)
  have hn0 : (0 : Int) ≤ (n : Int) := by omega
  have hn1 : (0 : Int) ≤ (n1 : Int) := by omega
  have hn2 : (0 : Int) ≤ (n2 : Int) := by omega
  have hn3 : (0 : Int) ≤ (n3 : Int) := by omega
  have r0 := wrap_in (n : Int) (by omega); have r1 := wrap_in (n1 : Int) (by omega); have r2 := wrap_in (n2 : Int) (by omega); have r3 := wrap_in (n3 : Int) (by omega); have r4 := wrap_in (J + 1) (by omega)
  have hl := hb3.lt
  have hbl := Nat.lt_of_lt_of_le hb hB.size
  have ja : w3.heap.size ≠ w.heap.size := by omega
  have jb : w3.heap.size ≠ b := by omega
  have ja' : w3.heap.size + 1 ≠ w.heap.size := by omega
  have jb' : w3.heap.size + 1 ≠ b := by omega
  go_cut [14, 15] (RaMid x0 y0 x1 y1 w3)
  case first =>
    obtain ⟨⟨i1, -, -, i4⟩, -⟩ := hb3.four
    have t1 := (hB.cell (p := ⟨b, _, none⟩) hb).trans cc0.out.1; have t2 := (hB.cell (p := ⟨b, _, none⟩) hb).trans cc0.out.2
    have t3 := (hB.cell (p := ⟨b, _, none⟩) hb).trans cc1.out.1; have t4 := (hB.cell (p := ⟨b, _, none⟩) hb).trans cc1.out.2
    clear g2 g3 q2 r2 r3 r4 hn2 hn3 ll2 ll3
    go_region_held3 (fun w' => (w'.cell? ⟨w.heap.size, 0, none⟩ = some (.int .i64 C) ∧ w'.cell? ⟨w.heap.size, 3, none⟩ = some (.slice (some ⟨b, o, none⟩) ks.length c)) ∧ (w'.cell? ⟨b, o + n * 2, none⟩ = some (.int .i64 x0) ∧ w'.cell? ⟨b, o + n * 2 + 1, none⟩ = some (.int .i64 y0)) ∧ (w'.cell? ⟨b, o + n1 * 2, none⟩ = some (.int .i64 x1) ∧ w'.cell? ⟨b, o + n1 * 2 + 1, none⟩ = some (.int .i64 y1)))
      (go_keep) (fail)
    all_goals (try go_wp2_with fail)
    all_goals go_meet
    all_goals first
      | with_reducible exact raMid.1
      | with_reducible exact raMid.2
  case rest =>
  obtain ⟨g14, g15, rfl, rfl, hb14, hb15, hg, hBB⟩ := hcut
  have hl6 := hb6.lt
  replace hb3 := hb3.below hBB; replace hb6 := hb6.below hBB; replace hB := bel_trans hB hBB
  have hN1 := Lib.hid (show w.heap.size + 1 < g14 ∧ w.heap.size + 1 < g15 from ⟨by omega, by omega⟩)
  clear hl6
  clear ja jb ja' jb' hg hBB hl hbl g0 g1 q1 r0 r1
  generalize hw4 : wc = w4 at *
  clear hw4
  have hl := hb3.lt
  have hbl := Nat.lt_of_lt_of_le hb hB.size
  have ja : w4.heap.size ≠ w.heap.size := by omega
  have jb : w4.heap.size ≠ b := by omega
  have ja' : w4.heap.size + 1 ≠ w.heap.size := by omega
  have jb' : w4.heap.size + 1 ≠ b := by omega
  go_upto_region 8 with fail
  go_cut [16, 17] (RaMid x2 y2 x3 y3 w4)
  case first =>
    obtain ⟨⟨i1, -, -, i4⟩, -⟩ := hb3.four
    have t1 := (hB.cell (p := ⟨b, _, none⟩) hb).trans cc2.out.1; have t2 := (hB.cell (p := ⟨b, _, none⟩) hb).trans cc2.out.2
    have t3 := (hB.cell (p := ⟨b, _, none⟩) hb).trans cc3.out.1; have t4 := (hB.cell (p := ⟨b, _, none⟩) hb).trans cc3.out.2
    go_region_held3 (fun w' => (w'.cell? ⟨w.heap.size, 0, none⟩ = some (.int .i64 C) ∧ w'.cell? ⟨w.heap.size, 3, none⟩ = some (.slice (some ⟨b, o, none⟩) ks.length c)) ∧ (w'.cell? ⟨b, o + n2 * 2, none⟩ = some (.int .i64 x2) ∧ w'.cell? ⟨b, o + n2 * 2 + 1, none⟩ = some (.int .i64 y2)) ∧ (w'.cell? ⟨b, o + n3 * 2, none⟩ = some (.int .i64 x3) ∧ w'.cell? ⟨b, o + n3 * 2 + 1, none⟩ = some (.int .i64 y3)))
      (go_keep) (fail)
    all_goals (try go_wp2_with fail)
    all_goals go_meet
    all_goals first
      | with_reducible exact raMid.1
      | with_reducible exact raMid.2
  case rest =>
  obtain ⟨g16, g17, rfl, rfl, hb16, hb17, hg, hBB⟩ := hcut
  have hl6 := hb6.lt
  replace hb14 := hb14.below hBB; replace hb15 := hb15.below hBB
  replace hb6 := hb6.below hBB; replace hB := bel_trans hB hBB
  have HN := Lib.hid (show g14 ≠ w.heap.size + 1 ∧ g15 ≠ w.heap.size + 1 ∧ g16 ≠ w.heap.size + 1 ∧ g17 ≠ w.heap.size + 1 from by have := hN1.out; omega)
  clear hl6
  clear ja jb ja' jb' hg hBB hl hbl g2 g3 q2 r2 r3 r4 hb3 hn0 hn1 hn2 hn3 ll0 ll1 ll2 ll3 hN1
  generalize hw5 : wc = w5 at *
  clear hw5
  obtain ⟨u2, u3, m1, m2, m3, m4⟩ := M.out
  go_upto_region 10 with fail
  clear u2 u3 m1 m2 m3 m4
  obtain ⟨⟨c14, d14⟩, -⟩ := hb14.two; obtain ⟨⟨c15, d15⟩, -⟩ := hb15.two; obtain ⟨⟨c16, d16⟩, -⟩ := hb16.two; obtain ⟨⟨c17, d17⟩, -⟩ := hb17.two
  obtain ⟨⟨r0, r1⟩, s0, s1⟩ := hb6.two
  replace r0 := cv_ok r0; replace r1 := cv_ok r1
  have q0 : ∀ k j, cv (w5.drewN k) (w.heap.size + 1) j = cv w5 (w.heap.size + 1) j := fun _ _ => rfl
  have q1 : ∀ j, cv w5.drew (w.heap.size + 1) j = cv w5 (w.heap.size + 1) j := fun _ => rfl
  have HCv := Lib.hid (And.intro c14 (And.intro d14 (And.intro c15 (And.intro d15 (And.intro c16 (And.intro d16 (And.intro c17 (And.intro d17 (And.intro r0 (And.intro r1 (And.intro s0 s1)))))))))))
  obtain ⟨⟨pX0, pX1, pX2, pX3⟩, pY0, pY1, pY2, pY3⟩ := RR.out
  have a1 := wrap_in (k0 * x0) (by omega); have a2 := wrap_in (k1 * x1) (by omega); have a3 := wrap_in (k2 * x2) (by omega); have a4 := wrap_in (k3 * x3) (by omega)
  have a5 := wrap_in (k0 * x0 + k1 * x1) (by omega); have a6 := wrap_in (k0 * x0 + k1 * x1 + k2 * x2) (by omega); have a7 := wrap_in (k0 * x0 + k1 * x1 + k2 * x2 + k3 * x3) (by omega)
  have b1 := wrap_in (k0 * y0) (by omega); have b2 := wrap_in (k1 * y1) (by omega); have b3 := wrap_in (k2 * y2) (by omega); have b4 := wrap_in (k3 * y3) (by omega)
  have b5 := wrap_in (k0 * y0 + k1 * y1) (by omega); have b6 := wrap_in (k0 * y0 + k1 * y1 + k2 * y2) (by omega); have b7 := wrap_in (k0 * y0 + k1 * y1 + k2 * y2 + k3 * y3) (by omega)
  clear pX0 pX1 pX2 pX3 pY0 pY1 pY2 pY3
  have HNE := HN.out
  have HB := Lib.hid hB
  clear hb14 hb15 hb16 hb17 hb6 hB hI hJ hF hG hU hV hIS hJS hJC mC mR qU qV hQ
  go_region_held3 (fun w' => w'.cell? ⟨g14, 0, none⟩ = some (.int .i64 x0) ∧ w'.cell? ⟨g14, 1, none⟩ = some (.int .i64 y0) ∧ w'.cell? ⟨g15, 0, none⟩ = some (.int .i64 x1) ∧ w'.cell? ⟨g15, 1, none⟩ = some (.int .i64 y1) ∧ w'.cell? ⟨g16, 0, none⟩ = some (.int .i64 x2) ∧ w'.cell? ⟨g16, 1, none⟩ = some (.int .i64 y2) ∧ w'.cell? ⟨g17, 0, none⟩ = some (.int .i64 x3) ∧ w'.cell? ⟨g17, 1, none⟩ = some (.int .i64 y3) ∧ w'.cell? ⟨w.heap.size + 1, 0, none⟩ = some (cv w' (w.heap.size + 1) 0) ∧ w'.cell? ⟨w.heap.size + 1, 1, none⟩ = some (cv w' (w.heap.size + 1) 1) ∧ w'.frozen? ⟨w.heap.size + 1, 0, none⟩ = false ∧ w'.frozen? ⟨w.heap.size + 1, 1, none⟩ = false)
    (first | (with_reducible exact ra_store0 HNE _ _ HCv) | (with_reducible exact ra_storeN HNE _ _ _ HCv) | go_keep)
    (first | (go_at_call 31; (with_reducible refine (D1.out _).mono ?_); rintro z w7 ⟨rfl, kk, rfl⟩) | (go_at_call 31; (with_reducible refine (D2.out _).mono ?_); rintro z w7 ⟨rfl, kk, rfl⟩))
  go_wp2_with fail
  refine bodyPost_ret (v := .agg #[.int .i64 o1, .int .i64 o2]) (by simp [results, Try.results13, go_sem, r0, r1]) rfl ⟨ret_two O1.out.symm O2.out.symm, ?_⟩
  exact ((Below.drewN' HB.out _).setCell (p := ⟨w.heap.size + 1, 0, none⟩) (by show w.heap.size ≤ w.heap.size + 1; omega) _).setCell (p := ⟨w.heap.size + 1, 1, none⟩) (by show w.heap.size ≤ w.heap.size + 1; omega) _

end Go.Proofs.Ytbakgdcajpagkaa
