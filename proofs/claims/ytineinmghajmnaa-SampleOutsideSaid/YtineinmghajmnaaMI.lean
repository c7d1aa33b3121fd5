/- Contracts of package affine and of its reference: Then. -/
import Derived.Test.YtineinmghajmnaaMH
import Derived.Deep.LoopGhost
namespace Go.Proofs.Ytineinmghajmnaa
open Go.RowKit
attribute [local go_sem 2000] run_max2m run_min2m
theorem Af.app_lim (b : Af) (x y : Int) : b.lim.app x y = b.app x y := by
  unfold Af.app
  rw [Af.lim_id b.lim_ok]
theorem thn_boxes (w : World) (a b c d e f a' b' c' d' e' f' : Int) (w0 : World)
    (hw : w0 = ((w.alloc (.cells #[.int .i64 a, .int .i64 b, .int .i64 c, .int .i64 d, .int .i64 e, .int .i64 f] 31)).alloc (.cells #[.int .i64 a', .int .i64 b', .int .i64 c', .int .i64 d', .int .i64 e', .int .i64 f'] 31)).alloc (.cells #[.int .i64 0, .int .i64 0, .int .i64 0, .int .i64 0, .int .i64 0, .int .i64 0] 31)) :
    Bx w0 w.heap.size 31 #[.int .i64 a, .int .i64 b, .int .i64 c, .int .i64 d, .int .i64 e, .int .i64 f] ∧ Bx w0 (w.heap.size + 1) 31 #[.int .i64 a', .int .i64 b', .int .i64 c', .int .i64 d', .int .i64 e', .int .i64 f'] ∧ Bx w0 (w.heap.size + 1 + 1) 31 #[.int .i64 0, .int .i64 0, .int .i64 0, .int .i64 0, .int .i64 0, .int .i64 0] ∧ Below w.heap.size w w0 := by
  subst hw
  have h1 := Bx.new w 31 #[.int .i64 a, .int .i64 b, .int .i64 c, .int .i64 d, .int .i64 e, .int .i64 f]
  have h2 := Bx.new (w.alloc (.cells #[.int .i64 a, .int .i64 b, .int .i64 c, .int .i64 d, .int .i64 e, .int .i64 f] 31)) 31 #[.int .i64 a', .int .i64 b', .int .i64 c', .int .i64 d', .int .i64 e', .int .i64 f']
  have h3 := Bx.new ((w.alloc (.cells #[.int .i64 a, .int .i64 b, .int .i64 c, .int .i64 d, .int .i64 e, .int .i64 f] 31)).alloc (.cells #[.int .i64 a', .int .i64 b', .int .i64 c', .int .i64 d', .int .i64 e', .int .i64 f'] 31)) 31 #[.int .i64 0, .int .i64 0, .int .i64 0, .int .i64 0, .int .i64 0, .int .i64 0]
  simp only [World.size_alloc] at h2 h3
  exact ⟨(h1.alloc _).alloc _, h2.alloc _, h3, bel_alloc (bel_alloc (bel_alloc (Below.refl _ _) _) _) _⟩
def ThMid (p0 p1 p2 p3 p4 p5 q0 q1 q2 q3 q4 q5 : Int) (w wx : World) : Prop :=
  Bx wx w.heap.size 31 #[.int .i64 p0, .int .i64 p1, .int .i64 p2, .int .i64 p3, .int .i64 p4, .int .i64 p5] ∧ Bx wx (w.heap.size + 1) 31 #[.int .i64 q0, .int .i64 q1, .int .i64 q2, .int .i64 q3, .int .i64 q4, .int .i64 q5] ∧ Bx wx (w.heap.size + 1 + 1) 31 #[.int .i64 0, .int .i64 0, .int .i64 0, .int .i64 0, .int .i64 0, .int .i64 0] ∧ Below w.heap.size w wx
theorem cv_keep {X : World} {r : Nat} {s0 s1 s2 s3 s4 s5 : Value} (h0 : X.cell? ⟨r, 0, none⟩ = some (afcv X r 0)) (h1 : X.cell? ⟨r, 1, none⟩ = some (afcv X r 1)) (h2 : X.cell? ⟨r, 2, none⟩ = some (afcv X r 2)) (h3 : X.cell? ⟨r, 3, none⟩ = some (afcv X r 3)) (h4 : X.cell? ⟨r, 4, none⟩ = some (afcv X r 4)) (h5 : X.cell? ⟨r, 5, none⟩ = some (afcv X r 5)) (j : Nat) (hj : j < 6) :
    ((((((X.setCell ⟨r, 0, none⟩ s0).setCell ⟨r, 1, none⟩ s1).setCell ⟨r, 2, none⟩ s2).setCell ⟨r, 3, none⟩ s3).setCell ⟨r, 4, none⟩ s4).setCell ⟨r, 5, none⟩ s5).cell? ⟨r, j, none⟩ = some (afcv ((((((X.setCell ⟨r, 0, none⟩ s0).setCell ⟨r, 1, none⟩ s1).setCell ⟨r, 2, none⟩ s2).setCell ⟨r, 3, none⟩ s3).setCell ⟨r, 4, none⟩ s4).setCell ⟨r, 5, none⟩ s5) r j) := by
  have ex : ∀ (Y : World) (k : Nat) (s : Value), (∃ v, Y.cell? ⟨r, j, none⟩ = some v) → ∃ v, (Y.setCell ⟨r, k, none⟩ s).cell? ⟨r, j, none⟩ = some v := fun Y k s ⟨v, hv⟩ => cell?_setCell_some hv
  have h : ∃ v, X.cell? ⟨r, j, none⟩ = some v := by
    match j, hj with
    | 0, _ => exact ⟨_, h0⟩
    | 1, _ => exact ⟨_, h1⟩
    | 2, _ => exact ⟨_, h2⟩
    | 3, _ => exact ⟨_, h3⟩
    | 4, _ => exact ⟨_, h4⟩
    | 5, _ => exact ⟨_, h5⟩
  obtain ⟨v, hv⟩ := ex _ 5 s5 (ex _ 4 s4 (ex _ 3 s3 (ex _ 2 s2 (ex _ 1 s1 (ex _ 0 s0 h)))))
  exact afcv_ok hv
theorem cv_far6 (X : World) {r b : Nat} (h : r ≠ b) (s0 s1 s2 s3 s4 s5 : Value) (j : Nat) : ((((((X.setCell ⟨r, 0, none⟩ s0).setCell ⟨r, 1, none⟩ s1).setCell ⟨r, 2, none⟩ s2).setCell ⟨r, 3, none⟩ s3).setCell ⟨r, 4, none⟩ s4).setCell ⟨r, 5, none⟩ s5).cell? ⟨b, j, none⟩ = X.cell? ⟨b, j, none⟩ := by
  rw [World.cell?_setCell_far _ _ _ _ h, World.cell?_setCell_far _ _ _ _ h, World.cell?_setCell_far _ _ _ _ h, World.cell?_setCell_far _ _ _ _ h, World.cell?_setCell_far _ _ _ _ h, World.cell?_setCell_far _ _ _ _ h]
theorem cv_fr6 (X : World) {r : Nat} (s0 s1 s2 s3 s4 s5 : Value) (a : Addr) : ((((((X.setCell ⟨r, 0, none⟩ s0).setCell ⟨r, 1, none⟩ s1).setCell ⟨r, 2, none⟩ s2).setCell ⟨r, 3, none⟩ s3).setCell ⟨r, 4, none⟩ s4).setCell ⟨r, 5, none⟩ s5).frozen? a = X.frozen? a := by
  rw [World.frozen?_setCell, World.frozen?_setCell, World.frozen?_setCell, World.frozen?_setCell, World.frozen?_setCell, World.frozen?_setCell]
theorem th_store {X : World} {n g r : Nat} {p0 p1 p2 p3 q0 q1 q2 q3 u v : Int} (h1 : r ≠ n) (h2 : r ≠ n + 1) (h3 : r ≠ g) (s0 s1 s2 s3 s4 s5 : Value) (h : Hid (X.cell? ⟨n, 0, none⟩ = some (.int .i64 p0) ∧ X.cell? ⟨n, 1, none⟩ = some (.int .i64 p1) ∧ X.cell? ⟨n, 2, none⟩ = some (.int .i64 p2) ∧ X.cell? ⟨n, 3, none⟩ = some (.int .i64 p3) ∧ X.cell? ⟨n + 1, 0, none⟩ = some (.int .i64 q0) ∧ X.cell? ⟨n + 1, 1, none⟩ = some (.int .i64 q1) ∧ X.cell? ⟨n + 1, 2, none⟩ = some (.int .i64 q2) ∧ X.cell? ⟨n + 1, 3, none⟩ = some (.int .i64 q3) ∧ X.cell? ⟨g, 0, none⟩ = some (.int .i64 u) ∧ X.cell? ⟨g, 1, none⟩ = some (.int .i64 v) ∧ X.cell? ⟨r, 0, none⟩ = some (afcv X (r) 0) ∧ X.cell? ⟨r, 1, none⟩ = some (afcv X (r) 1) ∧ X.cell? ⟨r, 2, none⟩ = some (afcv X (r) 2) ∧ X.cell? ⟨r, 3, none⟩ = some (afcv X (r) 3) ∧ X.cell? ⟨r, 4, none⟩ = some (afcv X (r) 4) ∧ X.cell? ⟨r, 5, none⟩ = some (afcv X (r) 5) ∧ X.frozen? ⟨r, 0, none⟩ = false ∧ X.frozen? ⟨r, 1, none⟩ = false ∧ X.frozen? ⟨r, 2, none⟩ = false ∧ X.frozen? ⟨r, 3, none⟩ = false ∧ X.frozen? ⟨r, 4, none⟩ = false ∧ X.frozen? ⟨r, 5, none⟩ = false)) :
    ((((((X.setCell ⟨r, 0, none⟩ s0).setCell ⟨r, 1, none⟩ s1).setCell ⟨r, 2, none⟩ s2).setCell ⟨r, 3, none⟩ s3).setCell ⟨r, 4, none⟩ s4).setCell ⟨r, 5, none⟩ s5).cell? ⟨n, 0, none⟩ = some (.int .i64 p0) ∧ ((((((X.setCell ⟨r, 0, none⟩ s0).setCell ⟨r, 1, none⟩ s1).setCell ⟨r, 2, none⟩ s2).setCell ⟨r, 3, none⟩ s3).setCell ⟨r, 4, none⟩ s4).setCell ⟨r, 5, none⟩ s5).cell? ⟨n, 1, none⟩ = some (.int .i64 p1) ∧ ((((((X.setCell ⟨r, 0, none⟩ s0).setCell ⟨r, 1, none⟩ s1).setCell ⟨r, 2, none⟩ s2).setCell ⟨r, 3, none⟩ s3).setCell ⟨r, 4, none⟩ s4).setCell ⟨r, 5, none⟩ s5).cell? ⟨n, 2, none⟩ = some (.int .i64 p2) ∧ ((((((X.setCell ⟨r, 0, none⟩ s0).setCell ⟨r, 1, none⟩ s1).setCell ⟨r, 2, none⟩ s2).setCell ⟨r, 3, none⟩ s3).setCell ⟨r, 4, none⟩ s4).setCell ⟨r, 5, none⟩ s5).cell? ⟨n, 3, none⟩ = some (.int .i64 p3) ∧ ((((((X.setCell ⟨r, 0, none⟩ s0).setCell ⟨r, 1, none⟩ s1).setCell ⟨r, 2, none⟩ s2).setCell ⟨r, 3, none⟩ s3).setCell ⟨r, 4, none⟩ s4).setCell ⟨r, 5, none⟩ s5).cell? ⟨n + 1, 0, none⟩ = some (.int .i64 q0) ∧ ((((((X.setCell ⟨r, 0, none⟩ s0).setCell ⟨r, 1, none⟩ s1).setCell ⟨r, 2, none⟩ s2).setCell ⟨r, 3, none⟩ s3).setCell ⟨r, 4, none⟩ s4).setCell ⟨r, 5, none⟩ s5).cell? ⟨n + 1, 1, none⟩ = some (.int .i64 q1) ∧ ((((((X.setCell ⟨r, 0, none⟩ s0).setCell ⟨r, 1, none⟩ s1).setCell ⟨r, 2, none⟩ s2).setCell ⟨r, 3, none⟩ s3).setCell ⟨r, 4, none⟩ s4).setCell ⟨r, 5, none⟩ s5).cell? ⟨n + 1, 2, none⟩ = some (.int .i64 q2) ∧ ((((((X.setCell ⟨r, 0, none⟩ s0).setCell ⟨r, 1, none⟩ s1).setCell ⟨r, 2, none⟩ s2).setCell ⟨r, 3, none⟩ s3).setCell ⟨r, 4, none⟩ s4).setCell ⟨r, 5, none⟩ s5).cell? ⟨n + 1, 3, none⟩ = some (.int .i64 q3) ∧ ((((((X.setCell ⟨r, 0, none⟩ s0).setCell ⟨r, 1, none⟩ s1).setCell ⟨r, 2, none⟩ s2).setCell ⟨r, 3, none⟩ s3).setCell ⟨r, 4, none⟩ s4).setCell ⟨r, 5, none⟩ s5).cell? ⟨g, 0, none⟩ = some (.int .i64 u) ∧ ((((((X.setCell ⟨r, 0, none⟩ s0).setCell ⟨r, 1, none⟩ s1).setCell ⟨r, 2, none⟩ s2).setCell ⟨r, 3, none⟩ s3).setCell ⟨r, 4, none⟩ s4).setCell ⟨r, 5, none⟩ s5).cell? ⟨g, 1, none⟩ = some (.int .i64 v) ∧ ((((((X.setCell ⟨r, 0, none⟩ s0).setCell ⟨r, 1, none⟩ s1).setCell ⟨r, 2, none⟩ s2).setCell ⟨r, 3, none⟩ s3).setCell ⟨r, 4, none⟩ s4).setCell ⟨r, 5, none⟩ s5).cell? ⟨r, 0, none⟩ = some (afcv ((((((X.setCell ⟨r, 0, none⟩ s0).setCell ⟨r, 1, none⟩ s1).setCell ⟨r, 2, none⟩ s2).setCell ⟨r, 3, none⟩ s3).setCell ⟨r, 4, none⟩ s4).setCell ⟨r, 5, none⟩ s5) (r) 0) ∧ ((((((X.setCell ⟨r, 0, none⟩ s0).setCell ⟨r, 1, none⟩ s1).setCell ⟨r, 2, none⟩ s2).setCell ⟨r, 3, none⟩ s3).setCell ⟨r, 4, none⟩ s4).setCell ⟨r, 5, none⟩ s5).cell? ⟨r, 1, none⟩ = some (afcv ((((((X.setCell ⟨r, 0, none⟩ s0).setCell ⟨r, 1, none⟩ s1).setCell ⟨r, 2, none⟩ s2).setCell ⟨r, 3, none⟩ s3).setCell ⟨r, 4, none⟩ s4).setCell ⟨r, 5, none⟩ s5) (r) 1) ∧ ((((((X.setCell ⟨r, 0, none⟩ s0).setCell ⟨r, 1, none⟩ s1).setCell ⟨r, 2, none⟩ s2).setCell ⟨r, 3, none⟩ s3).setCell ⟨r, 4, none⟩ s4).setCell ⟨r, 5, none⟩ s5).cell? ⟨r, 2, none⟩ = some (afcv ((((((X.setCell ⟨r, 0, none⟩ s0).setCell ⟨r, 1, none⟩ s1).setCell ⟨r, 2, none⟩ s2).setCell ⟨r, 3, none⟩ s3).setCell ⟨r, 4, none⟩ s4).setCell ⟨r, 5, none⟩ s5) (r) 2) ∧ ((((((X.setCell ⟨r, 0, none⟩ s0).setCell ⟨r, 1, none⟩ s1).setCell ⟨r, 2, none⟩ s2).setCell ⟨r, 3, none⟩ s3).setCell ⟨r, 4, none⟩ s4).setCell ⟨r, 5, none⟩ s5).cell? ⟨r, 3, none⟩ = some (afcv ((((((X.setCell ⟨r, 0, none⟩ s0).setCell ⟨r, 1, none⟩ s1).setCell ⟨r, 2, none⟩ s2).setCell ⟨r, 3, none⟩ s3).setCell ⟨r, 4, none⟩ s4).setCell ⟨r, 5, none⟩ s5) (r) 3) ∧ ((((((X.setCell ⟨r, 0, none⟩ s0).setCell ⟨r, 1, none⟩ s1).setCell ⟨r, 2, none⟩ s2).setCell ⟨r, 3, none⟩ s3).setCell ⟨r, 4, none⟩ s4).setCell ⟨r, 5, none⟩ s5).cell? ⟨r, 4, none⟩ = some (afcv ((((((X.setCell ⟨r, 0, none⟩ s0).setCell ⟨r, 1, none⟩ s1).setCell ⟨r, 2, none⟩ s2).setCell ⟨r, 3, none⟩ s3).setCell ⟨r, 4, none⟩ s4).setCell ⟨r, 5, none⟩ s5) (r) 4) ∧ ((((((X.setCell ⟨r, 0, none⟩ s0).setCell ⟨r, 1, none⟩ s1).setCell ⟨r, 2, none⟩ s2).setCell ⟨r, 3, none⟩ s3).setCell ⟨r, 4, none⟩ s4).setCell ⟨r, 5, none⟩ s5).cell? ⟨r, 5, none⟩ = some (afcv ((((((X.setCell ⟨r, 0, none⟩ s0).setCell ⟨r, 1, none⟩ s1).setCell ⟨r, 2, none⟩ s2).setCell ⟨r, 3, none⟩ s3).setCell ⟨r, 4, none⟩ s4).setCell ⟨r, 5, none⟩ s5) (r) 5) ∧ ((((((X.setCell ⟨r, 0, none⟩ s0).setCell ⟨r, 1, none⟩ s1).setCell ⟨r, 2, none⟩ s2).setCell ⟨r, 3, none⟩ s3).setCell ⟨r, 4, none⟩ s4).setCell ⟨r, 5, none⟩ s5).frozen? ⟨r, 0, none⟩ = false ∧ ((((((X.setCell ⟨r, 0, none⟩ s0).setCell ⟨r, 1, none⟩ s1).setCell ⟨r, 2, none⟩ s2).setCell ⟨r, 3, none⟩ s3).setCell ⟨r, 4, none⟩ s4).setCell ⟨r, 5, none⟩ s5).frozen? ⟨r, 1, none⟩ = false ∧ ((((((X.setCell ⟨r, 0, none⟩ s0).setCell ⟨r, 1, none⟩ s1).setCell ⟨r, 2, none⟩ s2).setCell ⟨r, 3, none⟩ s3).setCell ⟨r, 4, none⟩ s4).setCell ⟨r, 5, none⟩ s5).frozen? ⟨r, 2, none⟩ = false ∧ ((((((X.setCell ⟨r, 0, none⟩ s0).setCell ⟨r, 1, none⟩ s1).setCell ⟨r, 2, none⟩ s2).setCell ⟨r, 3, none⟩ s3).setCell ⟨r, 4, none⟩ s4).setCell ⟨r, 5, none⟩ s5).frozen? ⟨r, 3, none⟩ = false ∧ ((((((X.setCell ⟨r, 0, none⟩ s0).setCell ⟨r, 1, none⟩ s1).setCell ⟨r, 2, none⟩ s2).setCell ⟨r, 3, none⟩ s3).setCell ⟨r, 4, none⟩ s4).setCell ⟨r, 5, none⟩ s5).frozen? ⟨r, 4, none⟩ = false ∧ ((((((X.setCell ⟨r, 0, none⟩ s0).setCell ⟨r, 1, none⟩ s1).setCell ⟨r, 2, none⟩ s2).setCell ⟨r, 3, none⟩ s3).setCell ⟨r, 4, none⟩ s4).setCell ⟨r, 5, none⟩ s5).frozen? ⟨r, 5, none⟩ = false := by
  obtain ⟨z0, z1, z2, z3, z4, z5, z6, z7, z8, z9, z10, z11, z12, z13, z14, z15, z16, z17, z18, z19, z20, z21⟩ := h.out
  exact ⟨(cv_far6 (X) h1 s0 s1 s2 s3 s4 s5 0).trans z0, (cv_far6 (X) h1 s0 s1 s2 s3 s4 s5 1).trans z1, (cv_far6 (X) h1 s0 s1 s2 s3 s4 s5 2).trans z2, (cv_far6 (X) h1 s0 s1 s2 s3 s4 s5 3).trans z3, (cv_far6 (X) h2 s0 s1 s2 s3 s4 s5 0).trans z4, (cv_far6 (X) h2 s0 s1 s2 s3 s4 s5 1).trans z5, (cv_far6 (X) h2 s0 s1 s2 s3 s4 s5 2).trans z6, (cv_far6 (X) h2 s0 s1 s2 s3 s4 s5 3).trans z7, (cv_far6 (X) h3 s0 s1 s2 s3 s4 s5 0).trans z8, (cv_far6 (X) h3 s0 s1 s2 s3 s4 s5 1).trans z9, cv_keep (X := X) z10 z11 z12 z13 z14 z15 0 (by omega), cv_keep (X := X) z10 z11 z12 z13 z14 z15 1 (by omega), cv_keep (X := X) z10 z11 z12 z13 z14 z15 2 (by omega), cv_keep (X := X) z10 z11 z12 z13 z14 z15 3 (by omega), cv_keep (X := X) z10 z11 z12 z13 z14 z15 4 (by omega), cv_keep (X := X) z10 z11 z12 z13 z14 z15 5 (by omega), (cv_fr6 (X) s0 s1 s2 s3 s4 s5 _).trans z16, (cv_fr6 (X) s0 s1 s2 s3 s4 s5 _).trans z17, (cv_fr6 (X) s0 s1 s2 s3 s4 s5 _).trans z18, (cv_fr6 (X) s0 s1 s2 s3 s4 s5 _).trans z19, (cv_fr6 (X) s0 s1 s2 s3 s4 s5 _).trans z20, (cv_fr6 (X) s0 s1 s2 s3 s4 s5 _).trans z21⟩
theorem drew_cell (X : World) (a : Addr) : X.drew.cell? a = X.cell? a := rfl
theorem drew_frozen (X : World) (a : Addr) : X.drew.frozen? a = X.frozen? a := rfl
theorem cv_drew (X : World) (g j : Nat) : afcv X.drew g j = afcv X g j := rfl
theorem th_store0 {X : World} {n g r : Nat} {p0 p1 p2 p3 q0 q1 q2 q3 u v : Int} (h1 : r ≠ n) (h2 : r ≠ n + 1) (h3 : r ≠ g) (s0 s1 s2 s3 s4 s5 : Value) (h : Hid (X.cell? ⟨n, 0, none⟩ = some (.int .i64 p0) ∧ X.cell? ⟨n, 1, none⟩ = some (.int .i64 p1) ∧ X.cell? ⟨n, 2, none⟩ = some (.int .i64 p2) ∧ X.cell? ⟨n, 3, none⟩ = some (.int .i64 p3) ∧ X.cell? ⟨n + 1, 0, none⟩ = some (.int .i64 q0) ∧ X.cell? ⟨n + 1, 1, none⟩ = some (.int .i64 q1) ∧ X.cell? ⟨n + 1, 2, none⟩ = some (.int .i64 q2) ∧ X.cell? ⟨n + 1, 3, none⟩ = some (.int .i64 q3) ∧ X.cell? ⟨g, 0, none⟩ = some (.int .i64 u) ∧ X.cell? ⟨g, 1, none⟩ = some (.int .i64 v) ∧ X.cell? ⟨r, 0, none⟩ = some (afcv X (r) 0) ∧ X.cell? ⟨r, 1, none⟩ = some (afcv X (r) 1) ∧ X.cell? ⟨r, 2, none⟩ = some (afcv X (r) 2) ∧ X.cell? ⟨r, 3, none⟩ = some (afcv X (r) 3) ∧ X.cell? ⟨r, 4, none⟩ = some (afcv X (r) 4) ∧ X.cell? ⟨r, 5, none⟩ = some (afcv X (r) 5) ∧ X.frozen? ⟨r, 0, none⟩ = false ∧ X.frozen? ⟨r, 1, none⟩ = false ∧ X.frozen? ⟨r, 2, none⟩ = false ∧ X.frozen? ⟨r, 3, none⟩ = false ∧ X.frozen? ⟨r, 4, none⟩ = false ∧ X.frozen? ⟨r, 5, none⟩ = false)) :
    ((((((X.setCell ⟨r, 0, none⟩ s0).setCell ⟨r, 1, none⟩ s1).setCell ⟨r, 2, none⟩ s2).setCell ⟨r, 3, none⟩ s3).setCell ⟨r, 4, none⟩ s4).setCell ⟨r, 5, none⟩ s5).drew.cell? ⟨n, 0, none⟩ = some (.int .i64 p0) ∧ ((((((X.setCell ⟨r, 0, none⟩ s0).setCell ⟨r, 1, none⟩ s1).setCell ⟨r, 2, none⟩ s2).setCell ⟨r, 3, none⟩ s3).setCell ⟨r, 4, none⟩ s4).setCell ⟨r, 5, none⟩ s5).drew.cell? ⟨n, 1, none⟩ = some (.int .i64 p1) ∧ ((((((X.setCell ⟨r, 0, none⟩ s0).setCell ⟨r, 1, none⟩ s1).setCell ⟨r, 2, none⟩ s2).setCell ⟨r, 3, none⟩ s3).setCell ⟨r, 4, none⟩ s4).setCell ⟨r, 5, none⟩ s5).drew.cell? ⟨n, 2, none⟩ = some (.int .i64 p2) ∧ ((((((X.setCell ⟨r, 0, none⟩ s0).setCell ⟨r, 1, none⟩ s1).setCell ⟨r, 2, none⟩ s2).setCell ⟨r, 3, none⟩ s3).setCell ⟨r, 4, none⟩ s4).setCell ⟨r, 5, none⟩ s5).drew.cell? ⟨n, 3, none⟩ = some (.int .i64 p3) ∧ ((((((X.setCell ⟨r, 0, none⟩ s0).setCell ⟨r, 1, none⟩ s1).setCell ⟨r, 2, none⟩ s2).setCell ⟨r, 3, none⟩ s3).setCell ⟨r, 4, none⟩ s4).setCell ⟨r, 5, none⟩ s5).drew.cell? ⟨n + 1, 0, none⟩ = some (.int .i64 q0) ∧ ((((((X.setCell ⟨r, 0, none⟩ s0).setCell ⟨r, 1, none⟩ s1).setCell ⟨r, 2, none⟩ s2).setCell ⟨r, 3, none⟩ s3).setCell ⟨r, 4, none⟩ s4).setCell ⟨r, 5, none⟩ s5).drew.cell? ⟨n + 1, 1, none⟩ = some (.int .i64 q1) ∧ ((((((X.setCell ⟨r, 0, none⟩ s0).setCell ⟨r, 1, none⟩ s1).setCell ⟨r, 2, none⟩ s2).setCell ⟨r, 3, none⟩ s3).setCell ⟨r, 4, none⟩ s4).setCell ⟨r, 5, none⟩ s5).drew.cell? ⟨n + 1, 2, none⟩ = some (.int .i64 q2) ∧ ((((((X.setCell ⟨r, 0, none⟩ s0).setCell ⟨r, 1, none⟩ s1).setCell ⟨r, 2, none⟩ s2).setCell ⟨r, 3, none⟩ s3).setCell ⟨r, 4, none⟩ s4).setCell ⟨r, 5, none⟩ s5).drew.cell? ⟨n + 1, 3, none⟩ = some (.int .i64 q3) ∧ ((((((X.setCell ⟨r, 0, none⟩ s0).setCell ⟨r, 1, none⟩ s1).setCell ⟨r, 2, none⟩ s2).setCell ⟨r, 3, none⟩ s3).setCell ⟨r, 4, none⟩ s4).setCell ⟨r, 5, none⟩ s5).drew.cell? ⟨g, 0, none⟩ = some (.int .i64 u) ∧ ((((((X.setCell ⟨r, 0, none⟩ s0).setCell ⟨r, 1, none⟩ s1).setCell ⟨r, 2, none⟩ s2).setCell ⟨r, 3, none⟩ s3).setCell ⟨r, 4, none⟩ s4).setCell ⟨r, 5, none⟩ s5).drew.cell? ⟨g, 1, none⟩ = some (.int .i64 v) ∧ ((((((X.setCell ⟨r, 0, none⟩ s0).setCell ⟨r, 1, none⟩ s1).setCell ⟨r, 2, none⟩ s2).setCell ⟨r, 3, none⟩ s3).setCell ⟨r, 4, none⟩ s4).setCell ⟨r, 5, none⟩ s5).drew.cell? ⟨r, 0, none⟩ = some (afcv ((((((X.setCell ⟨r, 0, none⟩ s0).setCell ⟨r, 1, none⟩ s1).setCell ⟨r, 2, none⟩ s2).setCell ⟨r, 3, none⟩ s3).setCell ⟨r, 4, none⟩ s4).setCell ⟨r, 5, none⟩ s5).drew (r) 0) ∧ ((((((X.setCell ⟨r, 0, none⟩ s0).setCell ⟨r, 1, none⟩ s1).setCell ⟨r, 2, none⟩ s2).setCell ⟨r, 3, none⟩ s3).setCell ⟨r, 4, none⟩ s4).setCell ⟨r, 5, none⟩ s5).drew.cell? ⟨r, 1, none⟩ = some (afcv ((((((X.setCell ⟨r, 0, none⟩ s0).setCell ⟨r, 1, none⟩ s1).setCell ⟨r, 2, none⟩ s2).setCell ⟨r, 3, none⟩ s3).setCell ⟨r, 4, none⟩ s4).setCell ⟨r, 5, none⟩ s5).drew (r) 1) ∧ ((((((X.setCell ⟨r, 0, none⟩ s0).setCell ⟨r, 1, none⟩ s1).setCell ⟨r, 2, none⟩ s2).setCell ⟨r, 3, none⟩ s3).setCell ⟨r, 4, none⟩ s4).setCell ⟨r, 5, none⟩ s5).drew.cell? ⟨r, 2, none⟩ = some (afcv ((((((X.setCell ⟨r, 0, none⟩ s0).setCell ⟨r, 1, none⟩ s1).setCell ⟨r, 2, none⟩ s2).setCell ⟨r, 3, none⟩ s3).setCell ⟨r, 4, none⟩ s4).setCell ⟨r, 5, none⟩ s5).drew (r) 2) ∧ ((((((X.setCell ⟨r, 0, none⟩ s0).setCell ⟨r, 1, none⟩ s1).setCell ⟨r, 2, none⟩ s2).setCell ⟨r, 3, none⟩ s3).setCell ⟨r, 4, none⟩ s4).setCell ⟨r, 5, none⟩ s5).drew.cell? ⟨r, 3, none⟩ = some (afcv ((((((X.setCell ⟨r, 0, none⟩ s0).setCell ⟨r, 1, none⟩ s1).setCell ⟨r, 2, none⟩ s2).setCell ⟨r, 3, none⟩ s3).setCell ⟨r, 4, none⟩ s4).setCell ⟨r, 5, none⟩ s5).drew (r) 3) ∧ ((((((X.setCell ⟨r, 0, none⟩ s0).setCell ⟨r, 1, none⟩ s1).setCell ⟨r, 2, none⟩ s2).setCell ⟨r, 3, none⟩ s3).setCell ⟨r, 4, none⟩ s4).setCell ⟨r, 5, none⟩ s5).drew.cell? ⟨r, 4, none⟩ = some (afcv ((((((X.setCell ⟨r, 0, none⟩ s0).setCell ⟨r, 1, none⟩ s1).setCell ⟨r, 2, none⟩ s2).setCell ⟨r, 3, none⟩ s3).setCell ⟨r, 4, none⟩ s4).setCell ⟨r, 5, none⟩ s5).drew (r) 4) ∧ ((((((X.setCell ⟨r, 0, none⟩ s0).setCell ⟨r, 1, none⟩ s1).setCell ⟨r, 2, none⟩ s2).setCell ⟨r, 3, none⟩ s3).setCell ⟨r, 4, none⟩ s4).setCell ⟨r, 5, none⟩ s5).drew.cell? ⟨r, 5, none⟩ = some (afcv ((((((X.setCell ⟨r, 0, none⟩ s0).setCell ⟨r, 1, none⟩ s1).setCell ⟨r, 2, none⟩ s2).setCell ⟨r, 3, none⟩ s3).setCell ⟨r, 4, none⟩ s4).setCell ⟨r, 5, none⟩ s5).drew (r) 5) ∧ ((((((X.setCell ⟨r, 0, none⟩ s0).setCell ⟨r, 1, none⟩ s1).setCell ⟨r, 2, none⟩ s2).setCell ⟨r, 3, none⟩ s3).setCell ⟨r, 4, none⟩ s4).setCell ⟨r, 5, none⟩ s5).drew.frozen? ⟨r, 0, none⟩ = false ∧ ((((((X.setCell ⟨r, 0, none⟩ s0).setCell ⟨r, 1, none⟩ s1).setCell ⟨r, 2, none⟩ s2).setCell ⟨r, 3, none⟩ s3).setCell ⟨r, 4, none⟩ s4).setCell ⟨r, 5, none⟩ s5).drew.frozen? ⟨r, 1, none⟩ = false ∧ ((((((X.setCell ⟨r, 0, none⟩ s0).setCell ⟨r, 1, none⟩ s1).setCell ⟨r, 2, none⟩ s2).setCell ⟨r, 3, none⟩ s3).setCell ⟨r, 4, none⟩ s4).setCell ⟨r, 5, none⟩ s5).drew.frozen? ⟨r, 2, none⟩ = false ∧ ((((((X.setCell ⟨r, 0, none⟩ s0).setCell ⟨r, 1, none⟩ s1).setCell ⟨r, 2, none⟩ s2).setCell ⟨r, 3, none⟩ s3).setCell ⟨r, 4, none⟩ s4).setCell ⟨r, 5, none⟩ s5).drew.frozen? ⟨r, 3, none⟩ = false ∧ ((((((X.setCell ⟨r, 0, none⟩ s0).setCell ⟨r, 1, none⟩ s1).setCell ⟨r, 2, none⟩ s2).setCell ⟨r, 3, none⟩ s3).setCell ⟨r, 4, none⟩ s4).setCell ⟨r, 5, none⟩ s5).drew.frozen? ⟨r, 4, none⟩ = false ∧ ((((((X.setCell ⟨r, 0, none⟩ s0).setCell ⟨r, 1, none⟩ s1).setCell ⟨r, 2, none⟩ s2).setCell ⟨r, 3, none⟩ s3).setCell ⟨r, 4, none⟩ s4).setCell ⟨r, 5, none⟩ s5).drew.frozen? ⟨r, 5, none⟩ = false := by
  simp only [drew_cell, drew_frozen, cv_drew]
  exact th_store h1 h2 h3 s0 s1 s2 s3 s4 s5 h
theorem th_storeN {X : World} {n g r : Nat} {p0 p1 p2 p3 q0 q1 q2 q3 u v : Int} (h1 : r ≠ n) (h2 : r ≠ n + 1) (h3 : r ≠ g) (k : Nat) (s0 s1 s2 s3 s4 s5 : Value) (h : Hid (X.cell? ⟨n, 0, none⟩ = some (.int .i64 p0) ∧ X.cell? ⟨n, 1, none⟩ = some (.int .i64 p1) ∧ X.cell? ⟨n, 2, none⟩ = some (.int .i64 p2) ∧ X.cell? ⟨n, 3, none⟩ = some (.int .i64 p3) ∧ X.cell? ⟨n + 1, 0, none⟩ = some (.int .i64 q0) ∧ X.cell? ⟨n + 1, 1, none⟩ = some (.int .i64 q1) ∧ X.cell? ⟨n + 1, 2, none⟩ = some (.int .i64 q2) ∧ X.cell? ⟨n + 1, 3, none⟩ = some (.int .i64 q3) ∧ X.cell? ⟨g, 0, none⟩ = some (.int .i64 u) ∧ X.cell? ⟨g, 1, none⟩ = some (.int .i64 v) ∧ X.cell? ⟨r, 0, none⟩ = some (afcv X (r) 0) ∧ X.cell? ⟨r, 1, none⟩ = some (afcv X (r) 1) ∧ X.cell? ⟨r, 2, none⟩ = some (afcv X (r) 2) ∧ X.cell? ⟨r, 3, none⟩ = some (afcv X (r) 3) ∧ X.cell? ⟨r, 4, none⟩ = some (afcv X (r) 4) ∧ X.cell? ⟨r, 5, none⟩ = some (afcv X (r) 5) ∧ X.frozen? ⟨r, 0, none⟩ = false ∧ X.frozen? ⟨r, 1, none⟩ = false ∧ X.frozen? ⟨r, 2, none⟩ = false ∧ X.frozen? ⟨r, 3, none⟩ = false ∧ X.frozen? ⟨r, 4, none⟩ = false ∧ X.frozen? ⟨r, 5, none⟩ = false)) :
    (((((((X.drewN k).setCell ⟨r, 0, none⟩ s0).setCell ⟨r, 1, none⟩ s1).setCell ⟨r, 2, none⟩ s2).setCell ⟨r, 3, none⟩ s3).setCell ⟨r, 4, none⟩ s4).setCell ⟨r, 5, none⟩ s5).cell? ⟨n, 0, none⟩ = some (.int .i64 p0) ∧ (((((((X.drewN k).setCell ⟨r, 0, none⟩ s0).setCell ⟨r, 1, none⟩ s1).setCell ⟨r, 2, none⟩ s2).setCell ⟨r, 3, none⟩ s3).setCell ⟨r, 4, none⟩ s4).setCell ⟨r, 5, none⟩ s5).cell? ⟨n, 1, none⟩ = some (.int .i64 p1) ∧ (((((((X.drewN k).setCell ⟨r, 0, none⟩ s0).setCell ⟨r, 1, none⟩ s1).setCell ⟨r, 2, none⟩ s2).setCell ⟨r, 3, none⟩ s3).setCell ⟨r, 4, none⟩ s4).setCell ⟨r, 5, none⟩ s5).cell? ⟨n, 2, none⟩ = some (.int .i64 p2) ∧ (((((((X.drewN k).setCell ⟨r, 0, none⟩ s0).setCell ⟨r, 1, none⟩ s1).setCell ⟨r, 2, none⟩ s2).setCell ⟨r, 3, none⟩ s3).setCell ⟨r, 4, none⟩ s4).setCell ⟨r, 5, none⟩ s5).cell? ⟨n, 3, none⟩ = some (.int .i64 p3) ∧ (((((((X.drewN k).setCell ⟨r, 0, none⟩ s0).setCell ⟨r, 1, none⟩ s1).setCell ⟨r, 2, none⟩ s2).setCell ⟨r, 3, none⟩ s3).setCell ⟨r, 4, none⟩ s4).setCell ⟨r, 5, none⟩ s5).cell? ⟨n + 1, 0, none⟩ = some (.int .i64 q0) ∧ (((((((X.drewN k).setCell ⟨r, 0, none⟩ s0).setCell ⟨r, 1, none⟩ s1).setCell ⟨r, 2, none⟩ s2).setCell ⟨r, 3, none⟩ s3).setCell ⟨r, 4, none⟩ s4).setCell ⟨r, 5, none⟩ s5).cell? ⟨n + 1, 1, none⟩ = some (.int .i64 q1) ∧ (((((((X.drewN k).setCell ⟨r, 0, none⟩ s0).setCell ⟨r, 1, none⟩ s1).setCell ⟨r, 2, none⟩ s2).setCell ⟨r, 3, none⟩ s3).setCell ⟨r, 4, none⟩ s4).setCell ⟨r, 5, none⟩ s5).cell? ⟨n + 1, 2, none⟩ = some (.int .i64 q2) ∧ (((((((X.drewN k).setCell ⟨r, 0, none⟩ s0).setCell ⟨r, 1, none⟩ s1).setCell ⟨r, 2, none⟩ s2).setCell ⟨r, 3, none⟩ s3).setCell ⟨r, 4, none⟩ s4).setCell ⟨r, 5, none⟩ s5).cell? ⟨n + 1, 3, none⟩ = some (.int .i64 q3) ∧ (((((((X.drewN k).setCell ⟨r, 0, none⟩ s0).setCell ⟨r, 1, none⟩ s1).setCell ⟨r, 2, none⟩ s2).setCell ⟨r, 3, none⟩ s3).setCell ⟨r, 4, none⟩ s4).setCell ⟨r, 5, none⟩ s5).cell? ⟨g, 0, none⟩ = some (.int .i64 u) ∧ (((((((X.drewN k).setCell ⟨r, 0, none⟩ s0).setCell ⟨r, 1, none⟩ s1).setCell ⟨r, 2, none⟩ s2).setCell ⟨r, 3, none⟩ s3).setCell ⟨r, 4, none⟩ s4).setCell ⟨r, 5, none⟩ s5).cell? ⟨g, 1, none⟩ = some (.int .i64 v) ∧ (((((((X.drewN k).setCell ⟨r, 0, none⟩ s0).setCell ⟨r, 1, none⟩ s1).setCell ⟨r, 2, none⟩ s2).setCell ⟨r, 3, none⟩ s3).setCell ⟨r, 4, none⟩ s4).setCell ⟨r, 5, none⟩ s5).cell? ⟨r, 0, none⟩ = some (afcv (((((((X.drewN k).setCell ⟨r, 0, none⟩ s0).setCell ⟨r, 1, none⟩ s1).setCell ⟨r, 2, none⟩ s2).setCell ⟨r, 3, none⟩ s3).setCell ⟨r, 4, none⟩ s4).setCell ⟨r, 5, none⟩ s5) (r) 0) ∧ (((((((X.drewN k).setCell ⟨r, 0, none⟩ s0).setCell ⟨r, 1, none⟩ s1).setCell ⟨r, 2, none⟩ s2).setCell ⟨r, 3, none⟩ s3).setCell ⟨r, 4, none⟩ s4).setCell ⟨r, 5, none⟩ s5).cell? ⟨r, 1, none⟩ = some (afcv (((((((X.drewN k).setCell ⟨r, 0, none⟩ s0).setCell ⟨r, 1, none⟩ s1).setCell ⟨r, 2, none⟩ s2).setCell ⟨r, 3, none⟩ s3).setCell ⟨r, 4, none⟩ s4).setCell ⟨r, 5, none⟩ s5) (r) 1) ∧ (((((((X.drewN k).setCell ⟨r, 0, none⟩ s0).setCell ⟨r, 1, none⟩ s1).setCell ⟨r, 2, none⟩ s2).setCell ⟨r, 3, none⟩ s3).setCell ⟨r, 4, none⟩ s4).setCell ⟨r, 5, none⟩ s5).cell? ⟨r, 2, none⟩ = some (afcv (((((((X.drewN k).setCell ⟨r, 0, none⟩ s0).setCell ⟨r, 1, none⟩ s1).setCell ⟨r, 2, none⟩ s2).setCell ⟨r, 3, none⟩ s3).setCell ⟨r, 4, none⟩ s4).setCell ⟨r, 5, none⟩ s5) (r) 2) ∧ (((((((X.drewN k).setCell ⟨r, 0, none⟩ s0).setCell ⟨r, 1, none⟩ s1).setCell ⟨r, 2, none⟩ s2).setCell ⟨r, 3, none⟩ s3).setCell ⟨r, 4, none⟩ s4).setCell ⟨r, 5, none⟩ s5).cell? ⟨r, 3, none⟩ = some (afcv (((((((X.drewN k).setCell ⟨r, 0, none⟩ s0).setCell ⟨r, 1, none⟩ s1).setCell ⟨r, 2, none⟩ s2).setCell ⟨r, 3, none⟩ s3).setCell ⟨r, 4, none⟩ s4).setCell ⟨r, 5, none⟩ s5) (r) 3) ∧ (((((((X.drewN k).setCell ⟨r, 0, none⟩ s0).setCell ⟨r, 1, none⟩ s1).setCell ⟨r, 2, none⟩ s2).setCell ⟨r, 3, none⟩ s3).setCell ⟨r, 4, none⟩ s4).setCell ⟨r, 5, none⟩ s5).cell? ⟨r, 4, none⟩ = some (afcv (((((((X.drewN k).setCell ⟨r, 0, none⟩ s0).setCell ⟨r, 1, none⟩ s1).setCell ⟨r, 2, none⟩ s2).setCell ⟨r, 3, none⟩ s3).setCell ⟨r, 4, none⟩ s4).setCell ⟨r, 5, none⟩ s5) (r) 4) ∧ (((((((X.drewN k).setCell ⟨r, 0, none⟩ s0).setCell ⟨r, 1, none⟩ s1).setCell ⟨r, 2, none⟩ s2).setCell ⟨r, 3, none⟩ s3).setCell ⟨r, 4, none⟩ s4).setCell ⟨r, 5, none⟩ s5).cell? ⟨r, 5, none⟩ = some (afcv (((((((X.drewN k).setCell ⟨r, 0, none⟩ s0).setCell ⟨r, 1, none⟩ s1).setCell ⟨r, 2, none⟩ s2).setCell ⟨r, 3, none⟩ s3).setCell ⟨r, 4, none⟩ s4).setCell ⟨r, 5, none⟩ s5) (r) 5) ∧ (((((((X.drewN k).setCell ⟨r, 0, none⟩ s0).setCell ⟨r, 1, none⟩ s1).setCell ⟨r, 2, none⟩ s2).setCell ⟨r, 3, none⟩ s3).setCell ⟨r, 4, none⟩ s4).setCell ⟨r, 5, none⟩ s5).frozen? ⟨r, 0, none⟩ = false ∧ (((((((X.drewN k).setCell ⟨r, 0, none⟩ s0).setCell ⟨r, 1, none⟩ s1).setCell ⟨r, 2, none⟩ s2).setCell ⟨r, 3, none⟩ s3).setCell ⟨r, 4, none⟩ s4).setCell ⟨r, 5, none⟩ s5).frozen? ⟨r, 1, none⟩ = false ∧ (((((((X.drewN k).setCell ⟨r, 0, none⟩ s0).setCell ⟨r, 1, none⟩ s1).setCell ⟨r, 2, none⟩ s2).setCell ⟨r, 3, none⟩ s3).setCell ⟨r, 4, none⟩ s4).setCell ⟨r, 5, none⟩ s5).frozen? ⟨r, 2, none⟩ = false ∧ (((((((X.drewN k).setCell ⟨r, 0, none⟩ s0).setCell ⟨r, 1, none⟩ s1).setCell ⟨r, 2, none⟩ s2).setCell ⟨r, 3, none⟩ s3).setCell ⟨r, 4, none⟩ s4).setCell ⟨r, 5, none⟩ s5).frozen? ⟨r, 3, none⟩ = false ∧ (((((((X.drewN k).setCell ⟨r, 0, none⟩ s0).setCell ⟨r, 1, none⟩ s1).setCell ⟨r, 2, none⟩ s2).setCell ⟨r, 3, none⟩ s3).setCell ⟨r, 4, none⟩ s4).setCell ⟨r, 5, none⟩ s5).frozen? ⟨r, 4, none⟩ = false ∧ (((((((X.drewN k).setCell ⟨r, 0, none⟩ s0).setCell ⟨r, 1, none⟩ s1).setCell ⟨r, 2, none⟩ s2).setCell ⟨r, 3, none⟩ s3).setCell ⟨r, 4, none⟩ s4).setCell ⟨r, 5, none⟩ s5).frozen? ⟨r, 5, none⟩ = false := by
  refine th_store h1 h2 h3 s0 s1 s2 s3 s4 s5 ?_
  unfold Hid at *
  simp only [af_drewN_cell, af_drewN_frozen, afcv_drewN]
  exact h
end Go.Proofs.Ytineinmghajmnaa
namespace Go.Proofs.Ytineinmghajmnaa
open Go.RowKit
attribute [local go_sem 2000] run_max2m run_min2m
theorem run_idx0 (w : World) (a b c d e f : Int) : (Instr.index 92 (.agg #[.int .i64 a, .int .i64 b, .int .i64 c, .int .i64 d, .int .i64 e, .int .i64 f]) (.int .i64 0)).run Try.prog w = .ok (.agg #[.int .i64 a, .int .i64 b]) w := by
  simp [Instr.index, run_underlying Try.underlying92, asIntOf, go_sem]
theorem run_idx1 (w : World) (a b c d e f : Int) : (Instr.index 92 (.agg #[.int .i64 a, .int .i64 b, .int .i64 c, .int .i64 d, .int .i64 e, .int .i64 f]) (.int .i64 1)).run Try.prog w = .ok (.agg #[.int .i64 c, .int .i64 d]) w := by
  simp [Instr.index, run_underlying Try.underlying92, asIntOf, go_sem]
theorem run_idx2 (w : World) (a b c d e f : Int) : (Instr.index 92 (.agg #[.int .i64 a, .int .i64 b, .int .i64 c, .int .i64 d, .int .i64 e, .int .i64 f]) (.int .i64 2)).run Try.prog w = .ok (.agg #[.int .i64 e, .int .i64 f]) w := by
  simp [Instr.index, run_underlying Try.underlying92, asIntOf, go_sem]
attribute [local go_sem 2000] run_idx0 run_idx1 run_idx2
theorem box_boxes (w : World) (a b c d e f rx ry rw rh : Int) (w0 : World)
    (hw : w0 = ((w.alloc (.cells #[.int .i64 a, .int .i64 b, .int .i64 c, .int .i64 d, .int .i64 e, .int .i64 f] 31)).alloc (.cells #[.int .i64 rx, .int .i64 ry, .int .i64 rw, .int .i64 rh] 33)).alloc (.cells #[.int .i64 0, .int .i64 0, .int .i64 0, .int .i64 0] 33)) :
    Bx w0 w.heap.size 31 #[.int .i64 a, .int .i64 b, .int .i64 c, .int .i64 d, .int .i64 e, .int .i64 f] ∧ Bx w0 (w.heap.size + 1) 33 #[.int .i64 rx, .int .i64 ry, .int .i64 rw, .int .i64 rh] ∧ Bx w0 (w.heap.size + 1 + 1) 33 #[.int .i64 0, .int .i64 0, .int .i64 0, .int .i64 0] ∧ Below w.heap.size w w0 := by
  subst hw
  have h1 := Bx.new w 31 #[.int .i64 a, .int .i64 b, .int .i64 c, .int .i64 d, .int .i64 e, .int .i64 f]
  have h2 := Bx.new (w.alloc (.cells #[.int .i64 a, .int .i64 b, .int .i64 c, .int .i64 d, .int .i64 e, .int .i64 f] 31)) 33 #[.int .i64 rx, .int .i64 ry, .int .i64 rw, .int .i64 rh]
  have h3 := Bx.new ((w.alloc (.cells #[.int .i64 a, .int .i64 b, .int .i64 c, .int .i64 d, .int .i64 e, .int .i64 f] 31)).alloc (.cells #[.int .i64 rx, .int .i64 ry, .int .i64 rw, .int .i64 rh] 33)) 33 #[.int .i64 0, .int .i64 0, .int .i64 0, .int .i64 0]
  simp only [World.size_alloc] at h2 h3
  exact ⟨(h1.alloc _).alloc _, h2.alloc _, h3, bel_alloc (bel_alloc (bel_alloc (Below.refl _ _) _) _) _⟩
def BoxRel (a b c d e f x0 x1 x2 x3 y0 y1 y2 y3 : Int) (gp : Nat) (w : World) (k : Nat) (u12 u13 u14 u15 u72 : Value) (wr : World) : Prop :=
  ((k = 3 ∧ u72 = .int .i64 0 ∧ u12 = .int .i64 x0 ∧ u13 = .int .i64 y0 ∧ u14 = .int .i64 x0 ∧ u15 = .int .i64 y0) ∨ (k = 2 ∧ u72 = .int .i64 1 ∧ u12 = .int .i64 (min x0 x1) ∧ u13 = .int .i64 (min y0 y1) ∧ u14 = .int .i64 (max x0 x1) ∧ u15 = .int .i64 (max y0 y1)) ∨ (k = 1 ∧ u72 = .int .i64 2 ∧ u12 = .int .i64 (min x0 (min x1 x2)) ∧ u13 = .int .i64 (min y0 (min y1 y2)) ∧ u14 = .int .i64 (max x0 (max x1 x2)) ∧ u15 = .int .i64 (max y0 (max y1 y2))) ∨ (k = 0 ∧ u72 = .int .i64 3 ∧ u12 = .int .i64 (min x0 (min x1 (min x2 x3))) ∧ u13 = .int .i64 (min y0 (min y1 (min y2 y3))) ∧ u14 = .int .i64 (max x0 (max x1 (max x2 x3))) ∧ u15 = .int .i64 (max y0 (max y1 (max y2 y3))))) ∧ Bx wr w.heap.size 31 #[.int .i64 a, .int .i64 b, .int .i64 c, .int .i64 d, .int .i64 e, .int .i64 f] ∧ (∃ px py : Int, Bx wr gp 49 #[.int .i64 px, .int .i64 py]) ∧ Bx wr (w.heap.size + 1 + 1) 33 #[.int .i64 0, .int .i64 0, .int .i64 0, .int .i64 0] ∧ Below w.heap.size w wr
set_option maxRecDepth 100000 in
set_option maxHeartbeats 8000000 in
theorem box_e1 (a b c d e f rx ry rw rh E1 : Int) (w : World)
    (CK1 : ∀ w, Calls Try.prog 70 #[.agg #[.int .i64 a, .int .i64 b, .int .i64 c, .int .i64 d, .int .i64 e, .int .i64 f]] w fun z w' => z = .returned (.int .i64 E1) ∧ Below w.heap.size w w')
    (t1 : (E1 != 0) = true)
    : Calls Try.prog 43 #[.agg #[.int .i64 a, .int .i64 b, .int .i64 c, .int .i64 d, .int .i64 e, .int .i64 f], .agg #[.int .i64 rx, .int .i64 ry, .int .i64 rw, .int .i64 rh]] w fun z w' => z = .returned (.tuple #[.agg #[.int .i64 0, .int .i64 0, .int .i64 0, .int .i64 0], .int .i64 E1]) ∧ Below w.heap.size w w' := by
  replace CK1 := Lib.hid CK1
  go_enter Try.func43, Try.ntmps43
  go_wp2_with fail
  obtain ⟨k1, k2, k3, hB⟩ := box_boxes w a b c d e f rx ry rw rh _ rfl
  refine (CK1.out _).mono ?_
  rintro z wa ⟨rfl, hb⟩
  replace k1 := Lib.hid (k1.below hb); replace k2 := Lib.hid (k2.below hb); replace k3 := Lib.hid (k3.below hb); replace hB := Lib.hid (bel_trans hB hb)
  clear hb CK1
  obtain ⟨⟨r0, r1, r2, r3⟩, s0, s1, s2, s3⟩ := k3.out.four
  go_wp2_with fail
  refine bodyPost_ret (v := .tuple #[.agg #[.int .i64 0, .int .i64 0, .int .i64 0, .int .i64 0], .int .i64 E1]) (by simp [results, Try.results43, go_sem, *]) rfl ⟨rfl, ?_⟩
  repeat' (first | with_reducible exact hB.out | with_reducible apply Below.drew | with_reducible apply Below.drewN' | with_reducible apply Below.setCell)
  all_goals (show w.heap.size ≤ w.heap.size + 1 + 1; omega)
set_option maxRecDepth 100000 in
set_option maxHeartbeats 8000000 in
theorem box_e2 (a b c d e f rx ry rw rh  : Int) (w : World)
    (CK1 : ∀ w, Calls Try.prog 70 #[.agg #[.int .i64 a, .int .i64 b, .int .i64 c, .int .i64 d, .int .i64 e, .int .i64 f]] w fun z w' => z = .returned (.int .i64 0) ∧ Below w.heap.size w w')
    (VA : ∀ w, Calls Try.prog 35 #[.agg #[.int .i64 rx, .int .i64 ry, .int .i64 rw, .int .i64 rh]] w fun z w' => z = .returned (.bool false) ∧ Below w.heap.size w w')
    : Calls Try.prog 43 #[.agg #[.int .i64 a, .int .i64 b, .int .i64 c, .int .i64 d, .int .i64 e, .int .i64 f], .agg #[.int .i64 rx, .int .i64 ry, .int .i64 rw, .int .i64 rh]] w fun z w' => z = .returned (.tuple #[.agg #[.int .i64 0, .int .i64 0, .int .i64 0, .int .i64 0], .int .i64 2]) ∧ Below w.heap.size w w' := by
  replace CK1 := Lib.hid CK1
  replace VA := Lib.hid VA
  go_enter Try.func43, Try.ntmps43
  go_wp2_with fail
  obtain ⟨k1, k2, k3, hB⟩ := box_boxes w a b c d e f rx ry rw rh _ rfl
  refine (CK1.out _).mono ?_
  rintro z wa ⟨rfl, hb⟩
  replace k1 := Lib.hid (k1.below hb); replace k2 := Lib.hid (k2.below hb); replace k3 := Lib.hid (k3.below hb); replace hB := Lib.hid (bel_trans hB hb)
  clear hb CK1
  obtain ⟨⟨d0, d1, d2, d3⟩, g0, g1, g2, g3⟩ := k2.out.four
  go_wp2_with fail
  clear d0 d1 d2 d3 g0 g1 g2 g3
  refine (VA.out _).mono ?_
  rintro z wb ⟨rfl, hb⟩
  replace k1 := Lib.hid (k1.out.below hb); replace k2 := Lib.hid (k2.out.below hb); replace k3 := Lib.hid (k3.out.below hb); replace hB := Lib.hid (bel_trans hB.out hb)
  clear hb VA
  obtain ⟨⟨r0, r1, r2, r3⟩, s0, s1, s2, s3⟩ := k3.out.four
  go_wp2_with fail
  refine bodyPost_ret (v := .tuple #[.agg #[.int .i64 0, .int .i64 0, .int .i64 0, .int .i64 0], .int .i64 2]) (by simp [results, Try.results43, go_sem, *]) rfl ⟨rfl, ?_⟩
  repeat' (first | with_reducible exact hB.out | with_reducible apply Below.drew | with_reducible apply Below.drewN' | with_reducible apply Below.setCell)
  all_goals (show w.heap.size ≤ w.heap.size + 1 + 1; omega)
set_option maxRecDepth 100000 in
set_option maxHeartbeats 8000000 in
theorem box_e3 (a b c d e f rx ry rw rh  : Int) (w : World)
    (CK1 : ∀ w, Calls Try.prog 70 #[.agg #[.int .i64 a, .int .i64 b, .int .i64 c, .int .i64 d, .int .i64 e, .int .i64 f]] w fun z w' => z = .returned (.int .i64 0) ∧ Below w.heap.size w w')
    (VA : ∀ w, Calls Try.prog 35 #[.agg #[.int .i64 rx, .int .i64 ry, .int .i64 rw, .int .i64 rh]] w fun z w' => z = .returned (.bool true) ∧ Below w.heap.size w w')
    (EM : ∀ w, Calls Try.prog 24 #[.agg #[.int .i64 rx, .int .i64 ry, .int .i64 rw, .int .i64 rh]] w fun z w' => z = .returned (.bool true) ∧ Below w.heap.size w w')
    : Calls Try.prog 43 #[.agg #[.int .i64 a, .int .i64 b, .int .i64 c, .int .i64 d, .int .i64 e, .int .i64 f], .agg #[.int .i64 rx, .int .i64 ry, .int .i64 rw, .int .i64 rh]] w fun z w' => z = .returned (.tuple #[.agg #[.int .i64 0, .int .i64 0, .int .i64 0, .int .i64 0], .int .i64 0]) ∧ Below w.heap.size w w' := by
  replace CK1 := Lib.hid CK1
  replace VA := Lib.hid VA
  replace EM := Lib.hid EM
  go_enter Try.func43, Try.ntmps43
  go_wp2_with fail
  obtain ⟨k1, k2, k3, hB⟩ := box_boxes w a b c d e f rx ry rw rh _ rfl
  refine (CK1.out _).mono ?_
  rintro z wa ⟨rfl, hb⟩
  replace k1 := Lib.hid (k1.below hb); replace k2 := Lib.hid (k2.below hb); replace k3 := Lib.hid (k3.below hb); replace hB := Lib.hid (bel_trans hB hb)
  clear hb CK1
  obtain ⟨⟨d0, d1, d2, d3⟩, g0, g1, g2, g3⟩ := k2.out.four
  go_wp2_with fail
  clear d0 d1 d2 d3 g0 g1 g2 g3
  refine (VA.out _).mono ?_
  rintro z wb ⟨rfl, hb⟩
  replace k1 := Lib.hid (k1.out.below hb); replace k2 := Lib.hid (k2.out.below hb); replace k3 := Lib.hid (k3.out.below hb); replace hB := Lib.hid (bel_trans hB.out hb)
  clear hb VA
  obtain ⟨⟨d0, d1, d2, d3⟩, g0, g1, g2, g3⟩ := k2.out.four
  go_wp2_with fail
  clear d0 d1 d2 d3 g0 g1 g2 g3
  refine (EM.out _).mono ?_
  rintro z wc ⟨rfl, hb⟩
  replace k1 := Lib.hid (k1.out.below hb); replace k2 := Lib.hid (k2.out.below hb); replace k3 := Lib.hid (k3.out.below hb); replace hB := Lib.hid (bel_trans hB.out hb)
  clear hb EM
  obtain ⟨⟨r0, r1, r2, r3⟩, s0, s1, s2, s3⟩ := k3.out.four
  go_wp2_with fail
  refine bodyPost_ret (v := .tuple #[.agg #[.int .i64 0, .int .i64 0, .int .i64 0, .int .i64 0], .int .i64 0]) (by simp [results, Try.results43, go_sem, *]) rfl ⟨rfl, ?_⟩
  repeat' (first | with_reducible exact hB.out | with_reducible apply Below.drew | with_reducible apply Below.drewN' | with_reducible apply Below.setCell)
  all_goals (show w.heap.size ≤ w.heap.size + 1 + 1; omega)
set_option maxRecDepth 100000 in
set_option maxHeartbeats 8000000 in
theorem box_ok (a b c d e f rx ry rw rh l t s r q m x0 x1 x2 x3 y0 y1 y2 y3 wx0 wx1 wy0 wy1 ow oh : Int) (w : World)
    (CK1 : ∀ w, Calls Try.prog 70 #[.agg #[.int .i64 a, .int .i64 b, .int .i64 c, .int .i64 d, .int .i64 e, .int .i64 f]] w fun z w' => z = .returned (.int .i64 0) ∧ Below w.heap.size w w')
    (VA : ∀ w, Calls Try.prog 35 #[.agg #[.int .i64 rx, .int .i64 ry, .int .i64 rw, .int .i64 rh]] w fun z w' => z = .returned (.bool true) ∧ Below w.heap.size w w')
    (EM : ∀ w, Calls Try.prog 24 #[.agg #[.int .i64 rx, .int .i64 ry, .int .i64 rw, .int .i64 rh]] w fun z w' => z = .returned (.bool false) ∧ Below w.heap.size w w')
    (v1 : IntKind.i64.wrap (rx * 65536) = l)
    (v2 : IntKind.i64.wrap (ry * 65536) = t)
    (v3 : IntKind.i64.wrap (rx + rw) = s)
    (v4 : IntKind.i64.wrap (s * 65536) = r)
    (v5 : IntKind.i64.wrap (ry + rh) = q)
    (v6 : IntKind.i64.wrap (q * 65536) = m)
    (P0 : ∀ w, Calls Try.prog 37 #[.agg #[.int .i64 a, .int .i64 b, .int .i64 c, .int .i64 d, .int .i64 e, .int .i64 f], .agg #[.int .i64 l, .int .i64 t]] w fun z w' => z = .returned (.agg #[.int .i64 x0, .int .i64 y0]) ∧ Below w.heap.size w w')
    (P1 : ∀ w, Calls Try.prog 37 #[.agg #[.int .i64 a, .int .i64 b, .int .i64 c, .int .i64 d, .int .i64 e, .int .i64 f], .agg #[.int .i64 r, .int .i64 t]] w fun z w' => z = .returned (.agg #[.int .i64 x1, .int .i64 y1]) ∧ Below w.heap.size w w')
    (P2 : ∀ w, Calls Try.prog 37 #[.agg #[.int .i64 a, .int .i64 b, .int .i64 c, .int .i64 d, .int .i64 e, .int .i64 f], .agg #[.int .i64 l, .int .i64 m]] w fun z w' => z = .returned (.agg #[.int .i64 x2, .int .i64 y2]) ∧ Below w.heap.size w w')
    (P3 : ∀ w, Calls Try.prog 37 #[.agg #[.int .i64 a, .int .i64 b, .int .i64 c, .int .i64 d, .int .i64 e, .int .i64 f], .agg #[.int .i64 r, .int .i64 m]] w fun z w' => z = .returned (.agg #[.int .i64 x3, .int .i64 y3]) ∧ Below w.heap.size w w')
    (WX : ∀ w, Calls Try.prog 78 #[.int .i64 (min x0 (min x1 (min x2 x3))), .int .i64 (max x0 (max x1 (max x2 x3)))] w fun z w' => z = .returned (.tuple #[.int .i64 wx0, .int .i64 wx1]) ∧ w = w')
    (WY : ∀ w, Calls Try.prog 78 #[.int .i64 (min y0 (min y1 (min y2 y3))), .int .i64 (max y0 (max y1 (max y2 y3)))] w fun z w' => z = .returned (.tuple #[.int .i64 wy0, .int .i64 wy1]) ∧ w = w')
    (t5 : decide (wx0 ≥ wx1) = false)
    (t6 : decide (wy0 ≥ wy1) = false)
    (v7 : IntKind.i64.wrap (wx1 - wx0) = ow)
    (v8 : IntKind.i64.wrap (wy1 - wy0) = oh)
    : Calls Try.prog 43 #[.agg #[.int .i64 a, .int .i64 b, .int .i64 c, .int .i64 d, .int .i64 e, .int .i64 f], .agg #[.int .i64 rx, .int .i64 ry, .int .i64 rw, .int .i64 rh]] w fun z w' => z = .returned (.tuple #[.agg #[.int .i64 wx0, .int .i64 wy0, .int .i64 ow, .int .i64 oh], .int .i64 0]) ∧ Below w.heap.size w w' := by
  have TT := Lib.hid (And.intro t5 (And.intro t6 (And.intro v7 v8))); clear t5 t6 v7 v8
  replace CK1 := Lib.hid CK1
  replace VA := Lib.hid VA
  replace EM := Lib.hid EM
  replace P0 := Lib.hid P0
  replace P1 := Lib.hid P1
  replace P2 := Lib.hid P2
  replace P3 := Lib.hid P3
  replace WX := Lib.hid WX
  replace WY := Lib.hid WY
  go_enter Try.func43, Try.ntmps43
  go_wp2_with fail
  obtain ⟨k1, k2, k3, hB⟩ := box_boxes w a b c d e f rx ry rw rh _ rfl
  refine (CK1.out _).mono ?_
  rintro z wa ⟨rfl, hb⟩
  replace k1 := Lib.hid (k1.below hb); replace k2 := Lib.hid (k2.below hb); replace k3 := Lib.hid (k3.below hb); replace hB := Lib.hid (bel_trans hB hb)
  clear hb CK1
  obtain ⟨⟨d0, d1, d2, d3⟩, g0, g1, g2, g3⟩ := k2.out.four
  go_wp2_with fail
  clear d0 d1 d2 d3 g0 g1 g2 g3
  refine (VA.out _).mono ?_
  rintro z wb ⟨rfl, hb⟩
  replace k1 := Lib.hid (k1.out.below hb); replace k2 := Lib.hid (k2.out.below hb); replace k3 := Lib.hid (k3.out.below hb); replace hB := Lib.hid (bel_trans hB.out hb)
  clear hb VA
  obtain ⟨⟨d0, d1, d2, d3⟩, g0, g1, g2, g3⟩ := k2.out.four
  go_wp2_with fail
  clear d0 d1 d2 d3 g0 g1 g2 g3
  refine (EM.out _).mono ?_
  rintro z wc ⟨rfl, hb⟩
  replace k1 := Lib.hid (k1.out.below hb); replace k2 := Lib.hid (k2.out.below hb); replace k3 := Lib.hid (k3.out.below hb); replace hB := Lib.hid (bel_trans hB.out hb)
  clear hb EM
  obtain ⟨⟨d0, d1, d2, d3⟩, g0, g1, g2, g3⟩ := k2.out.four
  go_wp2_with fail
  go_quiet (fail)
  clear d0 d1 d2 d3 g0 g1 g2 g3
  replace k1 := Lib.hid (k1.out.drewN nq); replace k2 := Lib.hid (k2.out.drewN nq); replace k3 := Lib.hid (k3.out.drewN nq); replace hB := Lib.hid (Below.drewN' hB.out nq)
  generalize wc.drewN nq = wd at *
  clear nq
  obtain ⟨⟨d0, d1, d2, d3⟩, g0, g1, g2, g3⟩ := k2.out.four
  go_wp2_with fail
  go_quiet (fail)
  clear d0 d1 d2 d3 g0 g1 g2 g3
  replace k1 := Lib.hid (k1.out.drewN nq); replace k2 := Lib.hid (k2.out.drewN nq); replace k3 := Lib.hid (k3.out.drewN nq); replace hB := Lib.hid (Below.drewN' hB.out nq)
  generalize wd.drewN nq = we at *
  clear nq
  obtain ⟨⟨c0, c1, c2, c3, c4, c5⟩, f0, f1, f2, f3, f4, f5⟩ := k1.out.six
  go_wp2_with fail
  clear c0 c1 c2 c3 c4 c5 f0 f1 f2 f3 f4 f5
  clear v1 v2 v3 v4 v5 v6
  refine (P0.out _).mono ?_
  rintro z wf ⟨rfl, hb⟩
  replace k1 := Lib.hid ((k1.out.below hb).alloc (.cells #[.int .i64 x0, .int .i64 y0] 49)); replace k3 := Lib.hid (k3.out.below hb); replace hB := Lib.hid (bel_alloc (bel_trans hB.out hb) (.cells #[.int .i64 x0, .int .i64 y0] 49))
  have k4 := Lib.hid (Bx.new wf 49 #[.int .i64 x0, .int .i64 y0])
  have HG := Lib.hid k3.out.lt
  replace k3 := Lib.hid (k3.out.alloc (.cells #[.int .i64 x0, .int .i64 y0] 49))
  clear hb P0 k2
  go_upto_region 11 with fail
  generalize World.alloc wf _ = wg at *
  generalize wf.heap.size = gp at *
  obtain ⟨⟨z0, z1⟩, z2, z3⟩ := k4.out.two
  go_wp2_with fail
  go_quiet (fail)
  clear z0 z1 z2 z3
  replace k1 := Lib.hid (k1.out.drewN nq); replace k4 := Lib.hid (k4.out.drewN nq); replace k3 := Lib.hid (k3.out.drewN nq); replace hB := Lib.hid (Below.drewN' hB.out nq)
  generalize wg.drewN nq = wh at *
  clear nq
  go_wp2_with fail
  go_loopg [12, 13, 14, 15, 72] 3 (BoxRel a b c d e f x0 x1 x2 x3 y0 y1 y2 y3 gp w)
  case atStart => exact ⟨.inl ⟨rfl, rfl, rfl, rfl, rfl, rfl⟩, k1.out, ⟨x0, y0, k4.out⟩, k3.out, hB.out⟩
  case round =>
  clear k1 k3 k4 hB
  obtain ⟨hc, k1, ⟨px, py, k4⟩, k3, hB⟩ := hrel
  replace k1 := Lib.hid k1; replace k3 := Lib.hid k3; replace k4 := Lib.hid k4; replace hB := Lib.hid hB
  have n1 : gp ≠ w.heap.size := by have := HG.out; omega
  have n2 : gp ≠ w.heap.size + 1 + 1 := by have := HG.out; omega
  have N1 := Lib.hid n1; have N2 := Lib.hid n2; clear n1 n2
  rcases hc with ⟨rfl, rfl, rfl, rfl, rfl, rfl⟩ | ⟨rfl, rfl, rfl, rfl, rfl, rfl⟩ | ⟨rfl, rfl, rfl, rfl, rfl, rfl⟩ | ⟨rfl, rfl, rfl, rfl, rfl, rfl⟩
  · have k5 := Lib.hid (Bx.new wr 49 #[.int .i64 r, .int .i64 t])
    have hl := k4.out.lt
    replace k1 := Lib.hid (k1.out.alloc (.cells #[.int .i64 r, .int .i64 t] 49)); replace k3 := Lib.hid (k3.out.alloc (.cells #[.int .i64 r, .int .i64 t] 49)); replace k4 := Lib.hid (k4.out.alloc (.cells #[.int .i64 r, .int .i64 t] 49)); replace hB := Lib.hid (bel_alloc hB.out (.cells #[.int .i64 r, .int .i64 t] 49))
    go_upto_region 15 with fail
    generalize World.alloc wr _ = ws at *
    generalize wr.heap.size = g5 at *
    obtain ⟨⟨c0, c1, c2, c3, c4, c5⟩, f0, f1, f2, f3, f4, f5⟩ := k1.out.six
    obtain ⟨⟨z0, z1⟩, z2, z3⟩ := k5.out.two
    go_wp2_with fail
    clear c0 c1 c2 c3 c4 c5 f0 f1 f2 f3 f4 f5
    clear z0 z1 z2 z3 k5 hl
    refine (P1.out _).mono ?_
    rintro z wt ⟨rfl, hb⟩
    replace k1 := Lib.hid (k1.out.below hb); replace k3 := Lib.hid (k3.out.below hb); replace k4 := Lib.hid (k4.out.below hb); replace hB := Lib.hid (bel_trans hB.out hb)
    clear hb
    obtain ⟨⟨z0, z1⟩, z2, z3⟩ := k4.out.two
    go_upto_region 16 with fail
    clear z0 z1 z2 z3
    have hgp : w.heap.size ≤ gp := by have := HG.out; omega
    replace k1 := Lib.hid ((k1.out.other (g' := gp) N1.out.symm 0 (.int .i64 x1)).other (g' := gp) N1.out.symm 1 (.int .i64 y1))
    replace k3 := Lib.hid ((k3.out.other (g' := gp) N2.out.symm 0 (.int .i64 x1)).other (g' := gp) N2.out.symm 1 (.int .i64 y1))
    replace k4 := Lib.hid (show Bx _ gp 49 #[.int .i64 x1, .int .i64 y1] from (k4.out.set 0 (.int .i64 x1)).set 1 (.int .i64 y1))
    replace hB := Lib.hid ((hB.out.setCell (p := ⟨gp, 0, none⟩) hgp (.int .i64 x1)).setCell (p := ⟨gp, 1, none⟩) hgp (.int .i64 y1))
    clear hgp
    generalize World.setCell (World.setCell wt _ _) _ _ = wu at *
    obtain ⟨⟨z0, z1⟩, z2, z3⟩ := k4.out.two
    go_wp2_with fail
    go_quiet (fail)
    clear z0 z1 z2 z3
    go_wp2_with fail
    go_roundg 2
    case measure => omega
    case rel => exact ⟨.inr (.inl ⟨rfl, rfl, rfl, rfl, rfl, rfl⟩), k1.out.drewN _, ⟨x1, y1, k4.out.drewN _⟩, k3.out.drewN _, Below.drewN' hB.out _⟩
  · have k5 := Lib.hid (Bx.new wr 49 #[.int .i64 l, .int .i64 m])
    have hl := k4.out.lt
    replace k1 := Lib.hid (k1.out.alloc (.cells #[.int .i64 l, .int .i64 m] 49)); replace k3 := Lib.hid (k3.out.alloc (.cells #[.int .i64 l, .int .i64 m] 49)); replace k4 := Lib.hid (k4.out.alloc (.cells #[.int .i64 l, .int .i64 m] 49)); replace hB := Lib.hid (bel_alloc hB.out (.cells #[.int .i64 l, .int .i64 m] 49))
    go_upto_region 15 with fail
    generalize World.alloc wr _ = ws at *
    generalize wr.heap.size = g5 at *
    obtain ⟨⟨c0, c1, c2, c3, c4, c5⟩, f0, f1, f2, f3, f4, f5⟩ := k1.out.six
    obtain ⟨⟨z0, z1⟩, z2, z3⟩ := k5.out.two
    go_wp2_with fail
    clear c0 c1 c2 c3 c4 c5 f0 f1 f2 f3 f4 f5
    clear z0 z1 z2 z3 k5 hl
    refine (P2.out _).mono ?_
    rintro z wt ⟨rfl, hb⟩
    replace k1 := Lib.hid (k1.out.below hb); replace k3 := Lib.hid (k3.out.below hb); replace k4 := Lib.hid (k4.out.below hb); replace hB := Lib.hid (bel_trans hB.out hb)
    clear hb
    obtain ⟨⟨z0, z1⟩, z2, z3⟩ := k4.out.two
    go_upto_region 16 with fail
    clear z0 z1 z2 z3
    have hgp : w.heap.size ≤ gp := by have := HG.out; omega
    replace k1 := Lib.hid ((k1.out.other (g' := gp) N1.out.symm 0 (.int .i64 x2)).other (g' := gp) N1.out.symm 1 (.int .i64 y2))
    replace k3 := Lib.hid ((k3.out.other (g' := gp) N2.out.symm 0 (.int .i64 x2)).other (g' := gp) N2.out.symm 1 (.int .i64 y2))
    replace k4 := Lib.hid (show Bx _ gp 49 #[.int .i64 x2, .int .i64 y2] from (k4.out.set 0 (.int .i64 x2)).set 1 (.int .i64 y2))
    replace hB := Lib.hid ((hB.out.setCell (p := ⟨gp, 0, none⟩) hgp (.int .i64 x2)).setCell (p := ⟨gp, 1, none⟩) hgp (.int .i64 y2))
    clear hgp
    generalize World.setCell (World.setCell wt _ _) _ _ = wu at *
    obtain ⟨⟨z0, z1⟩, z2, z3⟩ := k4.out.two
    go_wp2_with fail
    go_quiet (fail)
    clear z0 z1 z2 z3
    go_wp2_with fail
    go_roundg 1
    case measure => omega
    case rel => exact ⟨.inr (.inr (.inl ⟨rfl, rfl, rfl, rfl, rfl, rfl⟩)), k1.out.drewN _, ⟨x2, y2, k4.out.drewN _⟩, k3.out.drewN _, Below.drewN' hB.out _⟩
  · have k5 := Lib.hid (Bx.new wr 49 #[.int .i64 r, .int .i64 m])
    have hl := k4.out.lt
    replace k1 := Lib.hid (k1.out.alloc (.cells #[.int .i64 r, .int .i64 m] 49)); replace k3 := Lib.hid (k3.out.alloc (.cells #[.int .i64 r, .int .i64 m] 49)); replace k4 := Lib.hid (k4.out.alloc (.cells #[.int .i64 r, .int .i64 m] 49)); replace hB := Lib.hid (bel_alloc hB.out (.cells #[.int .i64 r, .int .i64 m] 49))
    go_upto_region 15 with fail
    generalize World.alloc wr _ = ws at *
    generalize wr.heap.size = g5 at *
    obtain ⟨⟨c0, c1, c2, c3, c4, c5⟩, f0, f1, f2, f3, f4, f5⟩ := k1.out.six
    obtain ⟨⟨z0, z1⟩, z2, z3⟩ := k5.out.two
    go_wp2_with fail
    clear c0 c1 c2 c3 c4 c5 f0 f1 f2 f3 f4 f5
    clear z0 z1 z2 z3 k5 hl
    refine (P3.out _).mono ?_
    rintro z wt ⟨rfl, hb⟩
    replace k1 := Lib.hid (k1.out.below hb); replace k3 := Lib.hid (k3.out.below hb); replace k4 := Lib.hid (k4.out.below hb); replace hB := Lib.hid (bel_trans hB.out hb)
    clear hb
    obtain ⟨⟨z0, z1⟩, z2, z3⟩ := k4.out.two
    go_upto_region 16 with fail
    clear z0 z1 z2 z3
    have hgp : w.heap.size ≤ gp := by have := HG.out; omega
    replace k1 := Lib.hid ((k1.out.other (g' := gp) N1.out.symm 0 (.int .i64 x3)).other (g' := gp) N1.out.symm 1 (.int .i64 y3))
    replace k3 := Lib.hid ((k3.out.other (g' := gp) N2.out.symm 0 (.int .i64 x3)).other (g' := gp) N2.out.symm 1 (.int .i64 y3))
    replace k4 := Lib.hid (show Bx _ gp 49 #[.int .i64 x3, .int .i64 y3] from (k4.out.set 0 (.int .i64 x3)).set 1 (.int .i64 y3))
    replace hB := Lib.hid ((hB.out.setCell (p := ⟨gp, 0, none⟩) hgp (.int .i64 x3)).setCell (p := ⟨gp, 1, none⟩) hgp (.int .i64 y3))
    clear hgp
    generalize World.setCell (World.setCell wt _ _) _ _ = wu at *
    obtain ⟨⟨z0, z1⟩, z2, z3⟩ := k4.out.two
    go_wp2_with fail
    go_quiet (fail)
    clear z0 z1 z2 z3
    go_wp2_with fail
    go_roundg 0
    case measure => omega
    case rel => exact ⟨.inr (.inr (.inr ⟨rfl, rfl, rfl, rfl, rfl, rfl⟩)), k1.out.drewN _, ⟨x3, y3, k4.out.drewN _⟩, k3.out.drewN _, Below.drewN' hB.out _⟩
  · go_wp2_with fail
    with_reducible refine (WX.out _).mono ?_
    rintro z wv ⟨rfl, rfl⟩
    go_wp2_with fail
    with_reducible refine (WY.out _).mono ?_
    rintro z wv ⟨rfl, rfl⟩
    obtain ⟨⟨r0, r1, r2, r3⟩, s0, s1, s2, s3⟩ := k3.out.four
    obtain ⟨t5, t6, v7, v8⟩ := TT.out
    go_wp2_with fail
    refine bodyPost_ret (v := .tuple #[.agg #[.int .i64 wx0, .int .i64 wy0, .int .i64 ow, .int .i64 oh], .int .i64 0]) (by simp [results, Try.results43, go_sem, *]) rfl ⟨rfl, ?_⟩
    repeat' (first | with_reducible exact hB.out | with_reducible apply Below.drew | with_reducible apply Below.drewN' | with_reducible apply Below.setCell)
    all_goals (show w.heap.size ≤ w.heap.size + 1 + 1; omega)
set_option maxRecDepth 100000 in
set_option maxHeartbeats 8000000 in
theorem box_no (a b c d e f rx ry rw rh l t s r q m x0 x1 x2 x3 y0 y1 y2 y3 wx0 wx1 wy0 wy1 : Int) (w : World)
    (CK1 : ∀ w, Calls Try.prog 70 #[.agg #[.int .i64 a, .int .i64 b, .int .i64 c, .int .i64 d, .int .i64 e, .int .i64 f]] w fun z w' => z = .returned (.int .i64 0) ∧ Below w.heap.size w w')
    (VA : ∀ w, Calls Try.prog 35 #[.agg #[.int .i64 rx, .int .i64 ry, .int .i64 rw, .int .i64 rh]] w fun z w' => z = .returned (.bool true) ∧ Below w.heap.size w w')
    (EM : ∀ w, Calls Try.prog 24 #[.agg #[.int .i64 rx, .int .i64 ry, .int .i64 rw, .int .i64 rh]] w fun z w' => z = .returned (.bool false) ∧ Below w.heap.size w w')
    (v1 : IntKind.i64.wrap (rx * 65536) = l)
    (v2 : IntKind.i64.wrap (ry * 65536) = t)
    (v3 : IntKind.i64.wrap (rx + rw) = s)
    (v4 : IntKind.i64.wrap (s * 65536) = r)
    (v5 : IntKind.i64.wrap (ry + rh) = q)
    (v6 : IntKind.i64.wrap (q * 65536) = m)
    (P0 : ∀ w, Calls Try.prog 37 #[.agg #[.int .i64 a, .int .i64 b, .int .i64 c, .int .i64 d, .int .i64 e, .int .i64 f], .agg #[.int .i64 l, .int .i64 t]] w fun z w' => z = .returned (.agg #[.int .i64 x0, .int .i64 y0]) ∧ Below w.heap.size w w')
    (P1 : ∀ w, Calls Try.prog 37 #[.agg #[.int .i64 a, .int .i64 b, .int .i64 c, .int .i64 d, .int .i64 e, .int .i64 f], .agg #[.int .i64 r, .int .i64 t]] w fun z w' => z = .returned (.agg #[.int .i64 x1, .int .i64 y1]) ∧ Below w.heap.size w w')
    (P2 : ∀ w, Calls Try.prog 37 #[.agg #[.int .i64 a, .int .i64 b, .int .i64 c, .int .i64 d, .int .i64 e, .int .i64 f], .agg #[.int .i64 l, .int .i64 m]] w fun z w' => z = .returned (.agg #[.int .i64 x2, .int .i64 y2]) ∧ Below w.heap.size w w')
    (P3 : ∀ w, Calls Try.prog 37 #[.agg #[.int .i64 a, .int .i64 b, .int .i64 c, .int .i64 d, .int .i64 e, .int .i64 f], .agg #[.int .i64 r, .int .i64 m]] w fun z w' => z = .returned (.agg #[.int .i64 x3, .int .i64 y3]) ∧ Below w.heap.size w w')
    (WX : ∀ w, Calls Try.prog 78 #[.int .i64 (min x0 (min x1 (min x2 x3))), .int .i64 (max x0 (max x1 (max x2 x3)))] w fun z w' => z = .returned (.tuple #[.int .i64 wx0, .int .i64 wx1]) ∧ w = w')
    (WY : ∀ w, Calls Try.prog 78 #[.int .i64 (min y0 (min y1 (min y2 y3))), .int .i64 (max y0 (max y1 (max y2 y3)))] w fun z w' => z = .returned (.tuple #[.int .i64 wy0, .int .i64 wy1]) ∧ w = w')
    (tt : decide (wx0 ≥ wx1) = true ∨ (decide (wx0 ≥ wx1) = false ∧ decide (wy0 ≥ wy1) = true))
    : Calls Try.prog 43 #[.agg #[.int .i64 a, .int .i64 b, .int .i64 c, .int .i64 d, .int .i64 e, .int .i64 f], .agg #[.int .i64 rx, .int .i64 ry, .int .i64 rw, .int .i64 rh]] w fun z w' => z = .returned (.tuple #[.agg #[.int .i64 0, .int .i64 0, .int .i64 0, .int .i64 0], .int .i64 0]) ∧ Below w.heap.size w w' := by
  have TT := Lib.hid tt; clear tt
  replace CK1 := Lib.hid CK1
  replace VA := Lib.hid VA
  replace EM := Lib.hid EM
  replace P0 := Lib.hid P0
  replace P1 := Lib.hid P1
  replace P2 := Lib.hid P2
  replace P3 := Lib.hid P3
  replace WX := Lib.hid WX
  replace WY := Lib.hid WY
  go_enter Try.func43, Try.ntmps43
  go_wp2_with fail
  obtain ⟨k1, k2, k3, hB⟩ := box_boxes w a b c d e f rx ry rw rh _ rfl
  refine (CK1.out _).mono ?_
  rintro z wa ⟨rfl, hb⟩
  replace k1 := Lib.hid (k1.below hb); replace k2 := Lib.hid (k2.below hb); replace k3 := Lib.hid (k3.below hb); replace hB := Lib.hid (bel_trans hB hb)
  clear hb CK1
  obtain ⟨⟨d0, d1, d2, d3⟩, g0, g1, g2, g3⟩ := k2.out.four
  go_wp2_with fail
  clear d0 d1 d2 d3 g0 g1 g2 g3
  refine (VA.out _).mono ?_
  rintro z wb ⟨rfl, hb⟩
  replace k1 := Lib.hid (k1.out.below hb); replace k2 := Lib.hid (k2.out.below hb); replace k3 := Lib.hid (k3.out.below hb); replace hB := Lib.hid (bel_trans hB.out hb)
  clear hb VA
  obtain ⟨⟨d0, d1, d2, d3⟩, g0, g1, g2, g3⟩ := k2.out.four
  go_wp2_with fail
  clear d0 d1 d2 d3 g0 g1 g2 g3
  refine (EM.out _).mono ?_
  rintro z wc ⟨rfl, hb⟩
  replace k1 := Lib.hid (k1.out.below hb); replace k2 := Lib.hid (k2.out.below hb); replace k3 := Lib.hid (k3.out.below hb); replace hB := Lib.hid (bel_trans hB.out hb)
  clear hb EM
  obtain ⟨⟨d0, d1, d2, d3⟩, g0, g1, g2, g3⟩ := k2.out.four
  go_wp2_with fail
  go_quiet (fail)
  clear d0 d1 d2 d3 g0 g1 g2 g3
  replace k1 := Lib.hid (k1.out.drewN nq); replace k2 := Lib.hid (k2.out.drewN nq); replace k3 := Lib.hid (k3.out.drewN nq); replace hB := Lib.hid (Below.drewN' hB.out nq)
  generalize wc.drewN nq = wd at *
  clear nq
  obtain ⟨⟨d0, d1, d2, d3⟩, g0, g1, g2, g3⟩ := k2.out.four
  go_wp2_with fail
  go_quiet (fail)
  clear d0 d1 d2 d3 g0 g1 g2 g3
  replace k1 := Lib.hid (k1.out.drewN nq); replace k2 := Lib.hid (k2.out.drewN nq); replace k3 := Lib.hid (k3.out.drewN nq); replace hB := Lib.hid (Below.drewN' hB.out nq)
  generalize wd.drewN nq = we at *
  clear nq
  obtain ⟨⟨c0, c1, c2, c3, c4, c5⟩, f0, f1, f2, f3, f4, f5⟩ := k1.out.six
  go_wp2_with fail
  clear c0 c1 c2 c3 c4 c5 f0 f1 f2 f3 f4 f5
  clear v1 v2 v3 v4 v5 v6
  refine (P0.out _).mono ?_
  rintro z wf ⟨rfl, hb⟩
  replace k1 := Lib.hid ((k1.out.below hb).alloc (.cells #[.int .i64 x0, .int .i64 y0] 49)); replace k3 := Lib.hid (k3.out.below hb); replace hB := Lib.hid (bel_alloc (bel_trans hB.out hb) (.cells #[.int .i64 x0, .int .i64 y0] 49))
  have k4 := Lib.hid (Bx.new wf 49 #[.int .i64 x0, .int .i64 y0])
  have HG := Lib.hid k3.out.lt
  replace k3 := Lib.hid (k3.out.alloc (.cells #[.int .i64 x0, .int .i64 y0] 49))
  clear hb P0 k2
  go_upto_region 11 with fail
  generalize World.alloc wf _ = wg at *
  generalize wf.heap.size = gp at *
  obtain ⟨⟨z0, z1⟩, z2, z3⟩ := k4.out.two
  go_wp2_with fail
  go_quiet (fail)
  clear z0 z1 z2 z3
  replace k1 := Lib.hid (k1.out.drewN nq); replace k4 := Lib.hid (k4.out.drewN nq); replace k3 := Lib.hid (k3.out.drewN nq); replace hB := Lib.hid (Below.drewN' hB.out nq)
  generalize wg.drewN nq = wh at *
  clear nq
  go_wp2_with fail
  go_loopg [12, 13, 14, 15, 72] 3 (BoxRel a b c d e f x0 x1 x2 x3 y0 y1 y2 y3 gp w)
  case atStart => exact ⟨.inl ⟨rfl, rfl, rfl, rfl, rfl, rfl⟩, k1.out, ⟨x0, y0, k4.out⟩, k3.out, hB.out⟩
  case round =>
  clear k1 k3 k4 hB
  obtain ⟨hc, k1, ⟨px, py, k4⟩, k3, hB⟩ := hrel
  replace k1 := Lib.hid k1; replace k3 := Lib.hid k3; replace k4 := Lib.hid k4; replace hB := Lib.hid hB
  have n1 : gp ≠ w.heap.size := by have := HG.out; omega
  have n2 : gp ≠ w.heap.size + 1 + 1 := by have := HG.out; omega
  have N1 := Lib.hid n1; have N2 := Lib.hid n2; clear n1 n2
  rcases hc with ⟨rfl, rfl, rfl, rfl, rfl, rfl⟩ | ⟨rfl, rfl, rfl, rfl, rfl, rfl⟩ | ⟨rfl, rfl, rfl, rfl, rfl, rfl⟩ | ⟨rfl, rfl, rfl, rfl, rfl, rfl⟩
  · have k5 := Lib.hid (Bx.new wr 49 #[.int .i64 r, .int .i64 t])
    have hl := k4.out.lt
    replace k1 := Lib.hid (k1.out.alloc (.cells #[.int .i64 r, .int .i64 t] 49)); replace k3 := Lib.hid (k3.out.alloc (.cells #[.int .i64 r, .int .i64 t] 49)); replace k4 := Lib.hid (k4.out.alloc (.cells #[.int .i64 r, .int .i64 t] 49)); replace hB := Lib.hid (bel_alloc hB.out (.cells #[.int .i64 r, .int .i64 t] 49))
    go_upto_region 15 with fail
    generalize World.alloc wr _ = ws at *
    generalize wr.heap.size = g5 at *
    obtain ⟨⟨c0, c1, c2, c3, c4, c5⟩, f0, f1, f2, f3, f4, f5⟩ := k1.out.six
    obtain ⟨⟨z0, z1⟩, z2, z3⟩ := k5.out.two
    go_wp2_with fail
    clear c0 c1 c2 c3 c4 c5 f0 f1 f2 f3 f4 f5
    clear z0 z1 z2 z3 k5 hl
    refine (P1.out _).mono ?_
    rintro z wt ⟨rfl, hb⟩
    replace k1 := Lib.hid (k1.out.below hb); replace k3 := Lib.hid (k3.out.below hb); replace k4 := Lib.hid (k4.out.below hb); replace hB := Lib.hid (bel_trans hB.out hb)
    clear hb
    obtain ⟨⟨z0, z1⟩, z2, z3⟩ := k4.out.two
    go_upto_region 16 with fail
    clear z0 z1 z2 z3
    have hgp : w.heap.size ≤ gp := by have := HG.out; omega
    replace k1 := Lib.hid ((k1.out.other (g' := gp) N1.out.symm 0 (.int .i64 x1)).other (g' := gp) N1.out.symm 1 (.int .i64 y1))
    replace k3 := Lib.hid ((k3.out.other (g' := gp) N2.out.symm 0 (.int .i64 x1)).other (g' := gp) N2.out.symm 1 (.int .i64 y1))
    replace k4 := Lib.hid (show Bx _ gp 49 #[.int .i64 x1, .int .i64 y1] from (k4.out.set 0 (.int .i64 x1)).set 1 (.int .i64 y1))
    replace hB := Lib.hid ((hB.out.setCell (p := ⟨gp, 0, none⟩) hgp (.int .i64 x1)).setCell (p := ⟨gp, 1, none⟩) hgp (.int .i64 y1))
    clear hgp
    generalize World.setCell (World.setCell wt _ _) _ _ = wu at *
    obtain ⟨⟨z0, z1⟩, z2, z3⟩ := k4.out.two
    go_wp2_with fail
    go_quiet (fail)
    clear z0 z1 z2 z3
    go_wp2_with fail
    go_roundg 2
    case measure => omega
    case rel => exact ⟨.inr (.inl ⟨rfl, rfl, rfl, rfl, rfl, rfl⟩), k1.out.drewN _, ⟨x1, y1, k4.out.drewN _⟩, k3.out.drewN _, Below.drewN' hB.out _⟩
  · have k5 := Lib.hid (Bx.new wr 49 #[.int .i64 l, .int .i64 m])
    have hl := k4.out.lt
    replace k1 := Lib.hid (k1.out.alloc (.cells #[.int .i64 l, .int .i64 m] 49)); replace k3 := Lib.hid (k3.out.alloc (.cells #[.int .i64 l, .int .i64 m] 49)); replace k4 := Lib.hid (k4.out.alloc (.cells #[.int .i64 l, .int .i64 m] 49)); replace hB := Lib.hid (bel_alloc hB.out (.cells #[.int .i64 l, .int .i64 m] 49))
    go_upto_region 15 with fail
    generalize World.alloc wr _ = ws at *
    generalize wr.heap.size = g5 at *
    obtain ⟨⟨c0, c1, c2, c3, c4, c5⟩, f0, f1, f2, f3, f4, f5⟩ := k1.out.six
    obtain ⟨⟨z0, z1⟩, z2, z3⟩ := k5.out.two
    go_wp2_with fail
    clear c0 c1 c2 c3 c4 c5 f0 f1 f2 f3 f4 f5
    clear z0 z1 z2 z3 k5 hl
    refine (P2.out _).mono ?_
    rintro z wt ⟨rfl, hb⟩
    replace k1 := Lib.hid (k1.out.below hb); replace k3 := Lib.hid (k3.out.below hb); replace k4 := Lib.hid (k4.out.below hb); replace hB := Lib.hid (bel_trans hB.out hb)
    clear hb
    obtain ⟨⟨z0, z1⟩, z2, z3⟩ := k4.out.two
    go_upto_region 16 with fail
    clear z0 z1 z2 z3
    have hgp : w.heap.size ≤ gp := by have := HG.out; omega
    replace k1 := Lib.hid ((k1.out.other (g' := gp) N1.out.symm 0 (.int .i64 x2)).other (g' := gp) N1.out.symm 1 (.int .i64 y2))
    replace k3 := Lib.hid ((k3.out.other (g' := gp) N2.out.symm 0 (.int .i64 x2)).other (g' := gp) N2.out.symm 1 (.int .i64 y2))
    replace k4 := Lib.hid (show Bx _ gp 49 #[.int .i64 x2, .int .i64 y2] from (k4.out.set 0 (.int .i64 x2)).set 1 (.int .i64 y2))
    replace hB := Lib.hid ((hB.out.setCell (p := ⟨gp, 0, none⟩) hgp (.int .i64 x2)).setCell (p := ⟨gp, 1, none⟩) hgp (.int .i64 y2))
    clear hgp
    generalize World.setCell (World.setCell wt _ _) _ _ = wu at *
    obtain ⟨⟨z0, z1⟩, z2, z3⟩ := k4.out.two
    go_wp2_with fail
    go_quiet (fail)
    clear z0 z1 z2 z3
    go_wp2_with fail
    go_roundg 1
    case measure => omega
    case rel => exact ⟨.inr (.inr (.inl ⟨rfl, rfl, rfl, rfl, rfl, rfl⟩)), k1.out.drewN _, ⟨x2, y2, k4.out.drewN _⟩, k3.out.drewN _, Below.drewN' hB.out _⟩
  · have k5 := Lib.hid (Bx.new wr 49 #[.int .i64 r, .int .i64 m])
    have hl := k4.out.lt
    replace k1 := Lib.hid (k1.out.alloc (.cells #[.int .i64 r, .int .i64 m] 49)); replace k3 := Lib.hid (k3.out.alloc (.cells #[.int .i64 r, .int .i64 m] 49)); replace k4 := Lib.hid (k4.out.alloc (.cells #[.int .i64 r, .int .i64 m] 49)); replace hB := Lib.hid (bel_alloc hB.out (.cells #[.int .i64 r, .int .i64 m] 49))
    go_upto_region 15 with fail
    generalize World.alloc wr _ = ws at *
    generalize wr.heap.size = g5 at *
    obtain ⟨⟨c0, c1, c2, c3, c4, c5⟩, f0, f1, f2, f3, f4, f5⟩ := k1.out.six
    obtain ⟨⟨z0, z1⟩, z2, z3⟩ := k5.out.two
    go_wp2_with fail
    clear c0 c1 c2 c3 c4 c5 f0 f1 f2 f3 f4 f5
    clear z0 z1 z2 z3 k5 hl
    refine (P3.out _).mono ?_
    rintro z wt ⟨rfl, hb⟩
    replace k1 := Lib.hid (k1.out.below hb); replace k3 := Lib.hid (k3.out.below hb); replace k4 := Lib.hid (k4.out.below hb); replace hB := Lib.hid (bel_trans hB.out hb)
    clear hb
    obtain ⟨⟨z0, z1⟩, z2, z3⟩ := k4.out.two
    go_upto_region 16 with fail
    clear z0 z1 z2 z3
    have hgp : w.heap.size ≤ gp := by have := HG.out; omega
    replace k1 := Lib.hid ((k1.out.other (g' := gp) N1.out.symm 0 (.int .i64 x3)).other (g' := gp) N1.out.symm 1 (.int .i64 y3))
    replace k3 := Lib.hid ((k3.out.other (g' := gp) N2.out.symm 0 (.int .i64 x3)).other (g' := gp) N2.out.symm 1 (.int .i64 y3))
    replace k4 := Lib.hid (show Bx _ gp 49 #[.int .i64 x3, .int .i64 y3] from (k4.out.set 0 (.int .i64 x3)).set 1 (.int .i64 y3))
    replace hB := Lib.hid ((hB.out.setCell (p := ⟨gp, 0, none⟩) hgp (.int .i64 x3)).setCell (p := ⟨gp, 1, none⟩) hgp (.int .i64 y3))
    clear hgp
    generalize World.setCell (World.setCell wt _ _) _ _ = wu at *
    obtain ⟨⟨z0, z1⟩, z2, z3⟩ := k4.out.two
    go_wp2_with fail
    go_quiet (fail)
    clear z0 z1 z2 z3
    go_wp2_with fail
    go_roundg 0
    case measure => omega
    case rel => exact ⟨.inr (.inr (.inr ⟨rfl, rfl, rfl, rfl, rfl, rfl⟩)), k1.out.drewN _, ⟨x3, y3, k4.out.drewN _⟩, k3.out.drewN _, Below.drewN' hB.out _⟩
  · go_wp2_with fail
    with_reducible refine (WX.out _).mono ?_
    rintro z wv ⟨rfl, rfl⟩
    go_wp2_with fail
    with_reducible refine (WY.out _).mono ?_
    rintro z wv ⟨rfl, rfl⟩
    obtain ⟨⟨r0, r1, r2, r3⟩, s0, s1, s2, s3⟩ := k3.out.four
    rcases TT.out with t5 | ⟨t5, t6⟩
    all_goals
      go_wp2_with fail
      refine bodyPost_ret (v := .tuple #[.agg #[.int .i64 0, .int .i64 0, .int .i64 0, .int .i64 0], .int .i64 0]) (by simp [results, Try.results43, go_sem, *]) rfl ⟨rfl, ?_⟩
      repeat' (first | with_reducible exact hB.out | with_reducible apply Below.drew | with_reducible apply Below.drewN' | with_reducible apply Below.setCell)
      all_goals (show w.heap.size ≤ w.heap.size + 1 + 1; omega)
end Go.Proofs.Ytineinmghajmnaa
