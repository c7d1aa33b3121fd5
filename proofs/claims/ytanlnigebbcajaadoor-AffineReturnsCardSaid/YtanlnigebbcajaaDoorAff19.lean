/- AffineReturns for every input. -/
import Derived.Test.YtanlnigebbcajaaDoorAff18
import Derived.Test.YtanlnigebbcajaaDoorAffLaid
namespace Go.Proofs.YtanlnigebbcajaaDoor
open Go.RowKit
theorem walk_returns (v0 : Value) (A : Af) (v1 : Value) (P : Int × Int) (w : World) (ht : Tab w) (h0 : AfV v0 A) (h1 : PtV v1 P) : Calls Tryd.prog 9 #[v0, v1] w fun e w' => e = .returned (.bool true) ∧ Below w.heap.size w w' := by
  subst h0; subst h1
  obtain ⟨x, y⟩ := P
  have sm := fun w => small_any A.a A.b A.c A.d A.e A.f 16777216 w (by omega) (by omega)
  cases hs : (allIn 262144 [A.a, A.b, A.c, A.d] && allIn 16777216 [A.e, A.f])
  · rw [hs] at sm
    exact returns_o1 _ _ _ _ _ _ x y w ht sm
  rw [hs] at sm
  have hA := (small_iff A 16777216).1 hs
  have w1 := fun (w : World) (g : Nat) (hg : w.heap.size = g) => in2 16777216 x y w g hg (by omega) (by omega)
  cases hw : allIn 16777216 [x, y]
  · rw [hw] at w1
    exact returns_o2 _ _ _ _ _ _ x y w ht sm w1
  rw [hw] at w1
  have b := (allIn_iff 16777216 [x, y]).1 hw
  have b0 : -16777216 ≤ x ∧ x ≤ 16777216 := b 0 (by simp)
  have b1 : -16777216 ≤ y ∧ y ≤ 16777216 := b 1 (by simp)
  obtain ⟨h1, h2, h3, h4, h5, h6⟩ := id hA
  obtain ⟨m1, m2⟩ := det_bd (a := A.a) (b := A.b) (c := A.c) (d := A.d) (by omega) (by omega) (by omega) (by omega)
  by_cases hd : 1073741824 ≤ A.det ∨ A.det ≤ -1073741824
  · obtain ⟨o1, o2, r1, r2⟩ := Af.returns hA b0 b1 hd
    have hdet : A.det = A.a * A.d - A.b * A.c := rfl
    have iv := fun w => inverse_any A.a A.b A.c A.d A.e A.f w
    have a1 := fun w => apply_any A.a A.b A.c A.d A.e A.f x y w
    have hAe : Af.mk A.a A.b A.c A.d A.e A.f = A := rfl
    have hi : A.inv = (A.inv2, 0) := by
      unfold Af.inv
      rw [if_pos (Af.small_ok hA (by omega)), if_neg (by omega), if_pos o1, if_pos o2]
    rw [hAe, hi] at iv
    rw [hAe] at a1
    generalize A.app x y = U at *
    have a2 := fun w => apply_any A.inv2.a A.inv2.b A.inv2.c A.inv2.d A.inv2.e A.inv2.f U.1 U.2 w
    have hIe : Af.mk A.inv2.a A.inv2.b A.inv2.c A.inv2.d A.inv2.e A.inv2.f = A.inv2 := rfl
    rw [hIe] at a2
    have qb := app_bd A.inv2 U.1 U.2
    generalize A.inv2.app U.1 U.2 = Q at *
    generalize A.inv2 = I at *
    have w2 := fun (w : World) (g : Nat) (hg : w.heap.size = g) => in2 1099511627776 Q.1 Q.2 w g hg (by omega) (by omega)
    rw [show allIn 1099511627776 [Q.1, Q.2] = true by unfold allIn; simp; omega] at w2
    have w3 := fun (w : World) (g : Nat) (hg : w.heap.size = g) => in2 4096 (Q.1 - x) (Q.2 - y) w g hg (by omega) (by omega)
    rw [show allIn 4096 [Q.1 - x, Q.2 - y] = true by unfold allIn; simp; omega] at w3
    refine returns_in A.a A.b A.c A.d A.e A.f x y (A.a * A.d) (A.b * A.c) (A.a * A.d - A.b * A.c) _ _ _ _ _ _ _ _ _ _ (Q.1 - x) (Q.2 - y) w ht sm w1 (wrap_id (by omega)) (wrap_id (by omega)) (wrap_id (by omega)) ?_ iv a1 a2 w2 (wrap_id (by omega)) (wrap_id (by omega)) w3
    rw [← hdet]
    by_cases hc : A.det < 1073741824
    · exact .inr ⟨decide_eq_true hc, decide_eq_false (by omega)⟩
    · exact .inl (decide_eq_false hc)
  · have hdet : A.det = A.a * A.d - A.b * A.c := rfl
    exact returns_o3 A.a A.b A.c A.d A.e A.f x y (A.a * A.d) (A.b * A.c) (A.a * A.d - A.b * A.c) w ht sm w1 (wrap_id (by omega)) (wrap_id (by omega)) (wrap_id (by omega)) (decide_eq_true (by omega)) (decide_eq_true (by omega))
end Go.Proofs.YtanlnigebbcajaaDoor
