/- AffineComposes for every input. -/
import Derived.Test.YtanlnigebbcajaaDoorAff22
import Derived.Test.YtanlnigebbcajaaDoorAffLaid
namespace Go.Proofs.YtanlnigebbcajaaDoor
open Go.RowKit
theorem walk_composes (v0 : Value) (A : Af) (v1 : Value) (B : Af) (v2 : Value) (P : Int × Int) (w : World) (ht : Tab w) (h0 : AfV v0 A) (h1 : AfV v1 B) (h2 : PtV v2 P) : Calls Tryd.prog 8 #[v0, v1, v2] w fun e w' => e = .returned (.bool true) ∧ Below w.heap.size w w' := by
  subst h0; subst h1; subst h2
  obtain ⟨x, y⟩ := P
  have s1 := fun w => small_any A.a A.b A.c A.d A.e A.f 68719476736 w (by omega) (by omega)
  cases hs : (allIn 262144 [A.a, A.b, A.c, A.d] && allIn 68719476736 [A.e, A.f])
  · rw [hs] at s1
    exact composes_o1 _ _ _ _ _ _ _ _ _ _ _ _ x y w ht s1
  rw [hs] at s1
  have hA := (small_iff A 68719476736).1 hs
  have s2 := fun w => small_any B.a B.b B.c B.d B.e B.f 68719476736 w (by omega) (by omega)
  cases hs2 : (allIn 262144 [B.a, B.b, B.c, B.d] && allIn 68719476736 [B.e, B.f])
  · rw [hs2] at s2
    exact composes_o2 _ _ _ _ _ _ _ _ _ _ _ _ x y w ht s1 s2
  rw [hs2] at s2
  have hB := (small_iff B 68719476736).1 hs2
  have w1 := fun (w : World) (g : Nat) (hg : w.heap.size = g) => in2 16777216 x y w g hg (by omega) (by omega)
  cases hw : allIn 16777216 [x, y]
  · rw [hw] at w1
    exact composes_o3 _ _ _ _ _ _ _ _ _ _ _ _ x y w ht s1 s2 w1
  rw [hw] at w1
  have b := (allIn_iff 16777216 [x, y]).1 hw
  have b0 : -16777216 ≤ x ∧ x ≤ 16777216 := b 0 (by simp)
  have b1 : -16777216 ≤ y ∧ y ≤ 16777216 := b 1 (by simp)
  obtain ⟨r1, r2⟩ := Af.composes hA hB b0 b1
  have t0 := fun w => then_any A.a A.b A.c A.d A.e A.f B.a B.b B.c B.d B.e B.f w
  have hAe : Af.mk A.a A.b A.c A.d A.e A.f = A := rfl
  have hBe : Af.mk B.a B.b B.c B.d B.e B.f = B := rfl
  rw [hAe, hBe] at t0
  generalize A.thn B = C at *
  have t1 := fun w => apply_any C.a C.b C.c C.d C.e C.f x y w
  rw [show Af.mk C.a C.b C.c C.d C.e C.f = C from rfl] at t1
  have t2 := fun w => apply_any A.a A.b A.c A.d A.e A.f x y w
  rw [hAe] at t2
  generalize A.app x y = Q at *
  have t3 := fun w => apply_any B.a B.b B.c B.d B.e B.f Q.1 Q.2 w
  rw [hBe] at t3
  have ub := app_bd C x y
  have vb := app_bd B Q.1 Q.2
  generalize C.app x y = U at *
  generalize B.app Q.1 Q.2 = V at *
  have w2 := fun (w : World) (g : Nat) (hg : w.heap.size = g) => in4 1099511627776 U.1 U.2 V.1 V.2 w g hg (by omega) (by omega)
  rw [show allIn 1099511627776 [U.1, U.2, V.1, V.2] = true by unfold allIn; simp; omega] at w2
  have w3 := fun (w : World) (g : Nat) (hg : w.heap.size = g) => in2 262 (U.1 - V.1) (U.2 - V.2) w g hg (by omega) (by omega)
  rw [show allIn 262 [U.1 - V.1, U.2 - V.2] = true by unfold allIn; simp; omega] at w3
  exact composes_in A.a A.b A.c A.d A.e A.f B.a B.b B.c B.d B.e B.f x y _ _ _ _ _ _ _ _ _ _ _ _ (U.1 - V.1) (U.2 - V.2) w ht s1 s2 w1 t0 t1 t2 t3 w2 (wrap_id (by omega)) (wrap_id (by omega)) w3
end Go.Proofs.YtanlnigebbcajaaDoor
