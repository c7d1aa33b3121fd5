/- AffineNeutral for every input. -/
import Derived.Test.YtanlnigebbcajaaDoorAff20
import Derived.Test.YtanlnigebbcajaaDoorAffLaid
namespace Go.Proofs.YtanlnigebbcajaaDoor
open Go.RowKit
theorem walk_neutral (v0 : Value) (A : Af) (v1 : Value) (P : Int × Int) (i j : Int) (w : World) (ht : Tab w) (h0 : AfV v0 A) (h1 : PtV v1 P) (hi : -9223372036854775808 ≤ i ∧ i ≤ 9223372036854775807) (hj : -9223372036854775808 ≤ j ∧ j ≤ 9223372036854775807) :
    Calls Tryd.prog 7 #[v0, v1, .int .i64 i, .int .i64 j] w fun e w' => e = .returned (.bool true) ∧ Below w.heap.size w w' := by
  subst h0; subst h1
  obtain ⟨x, y⟩ := P
  have ck := fun w => racheck_any A.a A.b A.c A.d A.e A.f w
  have hAe : Af.mk A.a A.b A.c A.d A.e A.f = A := rfl
  rw [hAe] at ck
  by_cases hok : A.ok
  · rw [okE_ok hok] at ck
    have w1 := fun (w : World) (g : Nat) (hg : w.heap.size = g) => in2 68719476736 x y w g hg (by omega) (by omega)
    cases hw : allIn 68719476736 [x, y]
    · rw [hw] at w1
      exact neutral_o2 _ _ _ _ _ _ x y i j w ht ck w1
    rw [hw] at w1
    have b := (allIn_iff 68719476736 [x, y]).1 hw
    have b0 : -68719476736 ≤ x ∧ x ≤ 68719476736 := b 0 (by simp)
    have b1 : -68719476736 ≤ y ∧ y ≤ 68719476736 := b 1 (by simp)
    have w2 := fun (w : World) (g : Nat) (hg : w.heap.size = g) => in2 524288 i j w g hg (by omega) (by omega)
    cases hv : allIn 524288 [i, j]
    · rw [hv] at w2
      exact neutral_o3 _ _ _ _ _ _ x y i j w ht ck w1 w2
    rw [hv] at w2
    have b' := (allIn_iff 524288 [i, j]).1 hv
    have bi : -524288 ≤ i ∧ i ≤ 524288 := b' 0 (by simp)
    have bj : -524288 ≤ j ∧ j ≤ 524288 := b' 1 (by simp)
    have sa : ∀ w, Calls Tryd.prog 16 #[] w fun z w' => z = .returned (.agg #[.int .i64 65536, .int .i64 0, .int .i64 0, .int .i64 65536, .int .i64 0, .int .i64 0]) ∧ Below w.heap.size w w' := fun w => (same_any w).mono fun e w' ⟨h, hw⟩ => ⟨h, by rw [hw]; exact bel_alloc (Below.refl _ _) _⟩
    have mo := fun w => move_any i j w
    obtain ⟨n1, n2, n3, n4, n5⟩ := Af.inv_move bi bj
    have iv := fun w => inverse_any 65536 0 0 65536 (cl 1048576 i * 65536) (cl 1048576 j * 65536) w
    have hm : Af.mk 65536 0 0 65536 (cl 1048576 i * 65536) (cl 1048576 j * 65536) = Af.move i j := rfl
    have hinv : (Af.move i j).inv = (Af.move (-i) (-j), 0) := by
      unfold Af.inv
      rw [if_pos n1, if_neg n2, if_pos n3, if_pos n4, n5]
    rw [hm, hinv] at iv
    have t0 := fun w => apply_any 65536 0 0 65536 0 0 x y w
    rw [show Af.mk 65536 0 0 65536 0 0 = Af.same from rfl, Af.app_same (by omega) (by omega)] at t0
    have t1 := fun w => then_any A.a A.b A.c A.d A.e A.f 65536 0 0 65536 0 0 w
    rw [hAe, show Af.mk 65536 0 0 65536 0 0 = Af.same from rfl, Af.thn_same hok] at t1
    have t2 := fun w => then_any 65536 0 0 65536 0 0 A.a A.b A.c A.d A.e A.f w
    rw [hAe, show Af.mk 65536 0 0 65536 0 0 = Af.same from rfl, Af.same_thn hok] at t2
    have t3 := fun w => apply_any 65536 0 0 65536 (cl 1048576 i * 65536) (cl 1048576 j * 65536) x y w
    rw [hm, Af.app_move bi bj b0 b1] at t3
    have t4 := fun w => move_any (-i) (-j) w
    exact neutral_in A.a A.b A.c A.d A.e A.f x y i j _ _ _ _ _ _ _ _ _ _ _ _ _ _ _ _ _ _ (x + i * 65536) (y + j * 65536) (i * 65536) (j * 65536) (-i) (-j) w ht ck w1 w2 sa mo iv t0 t1 t2 t3 (wrap_id (by omega)) (wrap_id (by omega)) (wrap_id (by omega)) (wrap_id (by omega)) (wrap_id (by omega)) (wrap_id (by omega)) t4
  · rw [okE_no hok] at ck
    exact neutral_o1 _ _ _ _ _ _ x y i j 2 w ht ck rfl
end Go.Proofs.YtanlnigebbcajaaDoor
