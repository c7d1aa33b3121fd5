/- AffineContains for every input. -/
import Derived.Test.YtanlnigebbcajaaDoorAff16
import Derived.Test.YtanlnigebbcajaaDoorAffLaid
namespace Go.Proofs.YtanlnigebbcajaaDoor
open Go.ChangeShapes Go.WideShapes Go.ChangeAt Go.RowKit Go.Deep
def RcV (v : Value) (x : Rc) : Prop := v = .agg #[.int .i64 x.x, .int .i64 x.y, .int .i64 x.w, .int .i64 x.h]
theorem open_rc {H : Type} {enc : TypeId × Value → H} {W : World} {base b0 : Nat} {r : Reach} {v : Value} {d : DataW H} {p : List MemPlace} (hv : Value.okWide Tryd.prog W r b0 38 v) (h : DataW.Trod enc Tryd.prog W base (fun _ => true) true 38 v d p) : ∃ x, RcV v x := by
  obtain ⟨v0, v1, v2, v3, y0, y1, y2, y3, n, rfl, _, _, t0, t1, t2, t3⟩ := Joins.open_agg4 Tryd.underlying38 (by kernel_rfl) (by kernel_rfl) hv h
  obtain ⟨a, ha, _, wa⟩ := DataW.trod_int Tryd.underlying3 t0
  obtain ⟨b, hb, _, wb⟩ := DataW.trod_int Tryd.underlying3 t1
  obtain ⟨c, hc, _, wc⟩ := DataW.trod_int Tryd.underlying3 t2
  obtain ⟨e, he, _, we⟩ := DataW.trod_int Tryd.underlying3 t3
  injection ha with ha _
  injection hb with hb _
  injection hc with hc _
  injection he with he _
  subst ha hb hc he
  exact ⟨⟨a, b, c, e⟩, rfl⟩
/-- The first condition that holds, of eight. -/
theorem first8 (c0 c1 c2 c3 c4 c5 c6 c7 : Bool) : (c0 = true ∨ (c0 = false ∧ c1 = true) ∨ (c0 = false ∧ c1 = false ∧ c2 = true) ∨ (c0 = false ∧ c1 = false ∧ c2 = false ∧ c3 = true) ∨ (c0 = false ∧ c1 = false ∧ c2 = false ∧ c3 = false ∧ c4 = true) ∨ (c0 = false ∧ c1 = false ∧ c2 = false ∧ c3 = false ∧ c4 = false ∧ c5 = true) ∨ (c0 = false ∧ c1 = false ∧ c2 = false ∧ c3 = false ∧ c4 = false ∧ c5 = false ∧ c6 = true) ∨ (c0 = false ∧ c1 = false ∧ c2 = false ∧ c3 = false ∧ c4 = false ∧ c5 = false ∧ c6 = false ∧ c7 = true)) ∨ (c0 = false ∧ c1 = false ∧ c2 = false ∧ c3 = false ∧ c4 = false ∧ c5 = false ∧ c6 = false ∧ c7 = false) := by
  cases c0 <;> cases c1 <;> cases c2 <;> cases c3 <;> cases c4 <;> cases c5 <;> cases c6 <;> cases c7 <;> simp
theorem walk_contains (v0 : Value) (A : Af) (v1 : Value) (R : Rc) (v2 : Value) (P : Int × Int) (w : World) (ht : Tab w) (h0 : AfV v0 A) (h1 : RcV v1 R) (h2 : PtV v2 P) : Calls Tryd.prog 10 #[v0, v1, v2] w fun e w' => e = .returned (.bool true) ∧ Below w.heap.size w w' := by
  subst h0; subst h1; subst h2
  obtain ⟨x, y⟩ := P
  obtain ⟨rx, ry, rw, rh⟩ := R
  have sm := fun w => small_any A.a A.b A.c A.d A.e A.f 16777216 w (by omega) (by omega)
  cases hs : (allIn 262144 [A.a, A.b, A.c, A.d] && allIn 16777216 [A.e, A.f])
  · rw [hs] at sm
    exact contains_o1 _ _ _ _ _ _ rx ry rw rh x y w ht sm
  rw [hs] at sm
  have hA := (small_iff A 16777216).1 hs
  have w1 := fun (w : World) (g : Nat) (hg : w.heap.size = g) => in2 256 rx ry w g hg (by omega) (by omega)
  cases hw : allIn 256 [rx, ry]
  · rw [hw] at w1
    exact contains_o2 _ _ _ _ _ _ rx ry rw rh x y w ht sm w1
  rw [hw] at w1
  have b := (allIn_iff 256 [rx, ry]).1 hw
  have b0 : -256 ≤ rx ∧ rx ≤ 256 := b 0 (by simp)
  have b1 : -256 ≤ ry ∧ ry ≤ 256 := b 1 (by simp)
  rcases first8 (decide (rw < 1)) (decide (rw > 256)) (decide (rh < 1)) (decide (rh > 256)) (decide (x < rx * 65536)) (decide (y < ry * 65536)) (decide (x > IntKind.i64.wrap (IntKind.i64.wrap (rx + rw) * 65536))) (decide (y > IntKind.i64.wrap (IntKind.i64.wrap (ry + rh) * 65536))) with dd | ⟨t0, t1, t2, t3, t4, t5, t6, t7⟩
  · exact contains_o3 _ _ _ _ _ _ rx ry rw rh x y (rx * 65536) (ry * 65536) _ _ _ _ w ht sm w1 (wrap_id (by omega)) (wrap_id (by omega)) rfl rfl rfl rfl dd
  · have q0 := of_decide_eq_false t0; have q1 := of_decide_eq_false t1; have q2 := of_decide_eq_false t2; have q3 := of_decide_eq_false t3
    have q4 := of_decide_eq_false t4; have q5 := of_decide_eq_false t5
    have e1 : IntKind.i64.wrap (rx + rw) = rx + rw := wrap_id (by omega)
    have e2 : IntKind.i64.wrap (ry + rh) = ry + rh := wrap_id (by omega)
    have e3 : IntKind.i64.wrap ((rx + rw) * 65536) = (rx + rw) * 65536 := wrap_id (by omega)
    have e4 : IntKind.i64.wrap ((ry + rh) * 65536) = (ry + rh) * 65536 := wrap_id (by omega)
    rw [e1, e3] at t6
    rw [e2, e4] at t7
    have q6 := of_decide_eq_false t6; have q7 := of_decide_eq_false t7
    have hok := Af.small_ok hA (by omega)
    have bx := fun w => box_any A.a A.b A.c A.d A.e A.f rx ry rw rh w hok (by unfold Rc.ok; dsimp only; omega) (by omega) (by omega)
    have hc := Af.contains (a := A) (r := ⟨rx, ry, rw, rh⟩) (x := x) (y := y) hA (by dsimp only; omega) (by dsimp only; omega) (by dsimp only; omega)
    have ap := fun w => apply_any A.a A.b A.c A.d A.e A.f x y w
    have hAe : Af.mk A.a A.b A.c A.d A.e A.f = A := rfl
    rw [hAe] at bx ap
    generalize A.corners ⟨rx, ry, rw, rh⟩ = C at *
    generalize A.app x y = U at *
    rcases hc with rfl | ⟨⟨c1, c2, c3, c4⟩, c5, c6⟩
    · have w2 := fun (w : World) (g : Nat) (hg : w.heap.size = g) => in4 1048576 0 0 0 0 w g hg (by omega) (by omega)
      rw [show allIn 1048576 [0, 0, 0, 0] = true by decide] at w2
      exact contains_zero _ _ _ _ _ _ rx ry rw rh x y (rx * 65536) (ry * 65536) _ _ _ _ w ht sm w1 (wrap_id (by omega)) (wrap_id (by omega)) e1 e3 e2 e4 t0 t1 t2 t3 t4 t5 t6 t7 bx w2
    · have w2 := fun (w : World) (g : Nat) (hg : w.heap.size = g) => in4 1048576 C.x C.y C.w C.h w g hg (by omega) (by omega)
      have ha : allIn 1048576 [C.x, C.y, C.w, C.h] = true := by
        unfold allIn
        simp
        omega
      rw [ha] at w2
      exact contains_in _ _ _ _ _ _ rx ry rw rh x y (rx * 65536) (ry * 65536) _ _ _ _ C.x C.y C.w C.h U.1 U.2 (C.x * 65536) (C.x + C.w) ((C.x + C.w) * 65536) (C.y * 65536) (C.y + C.h) ((C.y + C.h) * 65536) w ht sm w1 (wrap_id (by omega)) (wrap_id (by omega)) e1 e3 e2 e4 t0 t1 t2 t3 t4 t5 t6 t7 bx w2
        (decide_eq_false (by omega)) (decide_eq_false (by omega)) (beq_f (by omega)) (beq_f (by omega)) ap (wrap_id (by omega)) (wrap_id (by omega)) (wrap_id (by omega)) (wrap_id (by omega)) (wrap_id (by omega)) (wrap_id (by omega)) (decide_eq_true c5.1) (decide_eq_true c5.2) (decide_eq_true c6.1) (decide_eq_true c6.2)
end Go.Proofs.YtanlnigebbcajaaDoor
