/- The walk of AffineMakes. -/
import Derived.Test.YtanlnigebbcajaaDoorAff25
namespace Go.Proofs.YtanlnigebbcajaaDoor
open Go.RowKit
attribute [local go_sem 2000] run_max2m run_min2m
def AgPost (a b c d e f : Int) (w : World) (z : Ending) (w' : World) : Prop := z = .returned (.agg #[.int .i64 a, .int .i64 b, .int .i64 c, .int .i64 d, .int .i64 e, .int .i64 f]) ∧ Below w.heap.size w w'
set_option maxRecDepth 100000 in
set_option maxHeartbeats 4000000 in
theorem makes_core (x y r kx ky mx my s t u : Int) (w : World) (ht : TabA w)
    (S1 : ∀ w, Calls Tryd.prog 16 #[] w (AgPost 65536 0 0 65536 0 0 w)) (S2 : ∀ w, Calls Tryd.prog 17 #[] w (AgPost 65536 0 0 65536 0 0 w))
    (M1 : ∀ w, Calls Tryd.prog 18 #[.int .i64 x, .int .i64 y] w (AgPost 65536 0 0 65536 mx my w)) (M2 : ∀ w, Calls Tryd.prog 19 #[.int .i64 x, .int .i64 y] w (AgPost 65536 0 0 65536 mx my w))
    (C1 : ∀ w, Calls Tryd.prog 20 #[.int .i64 x, .int .i64 y] w (AgPost kx 0 0 ky 0 0 w)) (C2 : ∀ w, Calls Tryd.prog 21 #[.int .i64 x, .int .i64 y] w (AgPost kx 0 0 ky 0 0 w))
    (R1 : ∀ w, TabA w → Calls Tryd.prog 22 #[.int .i64 r] w (AgPost t s u t 0 0 w)) (R2 : ∀ w, Calls Tryd.prog 23 #[.int .i64 r] w (AgPost t s u t 0 0 w)) :
    Calls Tryd.prog 4 #[.int .i64 x, .int .i64 y, .int .i64 r] w fun e w' => e = .returned (.bool true) ∧ Below w.heap.size w w' := by
  have HT := Lib.hid (show ∀ w', Below w.heap.size w w' → TabA w' from fun w' h => ht.below h); clear ht
  have HB := Lib.hid (Below.refl w.heap.size w)
  replace S1 := Lib.hid S1; replace S2 := Lib.hid S2; replace M1 := Lib.hid M1; replace M2 := Lib.hid M2; replace C1 := Lib.hid C1; replace C2 := Lib.hid C2; replace R1 := Lib.hid R1; replace R2 := Lib.hid R2
  go_enter Tryd.func4, Tryd.ntmps4
  go_wp2_with (first
    | (go_at_call 16; (with_reducible refine (S1.out _).mono ?_); rintro z w1 ⟨rfl, hb⟩; replace HB := Lib.hid (bel_trans HB.out hb); clear hb)
    | (go_at_call 17; (with_reducible refine (S2.out _).mono ?_); rintro z w2 ⟨rfl, hb⟩; replace HB := Lib.hid (bel_trans HB.out hb); clear hb)
    | (go_at_call 18; (with_reducible refine (M1.out _).mono ?_); rintro z w3 ⟨rfl, hb⟩; replace HB := Lib.hid (bel_trans HB.out hb); clear hb)
    | (go_at_call 19; (with_reducible refine (M2.out _).mono ?_); rintro z w4 ⟨rfl, hb⟩; replace HB := Lib.hid (bel_trans HB.out hb); clear hb)
    | (go_at_call 20; (with_reducible refine (C1.out _).mono ?_); rintro z w5 ⟨rfl, hb⟩; replace HB := Lib.hid (bel_trans HB.out hb); clear hb)
    | (go_at_call 21; (with_reducible refine (C2.out _).mono ?_); rintro z w6 ⟨rfl, hb⟩; replace HB := Lib.hid (bel_trans HB.out hb); clear hb)
    | (go_at_call 22; (with_reducible refine (R1.out _ (HT.out _ HB.out)).mono ?_); rintro z w7 ⟨rfl, hb⟩; replace HB := Lib.hid (bel_trans HB.out hb); clear hb)
    | (go_at_call 23; (with_reducible refine (R2.out _).mono ?_); rintro z w8 ⟨rfl, hb⟩; replace HB := Lib.hid (bel_trans HB.out hb); clear hb)
    | (go_at_call 15; (with_reducible refine (awake_any _ (HT.out _ HB.out).tab).mono ?_); rintro z w9 ⟨rfl, hb⟩; replace HB := Lib.hid (bel_trans HB.out hb); clear hb))
  go_ret
  exact ⟨rfl, HB.out⟩
set_option maxHeartbeats 1000000 in
theorem affineMakes_any (x y r : Int) (w : World) (ht : TabA w) :
    Calls Tryd.prog 4 #[.int .i64 x, .int .i64 y, .int .i64 r] w fun e w' => e = .returned (.bool true) ∧ Below w.heap.size w w' :=
  makes_core x y r (coef x) (coef y) (cl 1048576 x * 65536) (cl 1048576 y * 65536) (trn r).1 (trn r).2 (-(trn r).1) w ht
    (fun w => (same_any w).mono fun _ _ h => ⟨h.1, h.2 ▸ bel_alloc (Below.refl _ _) _⟩) (fun w => (rsame_any w).mono fun _ _ h => ⟨h.1, h.2 ▸ bel_alloc (Below.refl _ _) _⟩)
    (fun w => move_any x y w) (fun w => rmove_any x y w) (fun w => scale_any x y w) (fun w => rscale_any x y w) (fun w h => rotate_any r w h) (fun w => rrotate_any r w)
theorem walk_makes (x y r : Int) (w : World) (ht : TabA w) (_ : -9223372036854775808 ≤ x ∧ x ≤ 9223372036854775807) (_ : -9223372036854775808 ≤ y ∧ y ≤ 9223372036854775807) (_ : -9223372036854775808 ≤ r ∧ r ≤ 9223372036854775807) :
    Calls Tryd.prog 4 #[.int .i64 x, .int .i64 y, .int .i64 r] w fun e w' => e = .returned (.bool true) ∧ Below w.heap.size w w' := affineMakes_any x y r w ht
end Go.Proofs.YtanlnigebbcajaaDoor
