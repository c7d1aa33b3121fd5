/- The walks of AffineApplies and AffineThens. -/
import Derived.Test.YtanlnigebbcajaaDoorAff13
import Derived.Test.YtanlnigebbcajaaDoorAff7
namespace Go.Proofs.YtanlnigebbcajaaDoor
open Go.RowKit
attribute [local go_sem 2000] run_max2m run_min2m
def Bel (w w' : World) : Prop := Below w.heap.size w w'
theorem Bel.call {w w1 w2 : World} (h : Bel w w1) (hb : Below w1.heap.size w1 w2) : Bel w w2 := bel_trans h hb
theorem Bel.out {w w1 : World} (h : Bel w w1) : Below w.heap.size w w1 := h
theorem Bel.drew {w w1 : World} (h : Bel w w1) : Bel w w1.drew := Below.drew h
theorem boxAP (w : World) (a b c d e f x y : Int) (w0 : World) (hw : w0 = (w.alloc (.cells #[.int .i64 a, .int .i64 b, .int .i64 c, .int .i64 d, .int .i64 e, .int .i64 f] 23)).alloc (.cells #[.int .i64 x, .int .i64 y] 25)) :
    Bx w0 w.heap.size 23 #[.int .i64 a, .int .i64 b, .int .i64 c, .int .i64 d, .int .i64 e, .int .i64 f] ∧ Bx w0 (w.heap.size + 1) 25 #[.int .i64 x, .int .i64 y] ∧ Below w.heap.size w w0 := by
  subst hw
  have h1 := Bx.new w 23 #[.int .i64 a, .int .i64 b, .int .i64 c, .int .i64 d, .int .i64 e, .int .i64 f]
  have h2 := Bx.new (w.alloc (.cells #[.int .i64 a, .int .i64 b, .int .i64 c, .int .i64 d, .int .i64 e, .int .i64 f] 23)) 25 #[.int .i64 x, .int .i64 y]
  simp only [World.size_alloc] at h2
  exact ⟨h1.alloc _, h2, bel_alloc (bel_alloc (Below.refl _ _) _) _⟩
theorem boxAA (w : World) (a b c d e f a' b' c' d' e' f' : Int) (w0 : World) (hw : w0 = (w.alloc (.cells #[.int .i64 a, .int .i64 b, .int .i64 c, .int .i64 d, .int .i64 e, .int .i64 f] 23)).alloc (.cells #[.int .i64 a', .int .i64 b', .int .i64 c', .int .i64 d', .int .i64 e', .int .i64 f'] 23)) :
    Bx w0 w.heap.size 23 #[.int .i64 a, .int .i64 b, .int .i64 c, .int .i64 d, .int .i64 e, .int .i64 f] ∧ Bx w0 (w.heap.size + 1) 23 #[.int .i64 a', .int .i64 b', .int .i64 c', .int .i64 d', .int .i64 e', .int .i64 f'] ∧ Below w.heap.size w w0 := by
  subst hw
  have h1 := Bx.new w 23 #[.int .i64 a, .int .i64 b, .int .i64 c, .int .i64 d, .int .i64 e, .int .i64 f]
  have h2 := Bx.new (w.alloc (.cells #[.int .i64 a, .int .i64 b, .int .i64 c, .int .i64 d, .int .i64 e, .int .i64 f] 23)) 23 #[.int .i64 a', .int .i64 b', .int .i64 c', .int .i64 d', .int .i64 e', .int .i64 f']
  simp only [World.size_alloc] at h2
  exact ⟨h1.alloc _, h2, bel_alloc (bel_alloc (Below.refl _ _) _) _⟩
set_option maxRecDepth 100000 in
set_option maxHeartbeats 8000000 in
theorem applies_core (a b c d e f x y E u v : Int) (w : World) (ht : Tab w)
    (T0 : ∀ w, Calls Tryd.prog 11 #[.agg #[.int .i64 a, .int .i64 b, .int .i64 c, .int .i64 d, .int .i64 e, .int .i64 f]] w fun z w' => z = .returned (.int .i64 E) ∧ Below w.heap.size w w')
    (T1 : ∀ w, Calls Tryd.prog 12 #[.agg #[.int .i64 a, .int .i64 b, .int .i64 c, .int .i64 d, .int .i64 e, .int .i64 f]] w fun z w' => z = .returned (.int .i64 E) ∧ Below w.heap.size w w')
    (T2 : ∀ w, Calls Tryd.prog 13 #[.agg #[.int .i64 a, .int .i64 b, .int .i64 c, .int .i64 d, .int .i64 e, .int .i64 f], .agg #[.int .i64 x, .int .i64 y]] w fun z w' => z = .returned (.agg #[.int .i64 u, .int .i64 v]) ∧ Below w.heap.size w w')
    (T3 : ∀ w, Calls Tryd.prog 14 #[.agg #[.int .i64 a, .int .i64 b, .int .i64 c, .int .i64 d, .int .i64 e, .int .i64 f], .agg #[.int .i64 x, .int .i64 y]] w fun z w' => z = .returned (.agg #[.int .i64 u, .int .i64 v]) ∧ Below w.heap.size w w')
    : Calls Tryd.prog 3 #[.agg #[.int .i64 a, .int .i64 b, .int .i64 c, .int .i64 d, .int .i64 e, .int .i64 f], .agg #[.int .i64 x, .int .i64 y]] w fun e w' => e = .returned (.bool true) ∧ Below w.heap.size w w' := by
  have HT := Lib.hid ht; clear ht
  replace T0 := Lib.hid T0
  replace T1 := Lib.hid T1
  replace T2 := Lib.hid T2
  replace T3 := Lib.hid T3
  go_enter Tryd.func3, Tryd.ntmps3
  go_wp2_with fail
  obtain ⟨k1, k2, hB⟩ := boxAP w a b c d e f x y _ rfl
  generalize World.alloc (World.alloc w _) _ = wb at *
  have HSA := Lib.hid (show ∀ wq, Bel wb wq → Bel wb wq ∧ wq.cell? ⟨w.heap.size, 0, none⟩ = some (.int .i64 a) ∧ wq.cell? ⟨w.heap.size, 1, none⟩ = some (.int .i64 b) ∧ wq.cell? ⟨w.heap.size, 2, none⟩ = some (.int .i64 c) ∧ wq.cell? ⟨w.heap.size, 3, none⟩ = some (.int .i64 d) ∧ wq.cell? ⟨w.heap.size, 4, none⟩ = some (.int .i64 e) ∧ wq.cell? ⟨w.heap.size, 5, none⟩ = some (.int .i64 f) ∧ wq.cell? ⟨w.heap.size + 1, 0, none⟩ = some (.int .i64 x) ∧ wq.cell? ⟨w.heap.size + 1, 1, none⟩ = some (.int .i64 y) from fun wq hb => ⟨hb, (k1.below hb).six.1.1, (k1.below hb).six.1.2.1, (k1.below hb).six.1.2.2.1, (k1.below hb).six.1.2.2.2.1, (k1.below hb).six.1.2.2.2.2.1, (k1.below hb).six.1.2.2.2.2.2, (k2.below hb).two.1.1, (k2.below hb).two.1.2⟩)
  have HB0 : Bel wb wb := Below.refl _ _
  have hS0 := HSA.out _ (Bel.drew HB0)
  have HB := Lib.hid hB; clear hB k1 k2
  go_region_held3 (fun w' => Bel wb w' ∧ w'.cell? ⟨w.heap.size, 0, none⟩ = some (.int .i64 a) ∧ w'.cell? ⟨w.heap.size, 1, none⟩ = some (.int .i64 b) ∧ w'.cell? ⟨w.heap.size, 2, none⟩ = some (.int .i64 c) ∧ w'.cell? ⟨w.heap.size, 3, none⟩ = some (.int .i64 d) ∧ w'.cell? ⟨w.heap.size, 4, none⟩ = some (.int .i64 e) ∧ w'.cell? ⟨w.heap.size, 5, none⟩ = some (.int .i64 f) ∧ w'.cell? ⟨w.heap.size + 1, 0, none⟩ = some (.int .i64 x) ∧ w'.cell? ⟨w.heap.size + 1, 1, none⟩ = some (.int .i64 y))
    (first | assumption | exact hS0 | exact HSA.out _ hBv | go_keep)
    (first | (go_at_call 11; with_reducible refine (T0.out _).mono ?_; rintro z wv ⟨rfl, hbv⟩; have hBv : Bel wb wv := Bel.call (Bel.drew HB0) hbv) | (go_at_call 12; with_reducible refine (T1.out _).mono ?_; rintro z wv ⟨rfl, hbv⟩; have hBv : Bel wb wv := Bel.call hBv hbv) | (go_at_call 13; with_reducible refine (T2.out _).mono ?_; rintro z wv ⟨rfl, hbv⟩; have hBv : Bel wb wv := Bel.call hBv hbv) | (go_at_call 14; with_reducible refine (T3.out _).mono ?_; rintro z wv ⟨rfl, hbv⟩; have hBv : Bel wb wv := Bel.call hBv hbv) | (go_at_call 15; with_reducible refine (awake_any _ (HT.out.below (bel_trans HB.out hBv.out))).mono ?_; rintro z wv ⟨rfl, hbv⟩; have hBv : Bel wb wv := Bel.call hBv hbv))
  go_wp2_with fail
  go_ret
  exact ⟨rfl, bel_trans HB.out hBv⟩
set_option maxRecDepth 100000 in
set_option maxHeartbeats 8000000 in
theorem thens_core (a b c d e f a' b' c' d' e' f' R0 R1 R2 R3 R4 R5 : Int) (w : World) (ht : Tab w)
    (T0 : ∀ w, Calls Tryd.prog 24 #[.agg #[.int .i64 a, .int .i64 b, .int .i64 c, .int .i64 d, .int .i64 e, .int .i64 f], .agg #[.int .i64 a', .int .i64 b', .int .i64 c', .int .i64 d', .int .i64 e', .int .i64 f']] w fun z w' => z = .returned (.agg #[.int .i64 R0, .int .i64 R1, .int .i64 R2, .int .i64 R3, .int .i64 R4, .int .i64 R5]) ∧ Below w.heap.size w w')
    (T1 : ∀ w, Calls Tryd.prog 25 #[.agg #[.int .i64 a, .int .i64 b, .int .i64 c, .int .i64 d, .int .i64 e, .int .i64 f], .agg #[.int .i64 a', .int .i64 b', .int .i64 c', .int .i64 d', .int .i64 e', .int .i64 f']] w fun z w' => z = .returned (.agg #[.int .i64 R0, .int .i64 R1, .int .i64 R2, .int .i64 R3, .int .i64 R4, .int .i64 R5]) ∧ Below w.heap.size w w')
    : Calls Tryd.prog 5 #[.agg #[.int .i64 a, .int .i64 b, .int .i64 c, .int .i64 d, .int .i64 e, .int .i64 f], .agg #[.int .i64 a', .int .i64 b', .int .i64 c', .int .i64 d', .int .i64 e', .int .i64 f']] w fun e w' => e = .returned (.bool true) ∧ Below w.heap.size w w' := by
  have HT := Lib.hid ht; clear ht
  replace T0 := Lib.hid T0
  replace T1 := Lib.hid T1
  go_enter Tryd.func5, Tryd.ntmps5
  go_wp2_with fail
  obtain ⟨k1, k2, hB⟩ := boxAA w a b c d e f a' b' c' d' e' f' _ rfl
  generalize World.alloc (World.alloc w _) _ = wb at *
  have HSA := Lib.hid (show ∀ wq, Bel wb wq → Bel wb wq ∧ wq.cell? ⟨w.heap.size, 0, none⟩ = some (.int .i64 a) ∧ wq.cell? ⟨w.heap.size, 1, none⟩ = some (.int .i64 b) ∧ wq.cell? ⟨w.heap.size, 2, none⟩ = some (.int .i64 c) ∧ wq.cell? ⟨w.heap.size, 3, none⟩ = some (.int .i64 d) ∧ wq.cell? ⟨w.heap.size, 4, none⟩ = some (.int .i64 e) ∧ wq.cell? ⟨w.heap.size, 5, none⟩ = some (.int .i64 f) ∧ wq.cell? ⟨w.heap.size + 1, 0, none⟩ = some (.int .i64 a') ∧ wq.cell? ⟨w.heap.size + 1, 1, none⟩ = some (.int .i64 b') ∧ wq.cell? ⟨w.heap.size + 1, 2, none⟩ = some (.int .i64 c') ∧ wq.cell? ⟨w.heap.size + 1, 3, none⟩ = some (.int .i64 d') ∧ wq.cell? ⟨w.heap.size + 1, 4, none⟩ = some (.int .i64 e') ∧ wq.cell? ⟨w.heap.size + 1, 5, none⟩ = some (.int .i64 f') from fun wq hb => ⟨hb, (k1.below hb).six.1.1, (k1.below hb).six.1.2.1, (k1.below hb).six.1.2.2.1, (k1.below hb).six.1.2.2.2.1, (k1.below hb).six.1.2.2.2.2.1, (k1.below hb).six.1.2.2.2.2.2, (k2.below hb).six.1.1, (k2.below hb).six.1.2.1, (k2.below hb).six.1.2.2.1, (k2.below hb).six.1.2.2.2.1, (k2.below hb).six.1.2.2.2.2.1, (k2.below hb).six.1.2.2.2.2.2⟩)
  have HB0 : Bel wb wb := Below.refl _ _
  have hS0 := HSA.out _ (Bel.drew HB0)
  have HB := Lib.hid hB; clear hB k1 k2
  go_region_held3 (fun w' => Bel wb w' ∧ w'.cell? ⟨w.heap.size, 0, none⟩ = some (.int .i64 a) ∧ w'.cell? ⟨w.heap.size, 1, none⟩ = some (.int .i64 b) ∧ w'.cell? ⟨w.heap.size, 2, none⟩ = some (.int .i64 c) ∧ w'.cell? ⟨w.heap.size, 3, none⟩ = some (.int .i64 d) ∧ w'.cell? ⟨w.heap.size, 4, none⟩ = some (.int .i64 e) ∧ w'.cell? ⟨w.heap.size, 5, none⟩ = some (.int .i64 f) ∧ w'.cell? ⟨w.heap.size + 1, 0, none⟩ = some (.int .i64 a') ∧ w'.cell? ⟨w.heap.size + 1, 1, none⟩ = some (.int .i64 b') ∧ w'.cell? ⟨w.heap.size + 1, 2, none⟩ = some (.int .i64 c') ∧ w'.cell? ⟨w.heap.size + 1, 3, none⟩ = some (.int .i64 d') ∧ w'.cell? ⟨w.heap.size + 1, 4, none⟩ = some (.int .i64 e') ∧ w'.cell? ⟨w.heap.size + 1, 5, none⟩ = some (.int .i64 f'))
    (first | assumption | exact hS0 | exact HSA.out _ hBv | go_keep)
    (first | (go_at_call 24; with_reducible refine (T0.out _).mono ?_; rintro z wv ⟨rfl, hbv⟩; have hBv : Bel wb wv := Bel.call (Bel.drew HB0) hbv) | (go_at_call 25; with_reducible refine (T1.out _).mono ?_; rintro z wv ⟨rfl, hbv⟩; have hBv : Bel wb wv := Bel.call hBv hbv) | (go_at_call 15; with_reducible refine (awake_any _ (HT.out.below (bel_trans HB.out hBv.out))).mono ?_; rintro z wv ⟨rfl, hbv⟩; have hBv : Bel wb wv := Bel.call hBv hbv))
  go_wp2_with fail
  go_ret
  exact ⟨rfl, bel_trans HB.out hBv⟩
/-- A transform and a position as values. -/
def AfV (v : Value) (x : Af) : Prop := v = .agg #[.int .i64 x.a, .int .i64 x.b, .int .i64 x.c, .int .i64 x.d, .int .i64 x.e, .int .i64 x.f]
def PtV (v : Value) (x : Int × Int) : Prop := v = .agg #[.int .i64 x.1, .int .i64 x.2]
theorem walk_applies (v0 : Value) (x0 : Af) (v1 : Value) (x1 : Int × Int) (w : World) (ht : Tab w) (h0 : AfV v0 x0) (h1 : PtV v1 x1) : Calls Tryd.prog 3 #[v0, v1] w fun e w' => e = .returned (.bool true) ∧ Below w.heap.size w w' := by
  subst h0; subst h1
  exact applies_core _ _ _ _ _ _ _ _ _ _ _ w ht (fun w => acheck_any _ _ _ _ _ _ w) (fun w => racheck_any _ _ _ _ _ _ w) (fun w => apply_any _ _ _ _ _ _ _ _ w) (fun w => rapply_any _ _ _ _ _ _ _ _ w)
theorem walk_thens (v0 : Value) (x0 : Af) (v1 : Value) (x1 : Af) (w : World) (ht : Tab w) (h0 : AfV v0 x0) (h1 : AfV v1 x1) : Calls Tryd.prog 5 #[v0, v1] w fun e w' => e = .returned (.bool true) ∧ Below w.heap.size w w' := by
  subst h0; subst h1
  exact thens_core _ _ _ _ _ _ _ _ _ _ _ _ _ _ _ _ _ _ w ht (fun w => then_any _ _ _ _ _ _ _ _ _ _ _ _ w) (fun w => rthen_any _ _ _ _ _ _ _ _ _ _ _ _ w)
end Go.Proofs.YtanlnigebbcajaaDoor
