/- The walk of AdjustHsls. -/
import Derived.Test.YtmbglkholoblaaaDoorAdjV
import Derived.Test.YtmbglkholoblaaaDoorAdjLaid
namespace Go.Proofs.YtmbglkholoblaaaDoor
open Go.RowKit
attribute [local go_sem] eq3

/-- The world has grown (hidden). -/
def Bel (w w' : World) : Prop := Below w.heap.size w w'
theorem Bel.call {w w1 w2 : World} (h : Bel w w1) (hb : Below w1.heap.size w1 w2) : Bel w w2 := bel_trans h hb
set_option maxRecDepth 100000 in
set_option maxHeartbeats 4000000 in
theorem hsls_core (p m : Px) (t1 t2 t3 h s l a : Int) (w : World)
    (T0 : ∀ w', Below w.heap.size w w' → Calls Tryd.prog 14 #[] w' fun e w'' => e = .returned (.bool true) ∧ Below w'.heap.size w' w'')
    (T1 : ∀ w', Calls Tryd.prog 15 #[.agg #[.int .i64 p.r, .int .i64 p.g, .int .i64 p.b, .int .i64 p.a]] w' (TriPost (t1, t2, t3) w'))
    (T2 : ∀ w', Calls Tryd.prog 16 #[.agg #[.int .i64 p.r, .int .i64 p.g, .int .i64 p.b, .int .i64 p.a]] w' (TriPost (t1, t2, t3) w'))
    (T3 : ∀ w', Calls Tryd.prog 17 #[.agg #[.int .i64 h, .int .i64 s, .int .i64 l], .int .i64 a] w' (PxPost m w'))
    (T4 : ∀ w', Calls Tryd.prog 18 #[.agg #[.int .i64 h, .int .i64 s, .int .i64 l], .int .i64 a] w' (PxPost m w')) :
    Calls Tryd.prog 4 #[.agg #[.int .i64 p.r, .int .i64 p.g, .int .i64 p.b, .int .i64 p.a], .agg #[.int .i64 h, .int .i64 s, .int .i64 l], .int .i64 a] w fun e w' => e = .returned (.bool true) ∧ Below w.heap.size w w' := by
  have HT1 := Lib.hid T1; have HT2 := Lib.hid T2; have HT3 := Lib.hid T3; have HT4 := Lib.hid T4
  clear T1 T2 T3 T4
  go_enter Tryd.func4, Tryd.ntmps4
  go_upto_region 1 with fail
  obtain ⟨hb3, hb4, hB⟩ := two_boxes w #[.int .i64 p.r, .int .i64 p.g, .int .i64 p.b, .int .i64 p.a] #[.int .i64 h, .int .i64 s, .int .i64 l] 25 31 _ rfl
  generalize World.alloc (World.alloc w _) _ = w0 at *
  have HSA := Lib.hid (show ∀ wq, Bel w0 wq → Bel w0 wq ∧ wq.cell? ⟨w.heap.size, 0, none⟩ = some (.int .i64 p.r) ∧ wq.cell? ⟨w.heap.size, 1, none⟩ = some (.int .i64 p.g) ∧ wq.cell? ⟨w.heap.size, 2, none⟩ = some (.int .i64 p.b) ∧ wq.cell? ⟨w.heap.size, 3, none⟩ = some (.int .i64 p.a) ∧ wq.cell? ⟨w.heap.size + 1, 0, none⟩ = some (.int .i64 h) ∧ wq.cell? ⟨w.heap.size + 1, 1, none⟩ = some (.int .i64 s) ∧ wq.cell? ⟨w.heap.size + 1, 2, none⟩ = some (.int .i64 l) from fun wq hb => ⟨hb, (hb3.below hb).four.1.1, (hb3.below hb).four.1.2.1, (hb3.below hb).four.1.2.2.1, (hb3.below hb).four.1.2.2.2, (hb4.below hb).three.1.1, (hb4.below hb).three.1.2.1, (hb4.below hb).three.1.2.2⟩)
  have HT0 := Lib.hid (fun wq (hb : Bel w0 wq) => T0 wq (bel_trans hB hb))
  have hBv : Bel w0 w0.drew := (Below.refl w0.heap.size w0).drew
  have hS0 := HSA.out _ hBv
  have HB := Lib.hid hB
  clear hB hb3 hb4 T0
  go_region_held3 (fun wq => Bel w0 wq ∧ wq.cell? ⟨w.heap.size, 0, none⟩ = some (.int .i64 p.r) ∧ wq.cell? ⟨w.heap.size, 1, none⟩ = some (.int .i64 p.g) ∧ wq.cell? ⟨w.heap.size, 2, none⟩ = some (.int .i64 p.b) ∧ wq.cell? ⟨w.heap.size, 3, none⟩ = some (.int .i64 p.a) ∧ wq.cell? ⟨w.heap.size + 1, 0, none⟩ = some (.int .i64 h) ∧ wq.cell? ⟨w.heap.size + 1, 1, none⟩ = some (.int .i64 s) ∧ wq.cell? ⟨w.heap.size + 1, 2, none⟩ = some (.int .i64 l))
    (first | assumption | exact hS0 | exact HSA.out _ hBv | go_keep)
    (first | ((with_reducible refine (HT0.out _ hBv).mono ?_); rintro e wv ⟨rfl, hbv⟩; have hBv := Bel.call hBv hbv) | ((with_reducible refine (HT1.out _).mono ?_); rintro e wv ⟨rfl, hbv⟩; have hBv := Bel.call hBv hbv) | ((with_reducible refine (HT2.out _).mono ?_); rintro e wv ⟨rfl, hbv⟩; have hBv := Bel.call hBv hbv) | ((with_reducible refine (HT3.out _).mono ?_); rintro e wv ⟨rfl, hbv⟩; have hBv := Bel.call hBv hbv) | ((with_reducible refine (HT4.out _).mono ?_); rintro e wv ⟨rfl, hbv⟩; have hBv := Bel.call hBv hbv))
  all_goals go_wp2_with fail
  all_goals go_ret
  all_goals exact ⟨by simp, bel_trans HB.out hBv⟩
theorem walk_hsls (v0 : Value) (p : Px) (v1 : Value) (x : Int × Int × Int) (a : Int) (w : World) (hT : Tab w) (h0 : PxV v0 p) (h1 : ArV v1 x) (_ : in64 a) :
    Calls Tryd.prog 4 #[v0, v1, .int .i64 a] w fun e w' => e = .returned (.bool true) ∧ Below w.heap.size w w' := by
  obtain ⟨rfl, _⟩ := h0
  obtain rfl := h1
  exact hsls_core p _ _ _ _ _ _ _ a w (fun w' hb => awake_any w' (hT.below hb)) (fun w' => tohsl_any p w') (fun w' => rtohsl_any p w') (fun w' => fromhsl_any _ _ _ a w') (fun w' => rfromhsl_any _ _ _ a w')
end Go.Proofs.YtmbglkholoblaaaDoor
