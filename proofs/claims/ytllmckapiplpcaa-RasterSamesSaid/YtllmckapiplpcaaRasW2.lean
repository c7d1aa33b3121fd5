/- The walks of RasterReads, RasterSames, RasterChecks, RasterFlips. -/
import Derived.Test.YtllmckapiplpcaaAwake
import Derived.Test.YtllmckapiplpcaaRasOpen
import Derived.Test.YtllmckapiplpcaaRasW1
import Derived.Test.YtllmckapiplpcaaRBoxA
import Derived.Test.YtllmckapiplpcaaRNew
namespace Go.Proofs.Ytllmckapiplpcaa
open Go.RowKit

set_option maxHeartbeats 2000000 in
theorem reads_core (W H : Int) (A : Option Addr) (c : Nat) (ps : List Px) (x y : Int) (u v : Px) (w : World) (hp : Pixs w w.heap.size (.slice A ps.length c) ps)
    (T1 : ∀ w', Pixs w' w'.heap.size (.slice A ps.length c) ps → Calls Try.prog 21 #[.agg #[.int .i64 W, .int .i64 H, .slice A ps.length c], .int .i64 x, .int .i64 y] w' (PxPost u w'))
    (T2 : ∀ w', Pixs w' w'.heap.size (.slice A ps.length c) ps → Calls Try.prog 22 #[.agg #[.int .i64 W, .int .i64 H, .slice A ps.length c], .int .i64 x, .int .i64 y] w' (PxPost u w'))
    (T3 : ∀ w', Pixs w' w'.heap.size (.slice A ps.length c) ps → Calls Try.prog 23 #[.agg #[.int .i64 W, .int .i64 H, .slice A ps.length c], .int .i64 x, .int .i64 y] w' (PxPost v w'))
    (T4 : ∀ w', Pixs w' w'.heap.size (.slice A ps.length c) ps → Calls Try.prog 24 #[.agg #[.int .i64 W, .int .i64 H, .slice A ps.length c], .int .i64 x, .int .i64 y] w' (PxPost v w')) :
    Calls Try.prog 4 #[.agg #[.int .i64 W, .int .i64 H, .slice A ps.length c], .int .i64 x, .int .i64 y] w fun e w' => e = .returned (.bool true) ∧ Below w.heap.size w w' := by
  have HT1 := Lib.hid T1; have HT2 := Lib.hid T2; have HT3 := Lib.hid T3; have HT4 := Lib.hid T4; clear T1 T2 T3 T4
  go_enter Try.func4, Try.ntmps4
  go_upto_region 1 with fail
  obtain ⟨hb1, hB, -⟩ := one_box w #[.int .i64 W, .int .i64 H, .slice A ps.length c] 24 _ rfl
  replace hp := hp.on hB
  generalize World.alloc w _ = w0 at *
  have HSA := Lib.hid (show ∀ wq, BelA w0 wq → BelA w0 wq ∧ wq.cell? ⟨w.heap.size, 0, none⟩ = some (.int .i64 W) ∧ wq.cell? ⟨w.heap.size, 1, none⟩ = some (.int .i64 H) ∧ wq.cell? ⟨w.heap.size, 2, none⟩ = some (.slice A ps.length c) from fun wq hb => ⟨hb, ((hb1.below hb).three).1.1, ((hb1.below hb).three).1.2.1, ((hb1.below hb).three).1.2.2⟩)
  have Khp := Lib.hid (show ∀ wq, BelA w0 wq → Pixs wq wq.heap.size (.slice A ps.length c) ps from fun wq hb => hp.on hb)
  have hB0 : BelA w0 w0.drew := Below.drew (Below.refl _ _)
  have hS0 : BelA w0 w0.drew ∧ w0.drew.cell? ⟨w.heap.size, 0, none⟩ = some (.int .i64 W) ∧ w0.drew.cell? ⟨w.heap.size, 1, none⟩ = some (.int .i64 H) ∧ w0.drew.cell? ⟨w.heap.size, 2, none⟩ = some (.slice A ps.length c) := HSA.out _ hB0
  have HBB := Lib.hid hB; clear hB hb1 hp
  go_region_held3 (fun w' => BelA w0 w' ∧ w'.cell? ⟨w.heap.size, 0, none⟩ = some (.int .i64 W) ∧ w'.cell? ⟨w.heap.size, 1, none⟩ = some (.int .i64 H) ∧ w'.cell? ⟨w.heap.size, 2, none⟩ = some (.slice A ps.length c))
    (first | assumption | exact hS0 | exact HSA.out _ hBv | go_keep)
    (first | ((with_reducible refine (awake_any _).mono ?_); rintro e wv ⟨rfl, hbv⟩; have hBv : BelA w0 wv := BelA.call hB0 hbv) | ((with_reducible refine (HT1.out _ (Khp.out _ hBv)).mono ?_); rintro e wv ⟨rfl, hbv⟩; have hBv : BelA w0 wv := BelA.call hBv hbv) | ((with_reducible refine (HT2.out _ (Khp.out _ hBv)).mono ?_); rintro e wv ⟨rfl, hbv⟩; have hBv : BelA w0 wv := BelA.call hBv hbv) | ((with_reducible refine (HT3.out _ (Khp.out _ hBv)).mono ?_); rintro e wv ⟨rfl, hbv⟩; have hBv : BelA w0 wv := BelA.call hBv hbv) | ((with_reducible refine (HT4.out _ (Khp.out _ hBv)).mono ?_); rintro e wv ⟨rfl, hbv⟩; have hBv : BelA w0 wv := BelA.call hBv hbv))
  go_wp2_with fail
  go_ret
  exact ⟨rfl, bel_trans HBB.out hBv⟩
theorem walk_reads (v0 : Value) (x0 : Int × Int × List Px) (x y : Int) (w : World) (h0 : ImgV w v0 x0) :
    Calls Try.prog 4 #[v0, .int .i64 x, .int .i64 y] w fun e w' => e = .returned (.bool true) ∧ Below w.heap.size w w' := by
  obtain ⟨⟨A, n, c, rfl, hp⟩, _, _⟩ := h0
  obtain ⟨W, H, ps⟩ := x0
  obtain rfl := hp.len
  exact reads_core W H A c ps x y _ _ w hp (fun w' h => pat_any W H A c ps x y w' h) (fun w' h => rpat_any W H A c ps x y w' h) (fun w' h => edge_any W H A c ps x y w' h) (fun w' h => redge_any W H A c ps x y w' h)
set_option maxHeartbeats 2000000 in
theorem sames_core (W H : Int) (A : Option Addr) (c : Nat) (ps : List Px) (W' H' : Int) (A' : Option Addr) (c' : Nat) (qs : List Px) (b : Bool) (w : World) (hp : Pixs w w.heap.size (.slice A ps.length c) ps) (hq : Pixs w w.heap.size (.slice A' qs.length c') qs)
    (T1 : ∀ w', Pixs w' w'.heap.size (.slice A ps.length c) ps → Pixs w' w'.heap.size (.slice A' qs.length c') qs → Calls Try.prog 25 #[.agg #[.int .i64 W, .int .i64 H, .slice A ps.length c], .agg #[.int .i64 W', .int .i64 H', .slice A' qs.length c']] w' (fun e w'' => e = .returned (.bool b) ∧ Below w'.heap.size w' w''))
    (T2 : ∀ w', Pixs w' w'.heap.size (.slice A ps.length c) ps → Pixs w' w'.heap.size (.slice A' qs.length c') qs → Calls Try.prog 26 #[.agg #[.int .i64 W, .int .i64 H, .slice A ps.length c], .agg #[.int .i64 W', .int .i64 H', .slice A' qs.length c']] w' (fun e w'' => e = .returned (.bool b) ∧ Below w'.heap.size w' w''))
    (T3 : ∀ w', Pixs w' w'.heap.size (.slice A' qs.length c') qs → Calls Try.prog 25 #[.agg #[.int .i64 W', .int .i64 H', .slice A' qs.length c'], .agg #[.int .i64 W', .int .i64 H', .slice A' qs.length c']] w' (fun e w'' => e = .returned (.bool true) ∧ Below w'.heap.size w' w'')) :
    Calls Try.prog 5 #[.agg #[.int .i64 W, .int .i64 H, .slice A ps.length c], .agg #[.int .i64 W', .int .i64 H', .slice A' qs.length c']] w fun e w' => e = .returned (.bool true) ∧ Below w.heap.size w w' := by
  have HT1 := Lib.hid T1; have HT2 := Lib.hid T2; have HT3 := Lib.hid T3; clear T1 T2 T3
  go_enter Try.func5, Try.ntmps5
  go_upto_region 1 with fail
  obtain ⟨hb1, hb2, hB⟩ := two_boxes w #[.int .i64 W, .int .i64 H, .slice A ps.length c] #[.int .i64 W', .int .i64 H', .slice A' qs.length c'] 24 24 _ rfl
  replace hp := hp.on hB
  replace hq := hq.on hB
  generalize World.alloc (World.alloc w _) _ = w0 at *
  have HSA := Lib.hid (show ∀ wq, BelA w0 wq → BelA w0 wq ∧ wq.cell? ⟨w.heap.size, 0, none⟩ = some (.int .i64 W) ∧ wq.cell? ⟨w.heap.size, 1, none⟩ = some (.int .i64 H) ∧ wq.cell? ⟨w.heap.size, 2, none⟩ = some (.slice A ps.length c) ∧ wq.cell? ⟨w.heap.size + 1, 0, none⟩ = some (.int .i64 W') ∧ wq.cell? ⟨w.heap.size + 1, 1, none⟩ = some (.int .i64 H') ∧ wq.cell? ⟨w.heap.size + 1, 2, none⟩ = some (.slice A' qs.length c') from fun wq hb => ⟨hb, ((hb1.below hb).three).1.1, ((hb1.below hb).three).1.2.1, ((hb1.below hb).three).1.2.2, ((hb2.below hb).three).1.1, ((hb2.below hb).three).1.2.1, ((hb2.below hb).three).1.2.2⟩)
  have Khp := Lib.hid (show ∀ wq, BelA w0 wq → Pixs wq wq.heap.size (.slice A ps.length c) ps from fun wq hb => hp.on hb)
  have Khq := Lib.hid (show ∀ wq, BelA w0 wq → Pixs wq wq.heap.size (.slice A' qs.length c') qs from fun wq hb => hq.on hb)
  have hB0 : BelA w0 w0.drew := Below.drew (Below.refl _ _)
  have hS0 : BelA w0 w0.drew ∧ w0.drew.cell? ⟨w.heap.size, 0, none⟩ = some (.int .i64 W) ∧ w0.drew.cell? ⟨w.heap.size, 1, none⟩ = some (.int .i64 H) ∧ w0.drew.cell? ⟨w.heap.size, 2, none⟩ = some (.slice A ps.length c) ∧ w0.drew.cell? ⟨w.heap.size + 1, 0, none⟩ = some (.int .i64 W') ∧ w0.drew.cell? ⟨w.heap.size + 1, 1, none⟩ = some (.int .i64 H') ∧ w0.drew.cell? ⟨w.heap.size + 1, 2, none⟩ = some (.slice A' qs.length c') := HSA.out _ hB0
  have HBB := Lib.hid hB; clear hB hb1 hb2 hp hq
  go_region_held3 (fun w' => BelA w0 w' ∧ w'.cell? ⟨w.heap.size, 0, none⟩ = some (.int .i64 W) ∧ w'.cell? ⟨w.heap.size, 1, none⟩ = some (.int .i64 H) ∧ w'.cell? ⟨w.heap.size, 2, none⟩ = some (.slice A ps.length c) ∧ w'.cell? ⟨w.heap.size + 1, 0, none⟩ = some (.int .i64 W') ∧ w'.cell? ⟨w.heap.size + 1, 1, none⟩ = some (.int .i64 H') ∧ w'.cell? ⟨w.heap.size + 1, 2, none⟩ = some (.slice A' qs.length c'))
    (first | assumption | exact hS0 | exact HSA.out _ hBv | go_keep)
    (first | ((with_reducible refine (awake_any _).mono ?_); rintro e wv ⟨rfl, hbv⟩; have hBv : BelA w0 wv := BelA.call hB0 hbv) | ((with_reducible refine (HT1.out _ (Khp.out _ hBv) (Khq.out _ hBv)).mono ?_); rintro e wv ⟨rfl, hbv⟩; have hBv : BelA w0 wv := BelA.call hBv hbv) | ((with_reducible refine (HT2.out _ (Khp.out _ hBv) (Khq.out _ hBv)).mono ?_); rintro e wv ⟨rfl, hbv⟩; have hBv : BelA w0 wv := BelA.call hBv hbv) | ((with_reducible refine (HT3.out _ (Khq.out _ hBv)).mono ?_); rintro e wv ⟨rfl, hbv⟩; have hBv : BelA w0 wv := BelA.call hBv hbv))
  go_wp2_with fail
  go_ret
  exact ⟨rfl, bel_trans HBB.out hBv⟩
theorem walk_sames (v0 : Value) (x0 : Int × Int × List Px) (v1 : Value) (x1 : Int × Int × List Px) (w : World) (h0 : ImgV w v0 x0) (h1 : ImgV w v1 x1) :
    Calls Try.prog 5 #[v0, v1] w fun e w' => e = .returned (.bool true) ∧ Below w.heap.size w w' := by
  obtain ⟨⟨A, n, c, rfl, hp⟩, _, _⟩ := h0
  obtain ⟨W, H, ps⟩ := x0
  obtain rfl := hp.len
  obtain ⟨⟨A', n', c', rfl, hq⟩, _, _⟩ := h1
  obtain ⟨W', H', qs⟩ := x1
  obtain rfl := hq.len
  exact sames_core W H A c ps W' H' A' c' qs _ w hp hq (fun w' h h' => psame_any W H W' H' _ _ ps qs w' h h') (fun w' h h' => rsame_any W H W' H' _ _ ps qs w' h h') (fun w' h => ex_same w' W' H' W' H' _ _ qs qs true (by simp) h h)
end Go.Proofs.Ytllmckapiplpcaa
