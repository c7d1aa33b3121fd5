/- Needs: the program's and the reference's. -/
import Derived.Test.YtineinmghajmnaaMG
import Derived.Test.YtineinmghajmnaaMR
import Derived.Test.YtineinmghajmnaaMD
import Derived.Test.YtineinmghajmnaaMK
import Derived.Deep.RegionHeld3
namespace Go.Proofs.Ytineinmghajmnaa
open Go.RowKit
/-- A rectangle and an error. -/
def RkE (E : Int) (r : Rk) (w : World) (e : Ending) (w' : World) : Prop := e = .returned (.tuple #[.agg #[.int .i64 r.x, .int .i64 r.y, .int .i64 r.w, .int .i64 r.h], .int .i64 E]) ∧ Below w.heap.size w w'
/-- What Needs answers. -/
def sNeed (a : Af) (kind : Int) (o : Rk) : Rk × Int :=
  if rvalid o.x o.y o.w o.h = true then (if vld kind = true then (if a.inv.2 = 0 then (if (a.inv.1.boxE ⟨o.x, o.y, o.w, o.h⟩).2 = 0 then
    (Rk.grow ⟨(a.inv.1.boxE ⟨o.x, o.y, o.w, o.h⟩).1.x, (a.inv.1.boxE ⟨o.x, o.y, o.w, o.h⟩).1.y, (a.inv.1.boxE ⟨o.x, o.y, o.w, o.h⟩).1.w, (a.inv.1.boxE ⟨o.x, o.y, o.w, o.h⟩).1.h⟩ (spt kind + 1), 0)
    else (⟨0, 0, 0, 0⟩, (a.inv.1.boxE ⟨o.x, o.y, o.w, o.h⟩).2)) else (⟨0, 0, 0, 0⟩, a.inv.2)) else (⟨0, 0, 0, 0⟩, 8)) else (⟨0, 0, 0, 0⟩, 2)
set_option maxRecDepth 100000 in
set_option maxHeartbeats 8000000 in
theorem needs_no (kind IE BE Er : Int) (a bk : Af) (o : Rk) (bo : Rc) (V KV : Bool) (w : World)
    (tt : (V = false ∧ Er = 2) ∨ (V = true ∧ ((KV = false ∧ Er = 8) ∨ (KV = true ∧ (((IE != 0) = true ∧ Er = IE) ∨ ((IE != 0) = false ∧ (BE != 0) = true ∧ Er = BE))))))
    (TV : ∀ w, Calls Try.prog 35 #[.agg #[.int .i64 o.x, .int .i64 o.y, .int .i64 o.w, .int .i64 o.h]] w fun e w' => e = .returned (.bool V) ∧ Below w.heap.size w w')
    (TK : ∀ w, Calls Try.prog 28 #[.int .i64 kind] w fun e w' => e = .returned (.bool KV) ∧ w = w')
    (TI : ∀ w, Calls Try.prog 36 #[.agg #[.int .i64 a.a, .int .i64 a.b, .int .i64 a.c, .int .i64 a.d, .int .i64 a.e, .int .i64 a.f]] w fun e w' => e = .returned (.tuple #[.agg #[.int .i64 bk.a, .int .i64 bk.b, .int .i64 bk.c, .int .i64 bk.d, .int .i64 bk.e, .int .i64 bk.f], .int .i64 IE]) ∧ Below w.heap.size w w')
    (TB : ∀ w, Calls Try.prog 43 #[.agg #[.int .i64 bk.a, .int .i64 bk.b, .int .i64 bk.c, .int .i64 bk.d, .int .i64 bk.e, .int .i64 bk.f], .agg #[.int .i64 o.x, .int .i64 o.y, .int .i64 o.w, .int .i64 o.h]] w fun e w' => e = .returned (.tuple #[.agg #[.int .i64 bo.x, .int .i64 bo.y, .int .i64 bo.w, .int .i64 bo.h], .int .i64 BE]) ∧ Below w.heap.size w w') :
    Calls Try.prog 17 #[.agg #[.int .i64 a.a, .int .i64 a.b, .int .i64 a.c, .int .i64 a.d, .int .i64 a.e, .int .i64 a.f], .int .i64 kind, .agg #[.int .i64 o.x, .int .i64 o.y, .int .i64 o.w, .int .i64 o.h]] w (RkE Er ⟨0, 0, 0, 0⟩ w) := by
  replace TV := Lib.hid TV; replace TK := Lib.hid TK; replace TI := Lib.hid TI; replace TB := Lib.hid TB; replace tt := Lib.hid tt
  go_enter Try.func17, Try.ntmps17
  go_upto_region 1 with fail
  have K := Lib.hid (fr_three w #[.int .i64 a.a, .int .i64 a.b, .int .i64 a.c, .int .i64 a.d, .int .i64 a.e, .int .i64 a.f] #[.int .i64 o.x, .int .i64 o.y, .int .i64 o.w, .int .i64 o.h] #[.int .i64 0, .int .i64 0, .int .i64 0, .int .i64 0] 31 33 33 _ rfl)
  generalize World.alloc (World.alloc (w.alloc _) _) _ = w0 at *
  obtain ⟨⟨j1, j2, j3, j4⟩, -⟩ := K.out.1.2.1.four
  go_wp2_with fail
  refine (TV.out _).mono ?_
  rintro e w2 ⟨rfl, hb⟩
  replace K := Lib.hid (K.out.below hb)
  clear hb j1 j2 j3 j4
  rcases tt.out with ⟨rfl, rfl⟩ | ⟨rfl, tt2⟩
  · clear tt
    obtain ⟨⟨r1, r2, r3, r4⟩, f1, f2, f3, f4⟩ := K.out.1.2.2.1.four
    have HB := Lib.hid K.out.2
    clear K
    go_wp2_with fail
    refine bodyPost_ret (v := .tuple #[.agg #[.int .i64 0, .int .i64 0, .int .i64 0, .int .i64 0], .int .i64 2]) (by simp [results, Try.results17, go_sem, r1, r2, r3, r4]) rfl ⟨rfl, ?_⟩
    exact set4_below HB.out (by omega) _ _ _ _ _ _ _ _
  clear tt
  replace tt2 := Lib.hid tt2
  go_wp2_with fail
  refine (TK.out _).mono ?_
  rintro e w3 ⟨rfl, rfl⟩
  rcases tt2.out with ⟨rfl, rfl⟩ | ⟨rfl, tt3⟩
  · clear tt2
    obtain ⟨⟨r1, r2, r3, r4⟩, f1, f2, f3, f4⟩ := K.out.1.2.2.1.four
    have HB := Lib.hid K.out.2
    clear K
    go_wp2_with fail
    refine bodyPost_ret (v := .tuple #[.agg #[.int .i64 0, .int .i64 0, .int .i64 0, .int .i64 0], .int .i64 8]) (by simp [results, Try.results17, go_sem, r1, r2, r3, r4]) rfl ⟨rfl, ?_⟩
    exact set4_below HB.out (by omega) _ _ _ _ _ _ _ _
  clear tt2
  replace tt3 := Lib.hid tt3
  obtain ⟨⟨k1, k2, k3, k4, k5, k6⟩, -⟩ := K.out.1.1.six
  go_wp2_with fail
  refine (TI.out _).mono ?_
  rintro e w4 ⟨rfl, hb⟩
  replace K := Lib.hid (K.out.below hb)
  clear hb k1 k2 k3 k4 k5 k6
  go_upto_region 6 with fail
  have H8 := Lib.hid (Bx.new w4 31 #[.int .i64 bk.a, .int .i64 bk.b, .int .i64 bk.c, .int .i64 bk.d, .int .i64 bk.e, .int .i64 bk.f])
  replace K := Lib.hid (K.out.below (bel1 w4 (.cells #[.int .i64 bk.a, .int .i64 bk.b, .int .i64 bk.c, .int .i64 bk.d, .int .i64 bk.e, .int .i64 bk.f] 31)))
  generalize World.alloc w4 _ = w5 at *
  generalize w4.heap.size = g8 at *
  rcases tt3.out with ⟨d1, rfl⟩ | ⟨d1, d2, rfl⟩
  · clear tt3 H8
    obtain ⟨⟨r1, r2, r3, r4⟩, f1, f2, f3, f4⟩ := K.out.1.2.2.1.four
    have HB := Lib.hid K.out.2
    clear K
    go_wp2_with fail
    refine bodyPost_ret (v := .tuple #[.agg #[.int .i64 0, .int .i64 0, .int .i64 0, .int .i64 0], .int .i64 Er]) (by simp [results, Try.results17, go_sem, r1, r2, r3, r4]) rfl ⟨rfl, ?_⟩
    exact set4_below HB.out (by omega) _ _ _ _ _ _ _ _
  clear tt3
  obtain ⟨⟨k1, k2, k3, k4, k5, k6⟩, -⟩ := H8.out.six
  obtain ⟨⟨j1, j2, j3, j4⟩, -⟩ := K.out.1.2.1.four
  go_wp2_with fail
  refine (TB.out _).mono ?_
  rintro e w6 ⟨rfl, hb⟩
  replace K := Lib.hid (K.out.below hb)
  clear hb k1 k2 k3 k4 k5 k6 j1 j2 j3 j4 H8
  go_upto_region 9 with fail
  have H10 := Lib.hid (Bx.new w6 33 #[.int .i64 bo.x, .int .i64 bo.y, .int .i64 bo.w, .int .i64 bo.h])
  have hlo10 : w.heap.size + 3 ≤ w6.heap.size := by have := K.out.1.2.2.1.lt; omega
  replace K := Lib.hid (K.out.below (bel1 w6 (.cells #[.int .i64 bo.x, .int .i64 bo.y, .int .i64 bo.w, .int .i64 bo.h] 33)))
  generalize World.alloc w6 _ = w7 at *
  generalize w6.heap.size = g10 at *
  clear hlo10 H10
  obtain ⟨⟨r1, r2, r3, r4⟩, f1, f2, f3, f4⟩ := K.out.1.2.2.1.four
  have HB := Lib.hid K.out.2
  clear K
  go_wp2_with fail
  refine bodyPost_ret (v := .tuple #[.agg #[.int .i64 0, .int .i64 0, .int .i64 0, .int .i64 0], .int .i64 Er]) (by simp [results, Try.results17, go_sem, r1, r2, r3, r4]) rfl ⟨rfl, ?_⟩
  exact set4_below HB.out (by omega) _ _ _ _ _ _ _ _
set_option maxRecDepth 100000 in
set_option maxHeartbeats 8000000 in
theorem needs_ok (kind S : Int) (a bk : Af) (o r : Rk) (bo : Rc) (w : World) (hS : -100 ≤ S ∧ S ≤ 100)
    (TV : ∀ w, Calls Try.prog 35 #[.agg #[.int .i64 o.x, .int .i64 o.y, .int .i64 o.w, .int .i64 o.h]] w fun e w' => e = .returned (.bool true) ∧ Below w.heap.size w w')
    (TK : ∀ w, Calls Try.prog 28 #[.int .i64 kind] w fun e w' => e = .returned (.bool true) ∧ w = w')
    (TI : ∀ w, Calls Try.prog 36 #[.agg #[.int .i64 a.a, .int .i64 a.b, .int .i64 a.c, .int .i64 a.d, .int .i64 a.e, .int .i64 a.f]] w fun e w' => e = .returned (.tuple #[.agg #[.int .i64 bk.a, .int .i64 bk.b, .int .i64 bk.c, .int .i64 bk.d, .int .i64 bk.e, .int .i64 bk.f], .int .i64 0]) ∧ Below w.heap.size w w')
    (TB : ∀ w, Calls Try.prog 43 #[.agg #[.int .i64 bk.a, .int .i64 bk.b, .int .i64 bk.c, .int .i64 bk.d, .int .i64 bk.e, .int .i64 bk.f], .agg #[.int .i64 o.x, .int .i64 o.y, .int .i64 o.w, .int .i64 o.h]] w fun e w' => e = .returned (.tuple #[.agg #[.int .i64 bo.x, .int .i64 bo.y, .int .i64 bo.w, .int .i64 bo.h], .int .i64 0]) ∧ Below w.heap.size w w')
    (TS : ∀ w, Calls Try.prog 45 #[.int .i64 kind] w fun e w' => e = .returned (.int .i64 S) ∧ w = w')
    (TG : ∀ w, Calls Try.prog 44 #[.agg #[.int .i64 bo.x, .int .i64 bo.y, .int .i64 bo.w, .int .i64 bo.h], .int .i64 (S + 1)] w (RkPost r w)) :
    Calls Try.prog 17 #[.agg #[.int .i64 a.a, .int .i64 a.b, .int .i64 a.c, .int .i64 a.d, .int .i64 a.e, .int .i64 a.f], .int .i64 kind, .agg #[.int .i64 o.x, .int .i64 o.y, .int .i64 o.w, .int .i64 o.h]] w (RkE 0 r w) := by
  replace TV := Lib.hid TV; replace TK := Lib.hid TK; replace TI := Lib.hid TI; replace TB := Lib.hid TB; replace TS := Lib.hid TS; replace TG := Lib.hid TG
  go_enter Try.func17, Try.ntmps17
  go_upto_region 1 with fail
  have K := Lib.hid (fr_three w #[.int .i64 a.a, .int .i64 a.b, .int .i64 a.c, .int .i64 a.d, .int .i64 a.e, .int .i64 a.f] #[.int .i64 o.x, .int .i64 o.y, .int .i64 o.w, .int .i64 o.h] #[.int .i64 0, .int .i64 0, .int .i64 0, .int .i64 0] 31 33 33 _ rfl)
  generalize World.alloc (World.alloc (w.alloc _) _) _ = w0 at *
  obtain ⟨⟨j1, j2, j3, j4⟩, -⟩ := K.out.1.2.1.four
  go_wp2_with fail
  refine (TV.out _).mono ?_
  rintro e w2 ⟨rfl, hb⟩
  replace K := Lib.hid (K.out.below hb)
  clear hb j1 j2 j3 j4
  go_wp2_with fail
  refine (TK.out _).mono ?_
  rintro e w3 ⟨rfl, rfl⟩
  obtain ⟨⟨k1, k2, k3, k4, k5, k6⟩, -⟩ := K.out.1.1.six
  go_wp2_with fail
  refine (TI.out _).mono ?_
  rintro e w4 ⟨rfl, hb⟩
  replace K := Lib.hid (K.out.below hb)
  clear hb k1 k2 k3 k4 k5 k6
  go_upto_region 6 with fail
  have H8 := Lib.hid (Bx.new w4 31 #[.int .i64 bk.a, .int .i64 bk.b, .int .i64 bk.c, .int .i64 bk.d, .int .i64 bk.e, .int .i64 bk.f])
  replace K := Lib.hid (K.out.below (bel1 w4 (.cells #[.int .i64 bk.a, .int .i64 bk.b, .int .i64 bk.c, .int .i64 bk.d, .int .i64 bk.e, .int .i64 bk.f] 31)))
  generalize World.alloc w4 _ = w5 at *
  generalize w4.heap.size = g8 at *
  obtain ⟨⟨k1, k2, k3, k4, k5, k6⟩, -⟩ := H8.out.six
  obtain ⟨⟨j1, j2, j3, j4⟩, -⟩ := K.out.1.2.1.four
  go_wp2_with fail
  refine (TB.out _).mono ?_
  rintro e w6 ⟨rfl, hb⟩
  replace K := Lib.hid (K.out.below hb)
  clear hb k1 k2 k3 k4 k5 k6 j1 j2 j3 j4 H8
  go_upto_region 9 with fail
  have H10 := Lib.hid (Bx.new w6 33 #[.int .i64 bo.x, .int .i64 bo.y, .int .i64 bo.w, .int .i64 bo.h])
  have hlo10 : w.heap.size + 3 ≤ w6.heap.size := by have := K.out.1.2.2.1.lt; omega
  replace K := Lib.hid (K.out.below (bel1 w6 (.cells #[.int .i64 bo.x, .int .i64 bo.y, .int .i64 bo.w, .int .i64 bo.h] 33)))
  generalize World.alloc w6 _ = w7 at *
  generalize w6.heap.size = g10 at *
  have q1 := wrap_in (S + 1) (by omega)
  go_upto_region 11 with fail
  have hb10 := H10.out; have hbr := K.out.1.2.2.1; have hB := K.out.2
  have HSA := Lib.hid (show ∀ wq, RSt 33 (w.heap.size + 1 + 1) w7 wq → (wq.cell? ⟨g10, 0, none⟩ = some (.int .i64 bo.x) ∧ wq.cell? ⟨g10, 1, none⟩ = some (.int .i64 bo.y) ∧ wq.cell? ⟨g10, 2, none⟩ = some (.int .i64 bo.w) ∧ wq.cell? ⟨g10, 3, none⟩ = some (.int .i64 bo.h)) ∧ (wq.cell? ⟨w.heap.size + 1 + 1, 0, none⟩ = some (cv wq (w.heap.size + 1 + 1) 0) ∧ wq.cell? ⟨w.heap.size + 1 + 1, 1, none⟩ = some (cv wq (w.heap.size + 1 + 1) 1) ∧ wq.cell? ⟨w.heap.size + 1 + 1, 2, none⟩ = some (cv wq (w.heap.size + 1 + 1) 2) ∧ wq.cell? ⟨w.heap.size + 1 + 1, 3, none⟩ = some (cv wq (w.heap.size + 1 + 1) 3)) ∧ wq.frozen? ⟨w.heap.size + 1 + 1, 0, none⟩ = false ∧ wq.frozen? ⟨w.heap.size + 1 + 1, 1, none⟩ = false ∧ wq.frozen? ⟨w.heap.size + 1 + 1, 2, none⟩ = false ∧ wq.frozen? ⟨w.heap.size + 1 + 1, 3, none⟩ = false from
    fun wq h => ⟨(h.bx hb10 (by omega)).four.1, h.cvs.1, h.cvs.2⟩)
  have HSP := Lib.hid (fun wq (h : RSt 33 (w.heap.size + 1 + 1) w7 wq) a b c d => HSA.out _ (h.put a b c d))
  have hBv : RSt 33 (w.heap.size + 1 + 1) w7 w7.drew := RSt.start hbr
  have hS0 := HSA.out _ hBv
  have HB := Lib.hid hB
  clear hB hb10 hbr K H10 TV TK TI TB hS hlo10
  go_region_held3 (fun wq => (wq.cell? ⟨g10, 0, none⟩ = some (.int .i64 bo.x) ∧ wq.cell? ⟨g10, 1, none⟩ = some (.int .i64 bo.y) ∧ wq.cell? ⟨g10, 2, none⟩ = some (.int .i64 bo.w) ∧ wq.cell? ⟨g10, 3, none⟩ = some (.int .i64 bo.h)) ∧ (wq.cell? ⟨w.heap.size + 1 + 1, 0, none⟩ = some (cv wq (w.heap.size + 1 + 1) 0) ∧ wq.cell? ⟨w.heap.size + 1 + 1, 1, none⟩ = some (cv wq (w.heap.size + 1 + 1) 1) ∧ wq.cell? ⟨w.heap.size + 1 + 1, 2, none⟩ = some (cv wq (w.heap.size + 1 + 1) 2) ∧ wq.cell? ⟨w.heap.size + 1 + 1, 3, none⟩ = some (cv wq (w.heap.size + 1 + 1) 3)) ∧ wq.frozen? ⟨w.heap.size + 1 + 1, 0, none⟩ = false ∧ wq.frozen? ⟨w.heap.size + 1 + 1, 1, none⟩ = false ∧ wq.frozen? ⟨w.heap.size + 1 + 1, 2, none⟩ = false ∧ wq.frozen? ⟨w.heap.size + 1 + 1, 3, none⟩ = false)
    (first | assumption | exact hS0 | exact HSA.out _ hBv | exact HSP.out _ hBv _ _ _ _ | go_keep)
    (first | ((with_reducible refine (TS.out _).mono ?_); rintro e wv ⟨rfl, rfl⟩) | ((with_reducible refine (TG.out _).mono ?_); rintro e wv ⟨rfl, hbv⟩; have hBv := RSt.call hBv hbv))
  obtain ⟨⟨r1, r2, r3, r4⟩, f1, f2, f3, f4⟩ := hBv.cvs
  go_wp2_with fail
  refine bodyPost_ret (v := .tuple #[.agg #[.int .i64 r.x, .int .i64 r.y, .int .i64 r.w, .int .i64 r.h], .int .i64 0]) (by simp [results, Try.results17, go_sem, r1, r2, r3, r4]) rfl ⟨rfl, ?_⟩
  exact set4_below (hBv.bel HB.out (by omega)) (by omega) _ _ _ _ _ _ _ _
theorem needs_any (a : Af) (kind : Int) (o : Rk) (w : World) :
    Calls Try.prog 17 #[.agg #[.int .i64 a.a, .int .i64 a.b, .int .i64 a.c, .int .i64 a.d, .int .i64 a.e, .int .i64 a.f], .int .i64 kind, .agg #[.int .i64 o.x, .int .i64 o.y, .int .i64 o.w, .int .i64 o.h]] w (RkE (sNeed a kind o).2 (sNeed a kind o).1 w) := by
  have TV := fun w => valid_any o.x o.y o.w o.h w
  have TK := fun w => kvalid_any kind w
  have TI := fun w => inverse_any a.a a.b a.c a.d a.e a.f w
  have TB := fun w => pbox_any a.inv.1.a a.inv.1.b a.inv.1.c a.inv.1.d a.inv.1.e a.inv.1.f o.x o.y o.w o.h w
  have TS := fun w => support_any kind w
  have TG := fun w => grow_any (a.inv.1.boxE ⟨o.x, o.y, o.w, o.h⟩).1.x (a.inv.1.boxE ⟨o.x, o.y, o.w, o.h⟩).1.y (a.inv.1.boxE ⟨o.x, o.y, o.w, o.h⟩).1.w (a.inv.1.boxE ⟨o.x, o.y, o.w, o.h⟩).1.h (spt kind + 1) w
  have hs : -100 ≤ spt kind ∧ spt kind ≤ 100 := by unfold spt; split <;> (try split) <;> omega
  unfold sNeed
  by_cases hv : rvalid o.x o.y o.w o.h = true
  rotate_left
  · rw [if_neg hv]
    rw [Bool.not_eq_true] at hv
    exact needs_no kind _ _ 2 a _ o _ _ _ w (.inl ⟨hv, rfl⟩) TV TK TI TB
  rw [if_pos hv]
  by_cases hk : vld kind = true
  rotate_left
  · rw [if_neg hk]
    rw [Bool.not_eq_true] at hk
    exact needs_no kind _ _ 8 a _ o _ _ _ w (.inr ⟨hv, .inl ⟨hk, rfl⟩⟩) TV TK TI TB
  rw [if_pos hk]
  by_cases hi : a.inv.2 = 0
  rotate_left
  · rw [if_neg hi]
    exact needs_no kind _ _ a.inv.2 a _ o _ _ _ w (.inr ⟨hv, .inr ⟨hk, .inl ⟨by simpa using hi, rfl⟩⟩⟩) TV TK TI TB
  rw [if_pos hi]
  by_cases hb : (a.inv.1.boxE ⟨o.x, o.y, o.w, o.h⟩).2 = 0
  rotate_left
  · rw [if_neg hb]
    exact needs_no kind _ _ _ a _ o _ _ _ w (.inr ⟨hv, .inr ⟨hk, .inr ⟨by simpa using hi, by simpa using hb, rfl⟩⟩⟩) TV TK TI TB
  rw [if_pos hb]
  refine needs_ok kind (spt kind) a a.inv.1 o _ (a.inv.1.boxE ⟨o.x, o.y, o.w, o.h⟩).1 w hs (fun w => ?_) (fun w => ?_) (fun w => ?_) (fun w => ?_) TS TG
  · have := TV w; rw [hv] at this; exact this
  · have := TK w; rw [hk] at this; exact this
  · have := TI w; rw [show (Af.mk a.a a.b a.c a.d a.e a.f) = a from rfl, hi] at this; exact this
  · have := TB w; rw [show (Af.mk a.inv.1.a a.inv.1.b a.inv.1.c a.inv.1.d a.inv.1.e a.inv.1.f) = a.inv.1 from rfl, hb] at this; exact this
set_option maxRecDepth 100000 in
set_option maxHeartbeats 8000000 in
theorem rneeds_no (kind IE BE Er : Int) (a bk : Af) (o : Rk) (bo : Rc) (V KV : Bool) (w : World)
    (tt : (V = false ∧ Er = 2) ∨ (V = true ∧ ((KV = false ∧ Er = 8) ∨ (KV = true ∧ (((IE != 0) = true ∧ Er = IE) ∨ ((IE != 0) = false ∧ (BE != 0) = true ∧ Er = BE))))))
    (TV : ∀ w, Calls Try.prog 39 #[.agg #[.int .i64 o.x, .int .i64 o.y, .int .i64 o.w, .int .i64 o.h]] w fun e w' => e = .returned (.bool V) ∧ Below w.heap.size w w')
    (TK : ∀ w, Calls Try.prog 32 #[.int .i64 kind] w fun e w' => e = .returned (.bool KV) ∧ w = w')
    (TI : ∀ w, Calls Try.prog 40 #[.agg #[.int .i64 a.a, .int .i64 a.b, .int .i64 a.c, .int .i64 a.d, .int .i64 a.e, .int .i64 a.f]] w fun e w' => e = .returned (.tuple #[.agg #[.int .i64 bk.a, .int .i64 bk.b, .int .i64 bk.c, .int .i64 bk.d, .int .i64 bk.e, .int .i64 bk.f], .int .i64 IE]) ∧ Below w.heap.size w w')
    (TB : ∀ w, Calls Try.prog 46 #[.agg #[.int .i64 bk.a, .int .i64 bk.b, .int .i64 bk.c, .int .i64 bk.d, .int .i64 bk.e, .int .i64 bk.f], .agg #[.int .i64 o.x, .int .i64 o.y, .int .i64 o.w, .int .i64 o.h]] w fun e w' => e = .returned (.tuple #[.agg #[.int .i64 bo.x, .int .i64 bo.y, .int .i64 bo.w, .int .i64 bo.h], .int .i64 BE]) ∧ Below w.heap.size w w') :
    Calls Try.prog 18 #[.agg #[.int .i64 a.a, .int .i64 a.b, .int .i64 a.c, .int .i64 a.d, .int .i64 a.e, .int .i64 a.f], .int .i64 kind, .agg #[.int .i64 o.x, .int .i64 o.y, .int .i64 o.w, .int .i64 o.h]] w (RkE Er ⟨0, 0, 0, 0⟩ w) := by
  replace TV := Lib.hid TV; replace TK := Lib.hid TK; replace TI := Lib.hid TI; replace TB := Lib.hid TB; replace tt := Lib.hid tt
  go_enter Try.func18, Try.ntmps18
  go_upto_region 1 with fail
  have K := Lib.hid (fr_three w #[.int .i64 a.a, .int .i64 a.b, .int .i64 a.c, .int .i64 a.d, .int .i64 a.e, .int .i64 a.f] #[.int .i64 o.x, .int .i64 o.y, .int .i64 o.w, .int .i64 o.h] #[.int .i64 0, .int .i64 0, .int .i64 0, .int .i64 0] 31 33 33 _ rfl)
  generalize World.alloc (World.alloc (w.alloc _) _) _ = w0 at *
  obtain ⟨⟨j1, j2, j3, j4⟩, -⟩ := K.out.1.2.1.four
  go_wp2_with fail
  refine (TV.out _).mono ?_
  rintro e w2 ⟨rfl, hb⟩
  replace K := Lib.hid (K.out.below hb)
  clear hb j1 j2 j3 j4
  rcases tt.out with ⟨rfl, rfl⟩ | ⟨rfl, tt2⟩
  · clear tt
    obtain ⟨⟨r1, r2, r3, r4⟩, f1, f2, f3, f4⟩ := K.out.1.2.2.1.four
    have HB := Lib.hid K.out.2
    clear K
    go_wp2_with fail
    refine bodyPost_ret (v := .tuple #[.agg #[.int .i64 0, .int .i64 0, .int .i64 0, .int .i64 0], .int .i64 2]) (by simp [results, Try.results18, go_sem, r1, r2, r3, r4]) rfl ⟨rfl, ?_⟩
    exact set4_below HB.out (by omega) _ _ _ _ _ _ _ _
  clear tt
  replace tt2 := Lib.hid tt2
  go_wp2_with fail
  refine (TK.out _).mono ?_
  rintro e w3 ⟨rfl, rfl⟩
  rcases tt2.out with ⟨rfl, rfl⟩ | ⟨rfl, tt3⟩
  · clear tt2
    obtain ⟨⟨r1, r2, r3, r4⟩, f1, f2, f3, f4⟩ := K.out.1.2.2.1.four
    have HB := Lib.hid K.out.2
    clear K
    go_wp2_with fail
    refine bodyPost_ret (v := .tuple #[.agg #[.int .i64 0, .int .i64 0, .int .i64 0, .int .i64 0], .int .i64 8]) (by simp [results, Try.results18, go_sem, r1, r2, r3, r4]) rfl ⟨rfl, ?_⟩
    exact set4_below HB.out (by omega) _ _ _ _ _ _ _ _
  clear tt2
  replace tt3 := Lib.hid tt3
  obtain ⟨⟨k1, k2, k3, k4, k5, k6⟩, -⟩ := K.out.1.1.six
  go_wp2_with fail
  refine (TI.out _).mono ?_
  rintro e w4 ⟨rfl, hb⟩
  replace K := Lib.hid (K.out.below hb)
  clear hb k1 k2 k3 k4 k5 k6
  go_upto_region 6 with fail
  have H8 := Lib.hid (Bx.new w4 31 #[.int .i64 bk.a, .int .i64 bk.b, .int .i64 bk.c, .int .i64 bk.d, .int .i64 bk.e, .int .i64 bk.f])
  replace K := Lib.hid (K.out.below (bel1 w4 (.cells #[.int .i64 bk.a, .int .i64 bk.b, .int .i64 bk.c, .int .i64 bk.d, .int .i64 bk.e, .int .i64 bk.f] 31)))
  generalize World.alloc w4 _ = w5 at *
  generalize w4.heap.size = g8 at *
  rcases tt3.out with ⟨d1, rfl⟩ | ⟨d1, d2, rfl⟩
  · clear tt3 H8
    obtain ⟨⟨r1, r2, r3, r4⟩, f1, f2, f3, f4⟩ := K.out.1.2.2.1.four
    have HB := Lib.hid K.out.2
    clear K
    go_wp2_with fail
    refine bodyPost_ret (v := .tuple #[.agg #[.int .i64 0, .int .i64 0, .int .i64 0, .int .i64 0], .int .i64 Er]) (by simp [results, Try.results18, go_sem, r1, r2, r3, r4]) rfl ⟨rfl, ?_⟩
    exact set4_below HB.out (by omega) _ _ _ _ _ _ _ _
  clear tt3
  obtain ⟨⟨k1, k2, k3, k4, k5, k6⟩, -⟩ := H8.out.six
  obtain ⟨⟨j1, j2, j3, j4⟩, -⟩ := K.out.1.2.1.four
  go_wp2_with fail
  refine (TB.out _).mono ?_
  rintro e w6 ⟨rfl, hb⟩
  replace K := Lib.hid (K.out.below hb)
  clear hb k1 k2 k3 k4 k5 k6 j1 j2 j3 j4 H8
  go_upto_region 9 with fail
  have H10 := Lib.hid (Bx.new w6 33 #[.int .i64 bo.x, .int .i64 bo.y, .int .i64 bo.w, .int .i64 bo.h])
  have hlo10 : w.heap.size + 3 ≤ w6.heap.size := by have := K.out.1.2.2.1.lt; omega
  replace K := Lib.hid (K.out.below (bel1 w6 (.cells #[.int .i64 bo.x, .int .i64 bo.y, .int .i64 bo.w, .int .i64 bo.h] 33)))
  generalize World.alloc w6 _ = w7 at *
  generalize w6.heap.size = g10 at *
  clear hlo10 H10
  obtain ⟨⟨r1, r2, r3, r4⟩, f1, f2, f3, f4⟩ := K.out.1.2.2.1.four
  have HB := Lib.hid K.out.2
  clear K
  go_wp2_with fail
  refine bodyPost_ret (v := .tuple #[.agg #[.int .i64 0, .int .i64 0, .int .i64 0, .int .i64 0], .int .i64 Er]) (by simp [results, Try.results18, go_sem, r1, r2, r3, r4]) rfl ⟨rfl, ?_⟩
  exact set4_below HB.out (by omega) _ _ _ _ _ _ _ _
set_option maxRecDepth 100000 in
set_option maxHeartbeats 8000000 in
theorem rneeds_ok (kind S : Int) (a bk : Af) (o r : Rk) (bo : Rc) (w : World) (hS : -100 ≤ S ∧ S ≤ 100)
    (TV : ∀ w, Calls Try.prog 39 #[.agg #[.int .i64 o.x, .int .i64 o.y, .int .i64 o.w, .int .i64 o.h]] w fun e w' => e = .returned (.bool true) ∧ Below w.heap.size w w')
    (TK : ∀ w, Calls Try.prog 32 #[.int .i64 kind] w fun e w' => e = .returned (.bool true) ∧ w = w')
    (TI : ∀ w, Calls Try.prog 40 #[.agg #[.int .i64 a.a, .int .i64 a.b, .int .i64 a.c, .int .i64 a.d, .int .i64 a.e, .int .i64 a.f]] w fun e w' => e = .returned (.tuple #[.agg #[.int .i64 bk.a, .int .i64 bk.b, .int .i64 bk.c, .int .i64 bk.d, .int .i64 bk.e, .int .i64 bk.f], .int .i64 0]) ∧ Below w.heap.size w w')
    (TB : ∀ w, Calls Try.prog 46 #[.agg #[.int .i64 bk.a, .int .i64 bk.b, .int .i64 bk.c, .int .i64 bk.d, .int .i64 bk.e, .int .i64 bk.f], .agg #[.int .i64 o.x, .int .i64 o.y, .int .i64 o.w, .int .i64 o.h]] w fun e w' => e = .returned (.tuple #[.agg #[.int .i64 bo.x, .int .i64 bo.y, .int .i64 bo.w, .int .i64 bo.h], .int .i64 0]) ∧ Below w.heap.size w w')
    (TS : ∀ w, Calls Try.prog 48 #[.int .i64 kind] w fun e w' => e = .returned (.int .i64 S) ∧ w = w')
    (TG : ∀ w, Calls Try.prog 47 #[.agg #[.int .i64 bo.x, .int .i64 bo.y, .int .i64 bo.w, .int .i64 bo.h], .int .i64 (S + 1)] w (RkPost r w)) :
    Calls Try.prog 18 #[.agg #[.int .i64 a.a, .int .i64 a.b, .int .i64 a.c, .int .i64 a.d, .int .i64 a.e, .int .i64 a.f], .int .i64 kind, .agg #[.int .i64 o.x, .int .i64 o.y, .int .i64 o.w, .int .i64 o.h]] w (RkE 0 r w) := by
  replace TV := Lib.hid TV; replace TK := Lib.hid TK; replace TI := Lib.hid TI; replace TB := Lib.hid TB; replace TS := Lib.hid TS; replace TG := Lib.hid TG
  go_enter Try.func18, Try.ntmps18
  go_upto_region 1 with fail
  have K := Lib.hid (fr_three w #[.int .i64 a.a, .int .i64 a.b, .int .i64 a.c, .int .i64 a.d, .int .i64 a.e, .int .i64 a.f] #[.int .i64 o.x, .int .i64 o.y, .int .i64 o.w, .int .i64 o.h] #[.int .i64 0, .int .i64 0, .int .i64 0, .int .i64 0] 31 33 33 _ rfl)
  generalize World.alloc (World.alloc (w.alloc _) _) _ = w0 at *
  obtain ⟨⟨j1, j2, j3, j4⟩, -⟩ := K.out.1.2.1.four
  go_wp2_with fail
  refine (TV.out _).mono ?_
  rintro e w2 ⟨rfl, hb⟩
  replace K := Lib.hid (K.out.below hb)
  clear hb j1 j2 j3 j4
  go_wp2_with fail
  refine (TK.out _).mono ?_
  rintro e w3 ⟨rfl, rfl⟩
  obtain ⟨⟨k1, k2, k3, k4, k5, k6⟩, -⟩ := K.out.1.1.six
  go_wp2_with fail
  refine (TI.out _).mono ?_
  rintro e w4 ⟨rfl, hb⟩
  replace K := Lib.hid (K.out.below hb)
  clear hb k1 k2 k3 k4 k5 k6
  go_upto_region 6 with fail
  have H8 := Lib.hid (Bx.new w4 31 #[.int .i64 bk.a, .int .i64 bk.b, .int .i64 bk.c, .int .i64 bk.d, .int .i64 bk.e, .int .i64 bk.f])
  replace K := Lib.hid (K.out.below (bel1 w4 (.cells #[.int .i64 bk.a, .int .i64 bk.b, .int .i64 bk.c, .int .i64 bk.d, .int .i64 bk.e, .int .i64 bk.f] 31)))
  generalize World.alloc w4 _ = w5 at *
  generalize w4.heap.size = g8 at *
  obtain ⟨⟨k1, k2, k3, k4, k5, k6⟩, -⟩ := H8.out.six
  obtain ⟨⟨j1, j2, j3, j4⟩, -⟩ := K.out.1.2.1.four
  go_wp2_with fail
  refine (TB.out _).mono ?_
  rintro e w6 ⟨rfl, hb⟩
  replace K := Lib.hid (K.out.below hb)
  clear hb k1 k2 k3 k4 k5 k6 j1 j2 j3 j4 H8
  go_upto_region 9 with fail
  have H10 := Lib.hid (Bx.new w6 33 #[.int .i64 bo.x, .int .i64 bo.y, .int .i64 bo.w, .int .i64 bo.h])
  have hlo10 : w.heap.size + 3 ≤ w6.heap.size := by have := K.out.1.2.2.1.lt; omega
  replace K := Lib.hid (K.out.below (bel1 w6 (.cells #[.int .i64 bo.x, .int .i64 bo.y, .int .i64 bo.w, .int .i64 bo.h] 33)))
  generalize World.alloc w6 _ = w7 at *
  generalize w6.heap.size = g10 at *
  have q1 := wrap_in (S + 1) (by omega)
  go_upto_region 11 with fail
  have hb10 := H10.out; have hbr := K.out.1.2.2.1; have hB := K.out.2
  have HSA := Lib.hid (show ∀ wq, RSt 33 (w.heap.size + 1 + 1) w7 wq → (wq.cell? ⟨g10, 0, none⟩ = some (.int .i64 bo.x) ∧ wq.cell? ⟨g10, 1, none⟩ = some (.int .i64 bo.y) ∧ wq.cell? ⟨g10, 2, none⟩ = some (.int .i64 bo.w) ∧ wq.cell? ⟨g10, 3, none⟩ = some (.int .i64 bo.h)) ∧ (wq.cell? ⟨w.heap.size + 1 + 1, 0, none⟩ = some (cv wq (w.heap.size + 1 + 1) 0) ∧ wq.cell? ⟨w.heap.size + 1 + 1, 1, none⟩ = some (cv wq (w.heap.size + 1 + 1) 1) ∧ wq.cell? ⟨w.heap.size + 1 + 1, 2, none⟩ = some (cv wq (w.heap.size + 1 + 1) 2) ∧ wq.cell? ⟨w.heap.size + 1 + 1, 3, none⟩ = some (cv wq (w.heap.size + 1 + 1) 3)) ∧ wq.frozen? ⟨w.heap.size + 1 + 1, 0, none⟩ = false ∧ wq.frozen? ⟨w.heap.size + 1 + 1, 1, none⟩ = false ∧ wq.frozen? ⟨w.heap.size + 1 + 1, 2, none⟩ = false ∧ wq.frozen? ⟨w.heap.size + 1 + 1, 3, none⟩ = false from
    fun wq h => ⟨(h.bx hb10 (by omega)).four.1, h.cvs.1, h.cvs.2⟩)
  have HSP := Lib.hid (fun wq (h : RSt 33 (w.heap.size + 1 + 1) w7 wq) a b c d => HSA.out _ (h.put a b c d))
  have hBv : RSt 33 (w.heap.size + 1 + 1) w7 w7.drew := RSt.start hbr
  have hS0 := HSA.out _ hBv
  have HB := Lib.hid hB
  clear hB hb10 hbr K H10 TV TK TI TB hS hlo10
  go_region_held3 (fun wq => (wq.cell? ⟨g10, 0, none⟩ = some (.int .i64 bo.x) ∧ wq.cell? ⟨g10, 1, none⟩ = some (.int .i64 bo.y) ∧ wq.cell? ⟨g10, 2, none⟩ = some (.int .i64 bo.w) ∧ wq.cell? ⟨g10, 3, none⟩ = some (.int .i64 bo.h)) ∧ (wq.cell? ⟨w.heap.size + 1 + 1, 0, none⟩ = some (cv wq (w.heap.size + 1 + 1) 0) ∧ wq.cell? ⟨w.heap.size + 1 + 1, 1, none⟩ = some (cv wq (w.heap.size + 1 + 1) 1) ∧ wq.cell? ⟨w.heap.size + 1 + 1, 2, none⟩ = some (cv wq (w.heap.size + 1 + 1) 2) ∧ wq.cell? ⟨w.heap.size + 1 + 1, 3, none⟩ = some (cv wq (w.heap.size + 1 + 1) 3)) ∧ wq.frozen? ⟨w.heap.size + 1 + 1, 0, none⟩ = false ∧ wq.frozen? ⟨w.heap.size + 1 + 1, 1, none⟩ = false ∧ wq.frozen? ⟨w.heap.size + 1 + 1, 2, none⟩ = false ∧ wq.frozen? ⟨w.heap.size + 1 + 1, 3, none⟩ = false)
    (first | assumption | exact hS0 | exact HSA.out _ hBv | exact HSP.out _ hBv _ _ _ _ | go_keep)
    (first | ((with_reducible refine (TS.out _).mono ?_); rintro e wv ⟨rfl, rfl⟩) | ((with_reducible refine (TG.out _).mono ?_); rintro e wv ⟨rfl, hbv⟩; have hBv := RSt.call hBv hbv))
  obtain ⟨⟨r1, r2, r3, r4⟩, f1, f2, f3, f4⟩ := hBv.cvs
  go_wp2_with fail
  refine bodyPost_ret (v := .tuple #[.agg #[.int .i64 r.x, .int .i64 r.y, .int .i64 r.w, .int .i64 r.h], .int .i64 0]) (by simp [results, Try.results18, go_sem, r1, r2, r3, r4]) rfl ⟨rfl, ?_⟩
  exact set4_below (hBv.bel HB.out (by omega)) (by omega) _ _ _ _ _ _ _ _
theorem rneeds_any (a : Af) (kind : Int) (o : Rk) (w : World) :
    Calls Try.prog 18 #[.agg #[.int .i64 a.a, .int .i64 a.b, .int .i64 a.c, .int .i64 a.d, .int .i64 a.e, .int .i64 a.f], .int .i64 kind, .agg #[.int .i64 o.x, .int .i64 o.y, .int .i64 o.w, .int .i64 o.h]] w (RkE (sNeed a kind o).2 (sNeed a kind o).1 w) := by
  have TV := fun w => rvalid_any o.x o.y o.w o.h w
  have TK := fun w => rkvalid_any kind w
  have TI := fun w => rinverse_any a.a a.b a.c a.d a.e a.f w
  have TB := fun w => rbox_any a.inv.1.a a.inv.1.b a.inv.1.c a.inv.1.d a.inv.1.e a.inv.1.f o.x o.y o.w o.h w
  have TS := fun w => rsupport_any kind w
  have TG := fun w => rgrow_any (a.inv.1.boxE ⟨o.x, o.y, o.w, o.h⟩).1.x (a.inv.1.boxE ⟨o.x, o.y, o.w, o.h⟩).1.y (a.inv.1.boxE ⟨o.x, o.y, o.w, o.h⟩).1.w (a.inv.1.boxE ⟨o.x, o.y, o.w, o.h⟩).1.h (spt kind + 1) w
  have hs : -100 ≤ spt kind ∧ spt kind ≤ 100 := by unfold spt; split <;> (try split) <;> omega
  unfold sNeed
  by_cases hv : rvalid o.x o.y o.w o.h = true
  rotate_left
  · rw [if_neg hv]
    rw [Bool.not_eq_true] at hv
    exact rneeds_no kind _ _ 2 a _ o _ _ _ w (.inl ⟨hv, rfl⟩) TV TK TI TB
  rw [if_pos hv]
  by_cases hk : vld kind = true
  rotate_left
  · rw [if_neg hk]
    rw [Bool.not_eq_true] at hk
    exact rneeds_no kind _ _ 8 a _ o _ _ _ w (.inr ⟨hv, .inl ⟨hk, rfl⟩⟩) TV TK TI TB
  rw [if_pos hk]
  by_cases hi : a.inv.2 = 0
  rotate_left
  · rw [if_neg hi]
    exact rneeds_no kind _ _ a.inv.2 a _ o _ _ _ w (.inr ⟨hv, .inr ⟨hk, .inl ⟨by simpa using hi, rfl⟩⟩⟩) TV TK TI TB
  rw [if_pos hi]
  by_cases hb : (a.inv.1.boxE ⟨o.x, o.y, o.w, o.h⟩).2 = 0
  rotate_left
  · rw [if_neg hb]
    exact rneeds_no kind _ _ _ a _ o _ _ _ w (.inr ⟨hv, .inr ⟨hk, .inr ⟨by simpa using hi, by simpa using hb, rfl⟩⟩⟩) TV TK TI TB
  rw [if_pos hb]
  refine rneeds_ok kind (spt kind) a a.inv.1 o _ (a.inv.1.boxE ⟨o.x, o.y, o.w, o.h⟩).1 w hs (fun w => ?_) (fun w => ?_) (fun w => ?_) (fun w => ?_) TS TG
  · have := TV w; rw [hv] at this; exact this
  · have := TK w; rw [hk] at this; exact this
  · have := TI w; rw [show (Af.mk a.a a.b a.c a.d a.e a.f) = a from rfl, hi] at this; exact this
  · have := TB w; rw [show (Af.mk a.inv.1.a a.inv.1.b a.inv.1.c a.inv.1.d a.inv.1.e a.inv.1.f) = a.inv.1 from rfl, hb] at this; exact this
end Go.Proofs.Ytineinmghajmnaa
