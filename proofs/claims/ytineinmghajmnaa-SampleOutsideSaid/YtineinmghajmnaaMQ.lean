/- The reference's Inverse, by cases. -/
import Derived.Test.YtineinmghajmnaaMN
namespace Go.Proofs.Ytineinmghajmnaa
open Go.RowKit
attribute [local go_sem 2000] run_max2m run_min2m
theorem inv_st4 {X : World} {b g : Nat} {e f o0 o1 o2 o3 : Int} (hne : b ≠ g) (v : Value) (h : (X).cell? ⟨b, 4, none⟩ = some (.int .i64 e) ∧ (X).cell? ⟨b, 5, none⟩ = some (.int .i64 f) ∧ (X).cell? ⟨g, 0, none⟩ = some (.int .i64 o0) ∧ (X).cell? ⟨g, 1, none⟩ = some (.int .i64 o1) ∧ (X).cell? ⟨g, 2, none⟩ = some (.int .i64 o2) ∧ (X).cell? ⟨g, 3, none⟩ = some (.int .i64 o3) ∧ (X).cell? ⟨g, 4, none⟩ = some (afcv (X) g 4) ∧ (X).cell? ⟨g, 5, none⟩ = some (afcv (X) g 5) ∧ (X).frozen? ⟨g, 4, none⟩ = false ∧ (X).frozen? ⟨g, 5, none⟩ = false) : (X.setCell ⟨g, 4, none⟩ v).cell? ⟨b, 4, none⟩ = some (.int .i64 e) ∧ (X.setCell ⟨g, 4, none⟩ v).cell? ⟨b, 5, none⟩ = some (.int .i64 f) ∧ (X.setCell ⟨g, 4, none⟩ v).cell? ⟨g, 0, none⟩ = some (.int .i64 o0) ∧ (X.setCell ⟨g, 4, none⟩ v).cell? ⟨g, 1, none⟩ = some (.int .i64 o1) ∧ (X.setCell ⟨g, 4, none⟩ v).cell? ⟨g, 2, none⟩ = some (.int .i64 o2) ∧ (X.setCell ⟨g, 4, none⟩ v).cell? ⟨g, 3, none⟩ = some (.int .i64 o3) ∧ (X.setCell ⟨g, 4, none⟩ v).cell? ⟨g, 4, none⟩ = some (afcv (X.setCell ⟨g, 4, none⟩ v) g 4) ∧ (X.setCell ⟨g, 4, none⟩ v).cell? ⟨g, 5, none⟩ = some (afcv (X.setCell ⟨g, 4, none⟩ v) g 5) ∧ (X.setCell ⟨g, 4, none⟩ v).frozen? ⟨g, 4, none⟩ = false ∧ (X.setCell ⟨g, 4, none⟩ v).frozen? ⟨g, 5, none⟩ = false := by
  obtain ⟨h0, h1, h2, h3, h4, h5, h6, h7, h8, h9⟩ := h
  have hs : (X.setCell ⟨g, 4, none⟩ v).cell? ⟨g, 4, none⟩ = some v := World.cell?_setCell_same _ _ _ (by rw [h6])
  refine ⟨?_, ?_, ?_, ?_, ?_, ?_, afcv_ok hs, ?_, ?_, ?_⟩
  · rw [World.cell?_setCell_other _ _ _ _ (by simp)]; exact h0
  · rw [World.cell?_setCell_other _ _ _ _ (by simp)]; exact h1
  · rw [World.cell?_setCell_other _ _ _ _ (by simp)]; exact h2
  · rw [World.cell?_setCell_other _ _ _ _ (by simp)]; exact h3
  · rw [World.cell?_setCell_other _ _ _ _ (by simp)]; exact h4
  · rw [World.cell?_setCell_other _ _ _ _ (by simp)]; exact h5
  · exact afcv_ok ((World.cell?_setCell_other _ _ _ _ (by simp)).trans h7)
  · rw [World.frozen?_setCell]; exact h8
  · rw [World.frozen?_setCell]; exact h9
theorem inv_st5 {X : World} {b g : Nat} {e f o0 o1 o2 o3 : Int} (hne : b ≠ g) (v : Value) (h : (X).cell? ⟨b, 4, none⟩ = some (.int .i64 e) ∧ (X).cell? ⟨b, 5, none⟩ = some (.int .i64 f) ∧ (X).cell? ⟨g, 0, none⟩ = some (.int .i64 o0) ∧ (X).cell? ⟨g, 1, none⟩ = some (.int .i64 o1) ∧ (X).cell? ⟨g, 2, none⟩ = some (.int .i64 o2) ∧ (X).cell? ⟨g, 3, none⟩ = some (.int .i64 o3) ∧ (X).cell? ⟨g, 4, none⟩ = some (afcv (X) g 4) ∧ (X).cell? ⟨g, 5, none⟩ = some (afcv (X) g 5) ∧ (X).frozen? ⟨g, 4, none⟩ = false ∧ (X).frozen? ⟨g, 5, none⟩ = false) : (X.setCell ⟨g, 5, none⟩ v).cell? ⟨b, 4, none⟩ = some (.int .i64 e) ∧ (X.setCell ⟨g, 5, none⟩ v).cell? ⟨b, 5, none⟩ = some (.int .i64 f) ∧ (X.setCell ⟨g, 5, none⟩ v).cell? ⟨g, 0, none⟩ = some (.int .i64 o0) ∧ (X.setCell ⟨g, 5, none⟩ v).cell? ⟨g, 1, none⟩ = some (.int .i64 o1) ∧ (X.setCell ⟨g, 5, none⟩ v).cell? ⟨g, 2, none⟩ = some (.int .i64 o2) ∧ (X.setCell ⟨g, 5, none⟩ v).cell? ⟨g, 3, none⟩ = some (.int .i64 o3) ∧ (X.setCell ⟨g, 5, none⟩ v).cell? ⟨g, 4, none⟩ = some (afcv (X.setCell ⟨g, 5, none⟩ v) g 4) ∧ (X.setCell ⟨g, 5, none⟩ v).cell? ⟨g, 5, none⟩ = some (afcv (X.setCell ⟨g, 5, none⟩ v) g 5) ∧ (X.setCell ⟨g, 5, none⟩ v).frozen? ⟨g, 4, none⟩ = false ∧ (X.setCell ⟨g, 5, none⟩ v).frozen? ⟨g, 5, none⟩ = false := by
  obtain ⟨h0, h1, h2, h3, h4, h5, h6, h7, h8, h9⟩ := h
  have hs : (X.setCell ⟨g, 5, none⟩ v).cell? ⟨g, 5, none⟩ = some v := World.cell?_setCell_same _ _ _ (by rw [h7])
  refine ⟨?_, ?_, ?_, ?_, ?_, ?_, ?_, afcv_ok hs, ?_, ?_⟩
  · rw [World.cell?_setCell_other _ _ _ _ (by simp)]; exact h0
  · rw [World.cell?_setCell_other _ _ _ _ (by simp)]; exact h1
  · rw [World.cell?_setCell_other _ _ _ _ (by simp)]; exact h2
  · rw [World.cell?_setCell_other _ _ _ _ (by simp)]; exact h3
  · rw [World.cell?_setCell_other _ _ _ _ (by simp)]; exact h4
  · rw [World.cell?_setCell_other _ _ _ _ (by simp)]; exact h5
  · exact afcv_ok ((World.cell?_setCell_other _ _ _ _ (by simp)).trans h6)
  · rw [World.frozen?_setCell]; exact h8
  · rw [World.frozen?_setCell]; exact h9
theorem bx_set4 {X : World} {g : Nat} {o0 o1 o2 o3 z4 z5 : Value} (h : Bx X g 31 #[o0, o1, o2, o3, z4, z5]) (v : Value) : Bx (X.setCell ⟨g, 4, none⟩ v) g 31 #[o0, o1, o2, o3, v, z5] := h.set 4 v
theorem bx_set5 {X : World} {g : Nat} {o0 o1 o2 o3 z4 z5 : Value} (h : Bx X g 31 #[o0, o1, o2, o3, z4, z5]) (v : Value) : Bx (X.setCell ⟨g, 5, none⟩ v) g 31 #[o0, o1, o2, o3, z4, v] := h.set 5 v
def InvMid2 (a b c d e f o0 o1 o2 o3 o4 o5 : Int) (w : World) (g : Nat) (wx : World) : Prop :=
  Bx wx w.heap.size 31 #[.int .i64 a, .int .i64 b, .int .i64 c, .int .i64 d, .int .i64 e, .int .i64 f] ∧ Bx wx (w.heap.size + 1) 31 #[.int .i64 0, .int .i64 0, .int .i64 0, .int .i64 0, .int .i64 0, .int .i64 0] ∧ Bx wx g 31 #[.int .i64 o0, .int .i64 o1, .int .i64 o2, .int .i64 o3, .int .i64 o4, .int .i64 o5] ∧ Below w.heap.size w wx
theorem rinv_mid0 {a b c d e f o0 o1 o2 o3 : Int} {w X : World} (h1 : Bx X w.heap.size 31 #[.int .i64 a, .int .i64 b, .int .i64 c, .int .i64 d, .int .i64 e, .int .i64 f]) (h2 : Bx X (w.heap.size + 1) 31 #[.int .i64 0, .int .i64 0, .int .i64 0, .int .i64 0, .int .i64 0, .int .i64 0]) (hB : Below w.heap.size w X) :
    InvMid a b c d e f o0 o1 o2 o3 w (.pointer (some ⟨X.heap.size, 0, none⟩)) (X.alloc (.cells #[.int .i64 o0, .int .i64 o1, .int .i64 o2, .int .i64 o3, .int .i64 0, .int .i64 0] 31)) :=
  ⟨_, rfl, h1.alloc _, h2.alloc _, Bx.new _ _ _, bel_alloc hB _, h2.lt⟩
theorem rinv_mid {a b c d e f o0 o1 o2 o3 : Int} {w X : World} {g : Nat} (h1 : Bx X w.heap.size 31 #[.int .i64 a, .int .i64 b, .int .i64 c, .int .i64 d, .int .i64 e, .int .i64 f]) (h2 : Bx X (w.heap.size + 1) 31 #[.int .i64 0, .int .i64 0, .int .i64 0, .int .i64 0, .int .i64 0, .int .i64 0]) (h3 : Bx X g 31 #[.int .i64 0, .int .i64 0, .int .i64 0, .int .i64 0, .int .i64 0, .int .i64 0]) (hB : Below w.heap.size w X) (hg : w.heap.size + 1 < g) :
    InvMid a b c d e f o0 o1 o2 o3 w (.pointer (some ⟨g, 0, none⟩)) ((((((X.setCell ⟨g, 0, none⟩ (.int .i64 o0)).setCell ⟨g, 1, none⟩ (.int .i64 o1)).setCell ⟨g, 2, none⟩ (.int .i64 o2)).setCell ⟨g, 3, none⟩ (.int .i64 o3)).setCell ⟨g, 4, none⟩ (.int .i64 0)).setCell ⟨g, 5, none⟩ (.int .i64 0)) := by
  refine ⟨g, rfl, set6_other h1 (by omega) _ _ _ _ _ _, set6_other h2 (by omega) _ _ _ _ _ _, set6_bx h3 _ _ _ _ _ _, ?_, hg⟩
  have hs : w.heap.size ≤ g := by omega
  exact (((((hB.setCell (p := ⟨g, 0, none⟩) hs _).setCell (p := ⟨g, 1, none⟩) hs _).setCell (p := ⟨g, 2, none⟩) hs _).setCell (p := ⟨g, 3, none⟩) hs _).setCell (p := ⟨g, 4, none⟩) hs _).setCell (p := ⟨g, 5, none⟩) hs _
set_option maxRecDepth 100000 in
set_option maxHeartbeats 8000000 in
theorem rinv_e1 (a b c d e f E1 : Int) (w : World)
    (CK1 : ∀ w, Calls Try.prog 74 #[.agg #[.int .i64 a, .int .i64 b, .int .i64 c, .int .i64 d, .int .i64 e, .int .i64 f]] w fun z w' => z = .returned (.int .i64 E1) ∧ Below w.heap.size w w')
    (t1 : (E1 != 0) = true)
    : Calls Try.prog 40 #[.agg #[.int .i64 a, .int .i64 b, .int .i64 c, .int .i64 d, .int .i64 e, .int .i64 f]] w fun z w' => z = .returned (.tuple #[.agg #[.int .i64 0, .int .i64 0, .int .i64 0, .int .i64 0, .int .i64 0, .int .i64 0], .int .i64 E1]) ∧ Below w.heap.size w w' := by
  replace CK1 := Lib.hid CK1
  go_enter Try.func40, Try.ntmps40
  go_wp2_with fail
  obtain ⟨k1, k2, hB⟩ := inv_boxes w a b c d e f _ rfl
  refine (CK1.out _).mono ?_
  rintro z w1 ⟨rfl, hb⟩
  replace k1 := Lib.hid (k1.below hb); replace k2 := Lib.hid (k2.below hb); replace hB := Lib.hid (bel_trans hB hb)
  clear hb CK1
  obtain ⟨⟨d0, d1, d2, d3, d4, d5⟩, g0, g1, g2, g3, g4, g5⟩ := k2.out.six
  go_wp2_with fail
  refine bodyPost_ret (v := .tuple #[.agg #[.int .i64 0, .int .i64 0, .int .i64 0, .int .i64 0, .int .i64 0, .int .i64 0], .int .i64 E1]) (by simp [results, Try.results40, go_sem, *]) rfl ⟨rfl, ?_⟩
  repeat' (first | with_reducible exact hB.out | with_reducible apply Below.drew | with_reducible apply Below.drewN' | with_reducible apply Below.setCell)
  all_goals (show w.heap.size ≤ w.heap.size + 1; omega)
set_option maxRecDepth 100000 in
set_option maxHeartbeats 8000000 in
theorem rinv_d0 (a b c d e f m1 m2 Dt : Int) (w : World)
    (CK1 : ∀ w, Calls Try.prog 74 #[.agg #[.int .i64 a, .int .i64 b, .int .i64 c, .int .i64 d, .int .i64 e, .int .i64 f]] w fun z w' => z = .returned (.int .i64 0) ∧ Below w.heap.size w w')
    (x1 : IntKind.i64.wrap (a * d) = m1)
    (x2 : IntKind.i64.wrap (b * c) = m2)
    (x3 : IntKind.i64.wrap (m1 - m2) = Dt)
    (t2 : (Dt == 0) = true)
    : Calls Try.prog 40 #[.agg #[.int .i64 a, .int .i64 b, .int .i64 c, .int .i64 d, .int .i64 e, .int .i64 f]] w fun z w' => z = .returned (.tuple #[.agg #[.int .i64 0, .int .i64 0, .int .i64 0, .int .i64 0, .int .i64 0, .int .i64 0], .int .i64 17]) ∧ Below w.heap.size w w' := by
  replace CK1 := Lib.hid CK1
  go_enter Try.func40, Try.ntmps40
  go_wp2_with fail
  obtain ⟨k1, k2, hB⟩ := inv_boxes w a b c d e f _ rfl
  refine (CK1.out _).mono ?_
  rintro z w1 ⟨rfl, hb⟩
  replace k1 := Lib.hid (k1.below hb); replace k2 := Lib.hid (k2.below hb); replace hB := Lib.hid (bel_trans hB hb)
  clear hb CK1
  obtain ⟨⟨c0, c1, c2, c3, c4, c5⟩, f0, f1, f2, f3, f4, f5⟩ := k1.out.six
  obtain ⟨⟨d0, d1, d2, d3, d4, d5⟩, g0, g1, g2, g3, g4, g5⟩ := k2.out.six
  go_wp2_with fail
  refine bodyPost_ret (v := .tuple #[.agg #[.int .i64 0, .int .i64 0, .int .i64 0, .int .i64 0, .int .i64 0, .int .i64 0], .int .i64 17]) (by simp [results, Try.results40, go_sem, *]) rfl ⟨rfl, ?_⟩
  repeat' (first | with_reducible exact hB.out | with_reducible apply Below.drew | with_reducible apply Below.drewN' | with_reducible apply Below.setCell)
  all_goals (show w.heap.size ≤ w.heap.size + 1; omega)
set_option maxRecDepth 100000 in
set_option maxHeartbeats 8000000 in
theorem rinv_e2 (a b c d e f m1 m2 Dt nb nc n0 n1 n2 n3 o0 o1 o2 o3 E2 : Int) (w : World)
    (CK1 : ∀ w, Calls Try.prog 74 #[.agg #[.int .i64 a, .int .i64 b, .int .i64 c, .int .i64 d, .int .i64 e, .int .i64 f]] w fun z w' => z = .returned (.int .i64 0) ∧ Below w.heap.size w w')
    (x1 : IntKind.i64.wrap (a * d) = m1)
    (x2 : IntKind.i64.wrap (b * c) = m2)
    (x3 : IntKind.i64.wrap (m1 - m2) = Dt)
    (t2 : (Dt == 0) = false)
    (y0 : IntKind.i64.wrap (d * 4294967296) = n0)
    (y1 : IntKind.i64.wrap (-b) = nb)
    (y2 : IntKind.i64.wrap (nb * 4294967296) = n1)
    (y3 : IntKind.i64.wrap (-c) = nc)
    (y4 : IntKind.i64.wrap (nc * 4294967296) = n2)
    (y5 : IntKind.i64.wrap (a * 4294967296) = n3)
    (D0 : ∀ w, Calls Try.prog 51 #[.int .i64 n0, .int .i64 Dt] w fun z w' => z = .returned (.int .i64 o0) ∧ Below w.heap.size w w')
    (D1 : ∀ w, Calls Try.prog 51 #[.int .i64 n1, .int .i64 Dt] w fun z w' => z = .returned (.int .i64 o1) ∧ Below w.heap.size w w')
    (D2 : ∀ w, Calls Try.prog 51 #[.int .i64 n2, .int .i64 Dt] w fun z w' => z = .returned (.int .i64 o2) ∧ Below w.heap.size w w')
    (D3 : ∀ w, Calls Try.prog 51 #[.int .i64 n3, .int .i64 Dt] w fun z w' => z = .returned (.int .i64 o3) ∧ Below w.heap.size w w')
    (CK2 : ∀ w, Calls Try.prog 74 #[.agg #[.int .i64 o0, .int .i64 o1, .int .i64 o2, .int .i64 o3, .int .i64 0, .int .i64 0]] w fun z w' => z = .returned (.int .i64 E2) ∧ Below w.heap.size w w')
    (t3 : (E2 != 0) = true)
    : Calls Try.prog 40 #[.agg #[.int .i64 a, .int .i64 b, .int .i64 c, .int .i64 d, .int .i64 e, .int .i64 f]] w fun z w' => z = .returned (.tuple #[.agg #[.int .i64 0, .int .i64 0, .int .i64 0, .int .i64 0, .int .i64 0, .int .i64 0], .int .i64 17]) ∧ Below w.heap.size w w' := by
  replace CK1 := Lib.hid CK1
  replace D0 := Lib.hid D0
  replace D1 := Lib.hid D1
  replace D2 := Lib.hid D2
  replace D3 := Lib.hid D3
  replace CK2 := Lib.hid CK2
  go_enter Try.func40, Try.ntmps40
  go_wp2_with fail
  obtain ⟨k1, k2, hB⟩ := inv_boxes w a b c d e f _ rfl
  refine (CK1.out _).mono ?_
  rintro z w1 ⟨rfl, hb⟩
  replace k1 := Lib.hid (k1.below hb); replace k2 := Lib.hid (k2.below hb); replace hB := Lib.hid (bel_trans hB hb)
  clear hb CK1
  obtain ⟨⟨c0, c1, c2, c3, c4, c5⟩, f0, f1, f2, f3, f4, f5⟩ := k1.out.six
  go_upto_region 8 with fail
  clear x1 x2 x3 t2
  have j0 := World.new_ne w1 _ c0
  go_cut [7] (InvMid a b c d e f o0 o1 o2 o3 w)
  case first =>
    have K1 := Lib.hid (k1.out.drew); have K2 := Lib.hid (k2.out.drew); have KB := Lib.hid (hB.out.drew); have J1 := Lib.hid k1.out; have J2 := Lib.hid k2.out; have JB := Lib.hid hB.out
    clear f0 f1 f2 f3 f4 f5 c4 c5 k1 k2 hB CK2
    go_region_held3 (fun w' => w'.cell? ⟨w.heap.size, 0, none⟩ = some (.int .i64 a) ∧ w'.cell? ⟨w.heap.size, 1, none⟩ = some (.int .i64 b) ∧ w'.cell? ⟨w.heap.size, 2, none⟩ = some (.int .i64 c) ∧ w'.cell? ⟨w.heap.size, 3, none⟩ = some (.int .i64 d))
      (go_keep)
      ((go_at_call 51; (first | with_reducible refine (D0.out _).mono ?_ | with_reducible refine (D1.out _).mono ?_ | with_reducible refine (D2.out _).mono ?_ | with_reducible refine (D3.out _).mono ?_); rintro z w6 ⟨rfl, hb⟩; (first | ((with_reducible replace KB := Lib.hid (bel_trans KB.out hb)); replace K1 := Lib.hid (K1.out.below hb); replace K2 := Lib.hid (K2.out.below hb); (try (replace K3 := Lib.hid (K3.out.below hb)))) | ((with_reducible have KBn := Lib.hid (bel_trans (bel_alloc KB.out _) hb)); have JX := World.new_ne _ _ c0; have HG := Lib.hid K2.out.lt; replace KB := KBn; clear KBn; replace K1 := Lib.hid ((K1.out.alloc _).below hb); replace K2 := Lib.hid ((K2.out.alloc _).below hb); have K3 := Lib.hid ((Bx.new _ 31 _).below hb)) | ((with_reducible have KBn := Lib.hid (bel_trans (Below.drew (bel_alloc JB.out _)) hb)); have JX := World.new_ne _ _ c0; have HG := Lib.hid J2.out.lt; replace KB := KBn; clear KBn; replace K1 := Lib.hid (((J1.out.alloc _).drew).below hb); replace K2 := Lib.hid (((J2.out.alloc _).drew).below hb); have K3 := Lib.hid (((Bx.new _ 31 _).drew).below hb))); clear hb j0 c0 c1 c2 c3; (try clear d0 d1 d2 d3 d4 d5 g0 g1 g2 g3 g4 g5); obtain ⟨⟨c0, c1, c2, c3, c4, c5⟩, f0, f1, f2, f3, f4, f5⟩ := K1.out.six; clear c4 c5 f0 f1 f2 f3 f4 f5; have j0 := World.new_ne _ _ c0; (try (obtain ⟨⟨d0, d1, d2, d3, d4, d5⟩, g0, g1, g2, g3, g4, g5⟩ := K3.out.six))))
    all_goals
      go_wp2_with fail
      go_meet
      first
        | with_reducible exact rinv_mid K1.out K2.out K3.out KB.out HG.out
        | with_reducible exact rinv_mid0 K1.out K2.out KB.out
  case rest =>
  clear k1 k2 hB D0 D1 D2 D3 j0 y0 y1 y2 y3 y4 y5
  clear c0 c1 c2 c3 c4 c5 f0 f1 f2 f3 f4 f5
  obtain ⟨g, rfl, k1, k2, k3, hB, hg⟩ := hcut
  replace k1 := Lib.hid k1; replace k2 := Lib.hid k2; replace k3 := Lib.hid k3; replace hB := Lib.hid hB; have HG := Lib.hid hg; clear hg
  obtain ⟨⟨c0, c1, c2, c3, c4, c5⟩, f0, f1, f2, f3, f4, f5⟩ := k3.out.six
  go_wp2_with fail
  clear c0 c1 c2 c3 c4 c5 f0 f1 f2 f3 f4 f5
  refine (CK2.out _).mono ?_
  rintro z w2 ⟨rfl, hb⟩
  replace k1 := Lib.hid (k1.out.below hb); replace k2 := Lib.hid (k2.out.below hb); replace k3 := Lib.hid (k3.out.below hb); replace hB := Lib.hid (bel_trans hB.out hb)
  clear hb CK2
  obtain ⟨⟨d0, d1, d2, d3, d4, d5⟩, g0, g1, g2, g3, g4, g5⟩ := k2.out.six
  go_wp2_with fail
  refine bodyPost_ret (v := .tuple #[.agg #[.int .i64 0, .int .i64 0, .int .i64 0, .int .i64 0, .int .i64 0, .int .i64 0], .int .i64 17]) (by simp [results, Try.results40, go_sem, *]) rfl ⟨rfl, ?_⟩
  repeat' (first | with_reducible exact hB.out | with_reducible apply Below.drew | with_reducible apply Below.drewN' | with_reducible apply Below.setCell)
  all_goals (show w.heap.size ≤ w.heap.size + 1; omega)
set_option maxRecDepth 100000 in
set_option maxHeartbeats 8000000 in
theorem rinv_e3 (a b c d e f m1 m2 Dt nb nc n0 n1 n2 n3 o0 o1 o2 o3 z0 z1 z2 z3 o4 o5 E3 : Int) (w : World)
    (CK1 : ∀ w, Calls Try.prog 74 #[.agg #[.int .i64 a, .int .i64 b, .int .i64 c, .int .i64 d, .int .i64 e, .int .i64 f]] w fun z w' => z = .returned (.int .i64 0) ∧ Below w.heap.size w w')
    (x1 : IntKind.i64.wrap (a * d) = m1)
    (x2 : IntKind.i64.wrap (b * c) = m2)
    (x3 : IntKind.i64.wrap (m1 - m2) = Dt)
    (t2 : (Dt == 0) = false)
    (y0 : IntKind.i64.wrap (d * 4294967296) = n0)
    (y1 : IntKind.i64.wrap (-b) = nb)
    (y2 : IntKind.i64.wrap (nb * 4294967296) = n1)
    (y3 : IntKind.i64.wrap (-c) = nc)
    (y4 : IntKind.i64.wrap (nc * 4294967296) = n2)
    (y5 : IntKind.i64.wrap (a * 4294967296) = n3)
    (D0 : ∀ w, Calls Try.prog 51 #[.int .i64 n0, .int .i64 Dt] w fun z w' => z = .returned (.int .i64 o0) ∧ Below w.heap.size w w')
    (D1 : ∀ w, Calls Try.prog 51 #[.int .i64 n1, .int .i64 Dt] w fun z w' => z = .returned (.int .i64 o1) ∧ Below w.heap.size w w')
    (D2 : ∀ w, Calls Try.prog 51 #[.int .i64 n2, .int .i64 Dt] w fun z w' => z = .returned (.int .i64 o2) ∧ Below w.heap.size w w')
    (D3 : ∀ w, Calls Try.prog 51 #[.int .i64 n3, .int .i64 Dt] w fun z w' => z = .returned (.int .i64 o3) ∧ Below w.heap.size w w')
    (CK2 : ∀ w, Calls Try.prog 74 #[.agg #[.int .i64 o0, .int .i64 o1, .int .i64 o2, .int .i64 o3, .int .i64 0, .int .i64 0]] w fun z w' => z = .returned (.int .i64 0) ∧ Below w.heap.size w w')
    (u0 : IntKind.i64.wrap (-o0) = z0)
    (u2 : IntKind.i64.wrap (-o2) = z2)
    (u1 : IntKind.i64.wrap (-o1) = z1)
    (u3 : IntKind.i64.wrap (-o3) = z3)
    (DA : ∀ w, Calls Try.prog 75 #[.int .i64 z0, .int .i64 z2, .int .i64 e, .int .i64 f] w fun z w' => z = .returned (.int .i64 o4) ∧ ∃ k, w' = w.drewN k)
    (DB : ∀ w, Calls Try.prog 75 #[.int .i64 z1, .int .i64 z3, .int .i64 e, .int .i64 f] w fun z w' => z = .returned (.int .i64 o5) ∧ ∃ k, w' = w.drewN k)
    (CK3 : ∀ w, Calls Try.prog 74 #[.agg #[.int .i64 o0, .int .i64 o1, .int .i64 o2, .int .i64 o3, .int .i64 o4, .int .i64 o5]] w fun z w' => z = .returned (.int .i64 E3) ∧ Below w.heap.size w w')
    (t4 : (E3 != 0) = true)
    : Calls Try.prog 40 #[.agg #[.int .i64 a, .int .i64 b, .int .i64 c, .int .i64 d, .int .i64 e, .int .i64 f]] w fun z w' => z = .returned (.tuple #[.agg #[.int .i64 0, .int .i64 0, .int .i64 0, .int .i64 0, .int .i64 0, .int .i64 0], .int .i64 17]) ∧ Below w.heap.size w w' := by
  replace CK1 := Lib.hid CK1
  replace D0 := Lib.hid D0
  replace D1 := Lib.hid D1
  replace D2 := Lib.hid D2
  replace D3 := Lib.hid D3
  replace CK2 := Lib.hid CK2
  replace CK3 := Lib.hid CK3
  replace DA := Lib.hid DA
  replace DB := Lib.hid DB
  go_enter Try.func40, Try.ntmps40
  go_wp2_with fail
  obtain ⟨k1, k2, hB⟩ := inv_boxes w a b c d e f _ rfl
  refine (CK1.out _).mono ?_
  rintro z w1 ⟨rfl, hb⟩
  replace k1 := Lib.hid (k1.below hb); replace k2 := Lib.hid (k2.below hb); replace hB := Lib.hid (bel_trans hB hb)
  clear hb CK1
  obtain ⟨⟨c0, c1, c2, c3, c4, c5⟩, f0, f1, f2, f3, f4, f5⟩ := k1.out.six
  go_upto_region 8 with fail
  clear x1 x2 x3 t2
  have j0 := World.new_ne w1 _ c0
  go_cut [7] (InvMid a b c d e f o0 o1 o2 o3 w)
  case first =>
    have K1 := Lib.hid (k1.out.drew); have K2 := Lib.hid (k2.out.drew); have KB := Lib.hid (hB.out.drew); have J1 := Lib.hid k1.out; have J2 := Lib.hid k2.out; have JB := Lib.hid hB.out
    clear f0 f1 f2 f3 f4 f5 c4 c5 k1 k2 hB CK2 CK3 DA DB
    go_region_held3 (fun w' => w'.cell? ⟨w.heap.size, 0, none⟩ = some (.int .i64 a) ∧ w'.cell? ⟨w.heap.size, 1, none⟩ = some (.int .i64 b) ∧ w'.cell? ⟨w.heap.size, 2, none⟩ = some (.int .i64 c) ∧ w'.cell? ⟨w.heap.size, 3, none⟩ = some (.int .i64 d))
      (go_keep)
      ((go_at_call 51; (first | with_reducible refine (D0.out _).mono ?_ | with_reducible refine (D1.out _).mono ?_ | with_reducible refine (D2.out _).mono ?_ | with_reducible refine (D3.out _).mono ?_); rintro z w6 ⟨rfl, hb⟩; (first | ((with_reducible replace KB := Lib.hid (bel_trans KB.out hb)); replace K1 := Lib.hid (K1.out.below hb); replace K2 := Lib.hid (K2.out.below hb); (try (replace K3 := Lib.hid (K3.out.below hb)))) | ((with_reducible have KBn := Lib.hid (bel_trans (bel_alloc KB.out _) hb)); have JX := World.new_ne _ _ c0; have HG := Lib.hid K2.out.lt; replace KB := KBn; clear KBn; replace K1 := Lib.hid ((K1.out.alloc _).below hb); replace K2 := Lib.hid ((K2.out.alloc _).below hb); have K3 := Lib.hid ((Bx.new _ 31 _).below hb)) | ((with_reducible have KBn := Lib.hid (bel_trans (Below.drew (bel_alloc JB.out _)) hb)); have JX := World.new_ne _ _ c0; have HG := Lib.hid J2.out.lt; replace KB := KBn; clear KBn; replace K1 := Lib.hid (((J1.out.alloc _).drew).below hb); replace K2 := Lib.hid (((J2.out.alloc _).drew).below hb); have K3 := Lib.hid (((Bx.new _ 31 _).drew).below hb))); clear hb j0 c0 c1 c2 c3; (try clear d0 d1 d2 d3 d4 d5 g0 g1 g2 g3 g4 g5); obtain ⟨⟨c0, c1, c2, c3, c4, c5⟩, f0, f1, f2, f3, f4, f5⟩ := K1.out.six; clear c4 c5 f0 f1 f2 f3 f4 f5; have j0 := World.new_ne _ _ c0; (try (obtain ⟨⟨d0, d1, d2, d3, d4, d5⟩, g0, g1, g2, g3, g4, g5⟩ := K3.out.six))))
    all_goals
      go_wp2_with fail
      go_meet
      first
        | with_reducible exact rinv_mid K1.out K2.out K3.out KB.out HG.out
        | with_reducible exact rinv_mid0 K1.out K2.out KB.out
  case rest =>
  clear k1 k2 hB D0 D1 D2 D3 j0 y0 y1 y2 y3 y4 y5
  clear c0 c1 c2 c3 c4 c5 f0 f1 f2 f3 f4 f5
  obtain ⟨g, rfl, k1, k2, k3, hB, hg⟩ := hcut
  replace k1 := Lib.hid k1; replace k2 := Lib.hid k2; replace k3 := Lib.hid k3; replace hB := Lib.hid hB; have HG := Lib.hid hg; clear hg
  obtain ⟨⟨c0, c1, c2, c3, c4, c5⟩, f0, f1, f2, f3, f4, f5⟩ := k3.out.six
  go_wp2_with fail
  clear c0 c1 c2 c3 c4 c5 f0 f1 f2 f3 f4 f5
  refine (CK2.out _).mono ?_
  rintro z w2 ⟨rfl, hb⟩
  replace k1 := Lib.hid (k1.out.below hb); replace k2 := Lib.hid (k2.out.below hb); replace k3 := Lib.hid (k3.out.below hb); replace hB := Lib.hid (bel_trans hB.out hb)
  clear hb CK2
  obtain ⟨⟨c0, c1, c2, c3, c4, c5⟩, f0, f1, f2, f3, f4, f5⟩ := k1.out.six
  obtain ⟨⟨d0, d1, d2, d3, d4, d5⟩, g0, g1, g2, g3, g4, g5⟩ := k3.out.six
  have n1 : g ≠ w.heap.size := by have := HG.out; omega
  have n2 : g ≠ w.heap.size + 1 := by have := HG.out; omega
  have n3 : w.heap.size ≠ g := fun e => n1 e.symm
  have n4 : w.heap.size + 1 ≠ g := fun e => n2 e.symm
  go_upto_region 11 with fail
  have r4 := afcv_ok d4; have r5 := afcv_ok d5
  clear d4 d5 c0 c1 c2 c3 f0 f1 f2 f3 f4 f5 g0 g1 g2 g3
  have q0' : ∀ (X : World) k j, afcv (X.drewN k) g j = afcv X g j := fun _ _ _ => rfl
  have q1' : ∀ (X : World) j, afcv X.drew g j = afcv X g j := fun _ _ => rfl
  have N3 := Lib.hid n3; have N4 := Lib.hid n4
  have hs4 : w.heap.size ≤ (⟨g, 4, none⟩ : Addr).block := by have := HG.out; show w.heap.size ≤ g; omega
  have hs5 : w.heap.size ≤ (⟨g, 5, none⟩ : Addr).block := hs4
  have HS4 := Lib.hid hs4; have HS5 := Lib.hid hs5
  clear n1 n2 n3 n4 hs4 hs5
  go_cut [] (InvMid2 a b c d e f o0 o1 o2 o3 o4 o5 w g)
  case first =>
    clear CK3
    go_region_held3 (fun w' => w'.cell? ⟨w.heap.size, 4, none⟩ = some (.int .i64 e) ∧ w'.cell? ⟨w.heap.size, 5, none⟩ = some (.int .i64 f) ∧ w'.cell? ⟨g, 0, none⟩ = some (.int .i64 o0) ∧ w'.cell? ⟨g, 1, none⟩ = some (.int .i64 o1) ∧ w'.cell? ⟨g, 2, none⟩ = some (.int .i64 o2) ∧ w'.cell? ⟨g, 3, none⟩ = some (.int .i64 o3) ∧ w'.cell? ⟨g, 4, none⟩ = some (afcv w' g 4) ∧ w'.cell? ⟨g, 5, none⟩ = some (afcv w' g 5) ∧ w'.frozen? ⟨g, 4, none⟩ = false ∧ w'.frozen? ⟨g, 5, none⟩ = false)
      (first | ((with_reducible refine inv_st4 N3.out _ ?_); assumption) | ((with_reducible refine inv_st5 N3.out _ ?_); assumption) | go_keep)
      ((go_at_call 75; (first | with_reducible refine (DA.out _).mono ?_ | with_reducible refine (DB.out _).mono ?_); rintro z w6 ⟨rfl, kk, rfl⟩))
    all_goals
      go_wp2_with fail
      go_meet
      refine ⟨?_, ?_, ?_, ?_⟩
      · repeat (first | with_reducible exact k1.out | with_reducible apply Bx.drew | with_reducible apply Bx.drewN | with_reducible refine Bx.other ?_ N3.out _ _)
      · repeat (first | with_reducible exact k2.out | with_reducible apply Bx.drew | with_reducible apply Bx.drewN | with_reducible refine Bx.other ?_ N4.out _ _)
      · exact bx_set5 (bx_set4 (k3.out.drewN _) _) _
      · repeat (first | with_reducible exact hB.out | with_reducible apply Below.drew | with_reducible apply Below.drewN' | with_reducible refine Below.setCell ?_ HS4.out _ | with_reducible refine Below.setCell ?_ HS5.out _)
  case rest =>
  clear k1 k2 k3 hB DA DB u0 u1 u2 u3 c4 c5 d0 d1 d2 d3 g4 g5 r4 r5 q0' q1' N3 N4 HS4 HS5
  obtain ⟨k1, k2, k3, hB⟩ := hcut
  replace k1 := Lib.hid k1; replace k2 := Lib.hid k2; replace k3 := Lib.hid k3; replace hB := Lib.hid hB
  obtain ⟨⟨d0, d1, d2, d3, d4, d5⟩, g0, g1, g2, g3, g4, g5⟩ := k3.out.six
  go_wp2_with fail
  clear d0 d1 d2 d3 d4 d5 g0 g1 g2 g3 g4 g5
  refine (CK3.out _).mono ?_
  rintro z w4 ⟨rfl, hb⟩
  replace k2 := Lib.hid (k2.out.below hb); replace k3 := Lib.hid (k3.out.below hb); replace hB := Lib.hid (bel_trans hB.out hb)
  clear hb CK3 k1
  obtain ⟨⟨d0, d1, d2, d3, d4, d5⟩, g0, g1, g2, g3, g4, g5⟩ := k2.out.six
  have n1 : g ≠ w.heap.size := by have := HG.out; omega
  have n2 : g ≠ w.heap.size + 1 := by have := HG.out; omega
  have n3 : w.heap.size ≠ g := fun e => n1 e.symm
  have n4 : w.heap.size + 1 ≠ g := fun e => n2 e.symm
  go_wp2_with fail
  refine bodyPost_ret (v := .tuple #[.agg #[.int .i64 0, .int .i64 0, .int .i64 0, .int .i64 0, .int .i64 0, .int .i64 0], .int .i64 17]) (by simp [results, Try.results40, go_sem, *]) rfl ⟨rfl, ?_⟩
  repeat' (first | with_reducible exact hB.out | with_reducible apply Below.drew | with_reducible apply Below.drewN' | with_reducible apply Below.setCell)
  all_goals (show w.heap.size ≤ w.heap.size + 1; omega)
set_option maxRecDepth 100000 in
set_option maxHeartbeats 8000000 in
theorem rinv_ok (a b c d e f m1 m2 Dt nb nc n0 n1 n2 n3 o0 o1 o2 o3 z0 z1 z2 z3 o4 o5 : Int) (w : World)
    (CK1 : ∀ w, Calls Try.prog 74 #[.agg #[.int .i64 a, .int .i64 b, .int .i64 c, .int .i64 d, .int .i64 e, .int .i64 f]] w fun z w' => z = .returned (.int .i64 0) ∧ Below w.heap.size w w')
    (x1 : IntKind.i64.wrap (a * d) = m1)
    (x2 : IntKind.i64.wrap (b * c) = m2)
    (x3 : IntKind.i64.wrap (m1 - m2) = Dt)
    (t2 : (Dt == 0) = false)
    (y0 : IntKind.i64.wrap (d * 4294967296) = n0)
    (y1 : IntKind.i64.wrap (-b) = nb)
    (y2 : IntKind.i64.wrap (nb * 4294967296) = n1)
    (y3 : IntKind.i64.wrap (-c) = nc)
    (y4 : IntKind.i64.wrap (nc * 4294967296) = n2)
    (y5 : IntKind.i64.wrap (a * 4294967296) = n3)
    (D0 : ∀ w, Calls Try.prog 51 #[.int .i64 n0, .int .i64 Dt] w fun z w' => z = .returned (.int .i64 o0) ∧ Below w.heap.size w w')
    (D1 : ∀ w, Calls Try.prog 51 #[.int .i64 n1, .int .i64 Dt] w fun z w' => z = .returned (.int .i64 o1) ∧ Below w.heap.size w w')
    (D2 : ∀ w, Calls Try.prog 51 #[.int .i64 n2, .int .i64 Dt] w fun z w' => z = .returned (.int .i64 o2) ∧ Below w.heap.size w w')
    (D3 : ∀ w, Calls Try.prog 51 #[.int .i64 n3, .int .i64 Dt] w fun z w' => z = .returned (.int .i64 o3) ∧ Below w.heap.size w w')
    (CK2 : ∀ w, Calls Try.prog 74 #[.agg #[.int .i64 o0, .int .i64 o1, .int .i64 o2, .int .i64 o3, .int .i64 0, .int .i64 0]] w fun z w' => z = .returned (.int .i64 0) ∧ Below w.heap.size w w')
    (u0 : IntKind.i64.wrap (-o0) = z0)
    (u2 : IntKind.i64.wrap (-o2) = z2)
    (u1 : IntKind.i64.wrap (-o1) = z1)
    (u3 : IntKind.i64.wrap (-o3) = z3)
    (DA : ∀ w, Calls Try.prog 75 #[.int .i64 z0, .int .i64 z2, .int .i64 e, .int .i64 f] w fun z w' => z = .returned (.int .i64 o4) ∧ ∃ k, w' = w.drewN k)
    (DB : ∀ w, Calls Try.prog 75 #[.int .i64 z1, .int .i64 z3, .int .i64 e, .int .i64 f] w fun z w' => z = .returned (.int .i64 o5) ∧ ∃ k, w' = w.drewN k)
    (CK3 : ∀ w, Calls Try.prog 74 #[.agg #[.int .i64 o0, .int .i64 o1, .int .i64 o2, .int .i64 o3, .int .i64 o4, .int .i64 o5]] w fun z w' => z = .returned (.int .i64 0) ∧ Below w.heap.size w w')
    : Calls Try.prog 40 #[.agg #[.int .i64 a, .int .i64 b, .int .i64 c, .int .i64 d, .int .i64 e, .int .i64 f]] w fun z w' => z = .returned (.tuple #[.agg #[.int .i64 o0, .int .i64 o1, .int .i64 o2, .int .i64 o3, .int .i64 o4, .int .i64 o5], .int .i64 0]) ∧ Below w.heap.size w w' := by
  replace CK1 := Lib.hid CK1
  replace D0 := Lib.hid D0
  replace D1 := Lib.hid D1
  replace D2 := Lib.hid D2
  replace D3 := Lib.hid D3
  replace CK2 := Lib.hid CK2
  replace CK3 := Lib.hid CK3
  replace DA := Lib.hid DA
  replace DB := Lib.hid DB
  go_enter Try.func40, Try.ntmps40
  go_wp2_with fail
  obtain ⟨k1, k2, hB⟩ := inv_boxes w a b c d e f _ rfl
  refine (CK1.out _).mono ?_
  rintro z w1 ⟨rfl, hb⟩
  replace k1 := Lib.hid (k1.below hb); replace k2 := Lib.hid (k2.below hb); replace hB := Lib.hid (bel_trans hB hb)
  clear hb CK1
  obtain ⟨⟨c0, c1, c2, c3, c4, c5⟩, f0, f1, f2, f3, f4, f5⟩ := k1.out.six
  go_upto_region 8 with fail
  clear x1 x2 x3 t2
  have j0 := World.new_ne w1 _ c0
  go_cut [7] (InvMid a b c d e f o0 o1 o2 o3 w)
  case first =>
    have K1 := Lib.hid (k1.out.drew); have K2 := Lib.hid (k2.out.drew); have KB := Lib.hid (hB.out.drew); have J1 := Lib.hid k1.out; have J2 := Lib.hid k2.out; have JB := Lib.hid hB.out
    clear f0 f1 f2 f3 f4 f5 c4 c5 k1 k2 hB CK2 CK3 DA DB
    go_region_held3 (fun w' => w'.cell? ⟨w.heap.size, 0, none⟩ = some (.int .i64 a) ∧ w'.cell? ⟨w.heap.size, 1, none⟩ = some (.int .i64 b) ∧ w'.cell? ⟨w.heap.size, 2, none⟩ = some (.int .i64 c) ∧ w'.cell? ⟨w.heap.size, 3, none⟩ = some (.int .i64 d))
      (go_keep)
      ((go_at_call 51; (first | with_reducible refine (D0.out _).mono ?_ | with_reducible refine (D1.out _).mono ?_ | with_reducible refine (D2.out _).mono ?_ | with_reducible refine (D3.out _).mono ?_); rintro z w6 ⟨rfl, hb⟩; (first | ((with_reducible replace KB := Lib.hid (bel_trans KB.out hb)); replace K1 := Lib.hid (K1.out.below hb); replace K2 := Lib.hid (K2.out.below hb); (try (replace K3 := Lib.hid (K3.out.below hb)))) | ((with_reducible have KBn := Lib.hid (bel_trans (bel_alloc KB.out _) hb)); have JX := World.new_ne _ _ c0; have HG := Lib.hid K2.out.lt; replace KB := KBn; clear KBn; replace K1 := Lib.hid ((K1.out.alloc _).below hb); replace K2 := Lib.hid ((K2.out.alloc _).below hb); have K3 := Lib.hid ((Bx.new _ 31 _).below hb)) | ((with_reducible have KBn := Lib.hid (bel_trans (Below.drew (bel_alloc JB.out _)) hb)); have JX := World.new_ne _ _ c0; have HG := Lib.hid J2.out.lt; replace KB := KBn; clear KBn; replace K1 := Lib.hid (((J1.out.alloc _).drew).below hb); replace K2 := Lib.hid (((J2.out.alloc _).drew).below hb); have K3 := Lib.hid (((Bx.new _ 31 _).drew).below hb))); clear hb j0 c0 c1 c2 c3; (try clear d0 d1 d2 d3 d4 d5 g0 g1 g2 g3 g4 g5); obtain ⟨⟨c0, c1, c2, c3, c4, c5⟩, f0, f1, f2, f3, f4, f5⟩ := K1.out.six; clear c4 c5 f0 f1 f2 f3 f4 f5; have j0 := World.new_ne _ _ c0; (try (obtain ⟨⟨d0, d1, d2, d3, d4, d5⟩, g0, g1, g2, g3, g4, g5⟩ := K3.out.six))))
    all_goals
      go_wp2_with fail
      go_meet
      first
        | with_reducible exact rinv_mid K1.out K2.out K3.out KB.out HG.out
        | with_reducible exact rinv_mid0 K1.out K2.out KB.out
  case rest =>
  clear k1 k2 hB D0 D1 D2 D3 j0 y0 y1 y2 y3 y4 y5
  clear c0 c1 c2 c3 c4 c5 f0 f1 f2 f3 f4 f5
  obtain ⟨g, rfl, k1, k2, k3, hB, hg⟩ := hcut
  replace k1 := Lib.hid k1; replace k2 := Lib.hid k2; replace k3 := Lib.hid k3; replace hB := Lib.hid hB; have HG := Lib.hid hg; clear hg
  obtain ⟨⟨c0, c1, c2, c3, c4, c5⟩, f0, f1, f2, f3, f4, f5⟩ := k3.out.six
  go_wp2_with fail
  clear c0 c1 c2 c3 c4 c5 f0 f1 f2 f3 f4 f5
  refine (CK2.out _).mono ?_
  rintro z w2 ⟨rfl, hb⟩
  replace k1 := Lib.hid (k1.out.below hb); replace k2 := Lib.hid (k2.out.below hb); replace k3 := Lib.hid (k3.out.below hb); replace hB := Lib.hid (bel_trans hB.out hb)
  clear hb CK2
  obtain ⟨⟨c0, c1, c2, c3, c4, c5⟩, f0, f1, f2, f3, f4, f5⟩ := k1.out.six
  obtain ⟨⟨d0, d1, d2, d3, d4, d5⟩, g0, g1, g2, g3, g4, g5⟩ := k3.out.six
  have n1 : g ≠ w.heap.size := by have := HG.out; omega
  have n2 : g ≠ w.heap.size + 1 := by have := HG.out; omega
  have n3 : w.heap.size ≠ g := fun e => n1 e.symm
  have n4 : w.heap.size + 1 ≠ g := fun e => n2 e.symm
  go_upto_region 11 with fail
  have r4 := afcv_ok d4; have r5 := afcv_ok d5
  clear d4 d5 c0 c1 c2 c3 f0 f1 f2 f3 f4 f5 g0 g1 g2 g3
  have q0' : ∀ (X : World) k j, afcv (X.drewN k) g j = afcv X g j := fun _ _ _ => rfl
  have q1' : ∀ (X : World) j, afcv X.drew g j = afcv X g j := fun _ _ => rfl
  have N3 := Lib.hid n3; have N4 := Lib.hid n4
  have hs4 : w.heap.size ≤ (⟨g, 4, none⟩ : Addr).block := by have := HG.out; show w.heap.size ≤ g; omega
  have hs5 : w.heap.size ≤ (⟨g, 5, none⟩ : Addr).block := hs4
  have HS4 := Lib.hid hs4; have HS5 := Lib.hid hs5
  clear n1 n2 n3 n4 hs4 hs5
  go_cut [] (InvMid2 a b c d e f o0 o1 o2 o3 o4 o5 w g)
  case first =>
    clear CK3
    go_region_held3 (fun w' => w'.cell? ⟨w.heap.size, 4, none⟩ = some (.int .i64 e) ∧ w'.cell? ⟨w.heap.size, 5, none⟩ = some (.int .i64 f) ∧ w'.cell? ⟨g, 0, none⟩ = some (.int .i64 o0) ∧ w'.cell? ⟨g, 1, none⟩ = some (.int .i64 o1) ∧ w'.cell? ⟨g, 2, none⟩ = some (.int .i64 o2) ∧ w'.cell? ⟨g, 3, none⟩ = some (.int .i64 o3) ∧ w'.cell? ⟨g, 4, none⟩ = some (afcv w' g 4) ∧ w'.cell? ⟨g, 5, none⟩ = some (afcv w' g 5) ∧ w'.frozen? ⟨g, 4, none⟩ = false ∧ w'.frozen? ⟨g, 5, none⟩ = false)
      (first | ((with_reducible refine inv_st4 N3.out _ ?_); assumption) | ((with_reducible refine inv_st5 N3.out _ ?_); assumption) | go_keep)
      ((go_at_call 75; (first | with_reducible refine (DA.out _).mono ?_ | with_reducible refine (DB.out _).mono ?_); rintro z w6 ⟨rfl, kk, rfl⟩))
    all_goals
      go_wp2_with fail
      go_meet
      refine ⟨?_, ?_, ?_, ?_⟩
      · repeat (first | with_reducible exact k1.out | with_reducible apply Bx.drew | with_reducible apply Bx.drewN | with_reducible refine Bx.other ?_ N3.out _ _)
      · repeat (first | with_reducible exact k2.out | with_reducible apply Bx.drew | with_reducible apply Bx.drewN | with_reducible refine Bx.other ?_ N4.out _ _)
      · exact bx_set5 (bx_set4 (k3.out.drewN _) _) _
      · repeat (first | with_reducible exact hB.out | with_reducible apply Below.drew | with_reducible apply Below.drewN' | with_reducible refine Below.setCell ?_ HS4.out _ | with_reducible refine Below.setCell ?_ HS5.out _)
  case rest =>
  clear k1 k2 k3 hB DA DB u0 u1 u2 u3 c4 c5 d0 d1 d2 d3 g4 g5 r4 r5 q0' q1' N3 N4 HS4 HS5
  obtain ⟨k1, k2, k3, hB⟩ := hcut
  replace k1 := Lib.hid k1; replace k2 := Lib.hid k2; replace k3 := Lib.hid k3; replace hB := Lib.hid hB
  obtain ⟨⟨d0, d1, d2, d3, d4, d5⟩, g0, g1, g2, g3, g4, g5⟩ := k3.out.six
  go_wp2_with fail
  clear d0 d1 d2 d3 d4 d5 g0 g1 g2 g3 g4 g5
  refine (CK3.out _).mono ?_
  rintro z w4 ⟨rfl, hb⟩
  replace k2 := Lib.hid (k2.out.below hb); replace k3 := Lib.hid (k3.out.below hb); replace hB := Lib.hid (bel_trans hB.out hb)
  clear hb CK3 k1
  obtain ⟨⟨d0, d1, d2, d3, d4, d5⟩, g0, g1, g2, g3, g4, g5⟩ := k2.out.six
  obtain ⟨⟨c0, c1, c2, c3, c4, c5⟩, f0, f1, f2, f3, f4, f5⟩ := k3.out.six
  have n1 : g ≠ w.heap.size := by have := HG.out; omega
  have n2 : g ≠ w.heap.size + 1 := by have := HG.out; omega
  have n3 : w.heap.size ≠ g := fun e => n1 e.symm
  have n4 : w.heap.size + 1 ≠ g := fun e => n2 e.symm
  go_wp2_with fail
  refine bodyPost_ret (v := .tuple #[.agg #[.int .i64 o0, .int .i64 o1, .int .i64 o2, .int .i64 o3, .int .i64 o4, .int .i64 o5], .int .i64 0]) (by simp [results, Try.results40, go_sem, *]) rfl ⟨rfl, ?_⟩
  repeat' (first | with_reducible exact hB.out | with_reducible apply Below.drew | with_reducible apply Below.drewN' | with_reducible apply Below.setCell)
  all_goals (show w.heap.size ≤ w.heap.size + 1; omega)
end Go.Proofs.Ytineinmghajmnaa
