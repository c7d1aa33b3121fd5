/- The reference's Box where it answers at once. -/
import Derived.Test.YtanlnigebbcajaaDoorAff28
namespace Go.Proofs.YtanlnigebbcajaaDoor
open Go.RowKit
attribute [local go_sem 2000] run_max2m run_min2m
set_option maxRecDepth 100000 in
set_option maxHeartbeats 8000000 in
theorem rbox_e1 (a b c d e f rx ry rw rh E1 : Int) (w : World)
    (CK1 : ∀ w, Calls Tryd.prog 12 #[.agg #[.int .i64 a, .int .i64 b, .int .i64 c, .int .i64 d, .int .i64 e, .int .i64 f]] w fun z w' => z = .returned (.int .i64 E1) ∧ Below w.heap.size w w')
    (t1 : (E1 != 0) = true)
    : Calls Tryd.prog 29 #[.agg #[.int .i64 a, .int .i64 b, .int .i64 c, .int .i64 d, .int .i64 e, .int .i64 f], .agg #[.int .i64 rx, .int .i64 ry, .int .i64 rw, .int .i64 rh]] w fun z w' => z = .returned (.tuple #[.agg #[.int .i64 0, .int .i64 0, .int .i64 0, .int .i64 0], .int .i64 E1]) ∧ Below w.heap.size w w' := by
  replace CK1 := Lib.hid CK1
  go_enter Tryd.func29, Tryd.ntmps29
  go_wp2_with fail
  obtain ⟨k1, k2, k3, hB⟩ := box_boxes w a b c d e f rx ry rw rh _ rfl
  refine (CK1.out _).mono ?_
  rintro z wa ⟨rfl, hb⟩
  replace k1 := Lib.hid (k1.below hb); replace k2 := Lib.hid (k2.below hb); replace k3 := Lib.hid (k3.below hb); replace hB := Lib.hid (bel_trans hB hb)
  clear hb CK1
  obtain ⟨⟨r0, r1, r2, r3⟩, s0, s1, s2, s3⟩ := k3.out.four
  go_wp2_with fail
  refine bodyPost_ret (v := .tuple #[.agg #[.int .i64 0, .int .i64 0, .int .i64 0, .int .i64 0], .int .i64 E1]) (by simp [results, Tryd.results29, go_sem, *]) rfl ⟨rfl, ?_⟩
  repeat' (first | with_reducible exact hB.out | with_reducible apply Below.drew | with_reducible apply Below.drewN' | with_reducible apply Below.setCell)
  all_goals (show w.heap.size ≤ w.heap.size + 1 + 1; omega)
set_option maxRecDepth 100000 in
set_option maxHeartbeats 8000000 in
theorem rbox_e2 (a b c d e f rx ry rw rh  : Int) (w : World)
    (CK1 : ∀ w, Calls Tryd.prog 12 #[.agg #[.int .i64 a, .int .i64 b, .int .i64 c, .int .i64 d, .int .i64 e, .int .i64 f]] w fun z w' => z = .returned (.int .i64 0) ∧ Below w.heap.size w w')
    (VA : ∀ w, Calls Tryd.prog 49 #[.agg #[.int .i64 rx, .int .i64 ry, .int .i64 rw, .int .i64 rh]] w fun z w' => z = .returned (.bool false) ∧ Below w.heap.size w w')
    : Calls Tryd.prog 29 #[.agg #[.int .i64 a, .int .i64 b, .int .i64 c, .int .i64 d, .int .i64 e, .int .i64 f], .agg #[.int .i64 rx, .int .i64 ry, .int .i64 rw, .int .i64 rh]] w fun z w' => z = .returned (.tuple #[.agg #[.int .i64 0, .int .i64 0, .int .i64 0, .int .i64 0], .int .i64 2]) ∧ Below w.heap.size w w' := by
  replace CK1 := Lib.hid CK1
  replace VA := Lib.hid VA
  go_enter Tryd.func29, Tryd.ntmps29
  go_wp2_with fail
  obtain ⟨k1, k2, k3, hB⟩ := box_boxes w a b c d e f rx ry rw rh _ rfl
  refine (CK1.out _).mono ?_
  rintro z wa ⟨rfl, hb⟩
  replace k1 := Lib.hid (k1.below hb); replace k2 := Lib.hid (k2.below hb); replace k3 := Lib.hid (k3.below hb); replace hB := Lib.hid (bel_trans hB hb)
  clear hb CK1
  obtain ⟨⟨d0, d1, d2, d3⟩, g0, g1, g2, g3⟩ := k2.out.four
  go_wp2_with fail
  clear d0 d1 d2 d3 g0 g1 g2 g3
  refine (VA.out _).mono ?_
  rintro z wb ⟨rfl, hb⟩
  replace k1 := Lib.hid (k1.out.below hb); replace k2 := Lib.hid (k2.out.below hb); replace k3 := Lib.hid (k3.out.below hb); replace hB := Lib.hid (bel_trans hB.out hb)
  clear hb VA
  obtain ⟨⟨r0, r1, r2, r3⟩, s0, s1, s2, s3⟩ := k3.out.four
  go_wp2_with fail
  refine bodyPost_ret (v := .tuple #[.agg #[.int .i64 0, .int .i64 0, .int .i64 0, .int .i64 0], .int .i64 2]) (by simp [results, Tryd.results29, go_sem, *]) rfl ⟨rfl, ?_⟩
  repeat' (first | with_reducible exact hB.out | with_reducible apply Below.drew | with_reducible apply Below.drewN' | with_reducible apply Below.setCell)
  all_goals (show w.heap.size ≤ w.heap.size + 1 + 1; omega)
set_option maxRecDepth 100000 in
set_option maxHeartbeats 8000000 in
theorem rbox_e3 (a b c d e f rx ry rw rh  : Int) (w : World)
    (CK1 : ∀ w, Calls Tryd.prog 12 #[.agg #[.int .i64 a, .int .i64 b, .int .i64 c, .int .i64 d, .int .i64 e, .int .i64 f]] w fun z w' => z = .returned (.int .i64 0) ∧ Below w.heap.size w w')
    (VA : ∀ w, Calls Tryd.prog 49 #[.agg #[.int .i64 rx, .int .i64 ry, .int .i64 rw, .int .i64 rh]] w fun z w' => z = .returned (.bool true) ∧ Below w.heap.size w w')
    (EM : ∀ w, Calls Tryd.prog 50 #[.agg #[.int .i64 rx, .int .i64 ry, .int .i64 rw, .int .i64 rh]] w fun z w' => z = .returned (.bool true) ∧ Below w.heap.size w w')
    : Calls Tryd.prog 29 #[.agg #[.int .i64 a, .int .i64 b, .int .i64 c, .int .i64 d, .int .i64 e, .int .i64 f], .agg #[.int .i64 rx, .int .i64 ry, .int .i64 rw, .int .i64 rh]] w fun z w' => z = .returned (.tuple #[.agg #[.int .i64 0, .int .i64 0, .int .i64 0, .int .i64 0], .int .i64 0]) ∧ Below w.heap.size w w' := by
  replace CK1 := Lib.hid CK1
  replace VA := Lib.hid VA
  replace EM := Lib.hid EM
  go_enter Tryd.func29, Tryd.ntmps29
  go_wp2_with fail
  obtain ⟨k1, k2, k3, hB⟩ := box_boxes w a b c d e f rx ry rw rh _ rfl
  refine (CK1.out _).mono ?_
  rintro z wa ⟨rfl, hb⟩
  replace k1 := Lib.hid (k1.below hb); replace k2 := Lib.hid (k2.below hb); replace k3 := Lib.hid (k3.below hb); replace hB := Lib.hid (bel_trans hB hb)
  clear hb CK1
  obtain ⟨⟨d0, d1, d2, d3⟩, g0, g1, g2, g3⟩ := k2.out.four
  go_wp2_with fail
  clear d0 d1 d2 d3 g0 g1 g2 g3
  refine (VA.out _).mono ?_
  rintro z wb ⟨rfl, hb⟩
  replace k1 := Lib.hid (k1.out.below hb); replace k2 := Lib.hid (k2.out.below hb); replace k3 := Lib.hid (k3.out.below hb); replace hB := Lib.hid (bel_trans hB.out hb)
  clear hb VA
  obtain ⟨⟨d0, d1, d2, d3⟩, g0, g1, g2, g3⟩ := k2.out.four
  go_wp2_with fail
  clear d0 d1 d2 d3 g0 g1 g2 g3
  refine (EM.out _).mono ?_
  rintro z wc ⟨rfl, hb⟩
  replace k1 := Lib.hid (k1.out.below hb); replace k2 := Lib.hid (k2.out.below hb); replace k3 := Lib.hid (k3.out.below hb); replace hB := Lib.hid (bel_trans hB.out hb)
  clear hb EM
  obtain ⟨⟨r0, r1, r2, r3⟩, s0, s1, s2, s3⟩ := k3.out.four
  go_wp2_with fail
  refine bodyPost_ret (v := .tuple #[.agg #[.int .i64 0, .int .i64 0, .int .i64 0, .int .i64 0], .int .i64 0]) (by simp [results, Tryd.results29, go_sem, *]) rfl ⟨rfl, ?_⟩
  repeat' (first | with_reducible exact hB.out | with_reducible apply Below.drew | with_reducible apply Below.drewN' | with_reducible apply Below.setCell)
  all_goals (show w.heap.size ≤ w.heap.size + 1 + 1; omega)
end Go.Proofs.YtanlnigebbcajaaDoor
