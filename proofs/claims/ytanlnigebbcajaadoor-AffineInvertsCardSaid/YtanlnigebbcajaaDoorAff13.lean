/- The examples of the chapter: awake returns true. -/
import Derived.Test.YtanlnigebbcajaaDoorAff12
import Derived.Test.YtanlnigebbcajaaDoorAff8
namespace Go.Proofs.YtanlnigebbcajaaDoor
open Go.RowKit
attribute [local go_sem 2000] run_max2m run_min2m
theorem cI1 (w : World) : Calls Tryd.prog 26 #[.agg #[.int .i64 131072, .int .i64 0, .int .i64 0, .int .i64 65536, .int .i64 65536, .int .i64 0]] w fun z w' => z = .returned (.tuple #[.agg #[.int .i64 32768, .int .i64 0, .int .i64 0, .int .i64 65536, .int .i64 (-32768), .int .i64 0], .int .i64 0]) ∧ Below w.heap.size w w' := by
  have h := inverse_any 131072 0 0 65536 65536 0 w
  rw [show (Af.mk 131072 0 0 65536 65536 0).inv = ((Af.mk 32768 0 0 65536 (-32768) 0), 0) by decide +kernel] at h
  exact h
theorem cI2 (w : World) : Calls Tryd.prog 26 #[.agg #[.int .i64 0, .int .i64 0, .int .i64 0, .int .i64 65536, .int .i64 0, .int .i64 0]] w fun z w' => z = .returned (.tuple #[.agg #[.int .i64 0, .int .i64 0, .int .i64 0, .int .i64 0, .int .i64 0, .int .i64 0], .int .i64 17]) ∧ Below w.heap.size w w' := by
  have h := inverse_any 0 0 0 65536 0 0 w
  rw [show (Af.mk 0 0 0 65536 0 0).inv = ((Af.mk 0 0 0 0 0 0), 17) by decide +kernel] at h
  exact h
theorem cBX (w : World) : Calls Tryd.prog 28 #[.agg #[.int .i64 65536, .int .i64 0, .int .i64 0, .int .i64 65536, .int .i64 32768, .int .i64 0], .agg #[.int .i64 0, .int .i64 0, .int .i64 2, .int .i64 2]] w fun z w' => z = .returned (.tuple #[.agg #[.int .i64 0, .int .i64 0, .int .i64 3, .int .i64 2], .int .i64 0]) ∧ Below w.heap.size w w' := by
  have h := box_any 65536 0 0 65536 32768 0 0 0 2 2 w (by decide) (by decide) (by decide) (by decide)
  rw [show (Af.mk 65536 0 0 65536 32768 0).corners (Rc.mk 0 0 2 2) = Rc.mk 0 0 3 2 by decide +kernel] at h
  exact h
theorem cTH (w : World) : Calls Tryd.prog 24 #[.agg #[.int .i64 65536, .int .i64 0, .int .i64 0, .int .i64 65536, .int .i64 65536, .int .i64 0], .agg #[.int .i64 131072, .int .i64 0, .int .i64 0, .int .i64 65536, .int .i64 0, .int .i64 0]] w fun z w' => z = .returned (.agg #[.int .i64 131072, .int .i64 0, .int .i64 0, .int .i64 65536, .int .i64 131072, .int .i64 0]) ∧ Below w.heap.size w w' := by
  have h := then_any 65536 0 0 65536 65536 0 131072 0 0 65536 0 0 w
  rw [show (Af.mk 65536 0 0 65536 65536 0).thn (Af.mk 131072 0 0 65536 0 0) = (Af.mk 131072 0 0 65536 131072 0) by decide +kernel] at h
  exact h
theorem cMV (w : World) : Calls Tryd.prog 18 #[.int .i64 1, .int .i64 0] w fun z w' => z = .returned (.agg #[.int .i64 65536, .int .i64 0, .int .i64 0, .int .i64 65536, .int .i64 65536, .int .i64 0]) ∧ Below w.heap.size w w' := by
  have h := move_any 1 0 w
  rw [show cl 1048576 1 * 65536 = 65536 by decide +kernel, show cl 1048576 0 * 65536 = 0 by decide +kernel] at h
  exact h
theorem cS1 (w : World) : Calls Tryd.prog 20 #[.int .i64 0, .int .i64 65536] w fun z w' => z = .returned (.agg #[.int .i64 0, .int .i64 0, .int .i64 0, .int .i64 65536, .int .i64 0, .int .i64 0]) ∧ Below w.heap.size w w' := by
  have h := scale_any 0 65536 w
  rw [show coef 0 = 0 by decide +kernel, show coef 65536 = 65536 by decide +kernel] at h
  exact h
theorem cS2 (w : World) : Calls Tryd.prog 20 #[.int .i64 131072, .int .i64 65536] w fun z w' => z = .returned (.agg #[.int .i64 131072, .int .i64 0, .int .i64 0, .int .i64 65536, .int .i64 0, .int .i64 0]) ∧ Below w.heap.size w w' := by
  have h := scale_any 131072 65536 w
  rw [show coef 131072 = 131072 by decide +kernel, show coef 65536 = 65536 by decide +kernel] at h
  exact h
theorem cC0 (w : World) : Calls Tryd.prog 11 #[.agg #[.int .i64 65536, .int .i64 0, .int .i64 0, .int .i64 65536, .int .i64 0, .int .i64 0]] w fun z w' => z = .returned (.int .i64 0) ∧ Below w.heap.size w w' := by
  have h := acheck_any 65536 0 0 65536 0 0 w
  rw [show okE (Af.mk 65536 0 0 65536 0 0) = 0 by decide +kernel] at h
  exact h
theorem cC2 (w : World) : Calls Tryd.prog 11 #[.agg #[.int .i64 16777217, .int .i64 0, .int .i64 0, .int .i64 0, .int .i64 0, .int .i64 0]] w fun z w' => z = .returned (.int .i64 2) ∧ Below w.heap.size w w' := by
  have h := acheck_any 16777217 0 0 0 0 0 w
  rw [show okE (Af.mk 16777217 0 0 0 0 0) = 2 by decide +kernel] at h
  exact h
theorem cAP (w : World) : Calls Tryd.prog 13 #[.agg #[.int .i64 98304, .int .i64 0, .int .i64 0, .int .i64 65536, .int .i64 10, .int .i64 0], .agg #[.int .i64 3, .int .i64 5]] w fun z w' => z = .returned (.agg #[.int .i64 15, .int .i64 5]) ∧ Below w.heap.size w w' := by
  have h := apply_any 98304 0 0 65536 10 0 3 5 w
  rw [show (Af.mk 98304 0 0 65536 10 0).app 3 5 = (15, 5) by decide +kernel] at h
  exact h
/-- The two cells of the table of sines that the example reads. -/
def Tab (w : World) : Prop := w.cell? ⟨0, 32, none⟩ = some (.int .i64 46341) ∧ w.cell? ⟨0, 33, none⟩ = some (.int .i64 47464)
theorem Tab.lt {w : World} (h : Tab w) : 0 < w.heap.size := World.block_lt_of_cell? w _ h.1
theorem Tab.below {w w' : World} (h : Tab w) (hb : Below w.heap.size w w') : Tab w' := ⟨(hb.cell (p := ⟨0, 32, none⟩) h.lt).trans h.1, (hb.cell (p := ⟨0, 33, none⟩) h.lt).trans h.2⟩
set_option maxRecDepth 100000 in
set_option maxHeartbeats 8000000 in
theorem awake_any (w : World) (ht : Tab w) : Calls Tryd.prog 15 #[] w fun e w' => e = .returned (.bool true) ∧ Below w.heap.size w w' := by
  have HT := Lib.hid ht; clear ht
  go_enter Tryd.func15, Tryd.ntmps15
  go_wp2_with fail
  refine (same_any _).mono ?_
  rintro z w1 ⟨rfl, rfl⟩
  go_upto_region 2 with fail
  have KS := Bx.new (w.alloc (.cells #[.int .i64 65536, .int .i64 0, .int .i64 0, .int .i64 65536, .int .i64 0, .int .i64 0] 23)) 23 #[.int .i64 65536, .int .i64 0, .int .i64 0, .int .i64 65536, .int .i64 0, .int .i64 0]
  have hB := bel_alloc (bel_alloc (Below.refl w.heap.size w) (.cells #[.int .i64 65536, .int .i64 0, .int .i64 0, .int .i64 65536, .int .i64 0, .int .i64 0] 23)) (.cells #[.int .i64 65536, .int .i64 0, .int .i64 0, .int .i64 65536, .int .i64 0, .int .i64 0] 23)
  simp only [World.size_alloc] at KS
  replace KS := Lib.hid KS; replace hB := Lib.hid hB
  generalize World.alloc (World.alloc w _) _ = v1 at *
  go_wp2_with fail
  with_reducible refine (cI1 _).mono ?_
  rintro z w2 ⟨rfl, hb⟩
  replace KS := Lib.hid (KS.out.below hb)
  replace hB := Lib.hid (bel_trans hB.out hb)
  clear hb
  go_upto_region 3 with fail
  replace KS := Lib.hid (KS.out.alloc (.cells #[.int .i64 32768, .int .i64 0, .int .i64 0, .int .i64 65536, .int .i64 (-32768), .int .i64 0] 23))
  replace hB := Lib.hid (bel_alloc hB.out (.cells #[.int .i64 32768, .int .i64 0, .int .i64 0, .int .i64 65536, .int .i64 (-32768), .int .i64 0] 23))
  have KI := Lib.hid (Bx.new w2 23 #[.int .i64 32768, .int .i64 0, .int .i64 0, .int .i64 65536, .int .i64 (-32768), .int .i64 0])
  generalize World.alloc w2 _ = v2 at *
  generalize w2.heap.size = g2 at *
  go_wp2_with fail
  with_reducible refine (cS1 _).mono ?_
  rintro z w3 ⟨rfl, hb⟩
  replace KS := Lib.hid (KS.out.below hb)
  replace KI := Lib.hid (KI.out.below hb)
  replace hB := Lib.hid (bel_trans hB.out hb)
  clear hb
  go_wp2_with fail
  with_reducible refine (cI2 _).mono ?_
  rintro z w4 ⟨rfl, hb⟩
  replace KS := Lib.hid (KS.out.below hb)
  replace KI := Lib.hid (KI.out.below hb)
  replace hB := Lib.hid (bel_trans hB.out hb)
  clear hb
  go_upto_region 4 with fail
  replace KS := Lib.hid (KS.out.alloc (.cells #[.int .i64 0, .int .i64 0, .int .i64 0, .int .i64 0, .int .i64 0, .int .i64 0] 23))
  replace KI := Lib.hid (KI.out.alloc (.cells #[.int .i64 0, .int .i64 0, .int .i64 0, .int .i64 0, .int .i64 0, .int .i64 0] 23))
  replace hB := Lib.hid (bel_alloc hB.out (.cells #[.int .i64 0, .int .i64 0, .int .i64 0, .int .i64 0, .int .i64 0, .int .i64 0] 23))
  have KZ := Lib.hid (Bx.new w4 23 #[.int .i64 0, .int .i64 0, .int .i64 0, .int .i64 0, .int .i64 0, .int .i64 0])
  generalize World.alloc w4 _ = v3 at *
  generalize w4.heap.size = g3 at *
  go_wp2_with fail
  with_reducible refine (cBX _).mono ?_
  rintro z w5 ⟨rfl, hb⟩
  replace KS := Lib.hid (KS.out.below hb)
  replace KI := Lib.hid (KI.out.below hb)
  replace KZ := Lib.hid (KZ.out.below hb)
  replace hB := Lib.hid (bel_trans hB.out hb)
  clear hb
  go_upto_region 5 with fail
  replace KS := Lib.hid (KS.out.alloc (.cells #[.int .i64 0, .int .i64 0, .int .i64 3, .int .i64 2] 38))
  replace KI := Lib.hid (KI.out.alloc (.cells #[.int .i64 0, .int .i64 0, .int .i64 3, .int .i64 2] 38))
  replace KZ := Lib.hid (KZ.out.alloc (.cells #[.int .i64 0, .int .i64 0, .int .i64 3, .int .i64 2] 38))
  replace hB := Lib.hid (bel_alloc hB.out (.cells #[.int .i64 0, .int .i64 0, .int .i64 3, .int .i64 2] 38))
  have KB := Lib.hid (Bx.new w5 38 #[.int .i64 0, .int .i64 0, .int .i64 3, .int .i64 2])
  generalize World.alloc w5 _ = v4 at *
  generalize w5.heap.size = g4 at *
  go_wp2_with fail
  with_reducible refine (cMV _).mono ?_
  rintro z w6 ⟨rfl, hb⟩
  replace KS := Lib.hid (KS.out.below hb)
  replace KI := Lib.hid (KI.out.below hb)
  replace KZ := Lib.hid (KZ.out.below hb)
  replace KB := Lib.hid (KB.out.below hb)
  replace hB := Lib.hid (bel_trans hB.out hb)
  clear hb
  go_wp2_with fail
  with_reducible refine (cS2 _).mono ?_
  rintro z w7 ⟨rfl, hb⟩
  replace KS := Lib.hid (KS.out.below hb)
  replace KI := Lib.hid (KI.out.below hb)
  replace KZ := Lib.hid (KZ.out.below hb)
  replace KB := Lib.hid (KB.out.below hb)
  replace hB := Lib.hid (bel_trans hB.out hb)
  clear hb
  go_wp2_with fail
  with_reducible refine (cTH _).mono ?_
  rintro z w8 ⟨rfl, hb⟩
  replace KS := Lib.hid (KS.out.below hb)
  replace KI := Lib.hid (KI.out.below hb)
  replace KZ := Lib.hid (KZ.out.below hb)
  replace KB := Lib.hid (KB.out.below hb)
  replace hB := Lib.hid (bel_trans hB.out hb)
  clear hb
  go_upto_region 6 with fail
  replace KS := Lib.hid (KS.out.alloc (.cells #[.int .i64 131072, .int .i64 0, .int .i64 0, .int .i64 65536, .int .i64 131072, .int .i64 0] 23))
  replace KI := Lib.hid (KI.out.alloc (.cells #[.int .i64 131072, .int .i64 0, .int .i64 0, .int .i64 65536, .int .i64 131072, .int .i64 0] 23))
  replace KZ := Lib.hid (KZ.out.alloc (.cells #[.int .i64 131072, .int .i64 0, .int .i64 0, .int .i64 65536, .int .i64 131072, .int .i64 0] 23))
  replace KB := Lib.hid (KB.out.alloc (.cells #[.int .i64 131072, .int .i64 0, .int .i64 0, .int .i64 65536, .int .i64 131072, .int .i64 0] 23))
  replace hB := Lib.hid (bel_alloc hB.out (.cells #[.int .i64 131072, .int .i64 0, .int .i64 0, .int .i64 65536, .int .i64 131072, .int .i64 0] 23))
  have KT := Lib.hid (Bx.new w8 23 #[.int .i64 131072, .int .i64 0, .int .i64 0, .int .i64 65536, .int .i64 131072, .int .i64 0])
  generalize World.alloc w8 _ = v5 at *
  generalize w8.heap.size = g5 at *
  obtain ⟨⟨c0, c1, c2, c3, c4, c5⟩, f0, f1, f2, f3, f4, f5⟩ := KS.out.six
  clear f0 f1 f2 f3 f4 f5
  go_wp2_with fail
  with_reducible refine (cC0 _).mono ?_
  rintro z w9 ⟨rfl, hb⟩
  replace KS := Lib.hid (KS.out.below hb)
  replace KI := Lib.hid (KI.out.below hb)
  replace KZ := Lib.hid (KZ.out.below hb)
  replace KB := Lib.hid (KB.out.below hb)
  replace KT := Lib.hid (KT.out.below hb)
  replace hB := Lib.hid (bel_trans hB.out hb)
  clear hb
  clear c0 c1 c2 c3 c4 c5
  go_wp2_with fail
  with_reducible refine (cC2 _).mono ?_
  rintro z wa ⟨rfl, hb⟩
  replace KS := Lib.hid (KS.out.below hb)
  replace KI := Lib.hid (KI.out.below hb)
  replace KZ := Lib.hid (KZ.out.below hb)
  replace KB := Lib.hid (KB.out.below hb)
  replace KT := Lib.hid (KT.out.below hb)
  replace hB := Lib.hid (bel_trans hB.out hb)
  clear hb
  go_wp2_with fail
  with_reducible refine (cAP _).mono ?_
  rintro z wb ⟨rfl, hb⟩
  replace KS := Lib.hid (KS.out.below hb)
  replace KI := Lib.hid (KI.out.below hb)
  replace KZ := Lib.hid (KZ.out.below hb)
  replace KB := Lib.hid (KB.out.below hb)
  replace KT := Lib.hid (KT.out.below hb)
  replace hB := Lib.hid (bel_trans hB.out hb)
  clear hb
  obtain ⟨⟨c0, c1, c2, c3, c4, c5⟩, f0, f1, f2, f3, f4, f5⟩ := KT.out.six
  obtain ⟨⟨d0, d1, d2, d3, d4, d5⟩, g0, g1, h2, h3, h4, h5⟩ := KI.out.six
  obtain ⟨⟨e0, e1, e2, e3⟩, i0, i1, i2, i3⟩ := KB.out.four
  clear f0 f1 f2 f3 f4 f5 g0 g1 h2 h3 h4 h5 i0 i1 i2 i3
  go_wp2_with fail
  refine (rotate_c _ (HT.out.below hB.out).1 (HT.out.below hB.out).2).mono ?_
  rintro z wc ⟨rfl, hb⟩
  clear c0 c1 c2 c3 c4 c5 d0 d1 d2 d3 d4 d5 e0 e1 e2 e3
  go_wp2_with fail
  go_ret
  exact ⟨rfl, bel_trans hB.out hb⟩
end Go.Proofs.YtanlnigebbcajaaDoor
