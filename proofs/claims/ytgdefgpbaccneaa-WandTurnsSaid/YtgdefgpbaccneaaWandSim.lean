/- wand.Similar and wand.Soft. -/
import Derived.Test.YtgdefgpbaccneaaWandBox
namespace Go.Proofs.Ytgdefgpbaccneaa
open Go.RowKit

theorem boxes4 (w : World) (W H t : Int) (v : Value) (p : Px) (w0 : World)
    (hw : w0 = (((w.alloc (.cells #[.int .i64 W, .int .i64 H, v] 24)).alloc (.cells #[.int .i64 p.r, .int .i64 p.g, .int .i64 p.b, .int .i64 p.a] 37)).alloc (.cells #[.int .i64 t] 3)).alloc (.cells #[.int .i64 0, .int .i64 0, .slice none 0 0] 29)) :
    ImgAt w0 w.heap.size W H v ∧ PxAt w0 (w.heap.size + 1) p ∧ IntAt w0 (w.heap.size + 2) t ∧ BoxAt w0 (w.heap.size + 3) 0 0 (.slice none 0 0) ∧ Below w.heap.size w w0 := by
  subst hw
  have a := ImgAt.new w W H v 24
  have b := PxAt.new (w.alloc (.cells #[.int .i64 W, .int .i64 H, v] 24)) p 37
  have c := IntAt.new ((w.alloc (.cells #[.int .i64 W, .int .i64 H, v] 24)).alloc (.cells #[.int .i64 p.r, .int .i64 p.g, .int .i64 p.b, .int .i64 p.a] 37)) t 3
  have d := BoxAt.new (((w.alloc (.cells #[.int .i64 W, .int .i64 H, v] 24)).alloc (.cells #[.int .i64 p.r, .int .i64 p.g, .int .i64 p.b, .int .i64 p.a] 37)).alloc (.cells #[.int .i64 t] 3)) 0 0 (.slice none 0 0) 29
  simp only [World.size_alloc] at b c d
  exact ⟨((a.below (bel1 _ _)).below (bel1 _ _)).below (bel1 _ _), (b.below (bel1 _ _)).below (bel1 _ _), c.below (bel1 _ _), d, bel_alloc (bel_alloc (bel_alloc (bel1 _ _) _) _) _⟩
theorem boxes5 (w : World) (W H t u : Int) (v : Value) (p : Px) (w0 : World)
    (hw : w0 = ((((w.alloc (.cells #[.int .i64 W, .int .i64 H, v] 24)).alloc (.cells #[.int .i64 p.r, .int .i64 p.g, .int .i64 p.b, .int .i64 p.a] 37)).alloc (.cells #[.int .i64 t] 3)).alloc (.cells #[.int .i64 u] 3)).alloc (.cells #[.int .i64 0, .int .i64 0, .slice none 0 0] 29)) :
    ImgAt w0 w.heap.size W H v ∧ PxAt w0 (w.heap.size + 1) p ∧ IntAt w0 (w.heap.size + 2) t ∧ IntAt w0 (w.heap.size + 3) u ∧ BoxAt w0 (w.heap.size + 4) 0 0 (.slice none 0 0) ∧ Below w.heap.size w w0 := by
  subst hw
  have a := ImgAt.new w W H v 24
  have b := PxAt.new (w.alloc (.cells #[.int .i64 W, .int .i64 H, v] 24)) p 37
  have c := IntAt.new ((w.alloc (.cells #[.int .i64 W, .int .i64 H, v] 24)).alloc (.cells #[.int .i64 p.r, .int .i64 p.g, .int .i64 p.b, .int .i64 p.a] 37)) t 3
  have c' := IntAt.new (((w.alloc (.cells #[.int .i64 W, .int .i64 H, v] 24)).alloc (.cells #[.int .i64 p.r, .int .i64 p.g, .int .i64 p.b, .int .i64 p.a] 37)).alloc (.cells #[.int .i64 t] 3)) u 3
  have d := BoxAt.new ((((w.alloc (.cells #[.int .i64 W, .int .i64 H, v] 24)).alloc (.cells #[.int .i64 p.r, .int .i64 p.g, .int .i64 p.b, .int .i64 p.a] 37)).alloc (.cells #[.int .i64 t] 3)).alloc (.cells #[.int .i64 u] 3)) 0 0 (.slice none 0 0) 29
  simp only [World.size_alloc] at b c c' d
  exact ⟨(((a.below (bel1 _ _)).below (bel1 _ _)).below (bel1 _ _)).below (bel1 _ _), ((b.below (bel1 _ _)).below (bel1 _ _)).below (bel1 _ _), (c.below (bel1 _ _)).below (bel1 _ _), c'.below (bel1 _ _), d, bel_alloc (bel_alloc (bel_alloc (bel_alloc (bel1 _ _) _) _) _) _⟩

theorem set3 {w w1 : World} {g : Nat} {a b c : Value} (h : Below w.heap.size w w1) (hg : w.heap.size ≤ g) : Below w.heap.size w (((w1.setCell ⟨g, 0, none⟩ a).setCell ⟨g, 1, none⟩ b).setCell ⟨g, 2, none⟩ c) :=
  ((h.setCell (p := ⟨g, 0, none⟩) hg _).setCell (p := ⟨g, 1, none⟩) hg _).setCell (p := ⟨g, 2, none⟩) hg _

set_option maxHeartbeats 4000000 in
theorem similar_any (W H : Int) (A : Option Addr) (n c : Nat) (ps : List Px) (p : Px) (t : Int) (w : World) (h : Pixs w w.heap.size (.slice A n c) ps) :
    Calls Try.prog 13 #[.agg #[.int .i64 W, .int .i64 H, .slice A n c], .agg #[.int .i64 p.r, .int .i64 p.g, .int .i64 p.b, .int .i64 p.a], .int .i64 t] w
      (MkOut (serr (ichk W H ps) (pxOk p && uok t)) W H (ps.map (simV p t)) w) := by
  obtain rfl := h.len
  have HP := Lib.hid h; clear h
  have HL := Lib.hid (ichk_len W H ps)
  have HD := Lib.hid (show ichk W H ps = 0 ∨ ichk W H ps ≠ 0 by omega)
  generalize hE : ichk W H ps = ch at *
  have HE := Lib.hid hE; clear hE
  go_enter Try.func13, Try.ntmps13
  go_wp2_with fail
  obtain ⟨hI, hX, hT, hR, hB⟩ := boxes4 w W H t (.slice A ps.length c) p _ rfl
  generalize World.alloc _ (.cells #[.int .i64 0, .int .i64 0, .slice none 0 0] 29) = w0 at *
  refine (icheck_any W H A ps.length c ps _ (HP.out.on hB)).mono ?_
  rintro e w1 ⟨rfl, hb1⟩
  rw [HE.out]
  have hB1 := bel_trans hB hb1
  replace hI := hI.below hb1
  replace hX := hX.below hb1
  replace hT := hT.below hb1
  replace hR := hR.below hb1
  have HI := Lib.hid hI
  have HX := Lib.hid hX
  have HT := Lib.hid hT
  have HR := Lib.hid hR
  obtain ⟨i0, i1, i2, i3⟩ := hI
  obtain ⟨x0, x1, x2, x3, x4⟩ := hX
  obtain ⟨t0, t1⟩ := hT
  obtain ⟨⟨r0, r1, r2, r3⟩, f0, f1, f2⟩ := hR
  clear hb1 hB
  rcases HD.out with rfl | hc
  · have hl := HL.out rfl
    go_wp2_with fail
    refine (pvalid_any _ _ _ _ _).mono ?_
    rintro e w2 ⟨rfl, hb2⟩
    have hB2 := bel_trans hB1 hb2
    obtain ⟨⟨q0, q1, q2, q3⟩, qf0, qf1, qf2⟩ := HR.out.below hb2
    obtain ⟨j0, j1, j2, j3⟩ := HI.out.below hb2
    obtain ⟨y0, y1⟩ := HT.out.below hb2
    obtain ⟨z0, z1, z2, z3, z4⟩ := HX.out.below hb2
    have HX2 := Lib.hid (HX.out.below hb2)
    have HT2 := Lib.hid (HT.out.below hb2)
    have HR2 := Lib.hid (HR.out.below hb2)
    clear i0 i1 i2 i3 x0 x1 x2 x3 x4 t0 t1 r0 r1 r2 r3 f0 f1 f2
    have hp : pxOk ⟨p.r, p.g, p.b, p.a⟩ = pxOk p := rfl
    rw [hp]; clear hp
    have E1 : serr 0 false = 2 := rfl
    cases hok : pxOk p
    · go_wp2_with fail
      refine bodyPost_ret (v := .tuple #[.agg #[.int .i64 0, .int .i64 0, .slice none 0 0], .int .i64 2]) (by simp [results, Try.results13, go_sem, q1, q2, q3]) rfl ?_
      rw [show serr 0 (pxOk p && uok t) = 2 by simp [serr, hok]]
      exact mkOut_of (by omega) ⟨.slice none 0 0, rfl, IRow.nil _ _, set3 hB2 (by omega)⟩
    · go_wp2_with fail
      refine (wunit_any _ _).mono ?_
      rintro e w3 ⟨rfl, rfl⟩
      cases hu : uok t
      · go_wp2_with fail
        refine bodyPost_ret (v := .tuple #[.agg #[.int .i64 0, .int .i64 0, .slice none 0 0], .int .i64 2]) (by simp [results, Try.results13, go_sem, q1, q2, q3]) rfl ?_
        rw [show serr 0 (pxOk p && uok t) = 2 by simp [serr, hok, hu]]
        exact mkOut_of (by omega) ⟨.slice none 0 0, rfl, IRow.nil _ _, set3 hB2 (by omega)⟩
      · go_wp2_with fail
        refine (measured_any W H A ps.length c ps 32 #[.pointer (some ⟨w.heap.size + 1, 0, none⟩), .pointer (some ⟨w.heap.size + 1 + 1, 0, none⟩)] (simV p t) w2 (HP.out.on hB2) hl ent_sim (fun q W' hb => by
          have := simcl_any q p t _ _ W' (HX2.out.below hb) (HT2.out.below hb).1 (HT2.out.below hb).2
          simpa using this)).mono ?_
        rintro e w4 ⟨v, rfl, hrow, hb4⟩
        have hB4 := bel_trans hB2 hb4
        have hE0 : serr 0 (pxOk p && uok t) = 0 := by simp [serr, hok, hu]
        have HR4 := Lib.hid (HR2.out.below hb4)
        obtain ⟨⟨g0, g1, g2, g3⟩, k0, k1, k2⟩ := HR4.out
        obtain ⟨A', cap, rfl⟩ := irow_shape hrow
        have HRW := Lib.hid hrow; clear hrow hb4 j0 j1 j2 j3 y0 y1 z0 z1 z2 z3 z4 q1 q2 q3 qf0 qf1 qf2
        go_wp2_with fail
        refine bodyPost_ret (v := .tuple #[.agg #[.int .i64 W, .int .i64 H, .slice A' (ps.map (simV p t)).length cap], .int .i64 0]) (by simp [results, Try.results13, go_sem, g1, g2, g3]) rfl ?_
        rw [hE0, mkOut_ok]
        exact ⟨_, rfl, irow_set (irow_set (irow_set HRW.out q0 (Nat.le_refl _)) q0 (Nat.le_refl _)) q0 hB2.size, set3 hB4 (by omega)⟩
  · have hne : (ch != 0) = true := by simp [hc]
    go_wp2_with fail
    refine bodyPost_ret (v := .tuple #[.agg #[.int .i64 0, .int .i64 0, .slice none 0 0], .int .i64 ch]) (by simp [results, Try.results13, go_sem, r1, r2, r3]) rfl ?_
    rw [serr_chk _ hc]
    exact mkOut_of hc ⟨.slice none 0 0, rfl, IRow.nil _ _, set3 hB1 (by omega)⟩
set_option maxHeartbeats 4000000 in
theorem soft_any (W H : Int) (A : Option Addr) (n c : Nat) (ps : List Px) (p : Px) (t u : Int) (w : World) (h : Pixs w w.heap.size (.slice A n c) ps) :
    Calls Try.prog 15 #[.agg #[.int .i64 W, .int .i64 H, .slice A n c], .agg #[.int .i64 p.r, .int .i64 p.g, .int .i64 p.b, .int .i64 p.a], .int .i64 t, .int .i64 u] w
      (MkOut (serr2 (ichk W H ps) (pxOk p && uok t && uok u) t u) W H (ps.map (softV p t u)) w) := by
  obtain rfl := h.len
  have HP := Lib.hid h; clear h
  have HL := Lib.hid (ichk_len W H ps)
  have HD := Lib.hid (show ichk W H ps = 0 ∨ ichk W H ps ≠ 0 by omega)
  generalize hE : ichk W H ps = ch at *
  have HE := Lib.hid hE; clear hE
  go_enter Try.func15, Try.ntmps15
  go_wp2_with fail
  obtain ⟨hI, hX, hT, hU, hR, hB⟩ := boxes5 w W H t u (.slice A ps.length c) p _ rfl
  generalize World.alloc _ (.cells #[.int .i64 0, .int .i64 0, .slice none 0 0] 29) = w0 at *
  refine (icheck_any W H A ps.length c ps _ (HP.out.on hB)).mono ?_
  rintro e w1 ⟨rfl, hb1⟩
  rw [HE.out]
  have hB1 := bel_trans hB hb1
  replace hI := hI.below hb1
  replace hX := hX.below hb1
  replace hT := hT.below hb1
  replace hU := hU.below hb1
  replace hR := hR.below hb1
  have HI := Lib.hid hI
  have HX := Lib.hid hX
  have HT := Lib.hid hT
  have HU := Lib.hid hU
  have HR := Lib.hid hR
  obtain ⟨i0, i1, i2, i3⟩ := hI
  obtain ⟨x0, x1, x2, x3, x4⟩ := hX
  obtain ⟨t0, t1⟩ := hT
  obtain ⟨u0, u1⟩ := hU
  obtain ⟨⟨r0, r1, r2, r3⟩, f0, f1, f2⟩ := hR
  clear hb1 hB
  rcases HD.out with rfl | hc
  · have hl := HL.out rfl
    go_wp2_with fail
    refine (pvalid_any _ _ _ _ _).mono ?_
    rintro e w2 ⟨rfl, hb2⟩
    have hB2 := bel_trans hB1 hb2
    obtain ⟨⟨q0, q1, q2, q3⟩, qf0, qf1, qf2⟩ := HR.out.below hb2
    obtain ⟨j0, j1, j2, j3⟩ := HI.out.below hb2
    obtain ⟨y0, y1⟩ := HT.out.below hb2
    obtain ⟨v0, v1⟩ := HU.out.below hb2
    obtain ⟨z0, z1, z2, z3, z4⟩ := HX.out.below hb2
    have HX2 := Lib.hid (HX.out.below hb2)
    have HT2 := Lib.hid (HT.out.below hb2)
    have HU2 := Lib.hid (HU.out.below hb2)
    have HR2 := Lib.hid (HR.out.below hb2)
    clear i0 i1 i2 i3 x0 x1 x2 x3 x4 t0 t1 u0 u1 r0 r1 r2 r3 f0 f1 f2
    have hp : pxOk ⟨p.r, p.g, p.b, p.a⟩ = pxOk p := rfl
    rw [hp]; clear hp
    cases hok : pxOk p
    · go_wp2_with fail
      refine bodyPost_ret (v := .tuple #[.agg #[.int .i64 0, .int .i64 0, .slice none 0 0], .int .i64 2]) (by simp [results, Try.results15, go_sem, q1, q2, q3]) rfl ?_
      rw [show serr2 0 (pxOk p && uok t && uok u) t u = 2 by simp [serr2, hok]]
      exact mkOut_of (by omega) ⟨.slice none 0 0, rfl, IRow.nil _ _, set3 hB2 (by omega)⟩
    · go_wp2_with fail
      refine (wunit_any _ _).mono ?_
      rintro e w3 ⟨rfl, rfl⟩
      cases hu : uok t
      · go_wp2_with fail
        refine bodyPost_ret (v := .tuple #[.agg #[.int .i64 0, .int .i64 0, .slice none 0 0], .int .i64 2]) (by simp [results, Try.results15, go_sem, q1, q2, q3]) rfl ?_
        rw [show serr2 0 (pxOk p && uok t && uok u) t u = 2 by simp [serr2, hok, hu]]
        exact mkOut_of (by omega) ⟨.slice none 0 0, rfl, IRow.nil _ _, set3 hB2 (by omega)⟩
      · go_wp2_with fail
        refine (wunit_any _ _).mono ?_
        rintro e w3 ⟨rfl, rfl⟩
        cases hu2 : uok u
        · go_wp2_with fail
          refine bodyPost_ret (v := .tuple #[.agg #[.int .i64 0, .int .i64 0, .slice none 0 0], .int .i64 2]) (by simp [results, Try.results15, go_sem, q1, q2, q3]) rfl ?_
          rw [show serr2 0 (pxOk p && uok t && uok u) t u = 2 by simp [serr2, hok, hu, hu2]]
          exact mkOut_of (by omega) ⟨.slice none 0 0, rfl, IRow.nil _ _, set3 hB2 (by omega)⟩
        · by_cases hO : t < u
          rotate_left
          · go_wp2_with fail
            refine bodyPost_ret (v := .tuple #[.agg #[.int .i64 0, .int .i64 0, .slice none 0 0], .int .i64 24]) (by simp [results, Try.results15, go_sem, q1, q2, q3]) rfl ?_
            rw [show serr2 0 (pxOk p && uok t && uok u) t u = 24 by simp [serr2, hok, hu, hu2, hO]]
            exact mkOut_of (by omega) ⟨.slice none 0 0, rfl, IRow.nil _ _, set3 hB2 (by omega)⟩
          · have HO := Lib.hid hO
            go_wp2_with fail
            refine (measured_any W H A ps.length c ps 34 #[.pointer (some ⟨w.heap.size + 1, 0, none⟩), .pointer (some ⟨w.heap.size + 1 + 1, 0, none⟩), .pointer (some ⟨w.heap.size + 1 + 1 + 1, 0, none⟩)] (softV p t u) w2 (HP.out.on hB2) hl ent_soft (fun q W' hb => by
              have := softcl_any q p t u _ _ _ W' ((uok_iff t).1 hu) ((uok_iff u).1 hu2) HO.out (HX2.out.below hb) (HT2.out.below hb).1 (HT2.out.below hb).2 (HU2.out.below hb).1 (HU2.out.below hb).2
              simpa using this)).mono ?_
            rintro e w4 ⟨v, rfl, hrow, hb4⟩
            have hB4 := bel_trans hB2 hb4
            have hE0 : serr2 0 (pxOk p && uok t && uok u) t u = 0 := by simp [serr2, hok, hu, hu2, HO.out]
            have HR4 := Lib.hid (HR2.out.below hb4)
            obtain ⟨⟨g0, g1, g2, g3⟩, k0, k1, k2⟩ := HR4.out
            obtain ⟨A', cap, rfl⟩ := irow_shape hrow
            have HRW := Lib.hid hrow; clear hrow hb4 j0 j1 j2 j3 y0 y1 v0 v1 z0 z1 z2 z3 z4 q1 q2 q3 qf0 qf1 qf2
            go_wp2_with fail
            refine bodyPost_ret (v := .tuple #[.agg #[.int .i64 W, .int .i64 H, .slice A' (ps.map (softV p t u)).length cap], .int .i64 0]) (by simp [results, Try.results15, go_sem, g1, g2, g3]) rfl ?_
            rw [hE0, mkOut_ok]
            exact ⟨_, rfl, irow_set (irow_set (irow_set HRW.out q0 (Nat.le_refl _)) q0 (Nat.le_refl _)) q0 hB2.size, set3 hB4 (by omega)⟩
  · have hne : (ch != 0) = true := by simp [hc]
    go_wp2_with fail
    refine bodyPost_ret (v := .tuple #[.agg #[.int .i64 0, .int .i64 0, .slice none 0 0], .int .i64 ch]) (by simp [results, Try.results15, go_sem, r1, r2, r3]) rfl ?_
    rw [serr2_chk _ _ _ hc]
    exact mkOut_of hc ⟨.slice none 0 0, rfl, IRow.nil _ _, set3 hB1 (by omega)⟩
end Go.Proofs.Ytgdefgpbaccneaa
