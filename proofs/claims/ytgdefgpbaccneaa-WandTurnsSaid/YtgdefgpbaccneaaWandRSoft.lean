/- The reference's Soft. -/
import Derived.Test.YtgdefgpbaccneaaWandRef
namespace Go.Proofs.Ytgdefgpbaccneaa
open Go.RowKit

set_option maxHeartbeats 4000000 in
theorem rsoft_any (W H : Int) (A : Option Addr) (n c : Nat) (ps : List Px) (p : Px) (t u : Int) (w : World) (h : Pixs w w.heap.size (.slice A n c) ps) :
    Calls Try.prog 16 #[.agg #[.int .i64 W, .int .i64 H, .slice A n c], .agg #[.int .i64 p.r, .int .i64 p.g, .int .i64 p.b, .int .i64 p.a], .int .i64 t, .int .i64 u] w
      (MkOut (serr2 (ichk W H ps) (pxOk p && uok t && uok u) t u) W H (ps.map (softV p t u)) w) := by
  obtain rfl := h.len
  have HP := Lib.hid h; clear h
  have HL := Lib.hid (ichk_len W H ps)
  have HD := Lib.hid (show ichk W H ps = 0 ∨ ichk W H ps ≠ 0 by omega)
  generalize hE : ichk W H ps = ch at *
  have HE := Lib.hid hE; clear hE
  go_enter Try.func16, Try.ntmps16
  go_wp2_with fail
  obtain ⟨hI, hX, hR, hB⟩ := boxes3 w W H (.slice A ps.length c) p _ rfl
  generalize World.alloc _ (.cells #[.int .i64 0, .int .i64 0, .slice none 0 0] 29) = w0 at *
  refine (richeck_any W H A ps.length c ps _ (HP.out.on hB)).mono ?_
  rintro e w1 ⟨rfl, hb1⟩
  rw [HE.out]
  have hB1 := bel_trans hB hb1
  replace hI := hI.below hb1
  replace hX := hX.below hb1
  replace hR := hR.below hb1
  have HI := Lib.hid hI
  have HX := Lib.hid hX
  have HR := Lib.hid hR
  obtain ⟨i0, i1, i2, i3⟩ := hI
  obtain ⟨x0, x1, x2, x3, x4⟩ := hX
  obtain ⟨⟨r0, r1, r2, r3⟩, f0, f1, f2⟩ := hR
  clear hb1 hB
  rcases HD.out with rfl | hc
  · have hl := HL.out rfl
    go_wp2_with fail
    refine (rpvalid_any _ _ _ _ _).mono ?_
    rintro e w2 ⟨rfl, hb2⟩
    have hB2 := bel_trans hB1 hb2
    obtain ⟨⟨q0, q1, q2, q3⟩, qf0, qf1, qf2⟩ := HR.out.below hb2
    obtain ⟨j0, j1, j2, j3⟩ := HI.out.below hb2
    obtain ⟨z0, z1, z2, z3, z4⟩ := HX.out.below hb2
    have HI2 := Lib.hid (HI.out.below hb2)
    have HX2 := Lib.hid (HX.out.below hb2)
    have HR2 := Lib.hid (HR.out.below hb2)
    clear i0 i1 i2 i3 x0 x1 x2 x3 x4 r0 r1 r2 r3 f0 f1 f2
    have hp : pxOk ⟨p.r, p.g, p.b, p.a⟩ = pxOk p := rfl
    rw [hp]; clear hp
    cases hok : pxOk p
    · go_wp2_with fail
      refine bodyPost_ret (v := .tuple #[.agg #[.int .i64 0, .int .i64 0, .slice none 0 0], .int .i64 2]) (by simp [results, Try.results16, go_sem, q1, q2, q3]) rfl ?_
      rw [show serr2 0 (pxOk p && uok t && uok u) t u = 2 by simp [serr2, hok]]
      exact mkOut_of (by omega) ⟨.slice none 0 0, rfl, IRow.nil _ _, set3 hB2 (by omega)⟩
    · go_wp2_with fail
      refine (runit_any _ _).mono ?_
      rintro e w3 ⟨rfl, rfl⟩
      cases hu : uok t
      · go_wp2_with fail
        refine bodyPost_ret (v := .tuple #[.agg #[.int .i64 0, .int .i64 0, .slice none 0 0], .int .i64 2]) (by simp [results, Try.results16, go_sem, q1, q2, q3]) rfl ?_
        rw [show serr2 0 (pxOk p && uok t && uok u) t u = 2 by simp [serr2, hok, hu]]
        exact mkOut_of (by omega) ⟨.slice none 0 0, rfl, IRow.nil _ _, set3 hB2 (by omega)⟩
      · go_wp2_with fail
        refine (runit_any _ _).mono ?_
        rintro e w3 ⟨rfl, rfl⟩
        cases hu2 : uok u
        · go_wp2_with fail
          refine bodyPost_ret (v := .tuple #[.agg #[.int .i64 0, .int .i64 0, .slice none 0 0], .int .i64 2]) (by simp [results, Try.results16, go_sem, q1, q2, q3]) rfl ?_
          rw [show serr2 0 (pxOk p && uok t && uok u) t u = 2 by simp [serr2, hok, hu, hu2]]
          exact mkOut_of (by omega) ⟨.slice none 0 0, rfl, IRow.nil _ _, set3 hB2 (by omega)⟩
        · by_cases hO : t < u
          rotate_left
          · go_wp2_with fail
            refine bodyPost_ret (v := .tuple #[.agg #[.int .i64 0, .int .i64 0, .slice none 0 0], .int .i64 24]) (by simp [results, Try.results16, go_sem, q1, q2, q3]) rfl ?_
            rw [show serr2 0 (pxOk p && uok t && uok u) t u = 24 by simp [serr2, hok, hu, hu2, hO]]
            exact mkOut_of (by omega) ⟨.slice none 0 0, rfl, IRow.nil _ _, set3 hB2 (by omega)⟩
          · have HE0 := Lib.hid (show serr2 0 (pxOk p && uok t && uok u) t u = 0 by simp [serr2, hok, hu, hu2, hO])
            have hun := (uok_iff t).1 hu
            have huf := (uok_iff u).1 hu2
            clear hok hu hu2
            go_wp2_with fail
            have hM := BoxAt.new w2 W H (.slice none 0 0) 29
            go_loopw [47] (RefRel W H (ps.map (softV p t u)) w2) (fun i _ => ps.length - (intOf i).toNat)
            case atStart => exact ⟨0, .slice none 0 0, Nat.zero_le _, rfl, hM, IRow.nil _ _, bel1 _ _⟩
            case round =>
              obtain ⟨k, v, hk, rfl, hbox, hrow, hbr⟩ := hrel
              rw [List.length_map] at hk
              have hszr := hbr.size
              have hBr := bel_trans hB2 hbr
              have HIr := Lib.hid (HI2.out.below hbr)
              have HXr := Lib.hid (HX2.out.below hbr)
              have HRr := Lib.hid (HR2.out.below hbr)
              obtain ⟨A1, cap1, rfl⟩ := irow_shape hrow
              have hlen : ((ps.map (softV p t u)).take k).length = k := by rw [List.length_take, List.length_map]; omega
              rw [hlen] at hrow hbox
              have HBX := Lib.hid hbox
              obtain ⟨⟨m0, m1, m2, m3⟩, mf0, mf1, mf2⟩ := hbox
              clear hM j0 j1 j2 j3 z0 z1 z2 z3 z4 q1 q2 q3 qf0 qf1 qf2
              by_cases hlt : k < ps.length
              · obtain ⟨A', c', ev, _, hcc⟩ := HP.out.on hBr
                obtain ⟨b, o, rfl, hb, c1, c2, c3, c4⟩ := hcc k hlt
                injection ev with ev1 _ ev3
                subst ev1
                clear hcc ev3
                have HT := Lib.hid (take_map_succ (f := softV p t u) ps k hlt)
                have HRW := Lib.hid hrow; clear hrow
                obtain ⟨j0, j1, j2, j3⟩ := HIr.out
                obtain ⟨z0, z1, z2, z3, z4⟩ := HXr.out
                generalize pat ps k = q at *
                go_wp2_with fail
                have hkn0 : (0 : Int) ≤ (k : Int) := by omega
                have hkn1 : (k : Int) < (ps.length : Int) := by omega
                have hS0 : wr.drew.cell? ⟨w.heap.size, 2, none⟩ = some (.slice (some ⟨b, o, none⟩) ps.length c) ∧ wr.drew.cell? ⟨b, o + k * 4, none⟩ = some (.int .i64 q.r) ∧ wr.drew.cell? ⟨b, o + k * 4 + 1, none⟩ = some (.int .i64 q.g) ∧ wr.drew.cell? ⟨b, o + k * 4 + 2, none⟩ = some (.int .i64 q.b) ∧ wr.drew.cell? ⟨b, o + k * 4 + 3, none⟩ = some (.int .i64 q.a) ∧ wr.drew.cell? ⟨w.heap.size + 1, 0, none⟩ = some (.int .i64 p.r) ∧ wr.drew.cell? ⟨w.heap.size + 1, 1, none⟩ = some (.int .i64 p.g) ∧ wr.drew.cell? ⟨w.heap.size + 1, 2, none⟩ = some (.int .i64 p.b) ∧ wr.drew.cell? ⟨w.heap.size + 1, 3, none⟩ = some (.int .i64 p.a) := ⟨j3, c1, c2, c3, c4, z1, z2, z3, z4⟩
                have HS4 := Lib.hid (show ∀ w4, Below wr.drew.heap.size wr.drew w4 → w4.cell? ⟨w.heap.size, 2, none⟩ = some (.slice (some ⟨b, o, none⟩) ps.length c) ∧ w4.cell? ⟨b, o + k * 4, none⟩ = some (.int .i64 q.r) ∧ w4.cell? ⟨b, o + k * 4 + 1, none⟩ = some (.int .i64 q.g) ∧ w4.cell? ⟨b, o + k * 4 + 2, none⟩ = some (.int .i64 q.b) ∧ w4.cell? ⟨b, o + k * 4 + 3, none⟩ = some (.int .i64 q.a) ∧ w4.cell? ⟨w.heap.size + 1, 0, none⟩ = some (.int .i64 p.r) ∧ w4.cell? ⟨w.heap.size + 1, 1, none⟩ = some (.int .i64 p.g) ∧ w4.cell? ⟨w.heap.size + 1, 2, none⟩ = some (.int .i64 p.b) ∧ w4.cell? ⟨w.heap.size + 1, 3, none⟩ = some (.int .i64 p.a) from fun w4 hb4 => ⟨(hb4.cell (p := ⟨w.heap.size, 2, none⟩) j0).trans j3, (hb4.cell (p := ⟨b, o + k * 4, none⟩) hb).trans c1, (hb4.cell (p := ⟨b, o + k * 4 + 1, none⟩) hb).trans c2, (hb4.cell (p := ⟨b, o + k * 4 + 2, none⟩) hb).trans c3, (hb4.cell (p := ⟨b, o + k * 4 + 3, none⟩) hb).trans c4, (hb4.cell (p := ⟨w.heap.size + 1, 0, none⟩) z0).trans z1, (hb4.cell (p := ⟨w.heap.size + 1, 1, none⟩) z0).trans z2, (hb4.cell (p := ⟨w.heap.size + 1, 2, none⟩) z0).trans z3, (hb4.cell (p := ⟨w.heap.size + 1, 3, none⟩) z0).trans z4⟩)
                have HV := Lib.hid (show softV p t u q = if dist q p ≤ t then 65535 else if u ≤ dist q p then 0 else rdiv (65535 * (u - dist q p)) (u - t) from rfl)
                go_region_held3 (fun w' => w'.cell? ⟨w.heap.size, 2, none⟩ = some (.slice (some ⟨b, o, none⟩) ps.length c) ∧ w'.cell? ⟨b, o + k * 4, none⟩ = some (.int .i64 q.r) ∧ w'.cell? ⟨b, o + k * 4 + 1, none⟩ = some (.int .i64 q.g) ∧ w'.cell? ⟨b, o + k * 4 + 2, none⟩ = some (.int .i64 q.b) ∧ w'.cell? ⟨b, o + k * 4 + 3, none⟩ = some (.int .i64 q.a) ∧ w'.cell? ⟨w.heap.size + 1, 0, none⟩ = some (.int .i64 p.r) ∧ w'.cell? ⟨w.heap.size + 1, 1, none⟩ = some (.int .i64 p.g) ∧ w'.cell? ⟨w.heap.size + 1, 2, none⟩ = some (.int .i64 p.b) ∧ w'.cell? ⟨w.heap.size + 1, 3, none⟩ = some (.int .i64 p.a))
                  (first | assumption | exact hS0 | exact HS4.out _ hbw4 | go_keep)
                  ((go_at_call 26; refine (rdist_any _ _ _ _ _ _ _ _ _).mono ?_; rintro e w4 ⟨rfl, hbw4⟩))
                have hdb := dist_bd (Px.mk q.r q.g q.b q.a) (Px.mk p.r p.g p.b p.a)
                generalize hdq : dist (Px.mk q.r q.g q.b q.a) (Px.mk p.r p.g p.b p.a) = d at hdb ⊢
                have HV' := Lib.hid (show softV p t u q = if d ≤ t then 65535 else if u ≤ d then 0 else rdiv (65535 * (u - d)) (u - t) by rw [← hdq]; exact HV.out)
                clear hdq
                have hB4 : Below w.heap.size w w4 := bel_trans (hBr.drew) hbw4
                have hB4' : Below w2.heap.size w2 w4 := bel_trans (hbr.drew) hbw4
                have HB4 := Lib.hid (HBX.out.drew.below hbw4)
                have hrow4 : IRow w4 (w2.heap.size + 1) _ _ := (HRW.out.drewN 1).below hbw4
                obtain ⟨⟨n0, n1, n2, n3⟩, nf0, nf1, nf2⟩ := HB4.out
                go_wp2_with fail
                refine (rdiv_any _ _ _ (by omega) (by omega) (by omega) (by omega)).mono ?_
                rintro e w6' ⟨rfl, m6, rfl⟩
                have hrow6 := hrow4.drewN m6
                have hB6' := Below.drewN' hB4' m6
                have HB6 : Hid (BoxAt (w4.drewN m6) w2.heap.size W H (.slice A1 k cap1)) := Lib.hid HB4.out
                clear n0 n1 n2 n3 nf0 nf1 nf2
                generalize w4.drewN m6 = w6 at *
                obtain ⟨⟨n0, n1, n2, n3⟩, nf0, nf1, nf2⟩ := HB6.out
                generalize rdiv (65535 * (u - d)) (u - t) = y at *
                rcases (show d ≤ t ∨ (t < d ∧ u ≤ d) ∨ (t < d ∧ d < u) by omega) with hd | ⟨hd, hd'⟩ | ⟨hd, hd'⟩
                all_goals
                  first | rw [if_pos hd] at HV' | rw [if_neg (by omega), if_pos hd'] at HV' | rw [if_neg (by omega), if_neg (by omega)] at HV'
                  go_wp2_with (at_builtin; refine push_new _ rfl _ _ rfl (w2.heap.size + 1) _ _ rfl hrow6 _ rfl (by omega) (by omega) ?_; intro v' w5 hown5 hbw; obtain ⟨A5, cap5, rfl⟩ := irow_shape hown5; have HB5 := Lib.hid (HB6.out.cutBelow hbw (Nat.lt_succ_self _)); obtain ⟨⟨s0, s1, s2, s3⟩, sf0, sf1, sf2⟩ := HB5.out)
                  go_roundw
                  case rel =>
                    refine ⟨k + 1, _, by rw [List.length_map]; omega, by go_num, HB5.out.setV, ?_, ?_⟩
                    · rw [List.length_append, hlen, List.length_singleton] at hown5; rw [HT.out, HV'.out]; exact irow_set hown5 (Nat.lt_succ_self _) (Nat.le_refl _)
                    · exact (hB6'.trans (hbw.mono (Nat.le_succ _))).setCell (p := ⟨w2.heap.size, 2, none⟩) (Nat.le_refl _) _
                  case measure => simp [intOf]; omega
              · obtain rfl : k = ps.length := by omega
                have hta : (ps.map (softV p t u)).take ps.length = ps.map (softV p t u) := by rw [List.take_of_length_le (by rw [List.length_map]; omega)]
                rw [hta] at hrow
                have HRW := Lib.hid hrow; clear hrow
                obtain ⟨⟨g0, g1, g2, g3⟩, k0, k1, k2⟩ := HRr.out
                obtain ⟨j0, j1, j2, j3⟩ := HIr.out
                go_wp2_with fail
                refine bodyPost_ret (v := .tuple #[.agg #[.int .i64 W, .int .i64 H, .slice A1 ps.length cap1], .int .i64 0]) (by simp [results, Try.results16, go_sem, g1, g2, g3]) rfl ?_
                rw [HE0.out, mkOut_ok]
                exact ⟨_, rfl, irow_set (irow_set (irow_set HRW.out (Nat.lt_succ_of_lt q0) (Nat.le_refl _)) (Nat.lt_succ_of_lt q0) (Nat.le_refl _)) (Nat.lt_succ_of_lt q0) (by have := hB2.size; omega), set3 hBr (by omega)⟩
  · have hne : (ch != 0) = true := by simp [hc]
    go_wp2_with fail
    refine bodyPost_ret (v := .tuple #[.agg #[.int .i64 0, .int .i64 0, .slice none 0 0], .int .i64 ch]) (by simp [results, Try.results16, go_sem, r1, r2, r3]) rfl ?_
    rw [serr2_chk _ _ _ hc]
    exact mkOut_of hc ⟨.slice none 0 0, rfl, IRow.nil _ _, set3 hB1 (by omega)⟩
end Go.Proofs.Ytgdefgpbaccneaa
