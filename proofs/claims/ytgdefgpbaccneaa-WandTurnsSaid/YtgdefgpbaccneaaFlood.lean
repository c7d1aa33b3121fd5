/- wand.Flood. -/
import Derived.Test.YtgdefgpbaccneaaFloodDef
import Derived.Deep.LoopGhost
namespace Go.Proofs.Ytgdefgpbaccneaa
open Go.RowKit

set_option maxRecDepth 100000 in
set_option maxHeartbeats 8000000 in
theorem flood_any (W H x y t : Int) (dg : Bool) (A : Option Addr) (n0 c : Nat) (ps : List Px) (w : World) (h : Pixs w w.heap.size (.slice A n0 c) ps) :
    Calls Try.prog 9 #[.agg #[.int .i64 W, .int .i64 H, .slice A n0 c], .agg #[.int .i64 x, .int .i64 y], .int .i64 t, .bool dg] w (FlOut W H x y t dg ps (ichk W H ps) w) := by
  obtain rfl := h.len
  have HP := Lib.hid h; clear h
  have HL := Lib.hid (ichk_len W H ps)
  have HK := Lib.hid (ichk_iff W H ps)
  have HD := Lib.hid (show ichk W H ps = 0 ∨ ichk W H ps ≠ 0 by omega)
  generalize hE : ichk W H ps = ch at *
  have HE := Lib.hid hE; clear hE
  go_enter Try.func9, Try.ntmps9
  go_wp2_with fail
  obtain ⟨hI, hX, hR, hB⟩ := boxesF w W H x y (.slice A ps.length c) _ rfl
  generalize World.alloc _ (.cells #[.int .i64 0, .int .i64 0, .slice none 0 0] 29) = w0 at *
  refine (icheck_any W H A ps.length c ps _ (HP.out.on hB)).mono ?_
  rintro e w1 ⟨rfl, hb1⟩
  rw [HE.out]
  have hB1 := bel_trans hB hb1
  replace hI := hI.below hb1
  replace hX := hX.below hb1
  replace hR := hR.below hb1
  have HI := Lib.hid hI
  have HX := Lib.hid hX
  have HR := Lib.hid hR
  obtain ⟨i0, i1, i2, i3⟩ := hI
  obtain ⟨x0, x1, x2⟩ := hX
  obtain ⟨⟨r0, r1, r2, r3⟩, f0, f1, f2⟩ := hR
  clear hb1 hB
  rcases HD.out with rfl | hc
  rotate_left
  · have hne : (ch != 0) = true := by simp [hc]
    go_wp2_with fail
    refine bodyPost_ret (v := .tuple #[.agg #[.int .i64 0, .int .i64 0, .slice none 0 0], .int .i64 ch]) (by simp [results, Try.results9, go_sem, r1, r2, r3]) rfl ?_
    exact flOut_err (ferr_chk _ _ _ _ _ hc) hc ⟨.slice none 0 0, rfl, IRow.nil _ _, set3 hB1 (by omega)⟩
  have hl := HL.out rfl
  have hok := HK.out.1 rfl
  rcases (show x < 0 ∨ (0 ≤ x ∧ W ≤ x) ∨ (0 ≤ x ∧ x < W ∧ y < 0) ∨ (0 ≤ x ∧ x < W ∧ 0 ≤ y ∧ H ≤ y) ∨ (0 ≤ x ∧ x < W ∧ 0 ≤ y ∧ y < H) by omega) with g | ⟨g, g'⟩ | ⟨g, g', g2⟩ | ⟨g, g', g2, g3⟩ | ⟨g, g', g2, g3⟩
  case inr.inr.inr.inr =>
    have HW := Lib.hid (And.intro hok.w1 hok.h1)
    have HN := Lib.hid hok.n
    clear hok
    have hyW : 0 ≤ y * W ∧ y * W ≤ 65536 := by
      have e1 : 0 ≤ y * W := Int.mul_nonneg g2 (by omega)
      have e2 : y * W ≤ 256 * 256 := Int.mul_le_mul (by have := HW.out.2; omega) HW.out.1 (by omega) (by omega)
      omega
    have hpl := place_bd g g' g2 g3
    obtain ⟨s, hs⟩ : ∃ s : Nat, y * W + x = s := ⟨(y * W + x).toNat, by omega⟩
    have hsN : s < ps.length := by have := HN.out; omega
    have HS := Lib.hid hs; clear hs hpl
    go_wp2_with fail
    refine (wunit_any _ _).mono ?_
    rintro e w3 ⟨rfl, rfl⟩
    cases hu : uok t
    · go_wp2_with fail
      refine bodyPost_ret (v := .tuple #[.agg #[.int .i64 0, .int .i64 0, .slice none 0 0], .int .i64 2]) (by simp [results, Try.results9, go_sem, r1, r2, r3]) rfl ?_
      exact flOut_err (ferr_no (by simp [hu])) (by omega) ⟨.slice none 0 0, rfl, IRow.nil _ _, set3 hB1 (by omega)⟩
    have HF := Lib.hid (ferr_ok (W := W) (H := H) ⟨g, g', g2, g3, hu⟩)
    clear hu
    have hmk : ∀ w, (Instr.makeSlice 27 (.int .i64 (ps.length : Int)) (.int .i64 (ps.length : Int))).run Try.prog w = .ok (.slice (some ⟨w.heap.size, 0, none⟩) ps.length ps.length) (w.alloc (.cells (madeCells #[.int .i64 0] ps.length) 3)) :=
      fun w => run_make_row' 27 3 (.int .i64 0) 8 Try.underlying27 Try.infoInt rfl .i64 .i64 ps.length (by omega) (by omega) w
    go_upto_region 6 with fail
    go_cut [11] (MeMid W H ps.length w1)
    case first =>
      go_region
      all_goals go_wp2_with fail
      all_goals go_meet
      · exact memid1 W H ps.length _ w1 rfl hl
      · exact memid2 W H ps.length _ w1 rfl hl
    case rest =>
      clear hmk
      obtain ⟨gm, gv, rfl, hgm, hgm', hne, m0, m1, m2, _, hrow, hbel⟩ := hcut
      have hsz := hbel.size
      have hgv := hrow.lo
      have hBc := bel_trans hB1 hbel
      have HIc := Lib.hid (HI.out.below hbel)
      have HRc := Lib.hid (HR.out.below hbel)
      obtain ⟨i0', i1', i2', i3'⟩ := HIc.out
      obtain ⟨x0', x1', x2'⟩ := HX.out.below hbel
      obtain ⟨A', c', ev, _, hcc⟩ := HP.out.on hBc
      obtain ⟨b, o, rfl, hb, c1, c2, c3, c4⟩ := hcc s hsN
      injection ev with ev1 _ ev3
      subst ev1
      clear hcc ev3
      generalize hq : pat ps s = p at *
      have HQ := Lib.hid hq; clear hq
      clear i0 i1 i2 i3 x0 x1 x2 r1 r2 r3 f0 f1 f2
      have hz0 : (List.replicate ps.length (0 : Int))[s]? = some 0 := by rw [List.getElem?_replicate, if_pos hsN]
      have v0 := hrow.cell hz0
      have v1 := hrow.frozen s
      clear hz0
      have hs := HS.out
      have HROW := Lib.hid hrow; clear hrow
      go_wp2_with fail
      clear hs
      obtain ⟨hGM, hPX, hM0, hKB, hsz2⟩ := flood_base (s := s) (p := p) rfl hgm' hne m0 m1 m2 HROW.out
      generalize World.alloc (World.setCell wc _ _) _ = w2 at *
      have HGM := Lib.hid hGM; have HPX := Lib.hid hPX; have HM0 := Lib.hid hM0; have HKB := Lib.hid hKB
      have HSZ2 := Lib.hid hsz2
      clear hGM hPX hM0 hKB hsz2
      have hlt2 : w.heap.size + 2 < w1.heap.size := r0
      have HZ := Lib.hid (show zeros ((List.replicate ps.length (0 : Int)).set s 65535) + 1 = ps.length by
        rw [zeros_set _ _ (by simpa using hsN) (by simp [List.getD_eq_getElem?_getD, hsN])]; simp [zeros])
      go_loopg [14] (2 * ps.length) (FlRel ps.length W dg (simP ps t s) s w1.heap.size gv w2)
      case atStart => exact ⟨_, [(s : Int)], s, dinv_start hsN, by have := HZ.out; simp only [List.length_singleton]; omega, by have := HZ.out; simp only [List.length_singleton]; omega, HM0.out.alloc _, IRow.made' w2 w2.heap.size _ (s : Int) HSZ2.out.symm (Nat.le_refl _), (KB.refl _ _ _).alloc _ (Nat.le_refl _)⟩
      case round =>
        obtain ⟨M, st, pp, hD, hms, hln, hM, hS, hkb⟩ := hrel
        have HDI := Lib.hid hD; have HMS := Lib.hid hms; have HLN := Lib.hid hln; have HM := Lib.hid hM; have HKR := Lib.hid hkb
        clear hD hms hln hM hkb
        have hw2 : w2.heap.size = wc.heap.size + 1 := HSZ2.out
        have HBr := Lib.hid (show Below w.heap.size w wr from HKR.out.toBelow (HKB.out.toBelow hBc (by omega) (by omega)) (by omega) (by omega))
        have HIr := Lib.hid ((HIc.out.kb HKB.out (by omega) (by omega)).kb HKR.out (by omega) (by omega))
        have HRr := Lib.hid ((HRc.out.kb HKB.out (by omega) (by omega)).kb HKR.out (by omega) (by omega))
        have HGr := Lib.hid (HGM.out.kb HKR.out (by omega) hne)
        have HPr := Lib.hid (HPX.out.kb HKR.out (by omega) (by omega))
        have HW2 := Lib.hid hw2; clear hw2
        rcases List.eq_nil_or_concat st with rfl | ⟨st', q, hst⟩
        · obtain ⟨A1, cap1, rfl⟩ := irow_shape hS
          rw [List.length_nil] at *
          clear hS
          obtain ⟨⟨q0, q1, q2, q3⟩, qf0, qf1, qf2⟩ := HRr.out
          obtain ⟨e0, e1, e2, e3⟩ := HGr.out
          go_wp2_with fail
          refine bodyPost_ret (v := .tuple #[.agg #[.int .i64 W, .int .i64 H, .slice (some ⟨gv, 0, none⟩) ps.length ps.length], .int .i64 0]) (by simp [results, Try.results9, go_sem, q1, q2, q3]) rfl ?_
          refine ⟨M, fun _ => ?_, ?_⟩
          · have e : (y * W + x).toNat = s := by rw [HS.out]; rfl
            rw [e]; exact HDI.out.done
          · rw [HF.out, mkOut_ok]
            exact ⟨_, rfl, irow_set (irow_set (irow_set HM.out hlt2 (Nat.le_refl _)) hlt2 (Nat.le_refl _)) hlt2 hB1.size, set3 HBr.out (by omega)⟩
        · rw [List.concat_eq_append] at hst
          subst hst
          obtain ⟨gs, cap1, rfl, hgs, hgs'⟩ := irow_shape1 hS
          have hqc := hS.cell (i := st'.length) (x := q) (by simp)
          have HPOP := Lib.hid (irow_pop hS)
          have hcap := irow_cap hS
          have hcap' : st'.length ≤ cap1 := by omega
          clear hS hcap
          obtain ⟨qn, rfl, hqN, hqm⟩ := HDI.out.stk q (by simp)
          have HQM := Lib.hid hqm; clear hqm
          obtain ⟨i0, i1, i2, i3⟩ := HIr.out
          have hstl : st'.length ≤ 65536 := by have := HLN.out; rw [List.length_append] at this; omega
          go_wp2_with fail
          refine (neighbors_any W H qn _ dg _ ⟨by omega, HW.out.1⟩ ⟨by omega, HW.out.2⟩ ⟨by omega, by omega⟩).mono ?_
          rintro e w5 ⟨vn, rfl, hvn, hb5⟩
          obtain ⟨A5, cap5, rfl⟩ := irow_shape hvn
          have HLM := Lib.hid (fun x (hx : x ∈ nbAll W H qn dg 3) => nbAll_mem hx)
          have HD2 := Lib.hid (show DInv ps.length W dg (simP ps t s) s M st' qn (nbAll W H qn dg 3) from
            HDI.out.pop (by simp) (fun x hx => by rcases List.mem_append.1 hx with h | h; exact .inr h; exact .inl (by simpa using h)) (fun x hx => List.mem_append_left _ hx)
              (fun b hb hj => by
                by_cases e : b = qn
                · exact .inl e
                · exact .inr (nbAll_has (by omega) ⟨by omega, by have := HN.out; omega⟩ hj (by omega))))
          have hl8 := nbAll_len W H qn dg 3
          generalize nbAll W H qn dg 3 = l at *
          have HVN := Lib.hid hvn; clear hvn
          have HMS2 := Lib.hid (show 2 * zeros M + st'.length + 1 ≤ gk by have := HMS.out; rw [List.length_append, List.length_singleton] at this; omega)
          have HLN2 := Lib.hid (show st'.length + zeros M ≤ ps.length by have := HLN.out; rw [List.length_append, List.length_singleton] at this; omega)
          have HM5 := Lib.hid (HM.out.below hb5)
          have HPOP5 := Lib.hid (HPOP.out.below hb5)
          have HK5 := Lib.hid (HKR.out.below hb5 (by have := HKR.out.size; omega))
          obtain ⟨B3, hB3⟩ : ∃ B3, B3 = wr.heap.size := ⟨_, rfl⟩
          rw [← hB3] at HVN
          have HB3 := Lib.hid (show w2.heap.size ≤ B3 by rw [hB3]; exact HKR.out.size)
          have hgsB : gs < B3 := by rw [hB3]; exact hgs'
          clear hB3 i0 i1 i2 i3 hqc hb5
          go_wp2_with fail
          go_loopg [14, 99] l.length (FlIn ps.length W dg (simP ps t s) s w1.heap.size gv w2 qn l (.slice A5 l.length cap5) B3 gk)
          case atStart =>
            refine ⟨0, M, st', Nat.zero_le _, by omega, rfl, HD2.out, HMS2.out, HLN2.out, HM5.out, HPOP5.out, HVN.out, ?_, HK5.out⟩
            intro k hk e
            simp [Value.ownBlock] at hk
            have := (irow_lt HVN.out e).1
            omega
          case round =>
            obtain ⟨j, M', st2, hj, rfl, rfl, hD, hms, hln, hM, hS2, hN5, hsep, hkb⟩ := hrel
            clear HM HPOP HM5 HPOP5 HK5 HKR HIr HRr HGr HPr HBr HDI HMS HLN HD2 HMS2 HLN2
            have HDI := Lib.hid hD; have HMS := Lib.hid hms; have HLN := Lib.hid hln; have HM := Lib.hid hM; have HKR := Lib.hid hkb; have HS2 := Lib.hid hS2; have HN5 := Lib.hid hN5; have HSEP := Lib.hid hsep
            clear hD hms hln hM hkb hS2 hN5 hsep
            by_cases hlt : j < l.length
            rotate_left
            · obtain rfl : j = l.length := by omega
              have hDD := HDI.out
              rw [List.drop_length] at hDD
              have HDD := Lib.hid hDD; clear hDD
              go_wp2_with fail
              go_roundg (2 * zeros M' + st2.length)
              case measure => have := HMS.out; omega
              case rel => exact ⟨M', st2, qn, HDD.out, Nat.le_refl _, HLN.out, HM.out, HS2.out, HKR.out⟩
            · have HBr := Lib.hid (show Below w.heap.size w wr from HKR.out.toBelow (HKB.out.toBelow hBc (by omega) (by have := HW2.out; omega)) (by omega) (by have := HW2.out; omega))
              obtain ⟨i0, i1, i2, i3⟩ := (HIc.out.kb HKB.out (by omega) (by omega)).kb HKR.out (by have := HW2.out; omega) (by omega)
              obtain ⟨hgmR, _, _, m2⟩ := HGM.out.kb HKR.out (by have := HW2.out; omega) hne
              obtain ⟨hbcR, z1, z2, z3, z4⟩ := HPX.out.kb HKR.out (by have := HW2.out; omega) (by omega)
              have hl2 : l[j]? = some l[j] := List.getElem?_eq_getElem hlt
              have hdr := List.drop_eq_getElem_cons hlt
              have hlm := HLM.out l[j] (List.getElem_mem hlt)
              generalize l[j] = xx at *
              obtain ⟨n, rfl⟩ : ∃ n : Nat, xx = n := ⟨xx.toNat, by omega⟩
              obtain ⟨_, hnN, hadj⟩ := hlm
              have hn : n < ps.length := by have := HN.out; omega
              obtain ⟨gn, capn, en, hgn, hgn'⟩ := HN5.out.form (by omega)
              injection en with en1 _ en3
              subst en1 en3
              have hnc := HN5.out.cell hl2
              have hDD := HDI.out
              rw [hdr] at hDD
              have HDD := Lib.hid hDD; have HADJ := Lib.hid hadj
              clear hDD hadj hdr hl2 hnN HDI
              obtain ⟨A', c', ev, _, hcc⟩ := HP.out.on HBr.out
              obtain ⟨b, o, ea, hb, c1, c2, c3, c4⟩ := hcc n hn
              injection ev with ev1 _ ev3
              rw [ea] at ev1
              injection ev1 with ev1
              injection ev1 with eb eo _
              subst eb eo
              clear hcc ev3 ea
              have HQN := Lib.hid (show (simP ps t s n ↔ dist (pat ps n) p ≤ t) by unfold simP; rw [HQ.out])
              generalize hpq : pat ps n = q at *
              clear hpq
              have hgvR := HM.out.lo
              have hMl : M'.length = ps.length := HDD.out.len
              have hMn : M'[n]? = some (M'.getD n 0) := by rw [List.getD_eq_getElem?_getD, List.getElem?_eq_getElem (by omega)]; rfl
              have mn := HM.out.cell hMn
              have mf := HM.out.frozen n
              have hval := HDD.out.val n hn
              generalize hu : M'.getD n 0 = u at *
              have HU := Lib.hid hu
              have HML := Lib.hid hMl
              clear hMl hMn hu
              have hgnR := hgn'
              rcases hval with rfl | rfl
              · go_wp2_with fail
                have hkn0 : (0 : Int) ≤ (n : Int) := by omega
                have hkn1 : (n : Int) < (ps.length : Int) := by omega
                have hgvR2 := hgvR.2
                have hiR := i0
                have hS0 : wr.drew.cell? ⟨gm, 2, none⟩ = some (.slice (some ⟨gv, 0, none⟩) ps.length ps.length) ∧ wr.drew.cell? ⟨gv, n, none⟩ = some (.int .i64 0) ∧ wr.drew.cell? ⟨w.heap.size, 2, none⟩ = some (.slice (some ⟨b, o, none⟩) ps.length c) ∧ wr.drew.cell? ⟨b, o + n * 4, none⟩ = some (.int .i64 q.r) ∧ wr.drew.cell? ⟨b, o + n * 4 + 1, none⟩ = some (.int .i64 q.g) ∧ wr.drew.cell? ⟨b, o + n * 4 + 2, none⟩ = some (.int .i64 q.b) ∧ wr.drew.cell? ⟨b, o + n * 4 + 3, none⟩ = some (.int .i64 q.a) ∧ wr.drew.cell? ⟨wc.heap.size, 0, none⟩ = some (.int .i64 p.r) ∧ wr.drew.cell? ⟨wc.heap.size, 1, none⟩ = some (.int .i64 p.g) ∧ wr.drew.cell? ⟨wc.heap.size, 2, none⟩ = some (.int .i64 p.b) ∧ wr.drew.cell? ⟨wc.heap.size, 3, none⟩ = some (.int .i64 p.a) := ⟨m2, mn, i3, c1, c2, c3, c4, z1, z2, z3, z4⟩
                have HS4 := Lib.hid (show ∀ w4, Below wr.drew.heap.size wr.drew w4 → w4.cell? ⟨gm, 2, none⟩ = some (.slice (some ⟨gv, 0, none⟩) ps.length ps.length) ∧ w4.cell? ⟨gv, n, none⟩ = some (.int .i64 0) ∧ w4.cell? ⟨w.heap.size, 2, none⟩ = some (.slice (some ⟨b, o, none⟩) ps.length c) ∧ w4.cell? ⟨b, o + n * 4, none⟩ = some (.int .i64 q.r) ∧ w4.cell? ⟨b, o + n * 4 + 1, none⟩ = some (.int .i64 q.g) ∧ w4.cell? ⟨b, o + n * 4 + 2, none⟩ = some (.int .i64 q.b) ∧ w4.cell? ⟨b, o + n * 4 + 3, none⟩ = some (.int .i64 q.a) ∧ w4.cell? ⟨wc.heap.size, 0, none⟩ = some (.int .i64 p.r) ∧ w4.cell? ⟨wc.heap.size, 1, none⟩ = some (.int .i64 p.g) ∧ w4.cell? ⟨wc.heap.size, 2, none⟩ = some (.int .i64 p.b) ∧ w4.cell? ⟨wc.heap.size, 3, none⟩ = some (.int .i64 p.a) from fun w4 hb4 => ⟨(hb4.cell (p := ⟨gm, 2, none⟩) hgmR).trans m2, (hb4.cell (p := ⟨gv, n, none⟩) hgvR2).trans mn, (hb4.cell (p := ⟨w.heap.size, 2, none⟩) hiR).trans i3, (hb4.cell (p := ⟨b, o + n * 4, none⟩) hb).trans c1, (hb4.cell (p := ⟨b, o + n * 4 + 1, none⟩) hb).trans c2, (hb4.cell (p := ⟨b, o + n * 4 + 2, none⟩) hb).trans c3, (hb4.cell (p := ⟨b, o + n * 4 + 3, none⟩) hb).trans c4, (hb4.cell (p := ⟨wc.heap.size, 0, none⟩) hbcR).trans z1, (hb4.cell (p := ⟨wc.heap.size, 1, none⟩) hbcR).trans z2, (hb4.cell (p := ⟨wc.heap.size, 2, none⟩) hbcR).trans z3, (hb4.cell (p := ⟨wc.heap.size, 3, none⟩) hbcR).trans z4⟩)
                go_region_held3 (fun w' => w'.cell? ⟨gm, 2, none⟩ = some (.slice (some ⟨gv, 0, none⟩) ps.length ps.length) ∧ w'.cell? ⟨gv, n, none⟩ = some (.int .i64 0) ∧ w'.cell? ⟨w.heap.size, 2, none⟩ = some (.slice (some ⟨b, o, none⟩) ps.length c) ∧ w'.cell? ⟨b, o + n * 4, none⟩ = some (.int .i64 q.r) ∧ w'.cell? ⟨b, o + n * 4 + 1, none⟩ = some (.int .i64 q.g) ∧ w'.cell? ⟨b, o + n * 4 + 2, none⟩ = some (.int .i64 q.b) ∧ w'.cell? ⟨b, o + n * 4 + 3, none⟩ = some (.int .i64 q.a) ∧ w'.cell? ⟨wc.heap.size, 0, none⟩ = some (.int .i64 p.r) ∧ w'.cell? ⟨wc.heap.size, 1, none⟩ = some (.int .i64 p.g) ∧ w'.cell? ⟨wc.heap.size, 2, none⟩ = some (.int .i64 p.b) ∧ w'.cell? ⟨wc.heap.size, 3, none⟩ = some (.int .i64 p.a))
                  (first | assumption | exact hS0 | exact HS4.out _ hbw4 | go_keep)
                  ((go_at_call 20; refine (dist_any _ _ _ _ _ _ _ _ _).mono ?_; rintro e w4 ⟨rfl, hbw4⟩))
                generalize hdq : dist (Px.mk q.r q.g q.b q.a) (Px.mk p.r p.g p.b p.a) = d
                have HQ2 := Lib.hid (show simP ps t s n ↔ d ≤ t by rw [← hdq]; exact HQN.out)
                clear hdq hS0
                have hM4 := (HM.out.drewN 1).below hbw4
                have HS4' := Lib.hid ((HS2.out.drewN 1).below hbw4)
                have HN4 := Lib.hid ((HN5.out.drewN 1).below hbw4)
                have HK4 := Lib.hid (HKR.out.drew.below hbw4 HKR.out.size)
                have hM4n : M'[n]? = some 0 := by rw [← HU.out, List.getD_eq_getElem?_getD, List.getElem?_eq_getElem (by have := HML.out; omega)]; rfl
                have n1 := hM4.cell hM4n
                have n2 := hM4.frozen n
                have n3 := (hbw4.cell (p := ⟨gm, 2, none⟩) hgmR).trans m2
                have hgm4 : gm < w4.heap.size := Nat.lt_of_lt_of_le hgmR hbw4.size
                have HM4 := Lib.hid hM4
                clear hM4 hM4n i0 i1 i2 i3 m2 z1 z2 z3 z4 c1 c2 c3 c4 mn mf hnc
                by_cases hd : d ≤ t
                · have HSIM := Lib.hid (HQ2.out.2 hd)
                  go_wp2_with (at_builtin; refine push_at _ rfl _ _ rfl w2.heap.size _ _ rfl (irow_set HS4'.out (show gv < w2.heap.size by have := HW2.out; omega) (Nat.le_refl _)) _ _ rfl (by rw [size_set]) (by have := HLN.out; omega) (by rw [size_set]; exact HK4.out.size) ?_; intro v' w6 hown6 hgr6 hat6)
                  go_roundg (l.length - (j + 1))
                  case measure => omega
                  case rel =>
                    have hz := zeros_set M' n (by have := HML.out; omega) HU.out
                    have hgv2 : gv < w2.heap.size := by have := HW2.out; omega
                    refine ⟨j + 1, M'.set n 65535, st2 ++ [(n : Int)], by omega, rfl, by go_num, HDD.out.push hn HU.out HSIM.out HADJ.out, ?_, ?_, ?_, hown6, ?_, ?_, ?_⟩
                    · have := HMS.out; rw [List.length_append, List.length_singleton]; omega
                    · have := HLN.out; rw [List.length_append, List.length_singleton]; omega
                    · refine irow_kept (HM4.out.stored n 65535).1 hgr6 ?_
                      intro k hk e
                      have := (irow_lt HS4'.out e).1
                      simp [Value.ownBlock] at hk
                      omega
                    · refine irow_kept (irow_set HN4.out (show gv < B3 by have := HB3.out; omega) (Nat.le_refl _)) hgr6 ?_
                      intro k hk e
                      exact HSEP.out k e hk
                    · intro k hk e
                      rcases hat6 k hk with h' | h'
                      · exact HSEP.out k h' e
                      · have := (irow_lt HN4.out e).2
                        rw [size_set] at h'
                        omega
                    · refine (HK4.out.set n _).grown hgr6 (by rw [size_set]; exact HK4.out.size) ?_
                      intro k hk
                      exact (irow_lt HS4'.out hk).1
                · have HSIM := Lib.hid (fun h => hd (HQ2.out.1 h))
                  go_wp2_with fail
                  go_roundg (l.length - (j + 1))
                  case measure => omega
                  case rel => exact ⟨j + 1, M', st2, by omega, rfl, by go_num, HDD.out.skip (.inr HSIM.out), HMS.out, HLN.out, HM4.out, HS4'.out, HN4.out, HSEP.out, HK4.out⟩
              · go_wp2_with fail
                go_quiet (fail)
                go_wp2_with fail
                go_roundg (l.length - (j + 1))
                case measure => omega
                case rel => exact ⟨j + 1, M', st2, by omega, rfl, by go_num, HDD.out.skip (.inl (by rw [HU.out]; omega)), HMS.out, HLN.out, HM.out.drewN _, HS2.out.drewN _, HN5.out.drewN _, HSEP.out, HKR.out.drewN _⟩
  all_goals
    go_wp2_with fail
    refine bodyPost_ret (v := .tuple #[.agg #[.int .i64 0, .int .i64 0, .slice none 0 0], .int .i64 2]) (by simp [results, Try.results9, go_sem, r1, r2, r3]) rfl ?_
    exact flOut_err (ferr_no (by omega)) (by omega) ⟨.slice none 0 0, rfl, IRow.nil _ _, set3 hB1 (by omega)⟩
end Go.Proofs.Ytgdefgpbaccneaa
