/- The reference's Put. -/
import Derived.Test.YtllmckapiplpcaaPutDef
namespace Go.Proofs.Ytllmckapiplpcaa
open Go.RowKit
attribute [local go_sem 2000] run_max2m run_min2m

set_option maxHeartbeats 2000000 in
theorem rput_chk (W H : Int) (A : Option Addr) (c : Nat) (ps : List Px) (pw ph : Int) (A2 : Option Addr) (c2 : Nat) (qs : List Px) (px py : Int) (w : World) (h : Pixs w w.heap.size (.slice A ps.length c) ps) (hc : ichk W H ps ≠ 0) :
    Calls Try.prog 30 #[.agg #[.int .i64 W, .int .i64 H, .slice A ps.length c], .agg #[.int .i64 pw, .int .i64 ph, .slice A2 qs.length c2], .agg #[.int .i64 px, .int .i64 py]] w (ImPost (ichk W H ps) 0 0 [] w) := by
  generalize hE : ichk W H ps = ch at *
  have HC := Lib.hid hE; clear hE
  have hne : (ch != 0) = true := by simp [hc]
  have HP := Lib.hid h; clear h
  go_enter Try.func30, Try.ntmps30
  go_upto_region 1 with fail
  obtain ⟨hb1, hb2, hb3, hb4, hB, hz0⟩ := four_boxes w #[.int .i64 W, .int .i64 H, .slice A ps.length c] #[.int .i64 pw, .int .i64 ph, .slice A2 qs.length c2] #[.int .i64 px, .int .i64 py] #[.int .i64 0, .int .i64 0, .slice none 0 0] 24 24 41 24 _ rfl
  generalize World.alloc (World.alloc (World.alloc (w.alloc _) _) _) _ = w0 at *
  obtain ⟨⟨i1, i2, i3⟩, _, _, _⟩ := hb1.three
  go_wp2_with fail
  refine (richeck_any W H A ps.length c ps _ (HP.out.on hB)).mono ?_
  rintro e w1 ⟨rfl, hb⟩
  replace hb1 := hb1.below hb; replace hb2 := hb2.below hb; replace hb3 := hb3.below hb; replace hb4 := hb4.below hb; replace hB := bel_trans hB hb
  have hz1 := hb.size
  clear i1 i2 i3 hb
  rw [HC.out]
  obtain ⟨⟨r1, r2, r3⟩, rf1, rf2, rf3⟩ := hb4.three
  go_wp2_with fail
  refine bodyPost_ret (v := .tuple #[.agg #[.int .i64 0, .int .i64 0, .slice none 0 0], .int .i64 ch]) (by simp [results, Try.results30, go_sem, r1, r2, r3]) rfl ?_
  exact ⟨_, _, _, rfl, PRow.nil _ _, set3_below hB (by omega) _ _ _⟩
set_option maxHeartbeats 2000000 in
theorem rput_chk2 (W H : Int) (A : Option Addr) (c : Nat) (ps : List Px) (pw ph : Int) (A2 : Option Addr) (c2 : Nat) (qs : List Px) (px py : Int) (w : World) (h : Pixs w w.heap.size (.slice A ps.length c) ps) (h2 : Pixs w w.heap.size (.slice A2 qs.length c2) qs) (hc : ichk W H ps = 0) (hc2 : ichk pw ph qs ≠ 0) :
    Calls Try.prog 30 #[.agg #[.int .i64 W, .int .i64 H, .slice A ps.length c], .agg #[.int .i64 pw, .int .i64 ph, .slice A2 qs.length c2], .agg #[.int .i64 px, .int .i64 py]] w (ImPost (ichk pw ph qs) 0 0 [] w) := by
  generalize hE : ichk pw ph qs = ch at *
  have HC2 := Lib.hid hE; clear hE
  have HC := Lib.hid hc; clear hc
  have hne : (ch != 0) = true := by simp [hc2]
  have HP := Lib.hid h; have HP2 := Lib.hid h2; clear h h2
  go_enter Try.func30, Try.ntmps30
  go_upto_region 1 with fail
  obtain ⟨hb1, hb2, hb3, hb4, hB, hz0⟩ := four_boxes w #[.int .i64 W, .int .i64 H, .slice A ps.length c] #[.int .i64 pw, .int .i64 ph, .slice A2 qs.length c2] #[.int .i64 px, .int .i64 py] #[.int .i64 0, .int .i64 0, .slice none 0 0] 24 24 41 24 _ rfl
  generalize World.alloc (World.alloc (World.alloc (w.alloc _) _) _) _ = w0 at *
  obtain ⟨⟨i1, i2, i3⟩, _, _, _⟩ := hb1.three
  go_wp2_with fail
  refine (richeck_any W H A ps.length c ps _ (HP.out.on hB)).mono ?_
  rintro e w1 ⟨rfl, hb⟩
  replace hb1 := hb1.below hb; replace hb2 := hb2.below hb; replace hb3 := hb3.below hb; replace hb4 := hb4.below hb; replace hB := bel_trans hB hb
  have hz1 := hb.size
  clear i1 i2 i3 hb
  rw [HC.out]
  obtain ⟨⟨i1, i2, i3⟩, _, _, _⟩ := hb2.three
  go_wp2_with fail
  refine (richeck_any pw ph A2 qs.length c2 qs _ (HP2.out.on hB)).mono ?_
  rintro e w2 ⟨rfl, hb⟩
  replace hb1 := hb1.below hb; replace hb2 := hb2.below hb; replace hb3 := hb3.below hb; replace hb4 := hb4.below hb; replace hB := bel_trans hB hb
  have hz2 := hb.size
  clear i1 i2 i3 hb
  rw [HC2.out]
  obtain ⟨⟨r1, r2, r3⟩, rf1, rf2, rf3⟩ := hb4.three
  go_wp2_with fail
  refine bodyPost_ret (v := .tuple #[.agg #[.int .i64 0, .int .i64 0, .slice none 0 0], .int .i64 ch]) (by simp [results, Try.results30, go_sem, r1, r2, r3]) rfl ?_
  exact ⟨_, _, _, rfl, PRow.nil _ _, set3_below hB (by omega) _ _ _⟩
set_option maxHeartbeats 4000000 in
theorem rput_yes (W H : Int) (A : Option Addr) (c : Nat) (ps : List Px) (pw ph : Int) (A2 : Option Addr) (c2 : Nat) (qs : List Px) (px py : Int) (w : World) (h : Pixs w w.heap.size (.slice A ps.length c) ps) (h2 : Pixs w w.heap.size (.slice A2 qs.length c2) qs) (hc : ichk W H ps = 0) (hc2 : ichk pw ph qs = 0) :
    Calls Try.prog 30 #[.agg #[.int .i64 W, .int .i64 H, .slice A ps.length c], .agg #[.int .i64 pw, .int .i64 ph, .slice A2 qs.length c2], .agg #[.int .i64 px, .int .i64 py]] w (ImPost 0 W H (putL W H ps pw ph qs (clampC px) (clampC py)) w) := by
  have hiok := (ichk_iff W H ps).1 hc
  have hpok := (ichk_iff pw ph qs).1 hc2
  have HC := Lib.hid hc; have HC2 := Lib.hid hc2; clear hc hc2
  have hw0 := hiok.w0; have hw1 := hiok.w1; have hh0 := hiok.h0; have hh1 := hiok.h1
  have pw0 := hpok.w0; have pw1 := hpok.w1; have ph0 := hpok.h0; have ph1 := hpok.h1
  have hcx := clampC_bd px; have hcy := clampC_bd py
  have hex : min (max px (-1048576)) 1048576 = clampC px := rfl
  have hey : min (max py (-1048576)) 1048576 = clampC py := rfl
  generalize clampC px = ax at *
  generalize clampC py = ay at *
  obtain ⟨a, rfl⟩ : ∃ a : Nat, W = a := ⟨(W).toNat, by omega⟩
  obtain ⟨b, rfl⟩ : ∃ b : Nat, H = b := ⟨(H).toNat, by omega⟩
  have hln : (putL a b ps pw ph qs ax ay).length = a * b := grid_len_nat a b _
  have HG := Lib.hid (fun (i j : Nat) (hi : i < a) (hj : j < b) => show pat (putL a b ps pw ph qs ax ay) (j * a + i) = if 0 ≤ (i : Int) - ax ∧ (i : Int) - ax < pw ∧ 0 ≤ (j : Int) - ay ∧ (j : Int) - ay < ph then pick pw ph qs ((i : Int) - ax) ((j : Int) - ay) else pick a b ps i j from grid_nat (a := a) (b := b) _ hi hj)
  generalize putL a b ps pw ph qs ax ay = l at *
  have hab : a * b ≤ 65536 := Nat.mul_le_mul (show a ≤ 256 by omega) (show b ≤ 256 by omega)
  have HIO := Lib.hid hiok; have HPO := Lib.hid hpok
  clear hiok hpok
  have HP := Lib.hid h; have HP2 := Lib.hid h2; clear h h2
  go_enter Try.func30, Try.ntmps30
  go_upto_region 1 with fail
  obtain ⟨hb1, hb2, hb3, hb4, hB, hz0⟩ := four_boxes w #[.int .i64 (a : Int), .int .i64 (b : Int), .slice A ps.length c] #[.int .i64 pw, .int .i64 ph, .slice A2 qs.length c2] #[.int .i64 px, .int .i64 py] #[.int .i64 0, .int .i64 0, .slice none 0 0] 24 24 41 24 _ rfl
  generalize World.alloc (World.alloc (World.alloc (w.alloc _) _) _) _ = w0 at *
  obtain ⟨⟨i1, i2, i3⟩, _, _, _⟩ := hb1.three
  go_wp2_with fail
  refine (richeck_any (a : Int) (b : Int) A ps.length c ps _ (HP.out.on hB)).mono ?_
  rintro e w1 ⟨rfl, hb⟩
  replace hb1 := hb1.below hb; replace hb2 := hb2.below hb; replace hb3 := hb3.below hb; replace hb4 := hb4.below hb; replace hB := bel_trans hB hb
  have hz1 := hb.size
  clear i1 i2 i3 hb
  rw [HC.out]
  obtain ⟨⟨i1, i2, i3⟩, _, _, _⟩ := hb2.three
  go_wp2_with fail
  refine (richeck_any pw ph A2 qs.length c2 qs _ (HP2.out.on hB)).mono ?_
  rintro e w2 ⟨rfl, hb⟩
  replace hb1 := hb1.below hb; replace hb2 := hb2.below hb; replace hb3 := hb3.below hb; replace hb4 := hb4.below hb; replace hB := bel_trans hB hb
  have hz2 := hb.size
  clear i1 i2 i3 hb
  rw [HC2.out]
  obtain ⟨⟨i1, i2, i3⟩, _, _, _⟩ := hb1.three
  obtain ⟨⟨j1, j2⟩, _, _⟩ := hb3.two
  go_upto_region 11 with fail
  clear i1 i2 i3 j1 j2 hb3
  obtain ⟨hbt, hBt, hzt⟩ := one_box w2 #[.int .i64 (a : Int), .int .i64 (b : Int), .slice none 0 0] 24 _ rfl
  generalize World.alloc w2 _ = w3 at *
  go_loopg [13] b (OutRel a b l w2.heap.size w2 a b)
  case atStart => exact ⟨0, Nat.zero_le _, rfl, rfl, by rw [Nat.zero_mul]; exact GridRel.start hbt hBt⟩
  case round =>
    obtain ⟨j, hj, rfl, rfl, v, hbx, hrw, hbr⟩ := hrel
    have hlr := hbx.lt
    have hd1 := hb1.low (by omega) hbr
    obtain ⟨⟨t1, t2, t3⟩, _, _, _⟩ := hd1.three
    by_cases hlt : j < b
    · go_upto_region 14 with fail
      clear t1 t2 t3
      go_loopg [14] a (InRel a b l w2.heap.size w2 a j)
      case atStart => exact ⟨0, Nat.zero_le _, rfl, rfl, v, hbx, hrw, hbr⟩
      case round =>
        clear hbx hrw hbr hlr hd1
        obtain ⟨i, hi, rfl, rfl, v, hbx, hrw, hbr⟩ := hrel
        have hlr := hbx.lt
        have hd1 := hb1.low (by omega) hbr
        have hd2 := hb2.low (by omega) hbr
        have hq : j * a + i ≤ l.length := by rw [hln]; have := Nat.mul_le_mul_right a (show j + 1 ≤ b by omega); rw [Nat.add_mul, Nat.one_mul, Nat.mul_comm b a] at this; omega
        obtain ⟨A1, cap1, rfl⟩ := hrw.nshape (take_len hq)
        have HBX := Lib.hid hbx; have HRW := Lib.hid hrw; have HBR := Lib.hid hbr; have HHB := Lib.hid (bel_trans hB hbr)
        obtain ⟨⟨d1, d2, d3⟩, _, _, _⟩ := hd1.three
        clear hbx hrw hbr
        by_cases hxl : i < a
        · have hqlt : j * a + i < l.length := by rw [hln]; exact grid_idx hxl hlt
          have HGU := Lib.hid (HG.out i j hxl hlt)
          have HPX := Lib.hid ((HP.out.below HHB.out).more (B' := wr.heap.size) (by omega))
          have HPX2 := Lib.hid ((HP2.out.below HHB.out).more (B' := wr.heap.size) (by omega))
          have HAT := Lib.hid (pick_any a b A ps.length c ps i j wr HIO.out HPX.out)
          generalize pick a b ps i j = u at *
          go_upto_region 17 with (go_at_call 43; (with_reducible refine HAT.out.mono ?_); rintro e w6 ⟨rfl, hb6⟩)
          clear d1 d2 d3
          obtain ⟨hbp, hB6, hz6⟩ := one_box w6 #[.int .i64 u.r, .int .i64 u.g, .int .i64 u.b, .int .i64 u.a] 26 _ rfl
          have hB5 := bel_trans hb6 hB6
          have hzz := hb6.size
          generalize World.alloc w6 _ = w7 at *
          clear hb6 hB6 hz6
          replace hd1 := hd1.below hB5; replace hd2 := hd2.below hB5
          obtain ⟨⟨d1, d2, d3⟩, _, _, _⟩ := hd1.three
          obtain ⟨⟨e1, e2, e3⟩, _, _, _⟩ := hd2.three
          by_cases hin : 0 ≤ (i : Int) - ax ∧ (i : Int) - ax < pw ∧ 0 ≤ (j : Int) - ay ∧ (j : Int) - ay < ph
          · rw [if_pos hin] at HGU
            obtain ⟨n1, n2, n3, n4⟩ := hin
            have HAT2 := Lib.hid (pick_any pw ph A2 qs.length c2 qs ((i : Int) - ax) ((j : Int) - ay) w7 HPO.out (HPX2.out.on hB5))
            generalize pick pw ph qs ((i : Int) - ax) ((j : Int) - ay) = u2 at *
            go_upto_region 19 with (go_at_call 43; (with_reducible refine HAT2.out.mono ?_); rintro e w8 ⟨rfl, hb8⟩; have hbp7 := hbp.below hb8; obtain ⟨⟨p1, p2, p3, p4⟩, pf1, pf2, pf3, pf4⟩ := hbp7.four)
            clear p1 p2 p3 p4 pf1 pf2 pf3 pf4 d1 d2 d3 e1 e2 e3
            have hbp8 := hbp7.set4 (.int .i64 u2.r) (.int .i64 u2.g) (.int .i64 u2.b) (.int .i64 u2.a)
            have hB8 : Below wr.heap.size wr ((((w8.setCell ⟨w6.heap.size, 0, none⟩ (.int .i64 u2.r)).setCell ⟨w6.heap.size, 1, none⟩ (.int .i64 u2.g)).setCell ⟨w6.heap.size, 2, none⟩ (.int .i64 u2.b)).setCell ⟨w6.heap.size, 3, none⟩ (.int .i64 u2.a)) := set4_below (bel_trans hB5 hb8) hzz _ _ _ _ _ _ _ _
            generalize World.setCell (World.setCell (World.setCell (World.setCell w8 _ _) _ _) _ _) _ _ = w8' at *
            clear hbp hbp7 hb8 hB5
            obtain ⟨⟨p1, p2, p3, p4⟩, _, _, _, _⟩ := hbp8.four
            have HB7 := Lib.hid (HBX.out.below hB8)
            obtain ⟨⟨t1, t2, t3⟩, tf1, tf2, tf3⟩ := HB7.out.three
            have hR7 := HRW.out.below hB8
            have hz8 := hB8.size
            go_wp2_with (at_builtin; refine ppush _ rfl _ _ rfl (w2.heap.size + 1) _ _ rfl hR7 u2 _ rfl rfl (by rw [take_len (Nat.le_of_lt hqlt)]; omega) (by omega) ?_; intro v' w9 hown9 hb9; obtain ⟨A5, cap5, rfl⟩ := hown9.nshape (n := j * a + i + 1) (by rw [List.length_append, take_len (Nat.le_of_lt hqlt)]; rfl); have hB9 := HB7.out.low (Nat.lt_succ_self _) hb9; obtain ⟨⟨s1, s2, s3⟩, sf1, sf2, sf3⟩ := hB9.three)
            go_roundg (a - (i + 1))
            case measure => omega
            case rel => exact ⟨i + 1, by omega, rfl, by go_num, GridRel.step HB7.out (HBR.out.trans (hB8.mono (by omega))) hown9 hb9 hqlt HGU.out⟩
          · by_cases g1 : 0 ≤ (i : Int) - ax
            · by_cases g2 : (i : Int) - ax < pw
              · by_cases g3 : 0 ≤ (j : Int) - ay
                · have g4 : ¬ (j : Int) - ay < ph := by omega
                  rw [if_neg hin] at HGU
                  clear hin
                  go_upto_region 19 with fail
                  clear d1 d2 d3 e1 e2 e3
                  have hbp8 := hbp; have hB8 := hB5
                  obtain ⟨⟨p1, p2, p3, p4⟩, _, _, _, _⟩ := hbp8.four
                  have HB7 := Lib.hid (HBX.out.below hB8)
                  obtain ⟨⟨t1, t2, t3⟩, tf1, tf2, tf3⟩ := HB7.out.three
                  have hR7 := HRW.out.below hB8
                  have hz8 := hB8.size
                  go_wp2_with (at_builtin; refine ppush _ rfl _ _ rfl (w2.heap.size + 1) _ _ rfl hR7 u _ rfl rfl (by rw [take_len (Nat.le_of_lt hqlt)]; omega) (by omega) ?_; intro v' w9 hown9 hb9; obtain ⟨A5, cap5, rfl⟩ := hown9.nshape (n := j * a + i + 1) (by rw [List.length_append, take_len (Nat.le_of_lt hqlt)]; rfl); have hB9 := HB7.out.low (Nat.lt_succ_self _) hb9; obtain ⟨⟨s1, s2, s3⟩, sf1, sf2, sf3⟩ := hB9.three)
                  go_roundg (a - (i + 1))
                  case measure => omega
                  case rel => exact ⟨i + 1, by omega, rfl, by go_num, GridRel.step HB7.out (HBR.out.trans (hB8.mono (by omega))) hown9 hb9 hqlt HGU.out⟩
                · rw [if_neg hin] at HGU
                  clear hin
                  go_upto_region 19 with fail
                  clear d1 d2 d3 e1 e2 e3
                  have hbp8 := hbp; have hB8 := hB5
                  obtain ⟨⟨p1, p2, p3, p4⟩, _, _, _, _⟩ := hbp8.four
                  have HB7 := Lib.hid (HBX.out.below hB8)
                  obtain ⟨⟨t1, t2, t3⟩, tf1, tf2, tf3⟩ := HB7.out.three
                  have hR7 := HRW.out.below hB8
                  have hz8 := hB8.size
                  go_wp2_with (at_builtin; refine ppush _ rfl _ _ rfl (w2.heap.size + 1) _ _ rfl hR7 u _ rfl rfl (by rw [take_len (Nat.le_of_lt hqlt)]; omega) (by omega) ?_; intro v' w9 hown9 hb9; obtain ⟨A5, cap5, rfl⟩ := hown9.nshape (n := j * a + i + 1) (by rw [List.length_append, take_len (Nat.le_of_lt hqlt)]; rfl); have hB9 := HB7.out.low (Nat.lt_succ_self _) hb9; obtain ⟨⟨s1, s2, s3⟩, sf1, sf2, sf3⟩ := hB9.three)
                  go_roundg (a - (i + 1))
                  case measure => omega
                  case rel => exact ⟨i + 1, by omega, rfl, by go_num, GridRel.step HB7.out (HBR.out.trans (hB8.mono (by omega))) hown9 hb9 hqlt HGU.out⟩
              · rw [if_neg hin] at HGU
                clear hin
                go_upto_region 19 with fail
                clear d1 d2 d3 e1 e2 e3
                have hbp8 := hbp; have hB8 := hB5
                obtain ⟨⟨p1, p2, p3, p4⟩, _, _, _, _⟩ := hbp8.four
                have HB7 := Lib.hid (HBX.out.below hB8)
                obtain ⟨⟨t1, t2, t3⟩, tf1, tf2, tf3⟩ := HB7.out.three
                have hR7 := HRW.out.below hB8
                have hz8 := hB8.size
                go_wp2_with (at_builtin; refine ppush _ rfl _ _ rfl (w2.heap.size + 1) _ _ rfl hR7 u _ rfl rfl (by rw [take_len (Nat.le_of_lt hqlt)]; omega) (by omega) ?_; intro v' w9 hown9 hb9; obtain ⟨A5, cap5, rfl⟩ := hown9.nshape (n := j * a + i + 1) (by rw [List.length_append, take_len (Nat.le_of_lt hqlt)]; rfl); have hB9 := HB7.out.low (Nat.lt_succ_self _) hb9; obtain ⟨⟨s1, s2, s3⟩, sf1, sf2, sf3⟩ := hB9.three)
                go_roundg (a - (i + 1))
                case measure => omega
                case rel => exact ⟨i + 1, by omega, rfl, by go_num, GridRel.step HB7.out (HBR.out.trans (hB8.mono (by omega))) hown9 hb9 hqlt HGU.out⟩
            · rw [if_neg hin] at HGU
              clear hin
              go_upto_region 19 with fail
              clear d1 d2 d3 e1 e2 e3
              have hbp8 := hbp; have hB8 := hB5
              obtain ⟨⟨p1, p2, p3, p4⟩, _, _, _, _⟩ := hbp8.four
              have HB7 := Lib.hid (HBX.out.below hB8)
              obtain ⟨⟨t1, t2, t3⟩, tf1, tf2, tf3⟩ := HB7.out.three
              have hR7 := HRW.out.below hB8
              have hz8 := hB8.size
              go_wp2_with (at_builtin; refine ppush _ rfl _ _ rfl (w2.heap.size + 1) _ _ rfl hR7 u _ rfl rfl (by rw [take_len (Nat.le_of_lt hqlt)]; omega) (by omega) ?_; intro v' w9 hown9 hb9; obtain ⟨A5, cap5, rfl⟩ := hown9.nshape (n := j * a + i + 1) (by rw [List.length_append, take_len (Nat.le_of_lt hqlt)]; rfl); have hB9 := HB7.out.low (Nat.lt_succ_self _) hb9; obtain ⟨⟨s1, s2, s3⟩, sf1, sf2, sf3⟩ := hB9.three)
              go_roundg (a - (i + 1))
              case measure => omega
              case rel => exact ⟨i + 1, by omega, rfl, by go_num, GridRel.step HB7.out (HBR.out.trans (hB8.mono (by omega))) hown9 hb9 hqlt HGU.out⟩
        · obtain rfl : i = a := by omega
          go_wp2_with fail
          go_roundg (b - (j + 1))
          case measure => omega
          case rel => exact ⟨j + 1, by omega, rfl, by go_num, _, HBX.out, by rw [Nat.add_mul, Nat.one_mul]; exact HRW.out, HBR.out⟩
    · obtain rfl : j = b := by omega
      have hta : l.take (j * a) = l := List.take_of_length_le (by rw [hln, Nat.mul_comm]; omega)
      rw [hta] at hrw
      have hd4 := hb4.low (by omega) hbr
      obtain ⟨⟨r1, r2, r3⟩, rf1, rf2, rf3⟩ := hd4.three
      obtain ⟨A1, cap1, rfl⟩ := hrw.nshape hln
      obtain ⟨⟨t4, t5, t6⟩, _, _, _⟩ := hbx.three
      have HRW := Lib.hid hrw; have HBR := Lib.hid hbr
      clear hbx hrw hbr
      go_wp2_with fail
      refine bodyPost_ret (v := .tuple #[.agg #[.int .i64 (a : Int), .int .i64 (j : Int), .slice A1 (a * j) cap1], .int .i64 0]) (by simp [results, Try.results30, go_sem, r1, r2, r3]) rfl ?_
      exact ⟨_, _, _, rfl, HRW.out.set3 (by omega) (by omega) _ _ _, set3_below (bel_trans hB HBR.out) (by omega) _ _ _⟩
theorem rput_any (W H : Int) (A : Option Addr) (c : Nat) (ps : List Px) (pw ph : Int) (A2 : Option Addr) (c2 : Nat) (qs : List Px) (px py : Int) (w : World) (h : Pixs w w.heap.size (.slice A ps.length c) ps) (h2 : Pixs w w.heap.size (.slice A2 qs.length c2) qs) :
    Calls Try.prog 30 #[.agg #[.int .i64 W, .int .i64 H, .slice A ps.length c], .agg #[.int .i64 pw, .int .i64 ph, .slice A2 qs.length c2], .agg #[.int .i64 px, .int .i64 py]] w (ImOut (perr W H ps pw ph qs) W H (putL W H ps pw ph qs (clampC px) (clampC py)) w) := by
  unfold perr
  by_cases hc : ichk W H ps = 0
  · rw [if_pos hc]
    by_cases hc2 : ichk pw ph qs = 0
    · rw [hc2, imOut_ok]; exact rput_yes W H A c ps pw ph A2 c2 qs px py w h h2 hc hc2
    · rw [imOut_err hc2]; exact rput_chk2 W H A c ps pw ph A2 c2 qs px py w h h2 hc hc2
  · rw [if_neg hc, imOut_err hc]; exact rput_chk W H A c ps pw ph A2 c2 qs px py w h hc
end Go.Proofs.Ytllmckapiplpcaa
