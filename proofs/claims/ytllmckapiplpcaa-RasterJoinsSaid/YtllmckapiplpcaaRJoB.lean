/- The reference's Join. -/
import Derived.Test.YtllmckapiplpcaaRJoA
import Derived.Test.YtllmckapiplpcaaRCrop
namespace Go.Proofs.Ytllmckapiplpcaa
open Go.RowKit
attribute [local go_sem 2000] run_max2m run_min2m

set_option maxHeartbeats 1500000 in
theorem rjoin_yes (w h : Int) (A : Option Addr) (c : Nat) (ts : List Til) (W : World) (ht : Imgs W W.heap.size (.slice A ts.length c) ts) (hw : 1 ≤ w ∧ w ≤ 256) (hh : 1 ≤ h ∧ h ≤ 256) (hl : (ts.length : Int) = colsOf w * colsOf h) (hs : scanErr w h (colsOf w) ts ts.length = 0) :
    Calls Try.prog 36 #[.int .i64 w, .int .i64 h, .slice A ts.length c] W (ImPost 0 w h (joinL w h ts) W) := by
  have c1 := cols_bd hw; have c2 := cols_bd hh
  have e1 : (w + 15) / 16 = colsOf w := by unfold colsOf; congr 1
  have e2 : (h + 15) / 16 = colsOf h := by unfold colsOf; congr 1
  obtain ⟨a, rfl⟩ : ∃ a : Nat, w = a := ⟨w.toNat, by omega⟩
  obtain ⟨b, rfl⟩ : ∃ b : Nat, h = b := ⟨h.toNat, by omega⟩
  have hln : (joinL a b ts).length = a * b := grid_len_nat a b _
  have HG := Lib.hid (fun (i j : Nat) (hi : i < a) (hj : j < b) (m : Nat) (hm : (j : Int) / 16 * colsOf a + (i : Int) / 16 = m) => show pat (joinL a b ts) (j * a + i) = pick (tget ts m).W (tget ts m).H (tget ts m).ps ((i : Int) % 16) ((j : Int) % 16) by
    rw [show pat (joinL a b ts) (j * a + i) = joinF a ts i j from grid_nat (a := a) (b := b) _ hi hj]; unfold joinF; rw [hm, Int.toNat_natCast])
  have HIX := Lib.hid (fun x y (hx : 0 ≤ x ∧ x < (a : Int)) (hy : 0 ≤ y ∧ y < (b : Int)) => til_idx hw hh hx hy)
  generalize joinL a b ts = l at *
  generalize colsOf a = co at *
  generalize colsOf b = ro at *
  have hco := Int.mul_le_mul c1.2 c2.2 (by omega) (by omega)
  have hco0 := Int.mul_nonneg (show 0 ≤ co by omega) (show 0 ≤ ro by omega)
  have hne : ((ts.length : Int) != co * ro) = false := by simp [hl]
  have HL := Lib.hid hl
  have hlb : ts.length ≤ 256 := by omega
  clear hl
  have HT := Lib.hid ht; clear ht
  have HS := Lib.hid (scan_each ts.length hs); clear hs
  have hab : a * b ≤ 65536 := Nat.mul_le_mul (show a ≤ 256 by omega) (show b ≤ 256 by omega)
  go_enter Try.func36, Try.ntmps36
  go_upto_region 1 with fail
  obtain ⟨hb1, hB, hz0⟩ := one_box W #[.int .i64 0, .int .i64 0, .slice none 0 0] 24 _ rfl
  generalize World.alloc W _ = w0 at *
  go_upto_region 8 with fail
  rw [e1, e2]
  clear e1 e2
  go_loopg [10] ts.length (ScanRel a b co ts w0.heap.size w0)
  case atStart => exact ⟨0, Nat.zero_le _, rfl, rfl, rfl, Below.refl _ _⟩
  case round =>
    obtain ⟨k, hk, rfl, rfl, hsc, hbr⟩ := hrel
    have hd1 := hb1.below hbr
    have hBr := bel_trans hB hbr
    have HBR := Lib.hid hbr; have HSC := Lib.hid hsc
    clear hbr hsc
    by_cases hlt : k < ts.length
    · have hps := (HT.out.on hBr)
      obtain ⟨A', c', ev, _, hcs⟩ := hps
      obtain ⟨bb, oo, rfl, hbb, c1', c2', c3', hpx⟩ := hcs k hlt
      injection ev with ev1 _ ev3
      subst ev1
      clear hcs ev3
      have HPX := Lib.hid hpx
      have HST := Lib.hid (scan_step HSC.out)
      have HTE := Lib.hid (show tilErr a b co (tget ts k) k = if (tget ts k).W = min 16 ((a : Int) - (k : Int) % co * 16) ∧ (tget ts k).H = min 16 ((b : Int) - (k : Int) / co * 16) then ichk (tget ts k).W (tget ts k).H (tget ts k).ps else 15 from rfl)
      have HE := Lib.hid (HS.out k hlt)
      generalize tget ts k = t at *
      obtain ⟨tW, tH, tA, tc, tps⟩ := t
      simp only at c1' c2' c3' HPX HTE
      have hpl : 0 ≤ (k : Int) % co ∧ (k : Int) % co < co := ⟨Int.emod_nonneg _ (by omega), Int.emod_lt_of_pos _ (by omega)⟩
      have hdl0 : 0 ≤ (k : Int) / co := Int.ediv_nonneg (by omega) (by omega)
      have hdl1 : (k : Int) / co ≤ 256 := by
        have := Int.ediv_le_self (b := co) (a := (k : Int)) (by omega)
        omega
      have hk0 : (0 : Int) ≤ (k : Int) := by omega
      have hk1 : (k : Int) < (ts.length : Int) := by omega
      have hcz : ¬ co = 0 := by omega
      have ht1 : (k : Int).tmod co = (k : Int) % co := Int.tmod_eq_emod_of_nonneg hk0
      have hbX : 0 ≤ 16 * ((k : Int) % co) ∧ 16 * ((k : Int) % co) ≤ 256 := by omega
      have hbY : 0 ≤ 16 * ((k : Int) / co) ∧ 16 * ((k : Int) / co) ≤ 5000 := by omega
      have wr1 : IntKind.i64.wrap (16 * ((k : Int) % co)) = 16 * ((k : Int) % co) := wrap_in _ (by omega)
      have wr2 : IntKind.i64.wrap ((k : Int) / co) = (k : Int) / co := wrap_in _ (by omega)
      have wr3 : IntKind.i64.wrap (16 * ((k : Int) / co)) = 16 * ((k : Int) / co) := wrap_in _ (by omega)
      have wr4 : IntKind.i64.wrap ((a : Int) - 16 * ((k : Int) % co)) = (a : Int) - 16 * ((k : Int) % co) := wrap_in _ (by omega)
      have wr5 : IntKind.i64.wrap ((b : Int) - 16 * ((k : Int) / co)) = (b : Int) - 16 * ((k : Int) / co) := wrap_in _ (by omega)
      rw [Int.mul_comm ((k : Int) % co) 16, Int.mul_comm ((k : Int) / co) 16] at HTE
      have HE2 := HE.out
      obtain ⟨n1, n2, n3⟩ := tilErr_zero HE2
      simp only at n1 n2 n3
      rw [Int.mul_comm _ 16] at n1 n2
      rw [if_pos ⟨n1, n2⟩] at HTE
      have HSC2 := Lib.hid (HST.out.trans HE.out)
      have N3 := Lib.hid n3; clear n3 HTE
      have q1 : (tW != min 16 ((a : Int) - 16 * ((k : Int) % co))) = false := by simp [n1]
      have q2 : (tH != min 16 ((b : Int) - 16 * ((k : Int) / co))) = false := by simp [n2]
      clear n1 n2 HE2 hpx
      go_upto_region 10 with fail
      go_quiet (fail)
      have HP6 := Lib.hid (show Pixs (wr.drewN nq) (wr.drewN nq).heap.size _ _ from HPX.out)
      have HB6 := Lib.hid (show Below wr.heap.size wr (wr.drewN nq) from Below.drewN' (Below.refl _ _) nq)
      replace hd1 : Bx (wr.drewN nq) W.heap.size _ _ := hd1
      replace c1' : (wr.drewN nq).cell? _ = _ := c1'
      replace c2' : (wr.drewN nq).cell? _ = _ := c2'
      replace c3' : (wr.drewN nq).cell? _ = _ := c3'
      generalize wr.drewN nq = w6 at *
      go_wp2_with fail
      refine (richeck_any tW tH tA tps.length tc tps _ HP6.out).mono ?_
      rintro e w7 ⟨rfl, hb7⟩
      replace hd1 := hd1.below hb7
      clear c1' c2' c3'
      rw [N3.out]
      go_wp2_with fail
      go_roundg (ts.length - (k + 1))
      case measure => omega
      case rel => exact ⟨k + 1, by omega, rfl, by go_num, HSC2.out, HBR.out.trans ((bel_trans HB6.out hb7).mono HBR.out.size)⟩
    · obtain rfl : k = ts.length := by omega
      have hlr0 := hd1.lt
      have HR0 := Lib.hid hd1
      go_upto_region 17 with fail
      obtain ⟨hbt, hBt, -⟩ := one_box wr #[.int .i64 (a : Int), .int .i64 (b : Int), .slice none 0 0] 24 _ rfl
      generalize World.alloc wr _ = w4 at *
      clear HSC HBR hb1 hB hz0
      generalize hwq : wr = wq at *
      clear hwq
      have hzq := hBr.size
      have HBQ := Lib.hid hBr; clear hBr
      go_loopg [13] b (OutRel a b l wq.heap.size wq a b)
      case atStart => exact ⟨0, Nat.zero_le _, rfl, rfl, by rw [Nat.zero_mul]; exact GridRel.start hbt hBt⟩
      case round =>
        obtain ⟨j, hj, rfl, rfl, v, hbx, hrw, hbr⟩ := hrel
        have hlr := hbx.lt
        by_cases hlt2 : j < b
        · go_upto_region 20 with fail
          go_loopg [14] a (InRel a b l wq.heap.size wq a j)
          case atStart => exact ⟨0, Nat.zero_le _, rfl, rfl, v, hbx, hrw, hbr⟩
          case round =>
            clear hbx hrw hbr hlr
            obtain ⟨i, hi, rfl, rfl, v, hbx, hrw, hbr⟩ := hrel
            have hlr := hbx.lt
            have hq : j * a + i ≤ l.length := by rw [hln]; have := Nat.mul_le_mul_right a (show j + 1 ≤ b by omega); rw [Nat.add_mul, Nat.one_mul, Nat.mul_comm b a] at this; omega
            obtain ⟨A1, cap1, rfl⟩ := hrw.nshape (take_len hq)
            by_cases hxl : i < a
            · have hqlt : j * a + i < l.length := by rw [hln]; exact grid_idx hxl hlt2
              have hix := HIX.out (i : Int) (j : Int) (by omega) (by omega)
              obtain ⟨m, hm⟩ : ∃ m : Nat, (j : Int) / 16 * co + (i : Int) / 16 = m := ⟨((j : Int) / 16 * co + (i : Int) / 16).toNat, by omega⟩
              have hml : m < ts.length := by have := HL.out; omega
              have HTM := Lib.hid (tilErr_zero (HS.out m hml)).2.2
              have HGU := Lib.hid (HG.out i j hxl hlt2 m hm)
              have HBX := Lib.hid hbx; have HRW := Lib.hid hrw; have HBR := Lib.hid hbr; have HHB := Lib.hid (bel_trans HBQ.out hbr)
              have hit := (HT.out.below HHB.out).more (B' := wr.heap.size) (by omega)
              obtain ⟨A', c', ev, _, hcs⟩ := hit
              obtain ⟨bb, oo, rfl, hbb, c1', c2', c3', hpx⟩ := hcs m hml
              injection ev with ev1 _ ev3
              subst ev1
              clear hcs ev3 hrw hbr
              generalize tget ts m = t at *
              obtain ⟨tW, tH, tA, tc, tps⟩ := t
              simp only at c1' c2' c3' hpx HGU HTM
              have HTI := Lib.hid ((ichk_iff tW tH tps).1 HTM.out)
              have hbm1 : 0 ≤ (i : Int) % 16 ∧ (i : Int) % 16 < 16 := by omega
              have hbm2 : 0 ≤ (j : Int) % 16 ∧ (j : Int) % 16 < 16 := by omega
              have ht1 : (i : Int).tmod 16 = (i : Int) % 16 := Int.tmod_eq_emod_of_nonneg (by omega)
              have ht2 : (j : Int).tmod 16 = (j : Int) % 16 := Int.tmod_eq_emod_of_nonneg (by omega)
              have hi0 : (0 : Int) ≤ (i : Int) := by omega
              have hj0 : (0 : Int) ≤ (j : Int) := by omega
              have wq1 : IntKind.i64.wrap ((j : Int) / 16) = (j : Int) / 16 := wrap_in _ (by omega)
              have wq2 : IntKind.i64.wrap ((i : Int) / 16) = (i : Int) / 16 := wrap_in _ (by omega)
              have wq3 : IntKind.i64.wrap ((j : Int) / 16 * co) = (j : Int) / 16 * co := wrap_in _ (by omega)
              have wq4 : IntKind.i64.wrap (m : Int) = (m : Int) := wrap_in _ (by omega)
              have hm0 : (0 : Int) ≤ (m : Int) := by omega
              have hm1 : (m : Int) < (ts.length : Int) := by omega
              generalize hu : pick tW tH tps ((i : Int) % 16) ((j : Int) % 16) = u at *
              have HAT := Lib.hid (show Calls Try.prog 43 #[.agg #[.int .i64 tW, .int .i64 tH, .slice tA tps.length tc], .int .i64 ((i : Int) % 16), .int .i64 ((j : Int) % 16)] wr.drew (PxPost u wr.drew) by rw [← hu]; exact pick_any _ _ tA tps.length tc tps _ _ _ HTI.out (Pixs.drew hpx))
              clear hu hpx hix
              obtain ⟨⟨t1, t2, t3⟩, _, _, _⟩ := hbx.three
              clear hbx
              go_upto_region 22 with fail
              have hBr := HBR.out.drew
              have hszr : wq.heap.size ≤ wr.drew.heap.size := HBR.out.size
              go_region_law (first
                | (refine pick_step _ (by rfl) _ _ _ (by rfl) u tW tH (.slice tA tps.length tc) ((i : Int) % 16) ((j : Int) % 16) (by rfl) (by rfl) (by rfl) HAT.out ?_; intro w6 hb6; have hB6 := hBr.trans (hb6.mono hszr); have hlt6 := Nat.lt_of_lt_of_le hlr hb6.size; obtain ⟨⟨t4, t5, t6⟩, _, _, _⟩ := (HBX.out.drew.below hb6).three)
                | (refine ppush_step _ (by rfl) _ _ (by rfl) (wq.heap.size + 1) _ _ (by rfl) (HRW.out.drew.below hb6) u _ (by rfl) (by rfl) (by rw [take_len (Nat.le_of_lt hqlt)]; omega) (by have := hb6.size; exact Nat.le_trans (show wq.heap.size + 1 ≤ wr.heap.size by omega) this) ?_; intro v' w8 hown8 hb8; have hB9 := hB6.trans (hb8.mono (Nat.le_succ _)); obtain ⟨A5, cap5, rfl⟩ := hown8.nshape (n := j * a + i + 1) (by rw [List.length_append, take_len (Nat.le_of_lt hqlt)]; rfl); have hB8 := (HBX.out.drew.below hb6).low (Nat.lt_succ_self _) hb8; obtain ⟨⟨s1, s2, s3⟩, sf1, sf2, sf3⟩ := hB8.three))
              all_goals
                go_wp2_with fail
                go_roundg (a - (i + 1))
                case measure => omega
                case rel => exact ⟨i + 1, by omega, rfl, by go_num, GridRel.step (HBX.out.drew.below hb6) hB6 hown8 hb8 hqlt HGU.out⟩
            · obtain rfl : i = a := by omega
              have HBX := Lib.hid hbx; have HRW := Lib.hid hrw; have HBR := Lib.hid hbr
              clear hbx hrw hbr
              go_wp2_with fail
              go_roundg (b - (j + 1))
              case measure => omega
              case rel => exact ⟨j + 1, by omega, rfl, by go_num, _, HBX.out, by rw [Nat.add_mul, Nat.one_mul]; exact HRW.out, HBR.out⟩
        · obtain rfl : j = b := by omega
          have hta : l.take (j * a) = l := List.take_of_length_le (by rw [hln, Nat.mul_comm]; omega)
          rw [hta] at hrw
          have hd3 := HR0.out.low hlr0 hbr
          obtain ⟨⟨r1, r2, r3⟩, rf1, rf2, rf3⟩ := hd3.three
          obtain ⟨A1, cap1, rfl⟩ := hrw.nshape hln
          obtain ⟨⟨t1, t2, t3⟩, _, _, _⟩ := hbx.three
          have HRW := Lib.hid hrw; have HBR := Lib.hid hbr
          clear hbx hrw hbr
          go_wp2_with fail
          refine bodyPost_ret (v := .tuple #[.agg #[.int .i64 (a : Int), .int .i64 (j : Int), .slice A1 (a * j) cap1], .int .i64 0]) (by simp [results, Try.results36, go_sem, r1, r2, r3]) rfl ?_
          exact ⟨_, _, _, rfl, HRW.out.set3 (by omega) (by omega) _ _ _, set3_below (bel_trans HBQ.out HBR.out) (Nat.le_refl _) _ _ _⟩
theorem rjoin_any (w h : Int) (A : Option Addr) (c : Nat) (ts : List Til) (W : World) (ht : Imgs W W.heap.size (.slice A ts.length c) ts) :
    Calls Try.prog 36 #[.int .i64 w, .int .i64 h, .slice A ts.length c] W (ImOut (joinErr w h ts) w h (joinL w h ts) W) := by
  unfold joinErr
  by_cases hs : 1 ≤ w ∧ w ≤ 256 ∧ 1 ≤ h ∧ h ≤ 256
  · by_cases hl : (ts.length : Int) = colsOf w * colsOf h
    · rw [if_pos ⟨hs.1, hs.2.1, hs.2.2.1, hs.2.2.2, hl⟩]
      by_cases he : scanErr w h (colsOf w) ts ts.length = 0
      · rw [he, imOut_ok]; exact rjoin_yes w h A c ts W ht ⟨hs.1, hs.2.1⟩ hs.2.2 hl he
      · rw [imOut_err he]; exact rjoin_scan w h A c ts W ht ⟨hs.1, hs.2.1⟩ hs.2.2 hl he
    · rw [if_neg (fun e => hl e.2.2.2.2), imOut_err (by omega)]; exact rjoin_count w h A c ts W ⟨hs.1, hs.2.1⟩ hs.2.2 hl
  · rw [if_neg (fun e => hs ⟨e.1, e.2.1, e.2.2.1, e.2.2.2.1⟩), imOut_err (by omega)]; exact rjoin_size w h A c ts W hs
end Go.Proofs.Ytllmckapiplpcaa
