/- raster.Join. -/
import Derived.Test.YtllmckapiplpcaaJoinA
namespace Go.Proofs.Ytllmckapiplpcaa
open Go.RowKit
attribute [local go_sem 2000] run_max2m run_min2m

set_option maxHeartbeats 1500000 in
theorem join_yes (w h : Int) (A : Option Addr) (c : Nat) (ts : List Til) (W : World) (ht : Imgs W W.heap.size (.slice A ts.length c) ts) (hw : 1 ≤ w ∧ w ≤ 256) (hh : 1 ≤ h ∧ h ≤ 256) (hl : (ts.length : Int) = colsOf w * colsOf h) (hs : scanErr w h (colsOf w) ts ts.length = 0) :
    Calls Try.prog 35 #[.int .i64 w, .int .i64 h, .slice A ts.length c] W (ImPost 0 w h (joinL w h ts) W) := by
  have c1 := cols_bd hw; have c2 := cols_bd hh
  have e1 : (w + 16 - 1) / 16 = colsOf w := by unfold colsOf; congr 1; omega
  have e2 : (h + 16 - 1) / 16 = colsOf h := by unfold colsOf; congr 1; omega
  have HF := Lib.hid (fun (x y : Int) (m : Nat) (hm : y / 16 * colsOf w + x / 16 = m) => show joinF w ts x y = pick (tget ts m).W (tget ts m).H (tget ts m).ps (x % 16) (y % 16) by unfold joinF; rw [hm, Int.toNat_natCast])
  have HIX := Lib.hid (fun x y (hx : 0 ≤ x ∧ x < w) (hy : 0 ≤ y ∧ y < h) => til_idx hw hh hx hy)
  have HJL := Lib.hid (show joinL w h ts = gridL w h (joinF w ts) from rfl)
  generalize joinL w h ts = jl at *
  generalize joinF w ts = jf at *
  generalize colsOf w = co at *
  generalize colsOf h = ro at *
  have hco := Int.mul_le_mul c1.2 c2.2 (by omega) (by omega)
  have hco0 := Int.mul_nonneg (show 0 ≤ co by omega) (show 0 ≤ ro by omega)
  have hne : ((ts.length : Int) != co * ro) = false := by simp [hl]
  have HL := Lib.hid hl
  have hlb : ts.length ≤ 256 := by omega
  clear hl
  have HT := Lib.hid ht; clear ht
  have HS := Lib.hid (scan_each ts.length hs); clear hs
  go_enter Try.func35, Try.ntmps35
  go_upto_region 1 with fail
  obtain ⟨hb1, hB, hz0⟩ := one_box W #[.int .i64 0, .int .i64 0, .slice none 0 0] 24 _ rfl
  generalize World.alloc W _ = w0 at *
  go_upto_region 7 with fail
  rw [e1, e2]
  clear e1 e2
  go_loopg [52] ts.length (ScanRel w h co ts w0.heap.size w0)
  case atStart => exact ⟨0, Nat.zero_le _, rfl, rfl, rfl, Below.refl _ _⟩
  case round =>
    obtain ⟨k, hk, rfl, rfl, hsc, hbr⟩ := hrel
    have hd1 := hb1.below hbr
    have hBr := bel_trans hB hbr
    have HBR := Lib.hid hbr; have HSC := Lib.hid hsc
    clear hbr hsc
    by_cases hlt : k < ts.length
    · have hps := (HT.out.on hBr)
      obtain ⟨A', c', ev, _, hcs⟩ := hps
      obtain ⟨bb, oo, rfl, hbb, c1', c2', c3', hpx⟩ := hcs k hlt
      injection ev with ev1 _ ev3
      subst ev1
      clear hcs ev3
      have HPX := Lib.hid hpx
      have HST := Lib.hid (scan_step HSC.out)
      have HTE := Lib.hid (show tilErr w h co (tget ts k) k = if (tget ts k).W = min 16 (w - (k : Int) % co * 16) ∧ (tget ts k).H = min 16 (h - (k : Int) / co * 16) then ichk (tget ts k).W (tget ts k).H (tget ts k).ps else 15 from rfl)
      have HE := Lib.hid (HS.out k hlt)
      generalize tget ts k = t at *
      obtain ⟨tW, tH, tA, tc, tps⟩ := t
      simp only at c1' c2' c3' HPX HTE
      have hpl : 0 ≤ (k : Int) % co ∧ (k : Int) % co < co := ⟨Int.emod_nonneg _ (by omega), Int.emod_lt_of_pos _ (by omega)⟩
      have hdl0 : 0 ≤ (k : Int) / co := Int.ediv_nonneg (by omega) (by omega)
      have hdl1 : (k : Int) / co ≤ 256 := by
        have := Int.ediv_le_self (b := co) (a := (k : Int)) (by omega)
        omega
      go_upto_region 9 with fail
      clear c1' c2' c3' hpx
      obtain ⟨hbt, hB5, hz5⟩ := one_box wr #[.int .i64 tW, .int .i64 tH, .slice tA tps.length tc] 24 _ rfl
      generalize World.alloc wr _ = w5 at *
      replace hd1 := hd1.below hB5
      have HP5 := Lib.hid (HPX.out.on hB5)
      have hk0 : (0 : Int) ≤ (k : Int) := by omega
      have hcz : ¬ co = 0 := by omega
      have ht1 : (k : Int).tmod co = (k : Int) % co := Int.tmod_eq_emod_of_nonneg hk0
      have wr1 : IntKind.i64.wrap ((k : Int) % co * 16) = (k : Int) % co * 16 := wrap_in _ (by omega)
      have wr2 : IntKind.i64.wrap ((k : Int) / co) = (k : Int) / co := wrap_in _ (by omega)
      have wr3 : IntKind.i64.wrap ((k : Int) / co * 16) = (k : Int) / co * 16 := wrap_in _ (by omega)
      obtain ⟨⟨t1, t2, t3⟩, _, _, _⟩ := hbt.three
      go_quiet (fail)
      clear ht1 wr1 wr2 wr3 t1 t2 t3
      have hbX : 0 ≤ (k : Int) % co * 16 ∧ (k : Int) % co * 16 ≤ 256 := by omega
      have hbY : 0 ≤ (k : Int) / co * 16 ∧ (k : Int) / co * 16 ≤ 5000 := by omega
      clear hpl hdl0 hdl1
      have HE2 := HE.out
      obtain ⟨n1, n2, n3⟩ := tilErr_zero HE2
      simp only at n1 n2 n3
      generalize (k : Int) % co * 16 = X at *
      generalize (k : Int) / co * 16 = Y at *
      replace hd1 : Bx (w5.drewN nq) W.heap.size _ _ := hd1
      replace hbt : Bx (w5.drewN nq) wr.heap.size _ _ := hbt
      have HP6 := Lib.hid (show Pixs (w5.drewN nq) (w5.drewN nq).heap.size _ _ from HP5.out)
      have HB6 := Lib.hid (show Below wr.heap.size wr (w5.drewN nq) from Below.drewN' hB5 nq)
      clear hB5 HP5
      generalize w5.drewN nq = w6 at *
      obtain ⟨⟨t1, t2, t3⟩, _, _, _⟩ := hbt.three
      rw [if_pos ⟨n1, n2⟩] at HTE
      have HSC2 := Lib.hid (HST.out.trans HE.out)
      have N3 := Lib.hid n3; clear n3 HTE
      have q1 : (tW != min 16 (w - X)) = false := by simp [n1]
      have q2 : (tH != min 16 (h - Y)) = false := by simp [n2]
      clear n1 n2
      go_wp2_with fail
      refine (icheck_any tW tH tA tps.length tc tps _ HP6.out).mono ?_
      rintro e w7 ⟨rfl, hb7⟩
      replace hd1 := hd1.below hb7
      clear t1 t2 t3
      rw [N3.out]
      go_wp2_with fail
      go_roundg (ts.length - (k + 1))
      case measure => omega
      case rel => exact ⟨k + 1, by omega, rfl, by go_num, HSC2.out, HBR.out.trans ((bel_trans HB6.out hb7).mono HBR.out.size)⟩
    · obtain rfl : k = ts.length := by omega
      have h0 : 0 ≤ w * h := Int.mul_nonneg (by omega) (by omega)
      have h2 : w * h ≤ 65536 := by have := Int.mul_le_mul hw.2 hh.2 (by omega) (by omega); omega
      obtain ⟨n, hn⟩ : ∃ n : Nat, w * h = n := ⟨(w * h).toNat, by omega⟩
      have hln : (gridL w h jf).length = n := by rw [grid_length]; omega
      have HG := Lib.hid (fun k (hk : k < n) => grid_pat w h jf k (by omega))
      have HPL := Lib.hid (fun k (hk : k < n) => place_of (w := w) (h := h) (k := k) (by omega) (by omega))
      rw [← HJL.out] at hln
      rw [← HJL.out] at HG
      have HN := Lib.hid hn
      have hnn : n ≤ 65536 := by omega
      clear HJL
      go_wp2_with fail
      refine (blank_any w h n _ HN.out hnn).mono ?_
      rintro e w9 ⟨g, rfl, hrow, hb9⟩
      have hB9 := bel_trans hBr hb9
      replace hd1 := hd1.below hb9
      have hz9 := hb9.size
      have hlo := hrow.lo
      have hzr := hBr.size
      have hzr2 := HBR.out.size
      go_upto_region 17 with fail
      obtain ⟨hb5, hB5, hz5⟩ := one_box w9 #[.int .i64 w, .int .i64 h, .slice (some ⟨g, 0, none⟩) n n] 24 _ rfl
      generalize World.alloc w9 _ = w4 at *
      replace hd1 := hd1.below hB5; replace hrow := hrow.below hB5; replace hB9 := bel_trans hB9 hB5
      obtain ⟨⟨m1, m2, m3⟩, _, _, _⟩ := hb5.three
      go_upto_region 18 with fail
      clear m1 m2 m3 hBr HBR hb1 hB HSC
      have HBB := Lib.hid hB9
      generalize wr.heap.size = B0 at *
      go_loopg [95] n (FillRel jl g B0 n w4)
      case atStart => exact FillRel.start hln hrow
      case round =>
        obtain ⟨k, hk, rfl, rfl, hrw, hkb⟩ := hrel
        rw [hln] at hk
        have hkw := hkb.size
        have hlo2 := hrw.lo
        have he1 := hkb.bx hd1 (by omega) (by omega)
        have he5 := hkb.bx hb5 (by omega) (by omega)
        by_cases hlt : k < n
        · obtain ⟨⟨pm1, pm2⟩, pd1, pd2⟩ := HPL.out k hlt
          have HGK := Lib.hid (HG.out k hlt)
          have hk0 : (0 : Int) ≤ (k : Int) := by omega
          have hcz : ¬ w = 0 := by omega
          have ht1 : (k : Int).tmod w = (k : Int) % w := Int.tmod_eq_emod_of_nonneg hk0
          have wr2 : IntKind.i64.wrap ((k : Int) / w) = (k : Int) / w := wrap_in _ (by omega)
          have HKB := Lib.hid hkb; have HRW := Lib.hid hrw
          clear hkb hrw
          go_upto_region 20 with fail
          go_quiet (fail)
          clear ht1 wr2
          generalize (k : Int) % w = X at *
          generalize (k : Int) / w = Y at *
          replace he1 : Bx (wr.drewN nq) W.heap.size _ _ := he1
          replace he5 : Bx (wr.drewN nq) w9.heap.size _ _ := he5
          have HK7 := Lib.hid (HKB.out.drewN nq)
          have HR7 := Lib.hid (show PRow (wr.drewN nq) B0 _ _ from HRW.out)
          have hz7 : (wr.drewN nq).heap.size = wr.heap.size := rfl
          clear HKB HRW
          generalize wr.drewN nq = w7 at *
          have hk9 : w4.heap.size ≤ w7.heap.size := by omega
          clear hz7
          have hix := HIX.out X Y ⟨pm1, pm2⟩ ⟨pd1, pd2⟩
          obtain ⟨m, hm⟩ : ∃ m : Nat, Y / 16 * co + X / 16 = m := ⟨(Y / 16 * co + X / 16).toNat, by omega⟩
          have hml : m < ts.length := by have := HL.out; omega
          have HTM := Lib.hid (tilErr_zero (HS.out m hml)).2.2
          rw [HF.out X Y m hm] at HGK
          have hit := (HK7.out.imgs (HT.out.below HBB.out) (by omega) (by omega)).more (B' := w7.heap.size) (by omega)
          obtain ⟨A', c', ev, _, hcs⟩ := hit
          obtain ⟨bb, oo, rfl, hbb, c1', c2', c3', hpx⟩ := hcs m hml
          injection ev with ev1 _ ev3
          subst ev1
          clear hcs ev3
          generalize tget ts m = t at *
          obtain ⟨tW, tH, tA, tc, tps⟩ := t
          simp only at c1' c2' c3' hpx HGK HTM
          have HTI := Lib.hid ((ichk_iff tW tH tps).1 HTM.out)
          have HPX := Lib.hid hpx
          clear hpx
          have hy16 : 0 ≤ Y / 16 ∧ Y / 16 ≤ 16 := by omega
          have hx16 : 0 ≤ X / 16 ∧ X / 16 ≤ 16 := by omega
          go_upto_region 22 with fail
          clear c1' c2' c3'
          obtain ⟨hbt, hB8, hz8⟩ := one_box w7 #[.int .i64 tW, .int .i64 tH, .slice tA tps.length tc] 24 _ rfl
          have HP8 := Lib.hid (HPX.out.on hB8)
          have HK8 := Lib.hid (HK7.out.below hB8 (by omega))
          have HR8 := Lib.hid (HR7.out.below hB8)
          replace he1 := he1.below hB8; replace he5 := he5.below hB8
          generalize World.alloc w7 _ = w8 at *
          clear hz8 hm hix
          have tm1 : X.tmod 16 = X % 16 := Int.tmod_eq_emod_of_nonneg pm1
          have tm2 : Y.tmod 16 = Y % 16 := Int.tmod_eq_emod_of_nonneg pd1
          have hbm1 : 0 ≤ X % 16 ∧ X % 16 < 16 := by omega
          have hbm2 : 0 ≤ Y % 16 ∧ Y % 16 < 16 := by omega
          generalize X % 16 = X' at *
          generalize Y % 16 = Y' at *
          have HAT := Lib.hid (at_any tW tH tA tps.length tc tps X' Y' w8.drew HTI.out HP8.out.drew)
          generalize pick tW tH tps X' Y' = u at *
          have hk1 : (k : Int) < (n : Int) := by omega
          obtain ⟨⟨d1, d2, d3⟩, _, _, _⟩ := hbt.three
          obtain ⟨⟨m1, m2, m3⟩, _, _, _⟩ := he5.three
          have HD1 := Lib.hid hbt; have HD4 := Lib.hid he5
          have hne1 : w9.heap.size ≠ g := by omega
          have hne2 : w7.heap.size ≠ g := by omega
          clear hbt he5
          have hS0 : w8.drew.cell? ⟨w9.heap.size, 2, none⟩ = some (.slice (some ⟨g, 0, none⟩) n n) ∧ w8.drew.cell? ⟨w7.heap.size, 0, none⟩ = some (.int .i64 tW) ∧ w8.drew.cell? ⟨w7.heap.size, 1, none⟩ = some (.int .i64 tH) ∧ w8.drew.cell? ⟨w7.heap.size, 2, none⟩ = some (.slice tA tps.length tc) := ⟨m3, d1, d2, d3⟩
          have HS4 := Lib.hid (show ∀ w6, Below w8.drew.heap.size w8.drew w6 → w6.cell? ⟨w9.heap.size, 2, none⟩ = some (.slice (some ⟨g, 0, none⟩) n n) ∧ w6.cell? ⟨w7.heap.size, 0, none⟩ = some (.int .i64 tW) ∧ w6.cell? ⟨w7.heap.size, 1, none⟩ = some (.int .i64 tH) ∧ w6.cell? ⟨w7.heap.size, 2, none⟩ = some (.slice tA tps.length tc) from fun w6 hb => ⟨((HD4.out.drew.below hb).three).1.2.2, ((HD1.out.drew.below hb).three).1.1, ((HD1.out.drew.below hb).three).1.2.1, ((HD1.out.drew.below hb).three).1.2.2⟩)
          have HS5 := Lib.hid (show ∀ w6, Below w8.drew.heap.size w8.drew w6 → ((((w6.setCell ⟨g, k * 4, none⟩ (.int .i64 u.r)).setCell ⟨g, k * 4 + 1, none⟩ (.int .i64 u.g)).setCell ⟨g, k * 4 + 2, none⟩ (.int .i64 u.b)).setCell ⟨g, k * 4 + 3, none⟩ (.int .i64 u.a)).cell? ⟨w9.heap.size, 2, none⟩ = some (.slice (some ⟨g, 0, none⟩) n n) ∧ ((((w6.setCell ⟨g, k * 4, none⟩ (.int .i64 u.r)).setCell ⟨g, k * 4 + 1, none⟩ (.int .i64 u.g)).setCell ⟨g, k * 4 + 2, none⟩ (.int .i64 u.b)).setCell ⟨g, k * 4 + 3, none⟩ (.int .i64 u.a)).cell? ⟨w7.heap.size, 0, none⟩ = some (.int .i64 tW) ∧ ((((w6.setCell ⟨g, k * 4, none⟩ (.int .i64 u.r)).setCell ⟨g, k * 4 + 1, none⟩ (.int .i64 u.g)).setCell ⟨g, k * 4 + 2, none⟩ (.int .i64 u.b)).setCell ⟨g, k * 4 + 3, none⟩ (.int .i64 u.a)).cell? ⟨w7.heap.size, 1, none⟩ = some (.int .i64 tH) ∧ ((((w6.setCell ⟨g, k * 4, none⟩ (.int .i64 u.r)).setCell ⟨g, k * 4 + 1, none⟩ (.int .i64 u.g)).setCell ⟨g, k * 4 + 2, none⟩ (.int .i64 u.b)).setCell ⟨g, k * 4 + 3, none⟩ (.int .i64 u.a)).cell? ⟨w7.heap.size, 2, none⟩ = some (.slice tA tps.length tc) from fun w6 hb => ⟨((HD4.out.drew.below hb).other4 hne1 _ _ _ _ _ _ _ _).three.1.2.2, ((HD1.out.drew.below hb).other4 hne2 _ _ _ _ _ _ _ _).three.1.1, ((HD1.out.drew.below hb).other4 hne2 _ _ _ _ _ _ _ _).three.1.2.1, ((HD1.out.drew.below hb).other4 hne2 _ _ _ _ _ _ _ _).three.1.2.2⟩)
          go_region_held3 (fun w' => w'.cell? ⟨w9.heap.size, 2, none⟩ = some (.slice (some ⟨g, 0, none⟩) n n) ∧ w'.cell? ⟨w7.heap.size, 0, none⟩ = some (.int .i64 tW) ∧ w'.cell? ⟨w7.heap.size, 1, none⟩ = some (.int .i64 tH) ∧ w'.cell? ⟨w7.heap.size, 2, none⟩ = some (.slice tA tps.length tc))
            (first | assumption | exact hS0 | exact HS4.out _ hbw6 | exact HS5.out _ hbw6 | go_keep)
            ((go_at_call 42; (with_reducible refine HAT.out.mono ?_); rintro e w6 ⟨rfl, hbw6⟩; have hR6 := (HR8.out.drew).below hbw6; obtain ⟨⟨x1, x2, x3, x4⟩, xf1, xf2, xf3, xf4⟩ := hR6.at4 hlt))
          go_wp2_with fail
          go_roundg (n - (k + 1))
          case measure => omega
          case rel => exact ⟨k + 1, by omega, by rw [hln], by go_num, part_put (by rw [hln]; exact hlt) hln hR6 HGK.out, (HK8.out.drew.below hbw6 (by show w4.heap.size ≤ w8.heap.size; have := hB8.size; omega)).set4 _ _ _ _ _ _ _ _⟩
        · obtain rfl : k = n := by omega
          obtain ⟨⟨r1, r2, r3⟩, rf1, rf2, rf3⟩ := he1.three
          obtain ⟨⟨m1, m2, m3⟩, _, _, _⟩ := he5.three
          have hall := partD_all Px.zero jl
          rw [hln] at hall
          rw [hall] at hrw
          have HR := Lib.hid hrw
          have HK := Lib.hid (hkb.toBelow HBB.out (by omega) (by omega))
          clear hrw hkb he1 he5 hd1 hb5 hrow
          go_wp2_with fail
          refine bodyPost_ret (v := .tuple #[.agg #[.int .i64 w, .int .i64 h, .slice (some ⟨g, 0, none⟩) k k], .int .i64 0]) (by simp [results, Try.results35, go_sem, r1, r2, r3]) rfl ?_
          exact ⟨_, _, _, rfl, HR.out.set3 (by omega) (by omega) _ _ _, set3_below HK.out (Nat.le_refl _) _ _ _⟩
theorem join_any (w h : Int) (A : Option Addr) (c : Nat) (ts : List Til) (W : World) (ht : Imgs W W.heap.size (.slice A ts.length c) ts) :
    Calls Try.prog 35 #[.int .i64 w, .int .i64 h, .slice A ts.length c] W (ImOut (joinErr w h ts) w h (joinL w h ts) W) := by
  unfold joinErr
  by_cases hs : 1 ≤ w ∧ w ≤ 256 ∧ 1 ≤ h ∧ h ≤ 256
  · by_cases hl : (ts.length : Int) = colsOf w * colsOf h
    · rw [if_pos ⟨hs.1, hs.2.1, hs.2.2.1, hs.2.2.2, hl⟩]
      by_cases he : scanErr w h (colsOf w) ts ts.length = 0
      · rw [he, imOut_ok]; exact join_yes w h A c ts W ht ⟨hs.1, hs.2.1⟩ hs.2.2 hl he
      · rw [imOut_err he]; exact join_scan w h A c ts W ht ⟨hs.1, hs.2.1⟩ hs.2.2 hl he
    · rw [if_neg (fun e => hl e.2.2.2.2), imOut_err (by omega)]; exact join_count w h A c ts W ⟨hs.1, hs.2.1⟩ hs.2.2 hl
  · rw [if_neg (fun e => hs ⟨e.1, e.2.1, e.2.2.1, e.2.2.2.1⟩), imOut_err (by omega)]; exact join_size w h A c ts W hs
end Go.Proofs.Ytllmckapiplpcaa
