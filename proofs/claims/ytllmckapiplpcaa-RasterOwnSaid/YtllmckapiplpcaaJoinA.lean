/- raster.Join: its errors. -/
import Derived.Test.YtllmckapiplpcaaJoinDef
import Derived.BigQuiet
import Derived.Deep.QuietTactic
namespace Go.Proofs.Ytllmckapiplpcaa
open Go.RowKit
attribute [local go_sem 2000] run_max2m run_min2m

set_option maxHeartbeats 1000000 in
theorem join_size (w h : Int) (A : Option Addr) (c : Nat) (ts : List Til) (W : World) (hs : ¬ (1 ≤ w ∧ w ≤ 256 ∧ 1 ≤ h ∧ h ≤ 256)) :
    Calls Try.prog 35 #[.int .i64 w, .int .i64 h, .slice A ts.length c] W (ImPost 15 0 0 [] W) := by
  rcases (show w < 1 ∨ (1 ≤ w ∧ 256 < w) ∨ (1 ≤ w ∧ w ≤ 256 ∧ h < 1) ∨ (1 ≤ w ∧ w ≤ 256 ∧ 1 ≤ h ∧ 256 < h) by omega) with k | k | k | k
  all_goals
    clear hs
    go_enter Try.func35, Try.ntmps35
    go_upto_region 1 with fail
    obtain ⟨hb1, hB, hz0⟩ := one_box W #[.int .i64 0, .int .i64 0, .slice none 0 0] 24 _ rfl
    generalize World.alloc W _ = w0 at *
    obtain ⟨⟨r1, r2, r3⟩, rf1, rf2, rf3⟩ := hb1.three
    go_wp2_with fail
    refine bodyPost_ret (v := .tuple #[.agg #[.int .i64 0, .int .i64 0, .slice none 0 0], .int .i64 15]) (by simp [results, Try.results35, go_sem, r1, r2, r3]) rfl ?_
    exact ⟨_, _, _, rfl, PRow.nil _ _, set3_below hB (Nat.le_refl _) _ _ _⟩
set_option maxHeartbeats 1000000 in
theorem join_count (w h : Int) (A : Option Addr) (c : Nat) (ts : List Til) (W : World) (hw : 1 ≤ w ∧ w ≤ 256) (hh : 1 ≤ h ∧ h ≤ 256) (hl : ¬ (ts.length : Int) = colsOf w * colsOf h) :
    Calls Try.prog 35 #[.int .i64 w, .int .i64 h, .slice A ts.length c] W (ImPost 15 0 0 [] W) := by
  have c1 := cols_bd hw; have c2 := cols_bd hh
  have e1 : (w + 16 - 1) / 16 = colsOf w := by unfold colsOf; congr 1; omega
  have e2 : (h + 16 - 1) / 16 = colsOf h := by unfold colsOf; congr 1; omega
  generalize colsOf w = co at *
  generalize colsOf h = ro at *
  have hco := Int.mul_le_mul c1.2 c2.2 (by omega) (by omega)
  have hco0 := Int.mul_nonneg (show 0 ≤ co by omega) (show 0 ≤ ro by omega)
  have hne : ((ts.length : Int) != co * ro) = true := by simp [hl]
  go_enter Try.func35, Try.ntmps35
  go_upto_region 1 with fail
  obtain ⟨hb1, hB, hz0⟩ := one_box W #[.int .i64 0, .int .i64 0, .slice none 0 0] 24 _ rfl
  generalize World.alloc W _ = w0 at *
  obtain ⟨⟨r1, r2, r3⟩, rf1, rf2, rf3⟩ := hb1.three
  go_wp2_with fail
  refine bodyPost_ret (v := .tuple #[.agg #[.int .i64 0, .int .i64 0, .slice none 0 0], .int .i64 15]) (by simp [results, Try.results35, go_sem, r1, r2, r3]) rfl ?_
  exact ⟨_, _, _, rfl, PRow.nil _ _, set3_below hB (Nat.le_refl _) _ _ _⟩
set_option maxHeartbeats 1500000 in
theorem join_scan (w h : Int) (A : Option Addr) (c : Nat) (ts : List Til) (W : World) (ht : Imgs W W.heap.size (.slice A ts.length c) ts) (hw : 1 ≤ w ∧ w ≤ 256) (hh : 1 ≤ h ∧ h ≤ 256) (hl : (ts.length : Int) = colsOf w * colsOf h) (hs : scanErr w h (colsOf w) ts ts.length ≠ 0) :
    Calls Try.prog 35 #[.int .i64 w, .int .i64 h, .slice A ts.length c] W (ImPost (scanErr w h (colsOf w) ts ts.length) 0 0 [] W) := by
  have c1 := cols_bd hw; have c2 := cols_bd hh
  have e1 : (w + 16 - 1) / 16 = colsOf w := by unfold colsOf; congr 1; omega
  have e2 : (h + 16 - 1) / 16 = colsOf h := by unfold colsOf; congr 1; omega
  generalize colsOf w = co at *
  generalize colsOf h = ro at *
  have hco := Int.mul_le_mul c1.2 c2.2 (by omega) (by omega)
  have hco0 := Int.mul_nonneg (show 0 ≤ co by omega) (show 0 ≤ ro by omega)
  have hne : ((ts.length : Int) != co * ro) = false := by simp [hl]
  have HL := Lib.hid hl
  have hlb : ts.length ≤ 256 := by omega
  clear hl
  have HT := Lib.hid ht; clear ht
  have HS := Lib.hid hs; clear hs
  go_enter Try.func35, Try.ntmps35
  go_upto_region 1 with fail
  obtain ⟨hb1, hB, hz0⟩ := one_box W #[.int .i64 0, .int .i64 0, .slice none 0 0] 24 _ rfl
  generalize World.alloc W _ = w0 at *
  go_upto_region 7 with fail
  rw [e1, e2]
  clear e1 e2
  go_loopg [52] ts.length (ScanRel w h co ts w0.heap.size w0)
  case atStart => exact ⟨0, Nat.zero_le _, rfl, rfl, rfl, Below.refl _ _⟩
  case round =>
    obtain ⟨k, hk, rfl, rfl, hsc, hbr⟩ := hrel
    have hd1 := hb1.below hbr
    have hBr := bel_trans hB hbr
    have HBR := Lib.hid hbr; have HSC := Lib.hid hsc
    clear hbr hsc
    by_cases hlt : k < ts.length
    · have hps := (HT.out.on hBr)
      obtain ⟨A', c', ev, _, hcs⟩ := hps
      obtain ⟨bb, oo, rfl, hbb, c1', c2', c3', hpx⟩ := hcs k hlt
      injection ev with ev1 _ ev3
      subst ev1
      clear hcs ev3
      have HPX := Lib.hid hpx
      have HST := Lib.hid (scan_step HSC.out)
      have HTE := Lib.hid (show tilErr w h co (tget ts k) k = if (tget ts k).W = min 16 (w - (k : Int) % co * 16) ∧ (tget ts k).H = min 16 (h - (k : Int) / co * 16) then ichk (tget ts k).W (tget ts k).H (tget ts k).ps else 15 from rfl)
      have HSY := Lib.hid (fun e => scan_stay (w := w) (h := h) (co := co) (ts := ts) (k := k + 1) e ts.length (by omega))
      generalize hev : scanErr w h co ts ts.length = ev at *
      have HEV := Lib.hid hev; clear hev
      generalize tget ts k = t at *
      obtain ⟨tW, tH, tA, tc, tps⟩ := t
      simp only at c1' c2' c3' HPX HTE
      have hpl : 0 ≤ (k : Int) % co ∧ (k : Int) % co < co := ⟨Int.emod_nonneg _ (by omega), Int.emod_lt_of_pos _ (by omega)⟩
      have hdl0 : 0 ≤ (k : Int) / co := Int.ediv_nonneg (by omega) (by omega)
      have hdl1 : (k : Int) / co ≤ 256 := by
        have := Int.ediv_le_self (b := co) (a := (k : Int)) (by omega)
        omega
      go_upto_region 9 with fail
      clear c1' c2' c3' hpx
      obtain ⟨hbt, hB5, hz5⟩ := one_box wr #[.int .i64 tW, .int .i64 tH, .slice tA tps.length tc] 24 _ rfl
      generalize World.alloc wr _ = w5 at *
      replace hd1 := hd1.below hB5
      have HP5 := Lib.hid (HPX.out.on hB5)
      have hk0 : (0 : Int) ≤ (k : Int) := by omega
      have hcz : ¬ co = 0 := by omega
      have ht1 : (k : Int).tmod co = (k : Int) % co := Int.tmod_eq_emod_of_nonneg hk0
      have wr1 : IntKind.i64.wrap ((k : Int) % co * 16) = (k : Int) % co * 16 := wrap_in _ (by omega)
      have wr2 : IntKind.i64.wrap ((k : Int) / co) = (k : Int) / co := wrap_in _ (by omega)
      have wr3 : IntKind.i64.wrap ((k : Int) / co * 16) = (k : Int) / co * 16 := wrap_in _ (by omega)
      obtain ⟨⟨t1, t2, t3⟩, _, _, _⟩ := hbt.three
      go_quiet (fail)
      clear ht1 wr1 wr2 wr3 t1 t2 t3
      have hbX : 0 ≤ (k : Int) % co * 16 ∧ (k : Int) % co * 16 ≤ 256 := by omega
      have hbY : 0 ≤ (k : Int) / co * 16 ∧ (k : Int) / co * 16 ≤ 5000 := by omega
      clear hpl hdl0 hdl1
      generalize (k : Int) % co * 16 = X at *
      generalize (k : Int) / co * 16 = Y at *
      replace hd1 : Bx (w5.drewN nq) W.heap.size _ _ := hd1
      replace hbt : Bx (w5.drewN nq) wr.heap.size _ _ := hbt
      have HP6 := Lib.hid (show Pixs (w5.drewN nq) (w5.drewN nq).heap.size _ _ from HP5.out)
      have HB6 := Lib.hid (show Below wr.heap.size wr (w5.drewN nq) from Below.drewN' hB5 nq)
      clear hB5 HP5
      generalize w5.drewN nq = w6 at *
      obtain ⟨⟨t1, t2, t3⟩, _, _, _⟩ := hbt.three
      by_cases n1 : tW = min 16 (w - X)
      · by_cases n2 : tH = min 16 (h - Y)
        · rw [if_pos ⟨n1, n2⟩] at HTE
          have q1 : (tW != min 16 (w - X)) = false := by simp [n1]
          have q2 : (tH != min 16 (h - Y)) = false := by simp [n2]
          clear n1 n2
          go_wp2_with fail
          refine (icheck_any tW tH tA tps.length tc tps _ HP6.out).mono ?_
          rintro e w7 ⟨rfl, hb7⟩
          replace hd1 := hd1.below hb7
          clear t1 t2 t3
          rw [HTE.out] at HST
          have hE := HST.out
          rw [hE] at HSY
          generalize hch : ichk tW tH tps = ch at *
          clear hch
          have hcd : ch = 0 ∨ ch ≠ 0 := by omega
          rcases hcd with rfl | hcn
          · go_wp2_with fail
            go_roundg (ts.length - (k + 1))
            case measure => omega
            case rel => exact ⟨k + 1, by omega, rfl, by go_num, hE, HBR.out.trans ((bel_trans HB6.out hb7).mono HBR.out.size)⟩
          · have hcb : (ch != 0) = true := by simp [hcn]
            obtain rfl := HSY.out hcn
            obtain ⟨⟨r1, r2, r3⟩, rf1, rf2, rf3⟩ := hd1.three
            have hBB := bel_trans hBr (bel_trans HB6.out hb7)
            go_wp2_with fail
            refine bodyPost_ret (v := .tuple #[.agg #[.int .i64 0, .int .i64 0, .slice none 0 0], .int .i64 ev]) (by simp [results, Try.results35, go_sem, r1, r2, r3]) rfl ?_
            exact ⟨_, _, _, rfl, PRow.nil _ _, set3_below hBB (Nat.le_refl _) _ _ _⟩
        · rw [if_neg (fun e => n2 e.2)] at HTE
          have q1 : (tW != min 16 (w - X)) = false := by simp [n1]
          have q2 : (tH != min 16 (h - Y)) = true := by simp [n2]
          clear n1 n2
          have hE := HST.out.trans HTE.out
          rw [hE] at HSY
          obtain rfl := HSY.out (by omega)
          obtain ⟨⟨r1, r2, r3⟩, rf1, rf2, rf3⟩ := hd1.three
          have hBB := bel_trans hBr HB6.out
          go_wp2_with fail
          refine bodyPost_ret (v := .tuple #[.agg #[.int .i64 0, .int .i64 0, .slice none 0 0], .int .i64 15]) (by simp [results, Try.results35, go_sem, r1, r2, r3]) rfl ?_
          exact ⟨_, _, _, rfl, PRow.nil _ _, set3_below hBB (Nat.le_refl _) _ _ _⟩
      · rw [if_neg (fun e => n1 e.1)] at HTE
        have q1 : (tW != min 16 (w - X)) = true := by simp [n1]
        have hE := HST.out.trans HTE.out
        rw [hE] at HSY
        obtain rfl := HSY.out (by omega)
        obtain ⟨⟨r1, r2, r3⟩, rf1, rf2, rf3⟩ := hd1.three
        have hBB := bel_trans hBr HB6.out
        go_wp2_with fail
        refine bodyPost_ret (v := .tuple #[.agg #[.int .i64 0, .int .i64 0, .slice none 0 0], .int .i64 15]) (by simp [results, Try.results35, go_sem, r1, r2, r3]) rfl ?_
        exact ⟨_, _, _, rfl, PRow.nil _ _, set3_below hBB (Nat.le_refl _) _ _ _⟩
    · obtain rfl : k = ts.length := by omega
      exact absurd HSC.out HS.out
end Go.Proofs.Ytllmckapiplpcaa
