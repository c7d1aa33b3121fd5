/- raster.Box. -/
import Derived.Test.YtllmckapiplpcaaBoxDef
import Derived.StillTailTactics
namespace Go.Proofs.Ytllmckapiplpcaa
open Go.RowKit

set_option maxHeartbeats 4000000 in
theorem box_no (W H : Int) (A : Option Addr) (c : Nat) (ps : List Px) (w : World) (h : Pixs w w.heap.size (.slice A ps.length c) ps) (hc : ichk W H ps ≠ 0) :
    Calls Try.prog 33 #[.agg #[.int .i64 W, .int .i64 H, .slice A ps.length c]] w (RcPost Rc.zero w) := by
  have HC := Lib.hid (icheck_any W H A ps.length c ps)
  generalize hE : ichk W H ps = ch at *
  have hne : (ch != 0) = true := by simp [hc]
  have HP := Lib.hid h; clear h
  go_enter Try.func33, Try.ntmps33
  go_upto_region 1 with fail
  obtain ⟨hb1, hb2, hB⟩ := two_boxes w #[.int .i64 W, .int .i64 H, .slice A ps.length c] #[.int .i64 0, .int .i64 0, .int .i64 0, .int .i64 0] 24 37 _ rfl
  generalize World.alloc (w.alloc _) _ = w0 at *
  obtain ⟨⟨i1, i2, i3⟩, _, _, _⟩ := hb1.three
  go_wp2_with fail
  refine (HC.out _ (HP.out.on hB)).mono ?_
  rintro e w1 ⟨rfl, hb⟩
  replace hb2 := hb2.below hb; replace hB := bel_trans hB hb
  clear i1 i2 i3 hb
  obtain ⟨⟨r1, r2, r3, r4⟩, rf1, rf2, rf3, rf4⟩ := hb2.four
  go_wp2_with fail
  refine bodyPost_ret (v := .agg #[.int .i64 0, .int .i64 0, .int .i64 0, .int .i64 0]) (by simp [results, Try.results33, go_sem, r1, r2, r3, r4]) rfl ⟨rfl, set4_below hB (Nat.le_succ _) _ _ _ _ _ _ _ _⟩
set_option maxHeartbeats 4000000 in
theorem box_yes (W H : Int) (A : Option Addr) (c : Nat) (ps : List Px) (w : World) (h : Pixs w w.heap.size (.slice A ps.length c) ps) (hc : ichk W H ps = 0) :
    Calls Try.prog 33 #[.agg #[.int .i64 W, .int .i64 H, .slice A ps.length c]] w (RcPost (boxN W ps ps.length) w) := by
  have hiok := (ichk_iff W H ps).1 hc
  have HC := Lib.hid hc; clear hc
  have hw0 := hiok.w0; have hw1 := hiok.w1; have hh0 := hiok.h0; have hh1 := hiok.h1
  have hl := iok_len hiok
  have hn := hiok.n
  have HIO := Lib.hid hiok; clear hiok
  have HP := Lib.hid h; clear h
  go_enter Try.func33, Try.ntmps33
  go_upto_region 1 with fail
  obtain ⟨hb1, hb2, hB⟩ := two_boxes w #[.int .i64 W, .int .i64 H, .slice A ps.length c] #[.int .i64 0, .int .i64 0, .int .i64 0, .int .i64 0] 24 37 _ rfl
  have hz0 := hb2.lt
  generalize World.alloc (w.alloc _) _ = w0 at *
  obtain ⟨⟨i1, i2, i3⟩, _, _, _⟩ := hb1.three
  go_wp2_with fail
  refine (icheck_any W H A ps.length c ps _ (HP.out.on hB)).mono ?_
  rintro e w1 ⟨rfl, hb⟩
  rw [HC.out]
  replace hb1 := hb1.below hb; replace hb2 := hb2.below hb; replace hB := bel_trans hB hb
  have hz1 := hb.size
  clear i1 i2 i3 hb
  go_upto_region 4 with fail
  obtain ⟨hbt, hBt, hzt⟩ := one_box w1 #[.int .i64 0, .int .i64 0, .int .i64 0, .int .i64 0] 37 _ rfl
  generalize World.alloc w1 _ = w2 at *
  have hb1t := hb1.below hBt
  obtain ⟨⟨i1, i2, i3⟩, _, _, _⟩ := hb1t.three
  go_upto_region 5 with fail
  clear i1 i2 i3 hb1t
  go_loopg [13] ps.length (BoxRel W ps w1.heap.size w1)
  case atStart => exact ⟨0, Nat.zero_le _, rfl, rfl, hbt, hBt⟩
  case round =>
    obtain ⟨k, hk, rfl, rfl, hbx, hbr⟩ := hrel
    have hlr := hbx.lt
    have hd1 := hb1.low (by omega) hbr
    have hd2 := hb2.low (by omega) hbr
    have HBX := Lib.hid hbx; have HBR := Lib.hid hbr; have HHB := Lib.hid (bel_trans hB hbr)
    have HBK := Lib.hid (boxN_ok HIO.out k hk)
    by_cases hlt : k < ps.length
    · have HPX := Lib.hid ((HP.out.below HHB.out).more (B' := wr.heap.size) (by omega))
      have hps := HPX.out
      obtain ⟨A', c', ev, _, hcs⟩ := hps
      obtain ⟨bb, oo, rfl, hbb, c1, c2, c3, c4⟩ := hcs k hlt
      injection ev with ev1 _ ev3
      subst ev1
      clear hcs ev3
      have HST := Lib.hid (one_sm hw1 hh1 (show k < (W * H).toNat by omega) hw0)
      have HSK := Lib.hid (boxN_skip (W := W) (ps := ps) (k := k))
      have HJN := Lib.hid (boxN_join (W := W) (ps := ps) (k := k))
      have hpw := pos_of (show k < (W * H).toNat by omega) hw0
      generalize pat ps k = p at *
      go_upto_region 7 with fail
      clear c1 c2 c3 c4 hbx hbr
      obtain ⟨hbp, hB5, hz5⟩ := one_box wr #[.int .i64 p.r, .int .i64 p.g, .int .i64 p.b, .int .i64 p.a] 26 _ rfl
      generalize World.alloc wr _ = w5 at *
      have hbx := HBX.out.below hB5
      replace hd1 := hd1.below hB5
      obtain ⟨⟨p1, p2, p3, p4⟩, _, _, _, _⟩ := hbp.four
      by_cases hpa : p.a = 0
      · go_wp2_with fail
        go_roundg (ps.length - (k + 1))
        case measure => omega
        case rel => exact ⟨k + 1, by omega, rfl, by go_num, by rw [HSK.out hpa]; exact hbx, HBR.out.trans (hB5.mono (by omega))⟩
      · obtain ⟨⟨d1, d2, d3⟩, _, _, _⟩ := hd1.three
        have HJ := Lib.hid (HJN.out hpa)
        generalize hbn : boxN W ps (k + 1) = bn at *
        have HBN := Lib.hid hbn; clear hbn
        generalize boxN W ps k = bk at *
        obtain ⟨⟨x1, x2, x3, x4⟩, xf1, xf2, xf3, xf4⟩ := hbx.four
        have hpz2 : ¬ W = 0 := by omega
        have hk0 : (0 : Int) ≤ (k : Int) := by omega
        have ht1 : (k : Int).tmod W = (k : Int) % W := Int.tmod_eq_emod_of_nonneg hk0
        have hdv := HST.out.y0
        have hdv2 := HST.out.yh
        simp only at hdv hdv2
        have hw2 : IntKind.i64.wrap ((k : Int) / W) = (k : Int) / W := wrap_in _ (by omega)
        go_wp2_with fail
        go_still_tail 10, (by kernel_rfl)
        change wpList _ _ _ _ _ w5.drew
        have hb6 := hbx.drew
        have hB6 : Below wr.heap.size wr w5.drew := hB5.drew
        generalize w5.drew = w6 at *
        have HJC := Lib.hid (join_jn bk ⟨(k : Int) % W, (k : Int) / W, 1, 1⟩ HBK.out HST.out)
        rw [← HJ.out] at HJC
        clear x1 x2 x3 x4 xf1 xf2 xf3 xf4
        go_wp2_with ((go_at_call 49; (with_reducible refine (HJC.out _).mono ?_); rintro e w7 ⟨rfl, hb7⟩; obtain ⟨⟨x1, x2, x3, x4⟩, xf1, xf2, xf3, xf4⟩ := (hb6.below hb7).four))
        go_roundg (ps.length - (k + 1))
        case measure => omega
        case rel => exact ⟨k + 1, by omega, rfl, by go_num, by rw [HBN.out]; exact (hb6.below hb7).set4 _ _ _ _, set4_below (HBR.out.trans ((bel_trans hB6 hb7).mono (by omega))) (Nat.le_refl _) _ _ _ _ _ _ _ _⟩
    · obtain rfl : k = ps.length := by omega
      generalize boxN W ps ps.length = bn at *
      obtain ⟨⟨x1, x2, x3, x4⟩, _, _, _, _⟩ := hbx.four
      obtain ⟨⟨r1, r2, r3, r4⟩, rf1, rf2, rf3, rf4⟩ := hd2.four
      go_wp2_with fail
      refine bodyPost_ret (v := .agg #[.int .i64 bn.x, .int .i64 bn.y, .int .i64 bn.w, .int .i64 bn.h]) (by simp [results, Try.results33, go_sem, r1, r2, r3, r4]) rfl ⟨rfl, ?_⟩
      exact set4_below HHB.out (Nat.le_succ _) _ _ _ _ _ _ _ _
theorem box_any (W H : Int) (A : Option Addr) (c : Nat) (ps : List Px) (w : World) (h : Pixs w w.heap.size (.slice A ps.length c) ps) :
    Calls Try.prog 33 #[.agg #[.int .i64 W, .int .i64 H, .slice A ps.length c]] w (RcPost (boxP W H ps) w) := by
  unfold boxP
  by_cases hc : ichk W H ps = 0
  · rw [if_pos hc]; exact box_yes W H A c ps w h hc
  · rw [if_neg hc]; exact box_no W H A c ps w h hc
end Go.Proofs.Ytllmckapiplpcaa
