/- The reference's New. -/
import Derived.Test.YtllmckapiplpcaaRefGrid
namespace Go.Proofs.Ytllmckapiplpcaa
open Go.RowKit

theorem sized_no {W H : Int} (h : ¬ (0 ≤ W ∧ W ≤ 256 ∧ 0 ≤ H ∧ H ≤ 256 ∧ (W = 0 ↔ H = 0))) : sized W H = false := by unfold sized; rw [decide_eq_false_iff_not]; exact h
set_option maxHeartbeats 4000000 in
theorem rnew_any (W H : Int) (p : Px) (w : World) :
    Calls Try.prog 16 #[.int .i64 W, .int .i64 H, .agg #[.int .i64 p.r, .int .i64 p.g, .int .i64 p.b, .int .i64 p.a]] w (ImOut (nerr W H p) W H (List.replicate (W * H).toNat p) w) := by
  by_cases h0 : 0 ≤ W
  case neg =>
    have E := Lib.hid (show nerr W H p = 15 by unfold nerr; rw [sized_no (by omega)]; rfl)
    go_enter Try.func16, Try.ntmps16
    go_upto_region 1 with fail
    obtain ⟨hb1, hb2, hB⟩ := two_boxes w #[.int .i64 p.r, .int .i64 p.g, .int .i64 p.b, .int .i64 p.a] #[.int .i64 0, .int .i64 0, .slice none 0 0] 26 24 _ rfl
    have hz0 := hb2.lt
    generalize World.alloc (w.alloc _) _ = w0 at *
    obtain ⟨⟨r1, r2, r3⟩, rf1, rf2, rf3⟩ := hb2.three
    go_wp2_with fail
    refine bodyPost_ret (v := .tuple #[.agg #[.int .i64 0, .int .i64 0, .slice none 0 0], .int .i64 15]) (by simp [results, Try.results16, go_sem, r1, r2, r3]) rfl ?_
    rw [E.out]
    exact imOut_of (by omega) ⟨_, _, _, rfl, PRow.nil _ _, set3_below hB (by omega) _ _ _⟩
  by_cases h1 : W ≤ 256
  case neg =>
    have E := Lib.hid (show nerr W H p = 15 by unfold nerr; rw [sized_no (by omega)]; rfl)
    go_enter Try.func16, Try.ntmps16
    go_upto_region 1 with fail
    obtain ⟨hb1, hb2, hB⟩ := two_boxes w #[.int .i64 p.r, .int .i64 p.g, .int .i64 p.b, .int .i64 p.a] #[.int .i64 0, .int .i64 0, .slice none 0 0] 26 24 _ rfl
    have hz0 := hb2.lt
    generalize World.alloc (w.alloc _) _ = w0 at *
    obtain ⟨⟨r1, r2, r3⟩, rf1, rf2, rf3⟩ := hb2.three
    go_wp2_with fail
    refine bodyPost_ret (v := .tuple #[.agg #[.int .i64 0, .int .i64 0, .slice none 0 0], .int .i64 15]) (by simp [results, Try.results16, go_sem, r1, r2, r3]) rfl ?_
    rw [E.out]
    exact imOut_of (by omega) ⟨_, _, _, rfl, PRow.nil _ _, set3_below hB (by omega) _ _ _⟩
  by_cases h2 : 0 ≤ H
  case neg =>
    have E := Lib.hid (show nerr W H p = 15 by unfold nerr; rw [sized_no (by omega)]; rfl)
    go_enter Try.func16, Try.ntmps16
    go_upto_region 1 with fail
    obtain ⟨hb1, hb2, hB⟩ := two_boxes w #[.int .i64 p.r, .int .i64 p.g, .int .i64 p.b, .int .i64 p.a] #[.int .i64 0, .int .i64 0, .slice none 0 0] 26 24 _ rfl
    have hz0 := hb2.lt
    generalize World.alloc (w.alloc _) _ = w0 at *
    obtain ⟨⟨r1, r2, r3⟩, rf1, rf2, rf3⟩ := hb2.three
    go_wp2_with fail
    refine bodyPost_ret (v := .tuple #[.agg #[.int .i64 0, .int .i64 0, .slice none 0 0], .int .i64 15]) (by simp [results, Try.results16, go_sem, r1, r2, r3]) rfl ?_
    rw [E.out]
    exact imOut_of (by omega) ⟨_, _, _, rfl, PRow.nil _ _, set3_below hB (by omega) _ _ _⟩
  by_cases h3 : H ≤ 256
  case neg =>
    have E := Lib.hid (show nerr W H p = 15 by unfold nerr; rw [sized_no (by omega)]; rfl)
    go_enter Try.func16, Try.ntmps16
    go_upto_region 1 with fail
    obtain ⟨hb1, hb2, hB⟩ := two_boxes w #[.int .i64 p.r, .int .i64 p.g, .int .i64 p.b, .int .i64 p.a] #[.int .i64 0, .int .i64 0, .slice none 0 0] 26 24 _ rfl
    have hz0 := hb2.lt
    generalize World.alloc (w.alloc _) _ = w0 at *
    obtain ⟨⟨r1, r2, r3⟩, rf1, rf2, rf3⟩ := hb2.three
    go_wp2_with fail
    refine bodyPost_ret (v := .tuple #[.agg #[.int .i64 0, .int .i64 0, .slice none 0 0], .int .i64 15]) (by simp [results, Try.results16, go_sem, r1, r2, r3]) rfl ?_
    rw [E.out]
    exact imOut_of (by omega) ⟨_, _, _, rfl, PRow.nil _ _, set3_below hB (by omega) _ _ _⟩
  by_cases hz : (W = 0 ↔ H = 0)
  case neg =>
    rcases (show (W = 0 ∧ H ≠ 0) ∨ (W ≠ 0 ∧ H = 0) by omega) with ⟨z1, z2⟩ | ⟨z1, z2⟩
    · have t1 : (W == 0) = true := by simp [z1]
      have t2 : (H == 0) = false := by simp [z2]
      have E := Lib.hid (show nerr W H p = 15 by unfold nerr; rw [sized_no (by omega)]; rfl)
      go_enter Try.func16, Try.ntmps16
      go_upto_region 1 with fail
      obtain ⟨hb1, hb2, hB⟩ := two_boxes w #[.int .i64 p.r, .int .i64 p.g, .int .i64 p.b, .int .i64 p.a] #[.int .i64 0, .int .i64 0, .slice none 0 0] 26 24 _ rfl
      have hz0 := hb2.lt
      generalize World.alloc (w.alloc _) _ = w0 at *
      obtain ⟨⟨r1, r2, r3⟩, rf1, rf2, rf3⟩ := hb2.three
      go_wp2_with fail
      refine bodyPost_ret (v := .tuple #[.agg #[.int .i64 0, .int .i64 0, .slice none 0 0], .int .i64 15]) (by simp [results, Try.results16, go_sem, r1, r2, r3]) rfl ?_
      rw [E.out]
      exact imOut_of (by omega) ⟨_, _, _, rfl, PRow.nil _ _, set3_below hB (by omega) _ _ _⟩
    · have t1 : (W == 0) = false := by simp [z1]
      have t2 : (H == 0) = true := by simp [z2]
      have E := Lib.hid (show nerr W H p = 15 by unfold nerr; rw [sized_no (by omega)]; rfl)
      go_enter Try.func16, Try.ntmps16
      go_upto_region 1 with fail
      obtain ⟨hb1, hb2, hB⟩ := two_boxes w #[.int .i64 p.r, .int .i64 p.g, .int .i64 p.b, .int .i64 p.a] #[.int .i64 0, .int .i64 0, .slice none 0 0] 26 24 _ rfl
      have hz0 := hb2.lt
      generalize World.alloc (w.alloc _) _ = w0 at *
      obtain ⟨⟨r1, r2, r3⟩, rf1, rf2, rf3⟩ := hb2.three
      go_wp2_with fail
      refine bodyPost_ret (v := .tuple #[.agg #[.int .i64 0, .int .i64 0, .slice none 0 0], .int .i64 15]) (by simp [results, Try.results16, go_sem, r1, r2, r3]) rfl ?_
      rw [E.out]
      exact imOut_of (by omega) ⟨_, _, _, rfl, PRow.nil _ _, set3_below hB (by omega) _ _ _⟩
  have hs : sized W H = true := by unfold sized; rw [decide_eq_true_eq]; exact ⟨h0, h1, h2, h3, hz⟩
  obtain ⟨n, hn, hl, ht⟩ := sized_nat hs
  rw [ht]
  have hzz : ((W == 0) = true ∧ (H == 0) = true) ∨ ((W == 0) = false ∧ (H == 0) = false) := by
    by_cases e : W = 0
    · left; simp [e, hz.1 e]
    · right; have e2 : H ≠ 0 := fun h => e (hz.2 h)
      simp [e, e2]
  have E := Lib.hid (show nerr W H p = if pxOk p then 0 else 2 by unfold nerr; rw [if_pos hs])
  clear hs ht hz
  have hlp : (List.replicate n p).length = n := by simp
  have HV := Lib.hid (rpvalid_any p.r p.g p.b p.a)
  have HPR := Lib.hid (fun k (hk : k < n) => pat_rep n k p hk)
  generalize List.replicate n p = l at *
  have hwn : W * H ≤ 65536 := by omega
  have hwn0 : 0 ≤ W * H := by omega
  rcases hzz with ⟨t1, t2⟩ | ⟨t1, t2⟩
  all_goals
    cases hp : pxOk p
    · replace hp : pxOk ⟨p.r, p.g, p.b, p.a⟩ = false := hp
      have HP := Lib.hid hp
      rw [show pxOk p = false from hp] at E
      clear hp
      go_enter Try.func16, Try.ntmps16
      go_upto_region 1 with fail
      obtain ⟨hb1, hb2, hB⟩ := two_boxes w #[.int .i64 p.r, .int .i64 p.g, .int .i64 p.b, .int .i64 p.a] #[.int .i64 0, .int .i64 0, .slice none 0 0] 26 24 _ rfl
      have hz0 := hb2.lt
      generalize World.alloc (w.alloc _) _ = w0 at *
      obtain ⟨⟨p1, p2, p3, p4⟩, _, _, _, _⟩ := hb1.four
      go_wp2_with fail
      refine (HV.out _).mono ?_
      rintro e w1 ⟨rfl, hb⟩
      rw [HP.out]
      obtain ⟨⟨r1, r2, r3⟩, rf1, rf2, rf3⟩ := (hb2.below hb).three
      go_wp2_with fail
      refine bodyPost_ret (v := .tuple #[.agg #[.int .i64 0, .int .i64 0, .slice none 0 0], .int .i64 2]) (by simp [results, Try.results16, go_sem, r1, r2, r3]) rfl ?_
      rw [E.out]
      exact imOut_of (by simp) ⟨_, _, _, rfl, PRow.nil _ _, set3_below (bel_trans hB hb) (by omega) _ _ _⟩
    · replace hp : pxOk ⟨p.r, p.g, p.b, p.a⟩ = true := hp
      have HP := Lib.hid hp
      rw [show pxOk p = true from hp] at E
      clear hp
      go_enter Try.func16, Try.ntmps16
      go_upto_region 1 with fail
      obtain ⟨hb1, hb2, hB⟩ := two_boxes w #[.int .i64 p.r, .int .i64 p.g, .int .i64 p.b, .int .i64 p.a] #[.int .i64 0, .int .i64 0, .slice none 0 0] 26 24 _ rfl
      have hz0 := hb2.lt
      generalize World.alloc (w.alloc _) _ = w0 at *
      obtain ⟨⟨p1, p2, p3, p4⟩, _, _, _, _⟩ := hb1.four
      go_wp2_with fail
      refine (HV.out _).mono ?_
      rintro e w1 ⟨rfl, hb⟩
      rw [HP.out]
      clear p1 p2 p3 p4
      replace hb1 := hb1.below hb; replace hb2 := hb2.below hb; replace hB := bel_trans hB hb
      have hz1 := hb.size
      clear hb
      go_upto_region 7 with fail
      obtain ⟨hbt, hBt, hzt⟩ := one_box w1 #[.int .i64 W, .int .i64 H, .slice none 0 0] 24 _ rfl
      generalize World.alloc w1 _ = w2 at *
      go_loopg [9] n (OneRel W H l w1.heap.size w1)
      case atStart => exact ⟨0, Nat.zero_le _, by rw [hlp]; rfl, rfl, GridRel.start hbt hBt⟩
      case round =>
        obtain ⟨k, hk, rfl, rfl, v, hbx, hrw, hbr⟩ := hrel
        have hlr := hbx.lt
        rw [hlp] at hk
        by_cases hlt : k < n
        · obtain ⟨A1, cap1, rfl⟩ := hrw.nshape (take_len (by omega))
          have hd1 := hb1.low (by omega) hbr
          have HBX := Lib.hid hbx; have HRW := Lib.hid hrw; have HBR := Lib.hid hbr
          have HGU := Lib.hid (HPR.out k hlt)
          obtain ⟨⟨p1, p2, p3, p4⟩, _, _, _, _⟩ := hd1.four
          obtain ⟨⟨t3, t4, t5⟩, _, _, _⟩ := hbx.three
          clear hbx hrw hbr
          have hk1 : (k : Int) < W * H := by omega
          go_wp2_with (at_builtin; refine ppush _ rfl _ _ rfl (w1.heap.size + 1) _ _ rfl HRW.out p _ rfl rfl (by rw [take_len (by omega)]; omega) (by omega) ?_; intro v' w8 hown8 hb8; obtain ⟨A5, cap5, rfl⟩ := hown8.nshape (n := k + 1) (by rw [List.length_append, take_len (by omega)]; rfl); have hB8 := HBX.out.low (Nat.lt_succ_self _) hb8; obtain ⟨⟨s1, s2, s3⟩, sf1, sf2, sf3⟩ := hB8.three)
          go_roundg (n - (k + 1))
          case measure => omega
          case rel => exact ⟨k + 1, by omega, by rw [hlp], by go_num, GridRel.step HBX.out HBR.out hown8 hb8 (by omega) HGU.out⟩
        · obtain rfl : k = n := by omega
          have hta : l.take k = l := List.take_of_length_le (by omega)
          rw [hta] at hrw
          have hd2 := hb2.low (by omega) hbr
          obtain ⟨⟨r1, r2, r3⟩, rf1, rf2, rf3⟩ := hd2.three
          obtain ⟨A1, cap1, rfl⟩ := hrw.nshape hlp
          obtain ⟨⟨t3, t4, t5⟩, _, _, _⟩ := hbx.three
          have HRW := Lib.hid hrw; have HBR := Lib.hid hbr
          clear hbx hrw hbr
          have hk1 : ¬ (k : Int) < W * H := by omega
          go_wp2_with fail
          refine bodyPost_ret (v := .tuple #[.agg #[.int .i64 W, .int .i64 H, .slice A1 k cap1], .int .i64 0]) (by simp [results, Try.results16, go_sem, r1, r2, r3]) rfl ?_
          rw [E.out, if_pos trivial, imOut_ok]
          exact ⟨_, _, _, rfl, HRW.out.set3 (by omega) (by omega) _ _ _, set3_below (bel_trans hB HBR.out) (by omega) _ _ _⟩
end Go.Proofs.Ytllmckapiplpcaa
