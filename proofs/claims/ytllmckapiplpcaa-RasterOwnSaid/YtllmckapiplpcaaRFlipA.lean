/- The reference's Flip: the errors, and kind 1. -/
import Derived.Test.YtllmckapiplpcaaRefGrid
namespace Go.Proofs.Ytllmckapiplpcaa
open Go.RowKit

set_option maxHeartbeats 4000000 in
theorem rflip_chk (W H : Int) (A : Option Addr) (c : Nat) (ps : List Px) (kd : Int) (w : World) (h : Pixs w w.heap.size (.slice A ps.length c) ps) (hc : ichk W H ps ≠ 0) :
    Calls Try.prog 32 #[.agg #[.int .i64 W, .int .i64 H, .slice A ps.length c], .int .i64 kd] w (ImPost (ichk W H ps) 0 0 [] w) := by
  generalize hE : ichk W H ps = ch at *
  have HC := Lib.hid hE; clear hE
  have hne : (ch != 0) = true := by simp [hc]
  have HP := Lib.hid h; clear h
  go_enter Try.func32, Try.ntmps32
  go_upto_region 1 with fail
  obtain ⟨hb1, hb2, hB⟩ := two_boxes w #[.int .i64 W, .int .i64 H, .slice A ps.length c] #[.int .i64 0, .int .i64 0, .slice none 0 0] 24 24 _ rfl
  have hz0 := hb2.lt
  generalize World.alloc (w.alloc _) _ = w0 at *
  obtain ⟨⟨i1, i2, i3⟩, _, _, _⟩ := hb1.three
  go_wp2_with fail
  refine (richeck_any W H A ps.length c ps _ (HP.out.on hB)).mono ?_
  rintro e w1 ⟨rfl, hb⟩
  replace hb1 := hb1.below hb; replace hb2 := hb2.below hb; replace hB := bel_trans hB hb
  have hz1 := hb.size
  clear i1 i2 i3 hb
  rw [HC.out]
  obtain ⟨⟨r1, r2, r3⟩, rf1, rf2, rf3⟩ := hb2.three
  go_wp2_with fail
  refine bodyPost_ret (v := .tuple #[.agg #[.int .i64 0, .int .i64 0, .slice none 0 0], .int .i64 ch]) (by simp [results, Try.results32, go_sem, r1, r2, r3]) rfl ?_
  exact ⟨_, _, _, rfl, PRow.nil _ _, set3_below hB (by omega) _ _ _⟩
set_option maxHeartbeats 4000000 in
theorem rflip_lo (W H : Int) (A : Option Addr) (c : Nat) (ps : List Px) (kd : Int) (w : World) (h : Pixs w w.heap.size (.slice A ps.length c) ps) (hc : ichk W H ps = 0) (hk : kd < 1) :
    Calls Try.prog 32 #[.agg #[.int .i64 W, .int .i64 H, .slice A ps.length c], .int .i64 kd] w (ImPost 8 0 0 [] w) := by
  have HC := Lib.hid hc; clear hc
  have HP := Lib.hid h; clear h
  go_enter Try.func32, Try.ntmps32
  go_upto_region 1 with fail
  obtain ⟨hb1, hb2, hB⟩ := two_boxes w #[.int .i64 W, .int .i64 H, .slice A ps.length c] #[.int .i64 0, .int .i64 0, .slice none 0 0] 24 24 _ rfl
  have hz0 := hb2.lt
  generalize World.alloc (w.alloc _) _ = w0 at *
  obtain ⟨⟨i1, i2, i3⟩, _, _, _⟩ := hb1.three
  go_wp2_with fail
  refine (richeck_any W H A ps.length c ps _ (HP.out.on hB)).mono ?_
  rintro e w1 ⟨rfl, hb⟩
  replace hb1 := hb1.below hb; replace hb2 := hb2.below hb; replace hB := bel_trans hB hb
  have hz1 := hb.size
  clear i1 i2 i3 hb
  rw [HC.out]
  obtain ⟨⟨r1, r2, r3⟩, rf1, rf2, rf3⟩ := hb2.three
  go_wp2_with fail
  refine bodyPost_ret (v := .tuple #[.agg #[.int .i64 0, .int .i64 0, .slice none 0 0], .int .i64 8]) (by simp [results, Try.results32, go_sem, r1, r2, r3]) rfl ?_
  exact ⟨_, _, _, rfl, PRow.nil _ _, set3_below hB (by omega) _ _ _⟩
set_option maxHeartbeats 4000000 in
theorem rflip_hi (W H : Int) (A : Option Addr) (c : Nat) (ps : List Px) (kd : Int) (w : World) (h : Pixs w w.heap.size (.slice A ps.length c) ps) (hc : ichk W H ps = 0) (hk : 4 < kd) :
    Calls Try.prog 32 #[.agg #[.int .i64 W, .int .i64 H, .slice A ps.length c], .int .i64 kd] w (ImPost 8 0 0 [] w) := by
  have HC := Lib.hid hc; clear hc
  have HP := Lib.hid h; clear h
  go_enter Try.func32, Try.ntmps32
  go_upto_region 1 with fail
  obtain ⟨hb1, hb2, hB⟩ := two_boxes w #[.int .i64 W, .int .i64 H, .slice A ps.length c] #[.int .i64 0, .int .i64 0, .slice none 0 0] 24 24 _ rfl
  have hz0 := hb2.lt
  generalize World.alloc (w.alloc _) _ = w0 at *
  obtain ⟨⟨i1, i2, i3⟩, _, _, _⟩ := hb1.three
  go_wp2_with fail
  refine (richeck_any W H A ps.length c ps _ (HP.out.on hB)).mono ?_
  rintro e w1 ⟨rfl, hb⟩
  replace hb1 := hb1.below hb; replace hb2 := hb2.below hb; replace hB := bel_trans hB hb
  have hz1 := hb.size
  clear i1 i2 i3 hb
  rw [HC.out]
  obtain ⟨⟨r1, r2, r3⟩, rf1, rf2, rf3⟩ := hb2.three
  go_wp2_with fail
  refine bodyPost_ret (v := .tuple #[.agg #[.int .i64 0, .int .i64 0, .slice none 0 0], .int .i64 8]) (by simp [results, Try.results32, go_sem, r1, r2, r3]) rfl ?_
  exact ⟨_, _, _, rfl, PRow.nil _ _, set3_below hB (by omega) _ _ _⟩
set_option maxHeartbeats 4000000 in
theorem rflip_1 (W H : Int) (A : Option Addr) (c : Nat) (ps : List Px) (w : World) (h : Pixs w w.heap.size (.slice A ps.length c) ps) (hc : ichk W H ps = 0) :
    Calls Try.prog 32 #[.agg #[.int .i64 W, .int .i64 H, .slice A ps.length c], .int .i64 1] w (ImPost 0 W H (gridL W H fun a b => pick W H ps (W - 1 - a) (b)) w) := by
  have hiok := (ichk_iff W H ps).1 hc
  have HC := Lib.hid hc; clear hc
  have hw0 := hiok.w0; have hw1 := hiok.w1; have hh0 := hiok.h0; have hh1 := hiok.h1
  obtain ⟨a, rfl⟩ : ∃ a : Nat, W = a := ⟨(W).toNat, by omega⟩
  obtain ⟨b, rfl⟩ : ∃ b : Nat, H = b := ⟨(H).toNat, by omega⟩
  have hln := grid_len_nat a b (fun a' b' => pick (a : Int) (b : Int) ps ((a : Int) - 1 - a') (b'))
  have HG := Lib.hid (fun (x y : Nat) (hx : x < a) (hy : y < b) => show pat (gridL a b fun a' b' => pick (a : Int) (b : Int) ps ((a : Int) - 1 - a') (b')) (y * a + x) = pick (a : Int) (b : Int) ps ((a : Int) - 1 - (x : Int)) ((y : Int)) from grid_nat (a := a) (b := b) (fun a' b' => pick (a : Int) (b : Int) ps ((a : Int) - 1 - a') (b')) hx hy)
  generalize (gridL a b fun a' b' => pick (a : Int) (b : Int) ps ((a : Int) - 1 - a') (b')) = l at *
  have hab : a * b ≤ 65536 := Nat.mul_le_mul (show a ≤ 256 by omega) (show b ≤ 256 by omega)
  have HIO := Lib.hid hiok
  clear hiok
  have HP := Lib.hid h; clear h
  go_enter Try.func32, Try.ntmps32
  go_upto_region 1 with fail
  obtain ⟨hb1, hb2, hB⟩ := two_boxes w #[.int .i64 (a : Int), .int .i64 (b : Int), .slice A ps.length c] #[.int .i64 0, .int .i64 0, .slice none 0 0] 24 24 _ rfl
  have hz0 := hb2.lt
  generalize World.alloc (w.alloc _) _ = w0 at *
  obtain ⟨⟨i1, i2, i3⟩, _, _, _⟩ := hb1.three
  go_wp2_with fail
  refine (richeck_any (a : Int) (b : Int) A ps.length c ps _ (HP.out.on hB)).mono ?_
  rintro e w1 ⟨rfl, hb⟩
  replace hb1 := hb1.below hb; replace hb2 := hb2.below hb; replace hB := bel_trans hB hb
  have hz1 := hb.size
  clear i1 i2 i3 hb
  rw [HC.out]
  obtain ⟨⟨i1, i2, i3⟩, _, _, _⟩ := hb1.three
  have hl1 := hb1.lt
  go_upto_region 10 with fail
  clear i1 i2 i3
  obtain ⟨hbt, hBt, hzt⟩ := one_box w1 #[.int .i64 (a : Int), .int .i64 (b : Int), .slice none 0 0] 24 _ rfl
  generalize hw2 : World.alloc w1 _ = w2 at *
  go_loopg [8] b (OutRel a b l w1.heap.size w1 a b)
  case atStart => exact ⟨0, Nat.zero_le _, rfl, rfl, by rw [Nat.zero_mul]; exact GridRel.start hbt hBt⟩
  case round =>
    obtain ⟨y, hy, rfl, rfl, v, hbx, hrw, hbr⟩ := hrel
    have hlr := hbx.lt
    obtain ⟨⟨t1, t2, t3⟩, _, _, _⟩ := hbx.three
    by_cases hlt : y < b
    · go_upto_region 13 with fail
      clear t1 t2 t3
      go_loopg [9] a (InRel a b l w1.heap.size w1 a y)
      case atStart => exact ⟨0, Nat.zero_le _, rfl, rfl, v, hbx, hrw, hbr⟩
      case round =>
        clear hbx hrw hbr hlr
        obtain ⟨x, hx, rfl, rfl, v, hbx, hrw, hbr⟩ := hrel
        have hlr := hbx.lt
        have hq : y * a + x ≤ l.length := by rw [hln]; have := Nat.mul_le_mul_right a (show y + 1 ≤ b by omega); rw [Nat.add_mul, Nat.one_mul, Nat.mul_comm b a] at this; omega
        obtain ⟨A1, cap1, rfl⟩ := hrw.nshape (take_len hq)
        by_cases hxl : x < a
        · have hqlt : y * a + x < l.length := by rw [hln]; exact grid_idx hxl hlt
          have HGU := Lib.hid (HG.out x y hxl hlt)
          have hd1 := hb1.low (by omega) hbr
          have HBX := Lib.hid hbx; have HRW := Lib.hid hrw; have HBR := Lib.hid hbr; have HHB := Lib.hid (bel_trans hB hbr)
          have HPX := Lib.hid ((HP.out.below HHB.out).more (B' := wr.heap.size) (by omega))
          clear hrw hbr
          generalize hu : pick (a : Int) (b : Int) ps ((a : Int) - 1 - (x : Int)) ((y : Int)) = u at *
          have HAT := Lib.hid (fun wq (hp : Pixs wq wq.heap.size (.slice A ps.length c) ps) => show Calls Try.prog 43 #[.agg #[.int .i64 (a : Int), .int .i64 (b : Int), .slice A ps.length c], .int .i64 ((a : Int) - 1 - (x : Int)), .int .i64 ((y : Int))] wq (PxPost u wq) by rw [← hu]; exact pick_any _ _ A ps.length c ps _ _ _ HIO.out hp)
          clear hu
          obtain ⟨⟨t1, t2, t3⟩, _, _, _⟩ := hbx.three
          go_upto_region 16 with fail
          clear t1 t2 t3 hbx
          obtain ⟨hbp, hB5, hz5⟩ := one_box wr #[.int .i64 0, .int .i64 0, .int .i64 0, .int .i64 0] 26 _ rfl
          generalize World.alloc wr _ = w5 at *
          replace hd1 := hd1.below hB5
          obtain ⟨⟨d1, d2, d3⟩, _, _, _⟩ := hd1.three
          go_wp2_with fail
          (with_reducible refine (HAT.out _ (HPX.out.on hB5)).mono ?_)
          rintro e w6 ⟨rfl, hb6⟩
          clear d1 d2 d3
          replace hbp := hbp.below hb6
          obtain ⟨⟨p1, p2, p3, p4⟩, pf1, pf2, pf3, pf4⟩ := hbp.four
          go_upto_region 18 with fail
          clear p1 p2 p3 p4 pf1 pf2 pf3 pf4
          have hbp7 := hbp.set4 (.int .i64 u.r) (.int .i64 u.g) (.int .i64 u.b) (.int .i64 u.a)
          have hB7 : Below wr.heap.size wr ((((w6.setCell ⟨wr.heap.size, 0, none⟩ (.int .i64 u.r)).setCell ⟨wr.heap.size, 1, none⟩ (.int .i64 u.g)).setCell ⟨wr.heap.size, 2, none⟩ (.int .i64 u.b)).setCell ⟨wr.heap.size, 3, none⟩ (.int .i64 u.a)) := set4_below (bel_trans hB5 hb6) (Nat.le_refl _) _ _ _ _ _ _ _ _
          generalize World.setCell (World.setCell (World.setCell (World.setCell w6 _ _) _ _) _ _) _ _ = w7 at *
          clear hbp hb6 hB5
          obtain ⟨⟨p1, p2, p3, p4⟩, _, _, _, _⟩ := hbp7.four
          have HB7 := Lib.hid (HBX.out.below hB7)
          obtain ⟨⟨t1, t2, t3⟩, tf1, tf2, tf3⟩ := HB7.out.three
          have hR7 := HRW.out.below hB7
          have hz7 := hB7.size
          go_wp2_with (at_builtin; refine ppush _ rfl _ _ rfl (w1.heap.size + 1) _ _ rfl hR7 u _ rfl rfl (by rw [take_len (Nat.le_of_lt hqlt)]; omega) (by omega) ?_; intro v' w8 hown8 hb8; obtain ⟨A5, cap5, rfl⟩ := hown8.nshape (n := y * a + x + 1) (by rw [List.length_append, take_len (Nat.le_of_lt hqlt)]; rfl); have hB8 := HB7.out.low (Nat.lt_succ_self _) hb8; obtain ⟨⟨s1, s2, s3⟩, sf1, sf2, sf3⟩ := hB8.three)
          go_roundg (a - (x + 1))
          case measure => omega
          case rel => exact ⟨x + 1, by omega, rfl, by go_num, GridRel.step HB7.out (HBR.out.trans (hB7.mono (by omega))) hown8 hb8 hqlt HGU.out⟩
        · obtain rfl : x = a := by omega
          obtain ⟨⟨t1, t2, t3⟩, _, _, _⟩ := hbx.three
          have HBX := Lib.hid hbx; have HRW := Lib.hid hrw; have HBR := Lib.hid hbr
          clear hbx hrw hbr
          go_wp2_with fail
          go_roundg (b - (y + 1))
          case measure => omega
          case rel => exact ⟨y + 1, by omega, rfl, by go_num, _, HBX.out, by rw [Nat.add_mul, Nat.one_mul]; exact HRW.out, HBR.out⟩
    · obtain rfl : y = b := by omega
      have hta : l.take (y * a) = l := List.take_of_length_le (by rw [hln, Nat.mul_comm]; omega)
      rw [hta] at hrw
      have hd2 := hb2.low (by omega) hbr
      obtain ⟨⟨r1, r2, r3⟩, rf1, rf2, rf3⟩ := hd2.three
      obtain ⟨A1, cap1, rfl⟩ := hrw.nshape hln
      have HRW := Lib.hid hrw; have HBR := Lib.hid hbr
      clear hbx hrw hbr
      go_wp2_with fail
      refine bodyPost_ret (v := .tuple #[.agg #[.int .i64 (a : Int), .int .i64 (y : Int), .slice A1 (a * y) cap1], .int .i64 0]) (by simp [results, Try.results32, go_sem, r1, r2, r3]) rfl ?_
      exact ⟨_, _, _, rfl, HRW.out.set3 (by omega) (by omega) _ _ _, set3_below (bel_trans hB HBR.out) (by omega) _ _ _⟩
end Go.Proofs.Ytllmckapiplpcaa
