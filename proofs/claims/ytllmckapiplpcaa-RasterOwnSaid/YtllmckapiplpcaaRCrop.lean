/- The reference's Crop. -/
import Derived.Test.YtllmckapiplpcaaRefGrid
import Derived.Test.YtllmckapiplpcaaRasCrop
namespace Go.Proofs.Ytllmckapiplpcaa
open Go.RowKit

/-- append(v, p) inside a region that draws its order, p in a new block. -/
theorem ppush_step (w : World) {ops : Array Oper} {o : Oper} {a : Act} {K : Act → World → Prop} {Q : Exit → Act → World → Prop} {F : Prop} (hgd : o.guard = none) (s x : Operand)
    (ho : o.op = .call { callee := .builtin .append, args := #[s, x], argTypes := #[22, 22] }) (B : Nat) (v : Value) (ps : List Px) (hs : a.eval s = v) (hown : PRow w B v ps)
    (p : Px) (gx : Nat) (hx : a.eval x = .slice (some ⟨gx, 0, none⟩) 1 1) (hgx : gx = w.heap.size) (hl : ps.length ≤ 1000000000000) (hB : B ≤ w.heap.size)
    (h : ∀ v' w', PRow w' B v' (ps ++ [p]) → Below B w w' → K (a.put o.dst v') w') :
    if Region.wanted o (yielded ops a.tmps) = true then Oper.wp Try.prog o a (w.alloc (.cells #[.int .i64 p.r, .int .i64 p.g, .int .i64 p.b, .int .i64 p.a] 26)) K Q else F := by
  subst hgx
  obtain ⟨i0, hi0, hz0, hz1, hz2⟩ := info_parts Try.infoPx
  refine fpush_step 26 4 22 32 i0 _ Try.underlying22 hi0 hz0 hz1 hz2 rfl (by omega) (by omega) _ hgd s x ho B v ps.length (flat4 ps) hs (FRow.alloc hown _) w.heap.size [p.r, p.g, p.b, p.a] hx rfl ?_ hl (Nat.le_trans hB (by simp)) fun v' w' h1 h2 => h v' w' ?_ (((Below.refl _ _).alloc hB _).trans h2)
  · exact cells_new w 26 [p.r, p.g, p.b, p.a]
  · unfold PRow
    rw [List.length_append, flat4_append]
    exact h1
/-- A call of Pick inside a region that draws its order. -/
theorem pick_step (w : World) {ops : Array Oper} {o : Oper} {a : Act} {K : Act → World → Prop} {Q : Exit → Act → World → Prop} {F : Prop} (hgd : o.guard = none) (i x y : Nat)
    (ho : o.op = .call { callee := .value (.func 43), args := #[.tmp i, .tmp x, .tmp y], argTypes := #[24, 3, 3] }) (u : Px) (W H : Int) (s : Value) (X Y : Int)
    (hi : a.tmps[i]?.getD undef = .agg #[.int .i64 W, .int .i64 H, s]) (hx : a.tmps[x]?.getD undef = .int .i64 X) (hy : a.tmps[y]?.getD undef = .int .i64 Y)
    (hc : Calls Try.prog 43 #[.agg #[.int .i64 W, .int .i64 H, s], .int .i64 X, .int .i64 Y] w (PxPost u w))
    (h : ∀ w', Below w.heap.size w w' → K (a.put o.dst (.agg #[.int .i64 u.r, .int .i64 u.g, .int .i64 u.b, .int .i64 u.a])) w') :
    if Region.wanted o (yielded ops a.tmps) = true then Oper.wp Try.prog o a w K Q else F := by
  have hw : Region.wanted o (yielded ops a.tmps) = true := by simp [Region.wanted, hgd]
  rw [if_pos hw]
  unfold Oper.wp
  simp [execOp, ho, resolve, invoke, hi, hx, hy, go_sem]
  refine hc.mono ?_
  rintro e w' ⟨rfl, hb⟩
  exact h w' hb
set_option maxHeartbeats 4000000 in
theorem rcrop_yes (W H : Int) (A : Option Addr) (c : Nat) (ps : List Px) (x y p q : Int) (w : World) (h : Pixs w w.heap.size (.slice A ps.length c) ps) (hc : ichk W H ps = 0) (hv : rvalid x y p q = true) (hg : p ≤ 256 ∧ q ≤ 256) (hm : rempty x y p q = false) :
    Calls Try.prog 28 #[.agg #[.int .i64 W, .int .i64 H, .slice A ps.length c], .agg #[.int .i64 x, .int .i64 y, .int .i64 p, .int .i64 q]] w (ImPost 0 p q (cropL W H ps x y p q) w) := by
  have hv2 := (rvalid_iff x y p q).1 hv
  have hp0 : p ≠ 0 ∧ q ≠ 0 := by unfold rempty at hm; rw [hv] at hm; simp at hm; exact hm
  have hiok := (ichk_iff W H ps).1 hc
  have HC := Lib.hid hc; have HV := Lib.hid hv; have HM := Lib.hid hm; clear hc hv hm
  obtain ⟨a, rfl⟩ : ∃ a : Nat, p = a := ⟨p.toNat, by omega⟩
  obtain ⟨b, rfl⟩ : ∃ b : Nat, q = b := ⟨q.toNat, by omega⟩
  have hln : (cropL W H ps x y a b).length = a * b := grid_len_nat a b _
  have HG := Lib.hid (fun (i j : Nat) (hi : i < a) (hj : j < b) => show pat (cropL W H ps x y a b) (j * a + i) = pick W H ps (x + (i : Int)) (y + (j : Int)) from grid_nat (a := a) (b := b) _ hi hj)
  generalize cropL W H ps x y a b = l at *
  have hab : a * b ≤ 65536 := Nat.mul_le_mul (show a ≤ 256 by omega) (show b ≤ 256 by omega)
  have HIO := Lib.hid hiok
  obtain ⟨⟨⟨v1, v2⟩, v3, v4⟩, ⟨v5, v6⟩, v7, v8⟩ := hv2
  obtain ⟨g1, g2⟩ := hg
  clear hiok hp0
  have HP := Lib.hid h; clear h
  go_enter Try.func28, Try.ntmps28
  go_upto_region 1 with fail
  obtain ⟨hb1, hb2, hb3, hB, hz0⟩ := three_boxes w #[.int .i64 W, .int .i64 H, .slice A ps.length c] #[.int .i64 x, .int .i64 y, .int .i64 a, .int .i64 b] #[.int .i64 0, .int .i64 0, .slice none 0 0] 24 37 24 _ rfl
  generalize World.alloc (World.alloc (w.alloc _) _) _ = w0 at *
  obtain ⟨⟨i1, i2, i3⟩, _, _, _⟩ := hb1.three
  go_wp2_with fail
  refine (richeck_any W H A ps.length c ps _ (HP.out.on hB)).mono ?_
  rintro e w1 ⟨rfl, hb⟩
  replace hb1 := hb1.below hb; replace hb2 := hb2.below hb; replace hb3 := hb3.below hb; replace hB := bel_trans hB hb
  have hz1 := hb.size
  clear i1 i2 i3 hb
  rw [HC.out]
  obtain ⟨⟨c1, c2, c3, c4⟩, _, _, _, _⟩ := hb2.four
  go_wp2_with fail
  refine (rvalid_any x y a b _).mono ?_
  rintro e w2 ⟨rfl, hb⟩
  rw [HV.out]
  replace hb1 := hb1.below hb; replace hb2 := hb2.below hb; replace hb3 := hb3.below hb; replace hB := bel_trans hB hb
  have hz2 := hb.size
  clear c1 c2 c3 c4 hb
  obtain ⟨⟨c1, c2, c3, c4⟩, _, _, _, _⟩ := hb2.four
  go_wp2_with fail
  refine (rempty_any x y a b _).mono ?_
  rintro e w3 ⟨rfl, hb⟩
  rw [HM.out]
  replace hb1 := hb1.below hb; replace hb2 := hb2.below hb; replace hb3 := hb3.below hb; replace hB := bel_trans hB hb
  have hz3 := hb.size
  clear c1 c2 c3 c4 hb
  obtain ⟨⟨c1, c2, c3, c4⟩, _, _, _, _⟩ := hb2.four
  go_upto_region 12 with fail
  clear c1 c2 c3 c4
  obtain ⟨hbt, hBt, hzt⟩ := one_box w3 #[.int .i64 a, .int .i64 b, .slice none 0 0] 24 _ rfl
  generalize World.alloc w3 _ = w4 at *
  go_loopg [8] b (OutRel a b l w3.heap.size w3 a b)
  case atStart => exact ⟨0, Nat.zero_le _, rfl, rfl, by rw [Nat.zero_mul]; exact GridRel.start hbt hBt⟩
  case round =>
    obtain ⟨j, hj, rfl, rfl, v, hbx, hrw, hbr⟩ := hrel
    have hlr := hbx.lt
    have hd2 := hb2.low (by omega) hbr
    obtain ⟨⟨c1, c2, c3, c4⟩, _, _, _, _⟩ := hd2.four
    by_cases hlt : j < b
    · go_upto_region 15 with fail
      clear c1 c2 c3 c4 hd2
      go_loopg [9] a (InRel a b l w3.heap.size w3 a j)
      case atStart => exact ⟨0, Nat.zero_le _, rfl, rfl, v, hbx, hrw, hbr⟩
      case round =>
        clear hbx hrw hbr hlr
        obtain ⟨i, hi, rfl, rfl, v, hbx, hrw, hbr⟩ := hrel
        have hlr := hbx.lt
        have hd2 := hb2.low (by omega) hbr
        have hq : j * a + i ≤ l.length := by rw [hln]; have := Nat.mul_le_mul_right a (show j + 1 ≤ b by omega); rw [Nat.add_mul, Nat.one_mul, Nat.mul_comm b a] at this; omega
        obtain ⟨A1, cap1, rfl⟩ := hrw.nshape (take_len hq)
        by_cases hxl : i < a
        · have hqlt : j * a + i < l.length := by rw [hln]; exact grid_idx hxl hlt
          have HGU := Lib.hid (HG.out i j hxl hlt)
          have hd1 := hb1.low (by omega) hbr
          have HBX := Lib.hid hbx; have HRW := Lib.hid hrw; have HBR := Lib.hid hbr; have HHB := Lib.hid (bel_trans hB hbr)
          have HPX := Lib.hid ((HP.out.below HHB.out).more (B' := wr.heap.size) (by omega))
          have HD1 := Lib.hid hd1; have HD2 := Lib.hid hd2
          clear hrw hbr
          have hw1 : IntKind.i64.wrap (x + (i : Int)) = x + (i : Int) := wrap_in _ (by omega)
          have hw2 : IntKind.i64.wrap (y + (j : Int)) = y + (j : Int) := wrap_in _ (by omega)
          generalize hu : pick W H ps (x + (i : Int)) (y + (j : Int)) = u at *
          have HAT := Lib.hid (show Calls Try.prog 43 #[.agg #[.int .i64 W, .int .i64 H, .slice A ps.length c], .int .i64 (x + (i : Int)), .int .i64 (y + (j : Int))] wr.drew (PxPost u wr.drew) by rw [← hu]; exact pick_any _ _ A ps.length c ps _ _ _ HIO.out HPX.out.drew)
          clear hu
          obtain ⟨⟨t1, t2, t3⟩, _, _, _⟩ := hbx.three
          obtain ⟨⟨d1, d2, d3⟩, _, _, _⟩ := hd1.three
          obtain ⟨⟨c1, c2, c3, c4⟩, _, _, _, _⟩ := hd2.four
          clear hbx hd1 hd2
          go_upto_region 17 with fail
          have hlw1 : w.heap.size < w3.heap.size := by omega
          have hlw2 : w.heap.size + 1 < w3.heap.size := by omega
          have HSA := Lib.hid (show ∀ w', Below w3.heap.size w3 w' → Below w3.heap.size w3 w' ∧ w'.cell? ⟨w.heap.size, 0, none⟩ = some (.int .i64 W) ∧ w'.cell? ⟨w.heap.size, 1, none⟩ = some (.int .i64 H) ∧ w'.cell? ⟨w.heap.size, 2, none⟩ = some (.slice A ps.length c) ∧ w'.cell? ⟨w.heap.size + 1, 0, none⟩ = some (.int .i64 x) ∧ w'.cell? ⟨w.heap.size + 1, 1, none⟩ = some (.int .i64 y) from fun w' hb => ⟨hb, ((hb1.low hlw1 hb).three).1.1, ((hb1.low hlw1 hb).three).1.2.1, ((hb1.low hlw1 hb).three).1.2.2, ((hb2.low hlw2 hb).four).1.1, ((hb2.low hlw2 hb).four).1.2.1⟩)
          have hBr := HBR.out.drew
          have hszr : w3.heap.size ≤ wr.drew.heap.size := HBR.out.size
          have hS0 := HSA.out _ hBr
          go_region_law (first
            | (refine pick_step _ (by rfl) _ _ _ (by rfl) u W H (.slice A ps.length c) (x + (i : Int)) (y + (j : Int)) (by rfl) (by rfl) (by rfl) HAT.out ?_; intro w6 hb6; have hB6 := hBr.trans (hb6.mono hszr); have hlt6 := Nat.lt_of_lt_of_le hlr hb6.size; obtain ⟨⟨t4, t5, t6⟩, _, _, _⟩ := (HBX.out.drew.below hb6).three)
            | (refine ppush_step _ (by rfl) _ _ (by rfl) (w3.heap.size + 1) _ _ (by rfl) (HRW.out.drew.below hb6) u _ (by rfl) (by rfl) (by rw [take_len (Nat.le_of_lt hqlt)]; omega) (by have := hb6.size; exact Nat.le_trans (show w3.heap.size + 1 ≤ wr.heap.size by omega) this) ?_; intro v' w8 hown8 hb8; have hB9 := hB6.trans (hb8.mono (Nat.le_succ _)); obtain ⟨A5, cap5, rfl⟩ := hown8.nshape (n := j * a + i + 1) (by rw [List.length_append, take_len (Nat.le_of_lt hqlt)]; rfl); have hB8 := (HBX.out.drew.below hb6).low (Nat.lt_succ_self _) hb8; obtain ⟨⟨s1, s2, s3⟩, sf1, sf2, sf3⟩ := hB8.three))
          all_goals
            go_wp2_with fail
            go_roundg (a - (i + 1))
            case measure => omega
            case rel => exact ⟨i + 1, by omega, rfl, by go_num, GridRel.step (HBX.out.drew.below hb6) hB6 hown8 hb8 hqlt HGU.out⟩
        · obtain rfl : i = a := by omega
          obtain ⟨⟨c1, c2, c3, c4⟩, _, _, _, _⟩ := hd2.four
          have HBX := Lib.hid hbx; have HRW := Lib.hid hrw; have HBR := Lib.hid hbr
          clear hbx hrw hbr
          go_wp2_with fail
          go_roundg (b - (j + 1))
          case measure => omega
          case rel => exact ⟨j + 1, by omega, rfl, by go_num, _, HBX.out, by rw [Nat.add_mul, Nat.one_mul]; exact HRW.out, HBR.out⟩
    · obtain rfl : j = b := by omega
      have hta : l.take (j * a) = l := List.take_of_length_le (by rw [hln, Nat.mul_comm]; omega)
      rw [hta] at hrw
      have hd3 := hb3.low (by omega) hbr
      obtain ⟨⟨r1, r2, r3⟩, rf1, rf2, rf3⟩ := hd3.three
      obtain ⟨A1, cap1, rfl⟩ := hrw.nshape hln
      obtain ⟨⟨t1, t2, t3⟩, _, _, _⟩ := hbx.three
      have HRW := Lib.hid hrw; have HBR := Lib.hid hbr
      clear hbx hrw hbr
      go_wp2_with fail
      refine bodyPost_ret (v := .tuple #[.agg #[.int .i64 (a : Int), .int .i64 (j : Int), .slice A1 (a * j) cap1], .int .i64 0]) (by simp [results, Try.results28, go_sem, r1, r2, r3]) rfl ?_
      exact ⟨_, _, _, rfl, HRW.out.set3 (by omega) (by omega) _ _ _, set3_below (bel_trans hB HBR.out) (by omega) _ _ _⟩
end Go.Proofs.Ytllmckapiplpcaa
