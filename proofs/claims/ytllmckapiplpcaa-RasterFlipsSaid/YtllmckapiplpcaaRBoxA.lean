/- The reference's Box. -/
import Derived.Test.YtllmckapiplpcaaBoxDef
namespace Go.Proofs.Ytllmckapiplpcaa
open Go.RowKit

theorem run_fld3 (w : World) (a b c d : Int) : (Instr.field 26 (.agg #[.int .i64 a, .int .i64 b, .int .i64 c, .int .i64 d]) 3).run Try.prog w = .ok (.int .i64 d) w := by
  simp [Instr.field, run_underlying Try.underlying26, asAgg, go_sem]
attribute [local go_sem 2000] run_fld3
def BoxOut (W : Int) (ps : List Px) (gt : Nat) (wb : World) (a b : Nat) (gh : Nat) (i : Value) (wr : World) : Prop := ∃ y : Nat, y ≤ b ∧ gh = b - y ∧ i = .int .i64 y ∧ BoxAt2 W ps gt wb (y * a) wr
def BoxIn (W : Int) (ps : List Px) (gt : Nat) (wb : World) (a y : Nat) (gh : Nat) (i : Value) (wr : World) : Prop := ∃ x : Nat, x ≤ a ∧ gh = a - x ∧ i = .int .i64 x ∧ BoxAt2 W ps gt wb (y * a + x) wr
theorem pick_nat {a b x y : Nat} {ps : List Px} (hx : x < a) (hy : y < b) : pick (a : Int) (b : Int) ps (x : Int) (y : Int) = pat ps (y * a + x) := by
  rw [pick_in (by omega)]
  rw [show ((y : Int) * (a : Int) + (x : Int)).toNat = y * a + x by rw [← Int.natCast_mul, ← Int.natCast_add]; exact Int.toNat_natCast _]
theorem nat_place {a x y : Nat} (hx : x < a) : ((y * a + x : Nat) : Int) % (a : Int) = (x : Int) ∧ ((y * a + x : Nat) : Int) / (a : Int) = (y : Int) := by
  have := place_mod (w := (a : Int)) (x := (x : Int)) (y := (y : Int)) (by omega)
  rw [← Int.natCast_mul, ← Int.natCast_add] at this
  exact this

set_option maxHeartbeats 1000000 in
theorem rbox_no (W H : Int) (A : Option Addr) (c : Nat) (ps : List Px) (w : World) (h : Pixs w w.heap.size (.slice A ps.length c) ps) (hc : ichk W H ps ≠ 0) :
    Calls Try.prog 34 #[.agg #[.int .i64 W, .int .i64 H, .slice A ps.length c]] w (RcPost Rc.zero w) := by
  have HC := Lib.hid (richeck_any W H A ps.length c ps)
  generalize hE : ichk W H ps = ch at *
  have hne : (ch != 0) = true := by simp [hc]
  have HP := Lib.hid h; clear h
  go_enter Try.func34, Try.ntmps34
  go_upto_region 1 with fail
  obtain ⟨hb1, hb2, hB⟩ := two_boxes w #[.int .i64 W, .int .i64 H, .slice A ps.length c] #[.int .i64 0, .int .i64 0, .int .i64 0, .int .i64 0] 24 37 _ rfl
  generalize World.alloc (w.alloc _) _ = w0 at *
  obtain ⟨⟨i1, i2, i3⟩, _, _, _⟩ := hb1.three
  go_wp2_with fail
  refine (HC.out _ (HP.out.on hB)).mono ?_
  rintro e w1 ⟨rfl, hb⟩
  replace hb2 := hb2.below hb; replace hB := bel_trans hB hb
  clear i1 i2 i3 hb
  obtain ⟨⟨r1, r2, r3, r4⟩, rf1, rf2, rf3, rf4⟩ := hb2.four
  go_wp2_with fail
  refine bodyPost_ret (v := .agg #[.int .i64 0, .int .i64 0, .int .i64 0, .int .i64 0]) (by simp [results, Try.results34, go_sem, r1, r2, r3, r4]) rfl ⟨rfl, set4_below hB (Nat.le_succ _) _ _ _ _ _ _ _ _⟩
set_option maxHeartbeats 1000000 in
theorem rbox_yes (W H : Int) (A : Option Addr) (c : Nat) (ps : List Px) (w : World) (h : Pixs w w.heap.size (.slice A ps.length c) ps) (hc : ichk W H ps = 0) :
    Calls Try.prog 34 #[.agg #[.int .i64 W, .int .i64 H, .slice A ps.length c]] w (RcPost (boxN W ps ps.length) w) := by
  have hiok := (ichk_iff W H ps).1 hc
  have HC := Lib.hid hc; clear hc
  have hw0 := hiok.w0; have hw1 := hiok.w1; have hh0 := hiok.h0; have hh1 := hiok.h1
  have hl := iok_len hiok
  have hn := hiok.n
  obtain ⟨a, rfl⟩ : ∃ a : Nat, W = a := ⟨(W).toNat, by omega⟩
  obtain ⟨b, rfl⟩ : ∃ b : Nat, H = b := ⟨(H).toNat, by omega⟩
  have hln : ps.length = a * b := by rw [← Int.natCast_mul] at hn; omega
  have HIO := Lib.hid hiok; have HLN := Lib.hid hln; clear hiok hn hl hln
  have HP := Lib.hid h; clear h
  go_enter Try.func34, Try.ntmps34
  go_upto_region 1 with fail
  obtain ⟨hb1, hb2, hB⟩ := two_boxes w #[.int .i64 (a : Int), .int .i64 (b : Int), .slice A ps.length c] #[.int .i64 0, .int .i64 0, .int .i64 0, .int .i64 0] 24 37 _ rfl
  have hz0 := hb2.lt
  generalize World.alloc (w.alloc _) _ = w0 at *
  obtain ⟨⟨i1, i2, i3⟩, _, _, _⟩ := hb1.three
  go_wp2_with fail
  refine (richeck_any (a : Int) (b : Int) A ps.length c ps _ (HP.out.on hB)).mono ?_
  rintro e w1 ⟨rfl, hb⟩
  rw [HC.out]
  replace hb1 := hb1.below hb; replace hb2 := hb2.below hb; replace hB := bel_trans hB hb
  have hz1 := hb.size
  clear i1 i2 i3 hb
  go_upto_region 5 with fail
  obtain ⟨hbt, hBt, hzt⟩ := one_box w1 #[.int .i64 0, .int .i64 0, .int .i64 0, .int .i64 0] 37 _ rfl
  generalize World.alloc w1 _ = w2 at *
  go_loopg [4] b (BoxOut a ps w1.heap.size w1 a b)
  case atStart => exact ⟨0, Nat.zero_le _, rfl, rfl, by rw [Nat.zero_mul]; exact ⟨hbt, hBt⟩⟩
  case round =>
    obtain ⟨y, hy, rfl, rfl, hbx, hbr⟩ := hrel
    have hlr := hbx.lt
    have hd1 := hb1.low (by omega) hbr
    have hd2 := hb2.low (by omega) hbr
    obtain ⟨⟨t1, t2, t3⟩, _, _, _⟩ := hd1.three
    by_cases hlt : y < b
    · go_upto_region 8 with fail
      clear t1 t2 t3
      go_loopg [5] a (BoxIn a ps w1.heap.size w1 a y)
      case atStart => exact ⟨0, Nat.zero_le _, rfl, rfl, hbx, hbr⟩
      case round =>
        clear hbx hbr hlr hd1 hd2
        obtain ⟨x, hx, rfl, rfl, hbx, hbr⟩ := hrel
        have hlr := hbx.lt
        have hd1 := hb1.low (by omega) hbr
        obtain ⟨⟨t1, t2, t3⟩, _, _, _⟩ := hd1.three
        have HBX := Lib.hid hbx; have HBR := Lib.hid hbr; have HHB := Lib.hid (bel_trans hB hbr)
        by_cases hxl : x < a
        · have hqlt : y * a + x < ps.length := by rw [HLN.out]; exact grid_idx hxl hlt
          have HBK := Lib.hid (boxN_ok HIO.out (y * a + x) (Nat.le_of_lt hqlt))
          have HPX := Lib.hid ((HP.out.below HHB.out).more (B' := wr.heap.size) (by omega))
          have hst := one_sm (W := (a : Int)) (H := (b : Int)) hw1 hh1 (show y * a + x < ((a : Int) * (b : Int)).toNat by rw [← Int.natCast_mul, Int.toNat_natCast, ← HLN.out]; exact hqlt) hw0
          have HSK := Lib.hid (boxN_skip (W := (a : Int)) (ps := ps) (k := y * a + x))
          have hjn := boxN_join (W := (a : Int)) (ps := ps) (k := y * a + x)
          rw [(nat_place hxl).1, (nat_place hxl).2] at hst hjn
          have HST := Lib.hid hst; have HJN := Lib.hid hjn
          have hpk := pick_nat (ps := ps) hxl hlt
          clear hst hjn
          generalize hu : pat ps (y * a + x) = u at *
          clear hu
          have HAT := Lib.hid (show Calls Try.prog 43 #[.agg #[.int .i64 (a : Int), .int .i64 (b : Int), .slice A ps.length c], .int .i64 (x : Int), .int .i64 (y : Int)] wr (PxPost u wr) by rw [← hpk]; exact pick_any _ _ A ps.length c ps _ _ _ HIO.out HPX.out)
          clear hpk
          generalize hbn : boxN (a : Int) ps (y * a + x + 1) = bn at *
          have HBN := Lib.hid hbn; clear hbn
          generalize boxN (a : Int) ps (y * a + x) = bk at *
          clear hbx
          by_cases hpa : u.a = 0
          · have hpb : (u.a != 0) = false := by simp [hpa]
            go_wp2_with ((go_at_call 43; (with_reducible refine HAT.out.mono ?_); rintro e w6 ⟨rfl, hb6⟩))
            go_roundg (a - (x + 1))
            case measure => omega
            case rel => exact ⟨x + 1, by omega, rfl, by go_num, by rw [show y * a + (x + 1) = y * a + x + 1 from rfl, HBN.out, HSK.out hpa]; exact HBX.out.below hb6, HBR.out.trans (hb6.mono (by omega))⟩
          · have hpb : (u.a != 0) = true := by simp [hpa]
            have HJC := Lib.hid (rjoin_jn bk ⟨(x : Int), (y : Int), 1, 1⟩ HBK.out HST.out)
            rw [← HJN.out hpa] at HJC
            go_wp2_with (first | (go_at_call 43; (with_reducible refine HAT.out.mono ?_); rintro e w6 ⟨rfl, hb6⟩; obtain ⟨⟨x1, x2, x3, x4⟩, _, _, _, _⟩ := (HBX.out.below hb6).four) | (go_at_call 50; (with_reducible refine (HJC.out _).mono ?_); rintro e w7 ⟨rfl, hb7⟩; have hB7 := bel_trans hb6 hb7; clear x1 x2 x3 x4; obtain ⟨⟨x1, x2, x3, x4⟩, xf1, xf2, xf3, xf4⟩ := (HBX.out.below hB7).four))
            go_roundg (a - (x + 1))
            case measure => omega
            case rel => exact ⟨x + 1, by omega, rfl, by go_num, by rw [show y * a + (x + 1) = y * a + x + 1 from rfl, HBN.out]; exact (HBX.out.below hB7).set4 _ _ _ _, set4_below (HBR.out.trans (hB7.mono (by omega))) (Nat.le_refl _) _ _ _ _ _ _ _ _⟩
        · obtain rfl : x = a := by omega
          go_wp2_with fail
          go_roundg (b - (y + 1))
          case measure => omega
          case rel => exact ⟨y + 1, by omega, rfl, by go_num, by rw [Nat.add_mul, Nat.one_mul]; exact HBX.out, HBR.out⟩
    · obtain rfl : y = b := by omega
      rw [show y * a = ps.length by rw [HLN.out, Nat.mul_comm]] at hbx
      generalize boxN (a : Int) ps ps.length = bn at *
      obtain ⟨⟨x1, x2, x3, x4⟩, _, _, _, _⟩ := hbx.four
      obtain ⟨⟨r1, r2, r3, r4⟩, rf1, rf2, rf3, rf4⟩ := hd2.four
      go_wp2_with fail
      refine bodyPost_ret (v := .agg #[.int .i64 bn.x, .int .i64 bn.y, .int .i64 bn.w, .int .i64 bn.h]) (by simp [results, Try.results34, go_sem, r1, r2, r3, r4]) rfl ⟨rfl, ?_⟩
      exact set4_below (bel_trans hB hbr) (Nat.le_succ _) _ _ _ _ _ _ _ _
theorem rbox_any (W H : Int) (A : Option Addr) (c : Nat) (ps : List Px) (w : World) (h : Pixs w w.heap.size (.slice A ps.length c) ps) :
    Calls Try.prog 34 #[.agg #[.int .i64 W, .int .i64 H, .slice A ps.length c]] w (RcPost (boxP W H ps) w) := by
  unfold boxP
  by_cases hc : ichk W H ps = 0
  · rw [if_pos hc]; exact rbox_yes W H A c ps w h hc
  · rw [if_neg hc]; exact rbox_no W H A c ps w h hc
end Go.Proofs.Ytllmckapiplpcaa
