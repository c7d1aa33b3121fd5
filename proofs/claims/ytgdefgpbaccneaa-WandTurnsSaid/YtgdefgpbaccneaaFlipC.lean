/- raster.Flip: kind 3. -/
import Derived.Test.YtgdefgpbaccneaaGrid
namespace Go.Proofs.Ytgdefgpbaccneaa
open Go.RowKit

set_option maxHeartbeats 4000000 in
theorem flip_3 (W H : Int) (A : Option Addr) (c : Nat) (ps : List Px) (w : World) (h : Pixs w w.heap.size (.slice A ps.length c) ps) (hc : ichk W H ps = 0) :
    Calls Try.prog 21 #[.agg #[.int .i64 W, .int .i64 H, .slice A ps.length c], .int .i64 3] w (ImPostF 0 H W (gridL H W fun a b => pick W H ps (b) (a)) w) := by
  have hiok := (ichk_iff W H ps).1 hc
  have HC := Lib.hid hc; clear hc
  have hw0 := hiok.w0; have hw1 := hiok.w1; have hh0 := hiok.h0; have hh1 := hiok.h1
  obtain ⟨n, hn, hnl, _⟩ := sized_nat (W := H) (H := W) (by unfold sized; rw [decide_eq_true_eq]; have := hiok.z; omega)
  have hln : (gridL H W fun a b => pick W H ps (b) (a)).length = n := by rw [grid_length]; omega
  have HG := Lib.hid (fun k (hk : k < n) => show pat (gridL H W fun a b => pick W H ps (b) (a)) k = pick W H ps ((k : Int) / H) ((k : Int) % H) from grid_pat H W _ k (by omega))
  have HPL := Lib.hid (fun k (hk : k < n) => show 0 < H ∧ _ from ⟨pos_of (w := H) (h := W) (k := k) (by omega) (by omega), place_ofF (w := H) (h := W) (k := k) (by omega) (pos_of (w := H) (h := W) (k := k) (by omega) (by omega))⟩)
  generalize (gridL H W fun a b => pick W H ps (b) (a)) = l at *
  have HIO := Lib.hid hiok
  have HN := Lib.hid hn
  clear hiok hn
  have HP := Lib.hid h; clear h
  go_enter Try.func21, Try.ntmps21
  go_upto_region 1 with fail
  obtain ⟨hb1, hb2, hB⟩ := two_boxesF w #[.int .i64 W, .int .i64 H, .slice A ps.length c] #[.int .i64 0, .int .i64 0, .slice none 0 0] 24 24 _ rfl
  have hz0 := hb2.lt
  generalize World.alloc (w.alloc _) _ = w0 at *
  obtain ⟨⟨i1, i2, i3⟩, _, _, _⟩ := hb1.three
  go_wp2_with fail
  refine (icheck_any W H A ps.length c ps _ (HP.out.on hB)).mono ?_
  rintro e w1 ⟨rfl, hb⟩
  replace hb1 := hb1.below hb; replace hb2 := hb2.below hb; replace hB := bel_trans hB hb
  have hz1 := hb.size
  clear i1 i2 i3 hb
  rw [HC.out]
  obtain ⟨⟨i1, i2, i3⟩, _, _, _⟩ := hb1.three
  go_wp2_with fail
  go_quiet (fail)
  replace hb1 := hb1.drewN nq; replace hb2 := hb2.drewN nq; replace hB := Below.drewN' hB nq
  go_wp2_with fail
  refine (blank_any _ _ n _ HN.out hnl).mono ?_
  rintro e w4 ⟨g, rfl, hrow, hbb⟩
  have hlo := hrow.lo
  have hz4 := hbb.size
  rw [show ∀ m, (w1.drewN m).heap.size = w1.heap.size from fun _ => rfl] at hlo hz4
  replace hb1 := hb1.below hbb; replace hb2 := hb2.below hbb; replace hB := bel_trans hB hbb
  clear i1 i2 i3 hbb
  go_upto_region 11 with fail
  obtain ⟨hb4, hB5, hz5⟩ := one_box w4 #[.int .i64 H, .int .i64 W, .slice (some ⟨g, 0, none⟩) n n] 24 _ rfl
  generalize World.alloc w4 _ = w5 at *
  replace hb1 := hb1.below hB5
  replace hb2 := hb2.below hB5
  replace hrow := hrow.below hB5
  replace hB := bel_trans hB hB5
  have HBB := Lib.hid hB
  go_loopg [40] n (FillRel l g w1.heap.size n w5)
  case atStart => exact FillRel.start hln hrow
  case round =>
    obtain ⟨k, hk, rfl, rfl, hrw, hkb⟩ := hrel
    rw [hln] at hk
    have hd1 := hkb.bx hb1 (by omega) (by omega)
    have hd3 := hkb.bx hb2 (by omega) (by omega)
    have hd4 := hkb.bx hb4 (by omega) (by omega)
    have hkw := hkb.size
    have hlo2 := hrw.lo
    by_cases hlt : k < n
    · obtain ⟨hwp, ⟨pm1, pm2⟩, pd1, pd2⟩ := HPL.out k hlt
      have hk0 : (0 : Int) ≤ (k : Int) := by omega
      have hk1 : (k : Int) < (n : Int) := by omega
      have hpz : (H == 0) = false := by simp; omega
      have hpz2 : ¬ H = 0 := by omega
      have ht1 : (k : Int).tmod H = (k : Int) % H := Int.tmod_eq_emod_of_nonneg hk0
      have ht2 : (k : Int).tdiv H = (k : Int) / H := Int.tdiv_eq_ediv_of_nonneg hk0
      have hw2 : IntKind.i64.wrap ((k : Int) / H) = (k : Int) / H := wrap_in _ (by omega)
      have hpx := (hkb.pixs (HP.out.below HBB.out) (by omega) (by omega)).more (B' := wr.heap.size) (by omega)
      have HGK := Lib.hid (HG.out k hlt)
      have HRW := Lib.hid hrw
      have HKB := Lib.hid hkb
      have HPX := Lib.hid hpx
      have HD1 := Lib.hid hd1; have HD4 := Lib.hid hd4
      clear hrw hkb hpx hb1 hb2 hb4 hrow hB hB5 hd3
      obtain ⟨⟨d1, d2, d3⟩, _, _, _⟩ := hd1.three
      obtain ⟨⟨m1, m2, m3⟩, _, _, _⟩ := hd4.three
      clear hd1 hd4
      generalize hu : pick W H ps ((k : Int) / H) ((k : Int) % H) = u at *
      have HAT := Lib.hid (fun wq (hp : Pixs wq wq.heap.size (.slice A ps.length c) ps) => show Calls Try.prog 41 #[.agg #[.int .i64 W, .int .i64 H, .slice A ps.length c], .int .i64 ((k : Int) / H), .int .i64 ((k : Int) % H)] wq (PxPost u wq) by rw [← hu]; exact at_any W H A ps.length c ps _ _ _ HIO.out hp)
      clear hu
      go_wp2_with fail
      go_quiet (fail)
      go_wp2_with fail
      have hne1 : w4.heap.size ≠ g := by omega
      have hne2 : w.heap.size ≠ g := by omega
      generalize hwx : (wr.drewN nq) = wx at *
      have hzx : wx.heap.size = wr.heap.size := by rw [← hwx]; rfl
      have HRX := Lib.hid (show PRow wx.drew w1.heap.size (.slice (some ⟨g, 0, none⟩) n n) (partD Px.zero l k) by rw [← hwx]; exact HRW.out)
      have HKX := Lib.hid (show KB w5.heap.size g w5 wx.drew by rw [← hwx]; exact (HKB.out.drewN nq).drew)
      have HPXX := Lib.hid (show Pixs wx.drew wx.drew.heap.size (.slice A ps.length c) ps by rw [← hwx]; exact HPX.out)
      have HX1 := Lib.hid (show Bx wx.drew w.heap.size 24 #[.int .i64 W, .int .i64 H, .slice A ps.length c] by rw [← hwx]; exact HD1.out)
      have HX4 := Lib.hid (show Bx wx.drew w4.heap.size 24 #[.int .i64 H, .int .i64 W, .slice (some ⟨g, 0, none⟩) n n] by rw [← hwx]; exact HD4.out)
      have hS0 : wx.drew.cell? ⟨w4.heap.size, 2, none⟩ = some (.slice (some ⟨g, 0, none⟩) n n) ∧ wx.drew.cell? ⟨w.heap.size, 0, none⟩ = some (.int .i64 W) ∧ wx.drew.cell? ⟨w.heap.size, 1, none⟩ = some (.int .i64 H) ∧ wx.drew.cell? ⟨w.heap.size, 2, none⟩ = some (.slice A ps.length c) := ⟨HX4.out.three.1.2.2, HX1.out.three.1.1, HX1.out.three.1.2.1, HX1.out.three.1.2.2⟩
      have HS4 := Lib.hid (show ∀ w6, Below wx.drew.heap.size wx.drew w6 → w6.cell? ⟨w4.heap.size, 2, none⟩ = some (.slice (some ⟨g, 0, none⟩) n n) ∧ w6.cell? ⟨w.heap.size, 0, none⟩ = some (.int .i64 W) ∧ w6.cell? ⟨w.heap.size, 1, none⟩ = some (.int .i64 H) ∧ w6.cell? ⟨w.heap.size, 2, none⟩ = some (.slice A ps.length c) from fun w6 hb => ⟨((HX4.out.below hb).three).1.2.2, ((HX1.out.below hb).three).1.1, ((HX1.out.below hb).three).1.2.1, ((HX1.out.below hb).three).1.2.2⟩)
      have HS5 := Lib.hid (show ∀ w6, Below wx.drew.heap.size wx.drew w6 → ((((w6.setCell ⟨g, k * 4, none⟩ (.int .i64 u.r)).setCell ⟨g, k * 4 + 1, none⟩ (.int .i64 u.g)).setCell ⟨g, k * 4 + 2, none⟩ (.int .i64 u.b)).setCell ⟨g, k * 4 + 3, none⟩ (.int .i64 u.a)).cell? ⟨w4.heap.size, 2, none⟩ = some (.slice (some ⟨g, 0, none⟩) n n) ∧ ((((w6.setCell ⟨g, k * 4, none⟩ (.int .i64 u.r)).setCell ⟨g, k * 4 + 1, none⟩ (.int .i64 u.g)).setCell ⟨g, k * 4 + 2, none⟩ (.int .i64 u.b)).setCell ⟨g, k * 4 + 3, none⟩ (.int .i64 u.a)).cell? ⟨w.heap.size, 0, none⟩ = some (.int .i64 W) ∧ ((((w6.setCell ⟨g, k * 4, none⟩ (.int .i64 u.r)).setCell ⟨g, k * 4 + 1, none⟩ (.int .i64 u.g)).setCell ⟨g, k * 4 + 2, none⟩ (.int .i64 u.b)).setCell ⟨g, k * 4 + 3, none⟩ (.int .i64 u.a)).cell? ⟨w.heap.size, 1, none⟩ = some (.int .i64 H) ∧ ((((w6.setCell ⟨g, k * 4, none⟩ (.int .i64 u.r)).setCell ⟨g, k * 4 + 1, none⟩ (.int .i64 u.g)).setCell ⟨g, k * 4 + 2, none⟩ (.int .i64 u.b)).setCell ⟨g, k * 4 + 3, none⟩ (.int .i64 u.a)).cell? ⟨w.heap.size, 2, none⟩ = some (.slice A ps.length c) from fun w6 hb => ⟨((HX4.out.below hb).other4 hne1 _ _ _ _ _ _ _ _).three.1.2.2, ((HX1.out.below hb).other4 hne2 _ _ _ _ _ _ _ _).three.1.1, ((HX1.out.below hb).other4 hne2 _ _ _ _ _ _ _ _).three.1.2.1, ((HX1.out.below hb).other4 hne2 _ _ _ _ _ _ _ _).three.1.2.2⟩)
      go_region_held3 (fun w' => w'.cell? ⟨w4.heap.size, 2, none⟩ = some (.slice (some ⟨g, 0, none⟩) n n) ∧ w'.cell? ⟨w.heap.size, 0, none⟩ = some (.int .i64 W) ∧ w'.cell? ⟨w.heap.size, 1, none⟩ = some (.int .i64 H) ∧ w'.cell? ⟨w.heap.size, 2, none⟩ = some (.slice A ps.length c))
        (first | assumption | exact hS0 | exact HS4.out _ hbw6 | exact HS5.out _ hbw6 | go_keep)
        ((go_at_call 41; (with_reducible refine (HAT.out _ HPXX.out).mono ?_); rintro e w6 ⟨rfl, hbw6⟩; have hR6 := HRX.out.below hbw6; obtain ⟨⟨x1, x2, x3, x4⟩, xf1, xf2, xf3, xf4⟩ := hR6.at4 hlt))
      go_wp2_with fail
      go_roundg (n - (k + 1))
      case measure => omega
      case rel => exact ⟨k + 1, by omega, by rw [hln], by go_num, part_put (by rw [hln]; exact hlt) hln hR6 HGK.out, (HKX.out.below hbw6 (by show w5.heap.size ≤ wx.heap.size; omega)).set4 _ _ _ _ _ _ _ _⟩
    · obtain rfl : k = n := by omega
      obtain ⟨⟨r1, r2, r3⟩, rf1, rf2, rf3⟩ := hd3.three
      obtain ⟨⟨m1, m2, m3⟩, _, _, _⟩ := hd4.three
      have hall := partD_all Px.zero l
      rw [hln] at hall
      rw [hall] at hrw
      have HR := Lib.hid hrw
      have HK := Lib.hid (hkb.toBelow HBB.out (by omega) (by omega))
      clear hrw hkb hd1 hd3 hd4 hb1 hb2 hb4 hrow
      go_wp2_with fail
      refine bodyPost_ret (v := .tuple #[.agg #[.int .i64 H, .int .i64 W, .slice (some ⟨g, 0, none⟩) k k], .int .i64 0]) (by simp [results, Try.results21, go_sem, r1, r2, r3]) rfl ?_
      exact ⟨_, _, _, rfl, HR.out.set3 (by omega) (by omega) _ _ _, set3_below HK.out (by omega) _ _ _⟩
end Go.Proofs.Ytgdefgpbaccneaa
