/- raster.Crop: the error, or a part of an image. -/
import Derived.Test.YtineinmghajmnaaMG
import Derived.Test.YtineinmghajmnaaMD
namespace Go.Proofs.Ytineinmghajmnaa
open Go.RowKit

/-- The error of Crop. -/
def cerr (chk x y p q : Int) : Int := if chk = 0 then (if rvalid x y p q then (if 256 < p ∨ 256 < q then 15 else 0) else 2) else chk
def cside (p q a : Int) : Int := if p = 0 ∨ q = 0 then 0 else a
def cropL (W H : Int) (ps : List Px) (x y p q : Int) : List Px := gridL p q fun a b => pick W H ps (x + a) (y + b)
theorem cropL_nil {W H : Int} {ps : List Px} {x y p q : Int} (h : p = 0 ∨ q = 0) : cropL W H ps x y p q = [] := by
  unfold cropL gridL
  have : p * q = 0 := by rcases h with rfl | rfl <;> simp
  rw [this]; rfl

set_option maxHeartbeats 4000000 in
theorem crop_chk (W H : Int) (A : Option Addr) (c : Nat) (ps : List Px) (x y p q : Int) (w : World) (h : Pixs w w.heap.size (.slice A ps.length c) ps) (hc : ichk W H ps ≠ 0) :
    Calls Try.prog 27 #[.agg #[.int .i64 W, .int .i64 H, .slice A ps.length c], .agg #[.int .i64 x, .int .i64 y, .int .i64 p, .int .i64 q]] w (ImPost (ichk W H ps) 0 0 [] w) := by
  generalize hE : ichk W H ps = ch at *
  have HE := Lib.hid hE; clear hE
  have hne : (ch != 0) = true := by simp [hc]
  have HP := Lib.hid h; clear h
  go_enter Try.func27, Try.ntmps27
  go_upto_region 1 with fail
  obtain ⟨hb1, hb2, hb3, hB, hz0⟩ := three_boxes w #[.int .i64 W, .int .i64 H, .slice A ps.length c] #[.int .i64 x, .int .i64 y, .int .i64 p, .int .i64 q] #[.int .i64 0, .int .i64 0, .slice none 0 0] 24 33 24 _ rfl
  generalize World.alloc (World.alloc (w.alloc _) _) _ = w0 at *
  obtain ⟨⟨i1, i2, i3⟩, _, _, _⟩ := hb1.three
  go_wp2_with fail
  refine (icheck_any W H A ps.length c ps _ (HP.out.on hB)).mono ?_
  rintro e w1 ⟨rfl, hb⟩
  replace hb1 := hb1.below hb; replace hb2 := hb2.below hb; replace hb3 := hb3.below hb; replace hB := bel_trans hB hb
  have hz1 := hb.size
  clear i1 i2 i3 hb
  rw [HE.out]
  obtain ⟨⟨r1, r2, r3⟩, rf1, rf2, rf3⟩ := hb3.three
  go_wp2_with fail
  refine bodyPost_ret (v := .tuple #[.agg #[.int .i64 0, .int .i64 0, .slice none 0 0], .int .i64 ch]) (by simp [results, Try.results27, go_sem, r1, r2, r3]) rfl ?_
  exact ⟨_, _, _, rfl, PRow.nil _ _, set3_below hB (by omega) _ _ _⟩
set_option maxHeartbeats 4000000 in
theorem crop_inv (W H : Int) (A : Option Addr) (c : Nat) (ps : List Px) (x y p q : Int) (w : World) (h : Pixs w w.heap.size (.slice A ps.length c) ps) (hc : ichk W H ps = 0) (hv : rvalid x y p q = false) :
    Calls Try.prog 27 #[.agg #[.int .i64 W, .int .i64 H, .slice A ps.length c], .agg #[.int .i64 x, .int .i64 y, .int .i64 p, .int .i64 q]] w (ImPost 2 0 0 [] w) := by
  have HC := Lib.hid hc; have HV := Lib.hid hv; clear hc hv
  have HP := Lib.hid h; clear h
  go_enter Try.func27, Try.ntmps27
  go_upto_region 1 with fail
  obtain ⟨hb1, hb2, hb3, hB, hz0⟩ := three_boxes w #[.int .i64 W, .int .i64 H, .slice A ps.length c] #[.int .i64 x, .int .i64 y, .int .i64 p, .int .i64 q] #[.int .i64 0, .int .i64 0, .slice none 0 0] 24 33 24 _ rfl
  generalize World.alloc (World.alloc (w.alloc _) _) _ = w0 at *
  obtain ⟨⟨i1, i2, i3⟩, _, _, _⟩ := hb1.three
  go_wp2_with fail
  refine (icheck_any W H A ps.length c ps _ (HP.out.on hB)).mono ?_
  rintro e w1 ⟨rfl, hb⟩
  replace hb1 := hb1.below hb; replace hb2 := hb2.below hb; replace hb3 := hb3.below hb; replace hB := bel_trans hB hb
  have hz1 := hb.size
  clear i1 i2 i3 hb
  rw [HC.out]
  obtain ⟨⟨c1, c2, c3, c4⟩, _, _, _, _⟩ := hb2.four
  go_wp2_with fail
  refine (valid_any x y p q _).mono ?_
  rintro e w2 ⟨rfl, hb⟩
  rw [HV.out]
  replace hb1 := hb1.below hb; replace hb2 := hb2.below hb; replace hb3 := hb3.below hb; replace hB := bel_trans hB hb
  have hz2 := hb.size
  clear c1 c2 c3 c4 hb
  obtain ⟨⟨r1, r2, r3⟩, rf1, rf2, rf3⟩ := hb3.three
  go_wp2_with fail
  refine bodyPost_ret (v := .tuple #[.agg #[.int .i64 0, .int .i64 0, .slice none 0 0], .int .i64 2]) (by simp [results, Try.results27, go_sem, r1, r2, r3]) rfl ?_
  exact ⟨_, _, _, rfl, PRow.nil _ _, set3_below hB (by omega) _ _ _⟩
set_option maxHeartbeats 4000000 in
theorem crop_bigw (W H : Int) (A : Option Addr) (c : Nat) (ps : List Px) (x y p q : Int) (w : World) (h : Pixs w w.heap.size (.slice A ps.length c) ps) (hc : ichk W H ps = 0) (hv : rvalid x y p q = true) (hg : 256 < p) :
    Calls Try.prog 27 #[.agg #[.int .i64 W, .int .i64 H, .slice A ps.length c], .agg #[.int .i64 x, .int .i64 y, .int .i64 p, .int .i64 q]] w (ImPost 15 0 0 [] w) := by
  have HC := Lib.hid hc; have HV := Lib.hid hv; clear hc hv
  have HP := Lib.hid h; clear h
  go_enter Try.func27, Try.ntmps27
  go_upto_region 1 with fail
  obtain ⟨hb1, hb2, hb3, hB, hz0⟩ := three_boxes w #[.int .i64 W, .int .i64 H, .slice A ps.length c] #[.int .i64 x, .int .i64 y, .int .i64 p, .int .i64 q] #[.int .i64 0, .int .i64 0, .slice none 0 0] 24 33 24 _ rfl
  generalize World.alloc (World.alloc (w.alloc _) _) _ = w0 at *
  obtain ⟨⟨i1, i2, i3⟩, _, _, _⟩ := hb1.three
  go_wp2_with fail
  refine (icheck_any W H A ps.length c ps _ (HP.out.on hB)).mono ?_
  rintro e w1 ⟨rfl, hb⟩
  replace hb1 := hb1.below hb; replace hb2 := hb2.below hb; replace hb3 := hb3.below hb; replace hB := bel_trans hB hb
  have hz1 := hb.size
  clear i1 i2 i3 hb
  rw [HC.out]
  obtain ⟨⟨c1, c2, c3, c4⟩, _, _, _, _⟩ := hb2.four
  go_wp2_with fail
  refine (valid_any x y p q _).mono ?_
  rintro e w2 ⟨rfl, hb⟩
  rw [HV.out]
  replace hb1 := hb1.below hb; replace hb2 := hb2.below hb; replace hb3 := hb3.below hb; replace hB := bel_trans hB hb
  have hz2 := hb.size
  clear c1 c2 c3 c4 hb
  obtain ⟨⟨c1, c2, c3, c4⟩, _, _, _, _⟩ := hb2.four
  obtain ⟨⟨r1, r2, r3⟩, rf1, rf2, rf3⟩ := hb3.three
  go_wp2_with fail
  refine bodyPost_ret (v := .tuple #[.agg #[.int .i64 0, .int .i64 0, .slice none 0 0], .int .i64 15]) (by simp [results, Try.results27, go_sem, r1, r2, r3]) rfl ?_
  exact ⟨_, _, _, rfl, PRow.nil _ _, set3_below hB (by omega) _ _ _⟩
set_option maxHeartbeats 4000000 in
theorem crop_bigh (W H : Int) (A : Option Addr) (c : Nat) (ps : List Px) (x y p q : Int) (w : World) (h : Pixs w w.heap.size (.slice A ps.length c) ps) (hc : ichk W H ps = 0) (hv : rvalid x y p q = true) (hg : p ≤ 256 ∧ 256 < q) :
    Calls Try.prog 27 #[.agg #[.int .i64 W, .int .i64 H, .slice A ps.length c], .agg #[.int .i64 x, .int .i64 y, .int .i64 p, .int .i64 q]] w (ImPost 15 0 0 [] w) := by
  have HC := Lib.hid hc; have HV := Lib.hid hv; clear hc hv
  have HP := Lib.hid h; clear h
  go_enter Try.func27, Try.ntmps27
  go_upto_region 1 with fail
  obtain ⟨hb1, hb2, hb3, hB, hz0⟩ := three_boxes w #[.int .i64 W, .int .i64 H, .slice A ps.length c] #[.int .i64 x, .int .i64 y, .int .i64 p, .int .i64 q] #[.int .i64 0, .int .i64 0, .slice none 0 0] 24 33 24 _ rfl
  generalize World.alloc (World.alloc (w.alloc _) _) _ = w0 at *
  obtain ⟨⟨i1, i2, i3⟩, _, _, _⟩ := hb1.three
  go_wp2_with fail
  refine (icheck_any W H A ps.length c ps _ (HP.out.on hB)).mono ?_
  rintro e w1 ⟨rfl, hb⟩
  replace hb1 := hb1.below hb; replace hb2 := hb2.below hb; replace hb3 := hb3.below hb; replace hB := bel_trans hB hb
  have hz1 := hb.size
  clear i1 i2 i3 hb
  rw [HC.out]
  obtain ⟨⟨c1, c2, c3, c4⟩, _, _, _, _⟩ := hb2.four
  go_wp2_with fail
  refine (valid_any x y p q _).mono ?_
  rintro e w2 ⟨rfl, hb⟩
  rw [HV.out]
  replace hb1 := hb1.below hb; replace hb2 := hb2.below hb; replace hb3 := hb3.below hb; replace hB := bel_trans hB hb
  have hz2 := hb.size
  clear c1 c2 c3 c4 hb
  obtain ⟨⟨c1, c2, c3, c4⟩, _, _, _, _⟩ := hb2.four
  obtain ⟨⟨r1, r2, r3⟩, rf1, rf2, rf3⟩ := hb3.three
  go_wp2_with fail
  refine bodyPost_ret (v := .tuple #[.agg #[.int .i64 0, .int .i64 0, .slice none 0 0], .int .i64 15]) (by simp [results, Try.results27, go_sem, r1, r2, r3]) rfl ?_
  exact ⟨_, _, _, rfl, PRow.nil _ _, set3_below hB (by omega) _ _ _⟩
set_option maxHeartbeats 4000000 in
theorem crop_emp (W H : Int) (A : Option Addr) (c : Nat) (ps : List Px) (x y p q : Int) (w : World) (h : Pixs w w.heap.size (.slice A ps.length c) ps) (hc : ichk W H ps = 0) (hv : rvalid x y p q = true) (hg : p ≤ 256 ∧ q ≤ 256) (hm : rempty x y p q = true) :
    Calls Try.prog 27 #[.agg #[.int .i64 W, .int .i64 H, .slice A ps.length c], .agg #[.int .i64 x, .int .i64 y, .int .i64 p, .int .i64 q]] w (ImPost 0 0 0 [] w) := by
  have HC := Lib.hid hc; have HV := Lib.hid hv; have HM := Lib.hid hm; clear hc hv hm
  have HP := Lib.hid h; clear h
  go_enter Try.func27, Try.ntmps27
  go_upto_region 1 with fail
  obtain ⟨hb1, hb2, hb3, hB, hz0⟩ := three_boxes w #[.int .i64 W, .int .i64 H, .slice A ps.length c] #[.int .i64 x, .int .i64 y, .int .i64 p, .int .i64 q] #[.int .i64 0, .int .i64 0, .slice none 0 0] 24 33 24 _ rfl
  generalize World.alloc (World.alloc (w.alloc _) _) _ = w0 at *
  obtain ⟨⟨i1, i2, i3⟩, _, _, _⟩ := hb1.three
  go_wp2_with fail
  refine (icheck_any W H A ps.length c ps _ (HP.out.on hB)).mono ?_
  rintro e w1 ⟨rfl, hb⟩
  replace hb1 := hb1.below hb; replace hb2 := hb2.below hb; replace hb3 := hb3.below hb; replace hB := bel_trans hB hb
  have hz1 := hb.size
  clear i1 i2 i3 hb
  rw [HC.out]
  obtain ⟨⟨c1, c2, c3, c4⟩, _, _, _, _⟩ := hb2.four
  go_wp2_with fail
  refine (valid_any x y p q _).mono ?_
  rintro e w2 ⟨rfl, hb⟩
  rw [HV.out]
  replace hb1 := hb1.below hb; replace hb2 := hb2.below hb; replace hb3 := hb3.below hb; replace hB := bel_trans hB hb
  have hz2 := hb.size
  clear c1 c2 c3 c4 hb
  obtain ⟨⟨c1, c2, c3, c4⟩, _, _, _, _⟩ := hb2.four
  go_wp2_with fail
  refine (empty_any x y p q _).mono ?_
  rintro e w3 ⟨rfl, hb⟩
  rw [HM.out]
  replace hb1 := hb1.below hb; replace hb2 := hb2.below hb; replace hb3 := hb3.below hb; replace hB := bel_trans hB hb
  have hz3 := hb.size
  clear c1 c2 c3 c4 hb
  obtain ⟨⟨r1, r2, r3⟩, rf1, rf2, rf3⟩ := hb3.three
  go_wp2_with fail
  refine bodyPost_ret (v := .tuple #[.agg #[.int .i64 0, .int .i64 0, .slice none 0 0], .int .i64 0]) (by simp [results, Try.results27, go_sem, r1, r2, r3]) rfl ?_
  exact ⟨_, _, _, rfl, PRow.nil _ _, set3_below hB (by omega) _ _ _⟩
set_option maxHeartbeats 4000000 in
theorem crop_yes (W H : Int) (A : Option Addr) (c : Nat) (ps : List Px) (x y p q : Int) (w : World) (h : Pixs w w.heap.size (.slice A ps.length c) ps) (hc : ichk W H ps = 0) (hv : rvalid x y p q = true) (hg : p ≤ 256 ∧ q ≤ 256) (hm : rempty x y p q = false) :
    Calls Try.prog 27 #[.agg #[.int .i64 W, .int .i64 H, .slice A ps.length c], .agg #[.int .i64 x, .int .i64 y, .int .i64 p, .int .i64 q]] w (ImPost 0 p q (cropL W H ps x y p q) w) := by
  have hv2 := (rvalid_iff x y p q).1 hv
  have hp0 : p ≠ 0 ∧ q ≠ 0 := by unfold rempty at hm; rw [hv] at hm; simp at hm; exact hm
  have hiok := (ichk_iff W H ps).1 hc
  have HC := Lib.hid hc; have HV := Lib.hid hv; have HM := Lib.hid hm; clear hc hv hm
  have h1 : 0 ≤ p * q := Int.mul_nonneg (by omega) (by omega)
  have h2 : p * q ≤ 256 * 256 := Int.mul_le_mul hg.1 hg.2 (by omega) (by omega)
  obtain ⟨n, hn⟩ : ∃ n : Nat, p * q = n := ⟨(p * q).toNat, by omega⟩
  have hln : (cropL W H ps x y p q).length = n := by unfold cropL; rw [grid_length]; omega
  have HG := Lib.hid (fun k (hk : k < n) => show pat (cropL W H ps x y p q) k = pick W H ps (x + (k : Int) % p) (y + (k : Int) / p) from grid_pat p q _ k (by omega))
  have HPL := Lib.hid (fun k (hk : k < n) => place_of (w := p) (h := q) (k := k) (by omega) (by omega))
  generalize cropL W H ps x y p q = l at *
  have hpz : (p == 0) = false := by simp [hp0.1]
  have hnl : n ≤ 65536 := by omega
  have HIO := Lib.hid hiok
  have HN := Lib.hid hn
  obtain ⟨⟨⟨v1, v2⟩, v3, v4⟩, ⟨v5, v6⟩, v7, v8⟩ := hv2
  obtain ⟨g1, g2⟩ := hg
  clear hiok hn h1 h2 hp0
  have HP := Lib.hid h; clear h
  go_enter Try.func27, Try.ntmps27
  go_upto_region 1 with fail
  obtain ⟨hb1, hb2, hb3, hB, hz0⟩ := three_boxes w #[.int .i64 W, .int .i64 H, .slice A ps.length c] #[.int .i64 x, .int .i64 y, .int .i64 p, .int .i64 q] #[.int .i64 0, .int .i64 0, .slice none 0 0] 24 33 24 _ rfl
  generalize World.alloc (World.alloc (w.alloc _) _) _ = w0 at *
  obtain ⟨⟨i1, i2, i3⟩, _, _, _⟩ := hb1.three
  go_wp2_with fail
  refine (icheck_any W H A ps.length c ps _ (HP.out.on hB)).mono ?_
  rintro e w1 ⟨rfl, hb⟩
  replace hb1 := hb1.below hb; replace hb2 := hb2.below hb; replace hb3 := hb3.below hb; replace hB := bel_trans hB hb
  have hz1 := hb.size
  clear i1 i2 i3 hb
  rw [HC.out]
  obtain ⟨⟨c1, c2, c3, c4⟩, _, _, _, _⟩ := hb2.four
  go_wp2_with fail
  refine (valid_any x y p q _).mono ?_
  rintro e w2 ⟨rfl, hb⟩
  rw [HV.out]
  replace hb1 := hb1.below hb; replace hb2 := hb2.below hb; replace hb3 := hb3.below hb; replace hB := bel_trans hB hb
  have hz2 := hb.size
  clear c1 c2 c3 c4 hb
  obtain ⟨⟨c1, c2, c3, c4⟩, _, _, _, _⟩ := hb2.four
  go_wp2_with fail
  refine (empty_any x y p q _).mono ?_
  rintro e w3 ⟨rfl, hb⟩
  rw [HM.out]
  replace hb1 := hb1.below hb; replace hb2 := hb2.below hb; replace hb3 := hb3.below hb; replace hB := bel_trans hB hb
  have hz3 := hb.size
  clear c1 c2 c3 c4 hb
  obtain ⟨⟨c1, c2, c3, c4⟩, _, _, _, _⟩ := hb2.four
  go_wp2_with fail
  refine (blank_any _ _ n _ HN.out hnl).mono ?_
  rintro e w4 ⟨g, rfl, hrow, hbb⟩
  have hlo := hrow.lo
  have hz4 := hbb.size
  replace hb1 := hb1.below hbb; replace hb2 := hb2.below hbb; replace hb3 := hb3.below hbb; replace hB := bel_trans hB hbb
  clear c1 c2 c3 c4 hbb
  go_upto_region 12 with fail
  obtain ⟨hb4, hB5, hz5⟩ := one_box w4 #[.int .i64 p, .int .i64 q, .slice (some ⟨g, 0, none⟩) n n] 24 _ rfl
  generalize World.alloc w4 _ = w5 at *
  replace hb1 := hb1.below hB5
  replace hb2 := hb2.below hB5
  replace hb3 := hb3.below hB5
  replace hrow := hrow.below hB5
  replace hB := bel_trans hB hB5
  have HBB := Lib.hid hB
  go_loopg [39] n (FillRel l g w3.heap.size n w5)
  case atStart => exact FillRel.start hln hrow
  case round =>
    obtain ⟨k, hk, rfl, rfl, hrw, hkb⟩ := hrel
    rw [hln] at hk
    have hd1 := hkb.bx hb1 (by omega) (by omega)
    have hd2 := hkb.bx hb2 (by omega) (by omega)
    have hd3 := hkb.bx hb3 (by omega) (by omega)
    have hd4 := hkb.bx hb4 (by omega) (by omega)
    have hkw := hkb.size
    have hlo2 := hrw.lo
    by_cases hlt : k < n
    · obtain ⟨⟨pm1, pm2⟩, pd1, pd2⟩ := HPL.out k hlt
      have hk0 : (0 : Int) ≤ (k : Int) := by omega
      have hk1 : (k : Int) < (n : Int) := by omega
      have hpz2 : ¬ p = 0 := by omega
      have ht1 : (k : Int).tmod p = (k : Int) % p := Int.tmod_eq_emod_of_nonneg hk0
      have hw1 : IntKind.i64.wrap (x + (k : Int) % p) = x + (k : Int) % p := wrap_in _ (by omega)
      have hw2 : IntKind.i64.wrap ((k : Int) / p) = (k : Int) / p := wrap_in _ (by omega)
      have hw3 : IntKind.i64.wrap (y + (k : Int) / p) = y + (k : Int) / p := wrap_in _ (by omega)
      have hpx := (hkb.pixs (HP.out.below HBB.out) (by omega) (by omega)).more (B' := wr.heap.size) (by omega)
      have HGK := Lib.hid (HG.out k hlt)
      have HRW := Lib.hid hrw
      have HKB := Lib.hid hkb
      have HPX := Lib.hid hpx
      have HD1 := Lib.hid hd1; have HD2 := Lib.hid hd2; have HD4 := Lib.hid hd4
      clear hrw hkb hpx hb1 hb2 hb3 hb4 hrow hB hB5 hd3
      obtain ⟨⟨d1, d2, d3⟩, _, _, _⟩ := hd1.three
      obtain ⟨⟨e1, e2, e3, e4⟩, _, _, _, _⟩ := hd2.four
      obtain ⟨⟨m1, m2, m3⟩, _, _, _⟩ := hd4.three
      clear hd1 hd2 hd4
      go_wp2_with fail
      generalize hu : pick W H ps (x + (k : Int) % p) (y + (k : Int) / p) = u at *
      have HAT := Lib.hid (show Calls Try.prog 54 #[.agg #[.int .i64 W, .int .i64 H, .slice A ps.length c], .int .i64 (x + (k : Int) % p), .int .i64 (y + (k : Int) / p)] wr.drew (PxPost u wr.drew) by rw [← hu]; exact at_any W H A ps.length c ps _ _ _ HIO.out HPX.out.drew)
      clear hu
      have hne1 : w4.heap.size ≠ g := by omega
      have hne2 : w.heap.size ≠ g := by omega
      have hne3 : w.heap.size + 1 ≠ g := by omega
      have hS0 : wr.drew.cell? ⟨w4.heap.size, 2, none⟩ = some (.slice (some ⟨g, 0, none⟩) n n) ∧ wr.drew.cell? ⟨w.heap.size, 0, none⟩ = some (.int .i64 W) ∧ wr.drew.cell? ⟨w.heap.size, 1, none⟩ = some (.int .i64 H) ∧ wr.drew.cell? ⟨w.heap.size, 2, none⟩ = some (.slice A ps.length c) ∧ wr.drew.cell? ⟨w.heap.size + 1, 0, none⟩ = some (.int .i64 x) ∧ wr.drew.cell? ⟨w.heap.size + 1, 1, none⟩ = some (.int .i64 y) ∧ wr.drew.cell? ⟨w.heap.size + 1, 2, none⟩ = some (.int .i64 p) := ⟨m3, d1, d2, d3, e1, e2, e3⟩
      have HS4 := Lib.hid (show ∀ w6, Below wr.drew.heap.size wr.drew w6 → w6.cell? ⟨w4.heap.size, 2, none⟩ = some (.slice (some ⟨g, 0, none⟩) n n) ∧ w6.cell? ⟨w.heap.size, 0, none⟩ = some (.int .i64 W) ∧ w6.cell? ⟨w.heap.size, 1, none⟩ = some (.int .i64 H) ∧ w6.cell? ⟨w.heap.size, 2, none⟩ = some (.slice A ps.length c) ∧ w6.cell? ⟨w.heap.size + 1, 0, none⟩ = some (.int .i64 x) ∧ w6.cell? ⟨w.heap.size + 1, 1, none⟩ = some (.int .i64 y) ∧ w6.cell? ⟨w.heap.size + 1, 2, none⟩ = some (.int .i64 p) from fun w6 hb => ⟨((HD4.out.drew.below hb).three).1.2.2, ((HD1.out.drew.below hb).three).1.1, ((HD1.out.drew.below hb).three).1.2.1, ((HD1.out.drew.below hb).three).1.2.2, ((HD2.out.drew.below hb).four).1.1, ((HD2.out.drew.below hb).four).1.2.1, ((HD2.out.drew.below hb).four).1.2.2.1⟩)
      have HS5 := Lib.hid (show ∀ w6, Below wr.drew.heap.size wr.drew w6 → ((((w6.setCell ⟨g, k * 4, none⟩ (.int .i64 u.r)).setCell ⟨g, k * 4 + 1, none⟩ (.int .i64 u.g)).setCell ⟨g, k * 4 + 2, none⟩ (.int .i64 u.b)).setCell ⟨g, k * 4 + 3, none⟩ (.int .i64 u.a)).cell? ⟨w4.heap.size, 2, none⟩ = some (.slice (some ⟨g, 0, none⟩) n n) ∧ ((((w6.setCell ⟨g, k * 4, none⟩ (.int .i64 u.r)).setCell ⟨g, k * 4 + 1, none⟩ (.int .i64 u.g)).setCell ⟨g, k * 4 + 2, none⟩ (.int .i64 u.b)).setCell ⟨g, k * 4 + 3, none⟩ (.int .i64 u.a)).cell? ⟨w.heap.size, 0, none⟩ = some (.int .i64 W) ∧ ((((w6.setCell ⟨g, k * 4, none⟩ (.int .i64 u.r)).setCell ⟨g, k * 4 + 1, none⟩ (.int .i64 u.g)).setCell ⟨g, k * 4 + 2, none⟩ (.int .i64 u.b)).setCell ⟨g, k * 4 + 3, none⟩ (.int .i64 u.a)).cell? ⟨w.heap.size, 1, none⟩ = some (.int .i64 H) ∧ ((((w6.setCell ⟨g, k * 4, none⟩ (.int .i64 u.r)).setCell ⟨g, k * 4 + 1, none⟩ (.int .i64 u.g)).setCell ⟨g, k * 4 + 2, none⟩ (.int .i64 u.b)).setCell ⟨g, k * 4 + 3, none⟩ (.int .i64 u.a)).cell? ⟨w.heap.size, 2, none⟩ = some (.slice A ps.length c) ∧ ((((w6.setCell ⟨g, k * 4, none⟩ (.int .i64 u.r)).setCell ⟨g, k * 4 + 1, none⟩ (.int .i64 u.g)).setCell ⟨g, k * 4 + 2, none⟩ (.int .i64 u.b)).setCell ⟨g, k * 4 + 3, none⟩ (.int .i64 u.a)).cell? ⟨w.heap.size + 1, 0, none⟩ = some (.int .i64 x) ∧ ((((w6.setCell ⟨g, k * 4, none⟩ (.int .i64 u.r)).setCell ⟨g, k * 4 + 1, none⟩ (.int .i64 u.g)).setCell ⟨g, k * 4 + 2, none⟩ (.int .i64 u.b)).setCell ⟨g, k * 4 + 3, none⟩ (.int .i64 u.a)).cell? ⟨w.heap.size + 1, 1, none⟩ = some (.int .i64 y) ∧ ((((w6.setCell ⟨g, k * 4, none⟩ (.int .i64 u.r)).setCell ⟨g, k * 4 + 1, none⟩ (.int .i64 u.g)).setCell ⟨g, k * 4 + 2, none⟩ (.int .i64 u.b)).setCell ⟨g, k * 4 + 3, none⟩ (.int .i64 u.a)).cell? ⟨w.heap.size + 1, 2, none⟩ = some (.int .i64 p) from fun w6 hb => ⟨((HD4.out.drew.below hb).other4 hne1 _ _ _ _ _ _ _ _).three.1.2.2, ((HD1.out.drew.below hb).other4 hne2 _ _ _ _ _ _ _ _).three.1.1, ((HD1.out.drew.below hb).other4 hne2 _ _ _ _ _ _ _ _).three.1.2.1, ((HD1.out.drew.below hb).other4 hne2 _ _ _ _ _ _ _ _).three.1.2.2, ((HD2.out.drew.below hb).other4 hne3 _ _ _ _ _ _ _ _).four.1.1, ((HD2.out.drew.below hb).other4 hne3 _ _ _ _ _ _ _ _).four.1.2.1, ((HD2.out.drew.below hb).other4 hne3 _ _ _ _ _ _ _ _).four.1.2.2.1⟩)
      go_region_held3 (fun w' => w'.cell? ⟨w4.heap.size, 2, none⟩ = some (.slice (some ⟨g, 0, none⟩) n n) ∧ w'.cell? ⟨w.heap.size, 0, none⟩ = some (.int .i64 W) ∧ w'.cell? ⟨w.heap.size, 1, none⟩ = some (.int .i64 H) ∧ w'.cell? ⟨w.heap.size, 2, none⟩ = some (.slice A ps.length c) ∧ w'.cell? ⟨w.heap.size + 1, 0, none⟩ = some (.int .i64 x) ∧ w'.cell? ⟨w.heap.size + 1, 1, none⟩ = some (.int .i64 y) ∧ w'.cell? ⟨w.heap.size + 1, 2, none⟩ = some (.int .i64 p))
        (first | assumption | exact hS0 | exact HS4.out _ hbw6 | exact HS5.out _ hbw6 | go_keep)
        ((go_at_call 54; (with_reducible refine HAT.out.mono ?_); rintro e w6 ⟨rfl, hbw6⟩; have hR6 := (HRW.out.drew).below hbw6; obtain ⟨⟨x1, x2, x3, x4⟩, xf1, xf2, xf3, xf4⟩ := hR6.at4 hlt))
      go_wp2_with fail
      go_roundg (n - (k + 1))
      case measure => omega
      case rel => exact ⟨k + 1, by omega, by rw [hln], by go_num, part_put (by rw [hln]; exact hlt) hln hR6 HGK.out, (HKB.out.drew.below hbw6 (by show w5.heap.size ≤ wr.heap.size; omega)).set4 _ _ _ _ _ _ _ _⟩
    · obtain rfl : k = n := by omega
      obtain ⟨⟨r1, r2, r3⟩, rf1, rf2, rf3⟩ := hd3.three
      obtain ⟨⟨m1, m2, m3⟩, _, _, _⟩ := hd4.three
      have hall := partD_all Px.zero l
      rw [hln] at hall
      rw [hall] at hrw
      have HR := Lib.hid hrw
      have HK := Lib.hid (hkb.toBelow HBB.out (by omega) (by omega))
      clear hrw hkb hd1 hd2 hd3 hd4 hb1 hb2 hb3 hb4 hrow
      go_wp2_with fail
      refine bodyPost_ret (v := .tuple #[.agg #[.int .i64 p, .int .i64 q, .slice (some ⟨g, 0, none⟩) k k], .int .i64 0]) (by simp [results, Try.results27, go_sem, r1, r2, r3]) rfl ?_
      exact ⟨_, _, _, rfl, HR.out.set3 (by omega) (by omega) _ _ _, set3_below HK.out (by omega) _ _ _⟩
end Go.Proofs.Ytineinmghajmnaa
namespace Go.Proofs.Ytineinmghajmnaa
open Go.RowKit
section
variable (W H : Int) (A : Option Addr) (c : Nat) (ps : List Px) (w : World) (h : Pixs w w.heap.size (.slice A ps.length c) ps)
include h
theorem crop_any (x y p q : Int) : Calls Try.prog 27 #[.agg #[.int .i64 W, .int .i64 H, .slice A ps.length c], .agg #[.int .i64 x, .int .i64 y, .int .i64 p, .int .i64 q]] w
    (ImOut (cerr (ichk W H ps) x y p q) (cside p q p) (cside p q q) (cropL W H ps x y p q) w) := by
  unfold cerr
  by_cases hc : ichk W H ps = 0
  · rw [if_pos hc]
    by_cases hv : rvalid x y p q = true
    · rw [if_pos hv]
      by_cases g1 : 256 < p
      · rw [if_pos (.inl g1), imOut_err (by omega)]; exact crop_bigw W H A c ps x y p q w h hc hv g1
      · by_cases g2 : 256 < q
        · rw [if_pos (.inr g2), imOut_err (by omega)]; exact crop_bigh W H A c ps x y p q w h hc hv ⟨by omega, g2⟩
        · rw [if_neg (by omega), imOut_ok]
          cases hm : rempty x y p q
          · have hz : ¬ (p = 0 ∨ q = 0) := by unfold rempty at hm; rw [hv] at hm; simp at hm; omega
            unfold cside
            rw [if_neg hz, if_neg hz]
            exact crop_yes W H A c ps x y p q w h hc hv ⟨by omega, by omega⟩ hm
          · have hz : p = 0 ∨ q = 0 := by unfold rempty at hm; rw [hv] at hm; simp at hm; exact hm
            unfold cside
            rw [if_pos hz, if_pos hz, cropL_nil hz]
            exact crop_emp W H A c ps x y p q w h hc hv ⟨by omega, by omega⟩ hm
    · rw [if_neg hv, imOut_err (by omega)]; exact crop_inv W H A c ps x y p q w h hc (by simpa using hv)
  · rw [if_neg hc, imOut_err hc]; exact crop_chk W H A c ps x y p q w h hc
end
end Go.Proofs.Ytineinmghajmnaa
