/- The reference's Crop: the errors. -/
import Derived.Test.YtllmckapiplpcaaRefGrid
import Derived.Test.YtllmckapiplpcaaRasCrop
namespace Go.Proofs.Ytllmckapiplpcaa
open Go.RowKit

set_option maxHeartbeats 4000000 in
theorem rcrop_chk (W H : Int) (A : Option Addr) (c : Nat) (ps : List Px) (x y p q : Int) (w : World) (h : Pixs w w.heap.size (.slice A ps.length c) ps) (hc : ichk W H ps ≠ 0) :
    Calls Try.prog 28 #[.agg #[.int .i64 W, .int .i64 H, .slice A ps.length c], .agg #[.int .i64 x, .int .i64 y, .int .i64 p, .int .i64 q]] w (ImPost (ichk W H ps) 0 0 [] w) := by
  generalize hE : ichk W H ps = ch at *
  have HE := Lib.hid hE; clear hE
  have hne : (ch != 0) = true := by simp [hc]
  have HP := Lib.hid h; clear h
  go_enter Try.func28, Try.ntmps28
  go_upto_region 1 with fail
  obtain ⟨hb1, hb2, hb3, hB, hz0⟩ := three_boxes w #[.int .i64 W, .int .i64 H, .slice A ps.length c] #[.int .i64 x, .int .i64 y, .int .i64 p, .int .i64 q] #[.int .i64 0, .int .i64 0, .slice none 0 0] 24 37 24 _ rfl
  generalize World.alloc (World.alloc (w.alloc _) _) _ = w0 at *
  obtain ⟨⟨i1, i2, i3⟩, _, _, _⟩ := hb1.three
  go_wp2_with fail
  refine (richeck_any W H A ps.length c ps _ (HP.out.on hB)).mono ?_
  rintro e w1 ⟨rfl, hb⟩
  replace hb1 := hb1.below hb; replace hb2 := hb2.below hb; replace hb3 := hb3.below hb; replace hB := bel_trans hB hb
  have hz1 := hb.size
  clear i1 i2 i3 hb
  rw [HE.out]
  obtain ⟨⟨r1, r2, r3⟩, rf1, rf2, rf3⟩ := hb3.three
  go_wp2_with fail
  refine bodyPost_ret (v := .tuple #[.agg #[.int .i64 0, .int .i64 0, .slice none 0 0], .int .i64 ch]) (by simp [results, Try.results28, go_sem, r1, r2, r3]) rfl ?_
  exact ⟨_, _, _, rfl, PRow.nil _ _, set3_below hB (by omega) _ _ _⟩
set_option maxHeartbeats 4000000 in
theorem rcrop_inv (W H : Int) (A : Option Addr) (c : Nat) (ps : List Px) (x y p q : Int) (w : World) (h : Pixs w w.heap.size (.slice A ps.length c) ps) (hc : ichk W H ps = 0) (hv : rvalid x y p q = false) :
    Calls Try.prog 28 #[.agg #[.int .i64 W, .int .i64 H, .slice A ps.length c], .agg #[.int .i64 x, .int .i64 y, .int .i64 p, .int .i64 q]] w (ImPost 2 0 0 [] w) := by
  have HC := Lib.hid hc; have HV := Lib.hid hv; clear hc hv
  have HP := Lib.hid h; clear h
  go_enter Try.func28, Try.ntmps28
  go_upto_region 1 with fail
  obtain ⟨hb1, hb2, hb3, hB, hz0⟩ := three_boxes w #[.int .i64 W, .int .i64 H, .slice A ps.length c] #[.int .i64 x, .int .i64 y, .int .i64 p, .int .i64 q] #[.int .i64 0, .int .i64 0, .slice none 0 0] 24 37 24 _ rfl
  generalize World.alloc (World.alloc (w.alloc _) _) _ = w0 at *
  obtain ⟨⟨i1, i2, i3⟩, _, _, _⟩ := hb1.three
  go_wp2_with fail
  refine (richeck_any W H A ps.length c ps _ (HP.out.on hB)).mono ?_
  rintro e w1 ⟨rfl, hb⟩
  replace hb1 := hb1.below hb; replace hb2 := hb2.below hb; replace hb3 := hb3.below hb; replace hB := bel_trans hB hb
  have hz1 := hb.size
  clear i1 i2 i3 hb
  rw [HC.out]
  obtain ⟨⟨c1, c2, c3, c4⟩, _, _, _, _⟩ := hb2.four
  go_wp2_with fail
  refine (rvalid_any x y p q _).mono ?_
  rintro e w2 ⟨rfl, hb⟩
  rw [HV.out]
  replace hb1 := hb1.below hb; replace hb2 := hb2.below hb; replace hb3 := hb3.below hb; replace hB := bel_trans hB hb
  have hz2 := hb.size
  clear c1 c2 c3 c4 hb
  obtain ⟨⟨r1, r2, r3⟩, rf1, rf2, rf3⟩ := hb3.three
  go_wp2_with fail
  refine bodyPost_ret (v := .tuple #[.agg #[.int .i64 0, .int .i64 0, .slice none 0 0], .int .i64 2]) (by simp [results, Try.results28, go_sem, r1, r2, r3]) rfl ?_
  exact ⟨_, _, _, rfl, PRow.nil _ _, set3_below hB (by omega) _ _ _⟩
set_option maxHeartbeats 4000000 in
theorem rcrop_bigw (W H : Int) (A : Option Addr) (c : Nat) (ps : List Px) (x y p q : Int) (w : World) (h : Pixs w w.heap.size (.slice A ps.length c) ps) (hc : ichk W H ps = 0) (hv : rvalid x y p q = true) (hg : 256 < p) :
    Calls Try.prog 28 #[.agg #[.int .i64 W, .int .i64 H, .slice A ps.length c], .agg #[.int .i64 x, .int .i64 y, .int .i64 p, .int .i64 q]] w (ImPost 15 0 0 [] w) := by
  have HC := Lib.hid hc; have HV := Lib.hid hv; clear hc hv
  have HP := Lib.hid h; clear h
  go_enter Try.func28, Try.ntmps28
  go_upto_region 1 with fail
  obtain ⟨hb1, hb2, hb3, hB, hz0⟩ := three_boxes w #[.int .i64 W, .int .i64 H, .slice A ps.length c] #[.int .i64 x, .int .i64 y, .int .i64 p, .int .i64 q] #[.int .i64 0, .int .i64 0, .slice none 0 0] 24 37 24 _ rfl
  generalize World.alloc (World.alloc (w.alloc _) _) _ = w0 at *
  obtain ⟨⟨i1, i2, i3⟩, _, _, _⟩ := hb1.three
  go_wp2_with fail
  refine (richeck_any W H A ps.length c ps _ (HP.out.on hB)).mono ?_
  rintro e w1 ⟨rfl, hb⟩
  replace hb1 := hb1.below hb; replace hb2 := hb2.below hb; replace hb3 := hb3.below hb; replace hB := bel_trans hB hb
  have hz1 := hb.size
  clear i1 i2 i3 hb
  rw [HC.out]
  obtain ⟨⟨c1, c2, c3, c4⟩, _, _, _, _⟩ := hb2.four
  go_wp2_with fail
  refine (rvalid_any x y p q _).mono ?_
  rintro e w2 ⟨rfl, hb⟩
  rw [HV.out]
  replace hb1 := hb1.below hb; replace hb2 := hb2.below hb; replace hb3 := hb3.below hb; replace hB := bel_trans hB hb
  have hz2 := hb.size
  clear c1 c2 c3 c4 hb
  obtain ⟨⟨c1, c2, c3, c4⟩, _, _, _, _⟩ := hb2.four
  obtain ⟨⟨r1, r2, r3⟩, rf1, rf2, rf3⟩ := hb3.three
  go_wp2_with fail
  refine bodyPost_ret (v := .tuple #[.agg #[.int .i64 0, .int .i64 0, .slice none 0 0], .int .i64 15]) (by simp [results, Try.results28, go_sem, r1, r2, r3]) rfl ?_
  exact ⟨_, _, _, rfl, PRow.nil _ _, set3_below hB (by omega) _ _ _⟩
set_option maxHeartbeats 4000000 in
theorem rcrop_bigh (W H : Int) (A : Option Addr) (c : Nat) (ps : List Px) (x y p q : Int) (w : World) (h : Pixs w w.heap.size (.slice A ps.length c) ps) (hc : ichk W H ps = 0) (hv : rvalid x y p q = true) (hg : p ≤ 256 ∧ 256 < q) :
    Calls Try.prog 28 #[.agg #[.int .i64 W, .int .i64 H, .slice A ps.length c], .agg #[.int .i64 x, .int .i64 y, .int .i64 p, .int .i64 q]] w (ImPost 15 0 0 [] w) := by
  have HC := Lib.hid hc; have HV := Lib.hid hv; clear hc hv
  have HP := Lib.hid h; clear h
  go_enter Try.func28, Try.ntmps28
  go_upto_region 1 with fail
  obtain ⟨hb1, hb2, hb3, hB, hz0⟩ := three_boxes w #[.int .i64 W, .int .i64 H, .slice A ps.length c] #[.int .i64 x, .int .i64 y, .int .i64 p, .int .i64 q] #[.int .i64 0, .int .i64 0, .slice none 0 0] 24 37 24 _ rfl
  generalize World.alloc (World.alloc (w.alloc _) _) _ = w0 at *
  obtain ⟨⟨i1, i2, i3⟩, _, _, _⟩ := hb1.three
  go_wp2_with fail
  refine (richeck_any W H A ps.length c ps _ (HP.out.on hB)).mono ?_
  rintro e w1 ⟨rfl, hb⟩
  replace hb1 := hb1.below hb; replace hb2 := hb2.below hb; replace hb3 := hb3.below hb; replace hB := bel_trans hB hb
  have hz1 := hb.size
  clear i1 i2 i3 hb
  rw [HC.out]
  obtain ⟨⟨c1, c2, c3, c4⟩, _, _, _, _⟩ := hb2.four
  go_wp2_with fail
  refine (rvalid_any x y p q _).mono ?_
  rintro e w2 ⟨rfl, hb⟩
  rw [HV.out]
  replace hb1 := hb1.below hb; replace hb2 := hb2.below hb; replace hb3 := hb3.below hb; replace hB := bel_trans hB hb
  have hz2 := hb.size
  clear c1 c2 c3 c4 hb
  obtain ⟨⟨c1, c2, c3, c4⟩, _, _, _, _⟩ := hb2.four
  obtain ⟨⟨r1, r2, r3⟩, rf1, rf2, rf3⟩ := hb3.three
  go_wp2_with fail
  refine bodyPost_ret (v := .tuple #[.agg #[.int .i64 0, .int .i64 0, .slice none 0 0], .int .i64 15]) (by simp [results, Try.results28, go_sem, r1, r2, r3]) rfl ?_
  exact ⟨_, _, _, rfl, PRow.nil _ _, set3_below hB (by omega) _ _ _⟩
set_option maxHeartbeats 4000000 in
theorem rcrop_emp (W H : Int) (A : Option Addr) (c : Nat) (ps : List Px) (x y p q : Int) (w : World) (h : Pixs w w.heap.size (.slice A ps.length c) ps) (hc : ichk W H ps = 0) (hv : rvalid x y p q = true) (hg : p ≤ 256 ∧ q ≤ 256) (hm : rempty x y p q = true) :
    Calls Try.prog 28 #[.agg #[.int .i64 W, .int .i64 H, .slice A ps.length c], .agg #[.int .i64 x, .int .i64 y, .int .i64 p, .int .i64 q]] w (ImPost 0 0 0 [] w) := by
  have HC := Lib.hid hc; have HV := Lib.hid hv; have HM := Lib.hid hm; clear hc hv hm
  have HP := Lib.hid h; clear h
  go_enter Try.func28, Try.ntmps28
  go_upto_region 1 with fail
  obtain ⟨hb1, hb2, hb3, hB, hz0⟩ := three_boxes w #[.int .i64 W, .int .i64 H, .slice A ps.length c] #[.int .i64 x, .int .i64 y, .int .i64 p, .int .i64 q] #[.int .i64 0, .int .i64 0, .slice none 0 0] 24 37 24 _ rfl
  generalize World.alloc (World.alloc (w.alloc _) _) _ = w0 at *
  obtain ⟨⟨i1, i2, i3⟩, _, _, _⟩ := hb1.three
  go_wp2_with fail
  refine (richeck_any W H A ps.length c ps _ (HP.out.on hB)).mono ?_
  rintro e w1 ⟨rfl, hb⟩
  replace hb1 := hb1.below hb; replace hb2 := hb2.below hb; replace hb3 := hb3.below hb; replace hB := bel_trans hB hb
  have hz1 := hb.size
  clear i1 i2 i3 hb
  rw [HC.out]
  obtain ⟨⟨c1, c2, c3, c4⟩, _, _, _, _⟩ := hb2.four
  go_wp2_with fail
  refine (rvalid_any x y p q _).mono ?_
  rintro e w2 ⟨rfl, hb⟩
  rw [HV.out]
  replace hb1 := hb1.below hb; replace hb2 := hb2.below hb; replace hb3 := hb3.below hb; replace hB := bel_trans hB hb
  have hz2 := hb.size
  clear c1 c2 c3 c4 hb
  obtain ⟨⟨c1, c2, c3, c4⟩, _, _, _, _⟩ := hb2.four
  go_wp2_with fail
  refine (rempty_any x y p q _).mono ?_
  rintro e w3 ⟨rfl, hb⟩
  rw [HM.out]
  replace hb1 := hb1.below hb; replace hb2 := hb2.below hb; replace hb3 := hb3.below hb; replace hB := bel_trans hB hb
  have hz3 := hb.size
  clear c1 c2 c3 c4 hb
  obtain ⟨⟨r1, r2, r3⟩, rf1, rf2, rf3⟩ := hb3.three
  go_wp2_with fail
  refine bodyPost_ret (v := .tuple #[.agg #[.int .i64 0, .int .i64 0, .slice none 0 0], .int .i64 0]) (by simp [results, Try.results28, go_sem, r1, r2, r3]) rfl ?_
  exact ⟨_, _, _, rfl, PRow.nil _ _, set3_below hB (by omega) _ _ _⟩
end Go.Proofs.Ytllmckapiplpcaa
