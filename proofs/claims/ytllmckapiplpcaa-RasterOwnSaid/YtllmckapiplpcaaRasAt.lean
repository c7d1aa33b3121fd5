/- At and Edge, and their references. -/
import Derived.Test.YtllmckapiplpcaaRas2
import Derived.Test.YtllmckapiplpcaaImgRChk
namespace Go.Proofs.Ytllmckapiplpcaa
open Go.RowKit
attribute [local go_sem 2000] run_max2m run_min2m

def atP (W H : Int) (ps : List Px) (x y : Int) : Px := if ichk W H ps = 0 then pick W H ps x y else Px.zero
def edgeP (W H : Int) (ps : List Px) (x y : Int) : Px := atP W H ps (min (max x 0) (W - 1)) (min (max y 0) (H - 1))

set_option maxHeartbeats 2000000 in
theorem pat_any (W H : Int) (A : Option Addr) (c : Nat) (ps : List Px) (x y : Int) (w : World) (h : Pixs w w.heap.size (.slice A ps.length c) ps) :
    Calls Try.prog 21 #[.agg #[.int .i64 W, .int .i64 H, .slice A ps.length c], .int .i64 x, .int .i64 y] w (PxPost (atP W H ps x y) w) := by
  have HP := Lib.hid h; clear h
  have HD := Lib.hid (show ichk W H ps = 0 ∨ ichk W H ps ≠ 0 by omega)
  have HI := Lib.hid (ichk_iff W H ps)
  have HA := Lib.hid (show ∀ x y, atP W H ps x y = if ichk W H ps = 0 then pick W H ps x y else Px.zero from fun _ _ => rfl)
  have HC := Lib.hid (icheck_any W H A ps.length c ps)
  generalize ichk W H ps = ch at *
  go_enter Try.func21, Try.ntmps21
  go_upto_region 1 with fail
  obtain ⟨hb1, hb2, hB⟩ := two_boxes w #[.int .i64 W, .int .i64 H, .slice A ps.length c] #[.int .i64 0, .int .i64 0, .int .i64 0, .int .i64 0] 24 26 _ rfl
  generalize World.alloc (w.alloc _) _ = w0 at *
  obtain ⟨⟨i1, i2, i3⟩, _, _, _⟩ := hb1.three
  go_wp2_with fail
  refine (HC.out _ (HP.out.on hB)).mono ?_
  rintro e w1 ⟨rfl, hb⟩
  replace hb1 := hb1.below hb; replace hb2 := hb2.below hb; replace hB := bel_trans hB hb
  clear i1 i2 i3 hb
  rcases HD.out with rfl | hc
  · have hiok := HI.out.1 rfl
    have hw0 := hiok.w0; have hw1 := hiok.w1; have hh0 := hiok.h0; have hh1 := hiok.h1
    have HIO := Lib.hid hiok; clear hiok
    obtain ⟨⟨i1, i2, i3⟩, _, _, _⟩ := hb1.three
    go_wp2_with fail
    refine (at_any W H A ps.length c ps _ _ _ HIO.out (HP.out.on hB)).mono ?_
    rintro e w2 ⟨rfl, hb⟩
    replace hb2 := hb2.below hb; replace hB := bel_trans hB hb
    clear i1 i2 i3 hb
    obtain ⟨⟨r1, r2, r3, r4⟩, rf1, rf2, rf3, rf4⟩ := hb2.four
    go_wp2_with fail
    refine bodyPost_ret (v := _) (by simp [results, Try.results21, go_sem, r1, r2, r3, r4]; rfl) rfl ⟨?_, set4_below hB (Nat.le_succ _) _ _ _ _ _ _ _ _⟩
    simp [HA.out]
  · have hne : (ch != 0) = true := by simp [hc]
    obtain ⟨⟨r1, r2, r3, r4⟩, rf1, rf2, rf3, rf4⟩ := hb2.four
    go_wp2_with fail
    refine bodyPost_ret (v := .agg #[.int .i64 0, .int .i64 0, .int .i64 0, .int .i64 0]) (by simp [results, Try.results21, go_sem, r1, r2, r3, r4]) rfl ⟨?_, set4_below hB (Nat.le_succ _) _ _ _ _ _ _ _ _⟩
    rw [HA.out, if_neg hc]; rfl
set_option maxHeartbeats 2000000 in
theorem rpat_any (W H : Int) (A : Option Addr) (c : Nat) (ps : List Px) (x y : Int) (w : World) (h : Pixs w w.heap.size (.slice A ps.length c) ps) :
    Calls Try.prog 22 #[.agg #[.int .i64 W, .int .i64 H, .slice A ps.length c], .int .i64 x, .int .i64 y] w (PxPost (atP W H ps x y) w) := by
  have HP := Lib.hid h; clear h
  have HD := Lib.hid (show ichk W H ps = 0 ∨ ichk W H ps ≠ 0 by omega)
  have HI := Lib.hid (ichk_iff W H ps)
  have HA := Lib.hid (show ∀ x y, atP W H ps x y = if ichk W H ps = 0 then pick W H ps x y else Px.zero from fun _ _ => rfl)
  have HC := Lib.hid (richeck_any W H A ps.length c ps)
  generalize ichk W H ps = ch at *
  go_enter Try.func22, Try.ntmps22
  go_upto_region 1 with fail
  obtain ⟨hb1, hb2, hB⟩ := two_boxes w #[.int .i64 W, .int .i64 H, .slice A ps.length c] #[.int .i64 0, .int .i64 0, .int .i64 0, .int .i64 0] 24 26 _ rfl
  generalize World.alloc (w.alloc _) _ = w0 at *
  obtain ⟨⟨i1, i2, i3⟩, _, _, _⟩ := hb1.three
  go_wp2_with fail
  refine (HC.out _ (HP.out.on hB)).mono ?_
  rintro e w1 ⟨rfl, hb⟩
  replace hb1 := hb1.below hb; replace hb2 := hb2.below hb; replace hB := bel_trans hB hb
  clear i1 i2 i3 hb
  rcases HD.out with rfl | hc
  · have hiok := HI.out.1 rfl
    have hw0 := hiok.w0; have hw1 := hiok.w1; have hh0 := hiok.h0; have hh1 := hiok.h1
    have HIO := Lib.hid hiok; clear hiok
    obtain ⟨⟨i1, i2, i3⟩, _, _, _⟩ := hb1.three
    go_wp2_with fail
    refine (pick_any W H A ps.length c ps _ _ _ HIO.out (HP.out.on hB)).mono ?_
    rintro e w2 ⟨rfl, hb⟩
    replace hb2 := hb2.below hb; replace hB := bel_trans hB hb
    clear i1 i2 i3 hb
    obtain ⟨⟨r1, r2, r3, r4⟩, rf1, rf2, rf3, rf4⟩ := hb2.four
    go_wp2_with fail
    refine bodyPost_ret (v := _) (by simp [results, Try.results22, go_sem, r1, r2, r3, r4]; rfl) rfl ⟨?_, set4_below hB (Nat.le_succ _) _ _ _ _ _ _ _ _⟩
    simp [HA.out]
  · have hne : (ch != 0) = true := by simp [hc]
    obtain ⟨⟨r1, r2, r3, r4⟩, rf1, rf2, rf3, rf4⟩ := hb2.four
    go_wp2_with fail
    refine bodyPost_ret (v := .agg #[.int .i64 0, .int .i64 0, .int .i64 0, .int .i64 0]) (by simp [results, Try.results22, go_sem, r1, r2, r3, r4]) rfl ⟨?_, set4_below hB (Nat.le_succ _) _ _ _ _ _ _ _ _⟩
    rw [HA.out, if_neg hc]; rfl
set_option maxHeartbeats 2000000 in
theorem edge_any (W H : Int) (A : Option Addr) (c : Nat) (ps : List Px) (x y : Int) (w : World) (h : Pixs w w.heap.size (.slice A ps.length c) ps) :
    Calls Try.prog 23 #[.agg #[.int .i64 W, .int .i64 H, .slice A ps.length c], .int .i64 x, .int .i64 y] w (PxPost (edgeP W H ps x y) w) := by
  have HP := Lib.hid h; clear h
  have HD := Lib.hid (show ichk W H ps = 0 ∨ ichk W H ps ≠ 0 by omega)
  have HI := Lib.hid (ichk_iff W H ps)
  have HA := Lib.hid (show ∀ x y, atP W H ps x y = if ichk W H ps = 0 then pick W H ps x y else Px.zero from fun _ _ => rfl)
  have HC := Lib.hid (icheck_any W H A ps.length c ps)
  generalize ichk W H ps = ch at *
  go_enter Try.func23, Try.ntmps23
  go_upto_region 1 with fail
  obtain ⟨hb1, hb2, hB⟩ := two_boxes w #[.int .i64 W, .int .i64 H, .slice A ps.length c] #[.int .i64 0, .int .i64 0, .int .i64 0, .int .i64 0] 24 26 _ rfl
  generalize World.alloc (w.alloc _) _ = w0 at *
  obtain ⟨⟨i1, i2, i3⟩, _, _, _⟩ := hb1.three
  go_wp2_with fail
  refine (HC.out _ (HP.out.on hB)).mono ?_
  rintro e w1 ⟨rfl, hb⟩
  replace hb1 := hb1.below hb; replace hb2 := hb2.below hb; replace hB := bel_trans hB hb
  clear i1 i2 i3 hb
  rcases HD.out with rfl | hc
  · have hiok := HI.out.1 rfl
    have hw0 := hiok.w0; have hw1 := hiok.w1; have hh0 := hiok.h0; have hh1 := hiok.h1
    have HIO := Lib.hid hiok; clear hiok
    obtain ⟨⟨i1, i2, i3⟩, _, _, _⟩ := hb1.three
    go_wp2_with fail
    refine (at_any W H A ps.length c ps _ _ _ HIO.out (HP.out.on hB)).mono ?_
    rintro e w2 ⟨rfl, hb⟩
    replace hb2 := hb2.below hb; replace hB := bel_trans hB hb
    clear i1 i2 i3 hb
    obtain ⟨⟨r1, r2, r3, r4⟩, rf1, rf2, rf3, rf4⟩ := hb2.four
    go_wp2_with fail
    refine bodyPost_ret (v := _) (by simp [results, Try.results23, go_sem, r1, r2, r3, r4]; rfl) rfl ⟨?_, set4_below hB (Nat.le_succ _) _ _ _ _ _ _ _ _⟩
    unfold edgeP; simp [HA.out]
  · have hne : (ch != 0) = true := by simp [hc]
    obtain ⟨⟨r1, r2, r3, r4⟩, rf1, rf2, rf3, rf4⟩ := hb2.four
    go_wp2_with fail
    refine bodyPost_ret (v := .agg #[.int .i64 0, .int .i64 0, .int .i64 0, .int .i64 0]) (by simp [results, Try.results23, go_sem, r1, r2, r3, r4]) rfl ⟨?_, set4_below hB (Nat.le_succ _) _ _ _ _ _ _ _ _⟩
    unfold edgeP; rw [HA.out, if_neg hc]; rfl
set_option maxHeartbeats 2000000 in
theorem redge_any (W H : Int) (A : Option Addr) (c : Nat) (ps : List Px) (x y : Int) (w : World) (h : Pixs w w.heap.size (.slice A ps.length c) ps) :
    Calls Try.prog 24 #[.agg #[.int .i64 W, .int .i64 H, .slice A ps.length c], .int .i64 x, .int .i64 y] w (PxPost (edgeP W H ps x y) w) := by
  have HP := Lib.hid h; clear h
  have HD := Lib.hid (show ichk W H ps = 0 ∨ ichk W H ps ≠ 0 by omega)
  have HI := Lib.hid (ichk_iff W H ps)
  have HA := Lib.hid (show ∀ x y, atP W H ps x y = if ichk W H ps = 0 then pick W H ps x y else Px.zero from fun _ _ => rfl)
  have HC := Lib.hid (richeck_any W H A ps.length c ps)
  generalize ichk W H ps = ch at *
  go_enter Try.func24, Try.ntmps24
  go_upto_region 1 with fail
  obtain ⟨hb1, hb2, hB⟩ := two_boxes w #[.int .i64 W, .int .i64 H, .slice A ps.length c] #[.int .i64 0, .int .i64 0, .int .i64 0, .int .i64 0] 24 26 _ rfl
  generalize World.alloc (w.alloc _) _ = w0 at *
  obtain ⟨⟨i1, i2, i3⟩, _, _, _⟩ := hb1.three
  go_wp2_with fail
  refine (HC.out _ (HP.out.on hB)).mono ?_
  rintro e w1 ⟨rfl, hb⟩
  replace hb1 := hb1.below hb; replace hb2 := hb2.below hb; replace hB := bel_trans hB hb
  clear i1 i2 i3 hb
  rcases HD.out with rfl | hc
  · have hiok := HI.out.1 rfl
    have hw0 := hiok.w0; have hw1 := hiok.w1; have hh0 := hiok.h0; have hh1 := hiok.h1
    have HIO := Lib.hid hiok; clear hiok
    obtain ⟨⟨i1, i2, i3⟩, _, _, _⟩ := hb1.three
    go_wp2_with fail
    refine (pick_any W H A ps.length c ps _ _ _ HIO.out (HP.out.on hB)).mono ?_
    rintro e w2 ⟨rfl, hb⟩
    replace hb2 := hb2.below hb; replace hB := bel_trans hB hb
    clear i1 i2 i3 hb
    obtain ⟨⟨r1, r2, r3, r4⟩, rf1, rf2, rf3, rf4⟩ := hb2.four
    go_wp2_with fail
    refine bodyPost_ret (v := _) (by simp [results, Try.results24, go_sem, r1, r2, r3, r4]; rfl) rfl ⟨?_, set4_below hB (Nat.le_succ _) _ _ _ _ _ _ _ _⟩
    unfold edgeP; simp [HA.out]
  · have hne : (ch != 0) = true := by simp [hc]
    obtain ⟨⟨r1, r2, r3, r4⟩, rf1, rf2, rf3, rf4⟩ := hb2.four
    go_wp2_with fail
    refine bodyPost_ret (v := .agg #[.int .i64 0, .int .i64 0, .int .i64 0, .int .i64 0]) (by simp [results, Try.results24, go_sem, r1, r2, r3, r4]) rfl ⟨?_, set4_below hB (Nat.le_succ _) _ _ _ _ _ _ _ _⟩
    unfold edgeP; rw [HA.out, if_neg hc]; rfl
end Go.Proofs.Ytllmckapiplpcaa
