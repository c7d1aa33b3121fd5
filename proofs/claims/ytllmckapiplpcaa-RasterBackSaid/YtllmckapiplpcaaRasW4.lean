/- The walk of RasterBack. -/
import Derived.Test.YtllmckapiplpcaaRasW1
namespace Go.Proofs.Ytllmckapiplpcaa
open Go.RowKit

set_option maxHeartbeats 2000000 in
theorem back_err (W H : Int) (A : Option Addr) (c : Nat) (ps : List Px) (x y p q : Int) (er : Int) (hne : (er != 0) = true) (w : World) (hp : Pixs w w.heap.size (.slice A ps.length c) ps)
    (T1 : ∀ w', Pixs w' w'.heap.size (.slice A ps.length c) ps → Calls Try.prog 27 #[.agg #[.int .i64 W, .int .i64 H, .slice A ps.length c], .agg #[.int .i64 x, .int .i64 y, .int .i64 p, .int .i64 q]] w' (ImPost er 0 0 [] w')) :
    Calls Try.prog 10 #[.agg #[.int .i64 W, .int .i64 H, .slice A ps.length c], .agg #[.int .i64 x, .int .i64 y, .int .i64 p, .int .i64 q]] w fun e w' => e = .returned (.bool true) ∧ Below w.heap.size w w' := by
  have HP := Lib.hid hp; clear hp
  have HT1 := Lib.hid T1; clear T1
  go_enter Try.func10, Try.ntmps10
  go_upto_region 1 with fail
  obtain ⟨hb1, hb2, hB⟩ := two_boxes w #[.int .i64 W, .int .i64 H, .slice A ps.length c] #[.int .i64 x, .int .i64 y, .int .i64 p, .int .i64 q] 24 37 _ rfl
  generalize World.alloc (World.alloc w _) _ = w0 at *
  go_wp2_with fail
  refine (awake_any _).mono ?_
  rintro e w1 ⟨rfl, hbb⟩
  replace hb1 := hb1.below hbb; replace hb2 := hb2.below hbb; replace hB := bel_trans hB hbb
  clear hbb
  obtain ⟨⟨j1, j2, j3⟩, -⟩ := hb1.three
  obtain ⟨⟨k1, k2, k3, k4⟩, -⟩ := hb2.four
  go_wp2_with fail
  refine (HT1.out _ (HP.out.on hB)).mono ?_
  rintro e w2 ⟨A1, n1, c1, rfl, hr, hbb⟩
  clear j1 j2 j3 k1 k2 k3 k4 hb1 hb2
  replace hB := bel_trans hB hbb
  clear hbb
  go_upto_region 4 with fail
  obtain ⟨hb5, hbb, -⟩ := one_box w2 #[.int .i64 0, .int .i64 0, .slice A1 n1 c1] 24 _ rfl
  have hP1 := hr.pixs.on hbb; clear hr
  generalize World.alloc w2 _ = w3 at *
  replace hB := bel_trans hB hbb
  clear hbb
  obtain ⟨⟨t1, t2, t3⟩, -⟩ := hb5.three
  go_wp2_with fail
  refine (sm_true _ 0 0 _ _ [] hP1 (Pixs.nil _ _)).mono ?_
  rintro e w4 ⟨rfl, hbb⟩
  go_wp2_with fail
  go_ret
  exact ⟨rfl, bel_trans hB hbb⟩
set_option maxHeartbeats 2000000 in
theorem back_ok (W H : Int) (A : Option Addr) (c : Nat) (ps : List Px) (x y p q : Int) (W1 H1 : Int) (L1 : List Px) (w : World) (hp : Pixs w w.heap.size (.slice A ps.length c) ps)
    (T1 : ∀ w', Pixs w' w'.heap.size (.slice A ps.length c) ps → Calls Try.prog 27 #[.agg #[.int .i64 W, .int .i64 H, .slice A ps.length c], .agg #[.int .i64 x, .int .i64 y, .int .i64 p, .int .i64 q]] w' (ImPost 0 W1 H1 L1 w'))
    (T2 : ∀ w' A' c', Pixs w' w'.heap.size (.slice A ps.length c) ps → Pixs w' w'.heap.size (.slice A' L1.length c') L1 → Calls Try.prog 29 #[.agg #[.int .i64 W, .int .i64 H, .slice A ps.length c], .agg #[.int .i64 W1, .int .i64 H1, .slice A' L1.length c'], .agg #[.int .i64 x, .int .i64 y]] w' (ImPost 0 W H ps w')) :
    Calls Try.prog 10 #[.agg #[.int .i64 W, .int .i64 H, .slice A ps.length c], .agg #[.int .i64 x, .int .i64 y, .int .i64 p, .int .i64 q]] w fun e w' => e = .returned (.bool true) ∧ Below w.heap.size w w' := by
  have HP := Lib.hid hp; clear hp
  have HT1 := Lib.hid T1; have HT2 := Lib.hid T2; clear T1 T2
  go_enter Try.func10, Try.ntmps10
  go_upto_region 1 with fail
  obtain ⟨hb1, hb2, hB⟩ := two_boxes w #[.int .i64 W, .int .i64 H, .slice A ps.length c] #[.int .i64 x, .int .i64 y, .int .i64 p, .int .i64 q] 24 37 _ rfl
  generalize World.alloc (World.alloc w _) _ = w0 at *
  go_wp2_with fail
  refine (awake_any _).mono ?_
  rintro e w1 ⟨rfl, hbb⟩
  replace hb1 := hb1.below hbb; replace hb2 := hb2.below hbb; replace hB := bel_trans hB hbb
  clear hbb
  obtain ⟨⟨j1, j2, j3⟩, -⟩ := hb1.three
  obtain ⟨⟨k1, k2, k3, k4⟩, -⟩ := hb2.four
  go_wp2_with fail
  refine (HT1.out _ (HP.out.on hB)).mono ?_
  rintro e w2 ⟨A1, n1, c1, rfl, hr, hbb⟩
  obtain rfl := hr.pixs.len
  clear j1 j2 j3 k1 k2 k3 k4
  replace hb1 := hb1.below hbb; replace hb2 := hb2.below hbb; replace hB := bel_trans hB hbb
  clear hbb
  go_upto_region 4 with fail
  obtain ⟨hb5, hbb, -⟩ := one_box w2 #[.int .i64 W1, .int .i64 H1, .slice A1 L1.length c1] 24 _ rfl
  have hP1 := hr.pixs.on hbb; clear hr
  generalize World.alloc w2 _ = w3 at *
  replace hb1 := hb1.below hbb; replace hb2 := hb2.below hbb; replace hB := bel_trans hB hbb
  clear hbb
  obtain ⟨⟨t1, t2, t3⟩, -⟩ := hb5.three
  obtain ⟨⟨j1, j2, j3⟩, -⟩ := hb1.three
  obtain ⟨⟨k1, k2, k3, k4⟩, -⟩ := hb2.four
  go_wp2_with fail
  refine (HT2.out _ _ _ (HP.out.on hB) hP1).mono ?_
  rintro e w4 ⟨A2, n2, c2, rfl, hr, hbb⟩
  clear j1 j2 j3 k1 k2 k3 k4 t1 t2 t3 hb2 hb5 hP1
  replace hb1 := hb1.below hbb; replace hB := bel_trans hB hbb
  clear hbb
  go_upto_region 7 with fail
  obtain ⟨hb7, hbb, -⟩ := one_box w4 #[.int .i64 W, .int .i64 H, .slice A2 n2 c2] 24 _ rfl
  have hP2 := hr.pixs.on hbb; clear hr
  generalize World.alloc w4 _ = w5 at *
  replace hb1 := hb1.below hbb; replace hB := bel_trans hB hbb
  clear hbb
  obtain ⟨⟨t1, t2, t3⟩, -⟩ := hb7.three
  obtain ⟨⟨j1, j2, j3⟩, -⟩ := hb1.three
  go_wp2_with fail
  refine (sm_true _ W H _ _ ps hP2 (HP.out.on hB)).mono ?_
  rintro e w6 ⟨rfl, hbb⟩
  go_wp2_with fail
  go_ret
  exact ⟨rfl, bel_trans hB hbb⟩
/-- A part that is put back where it was restores the image. -/
theorem put_back {W H : Int} {ps : List Px} {x y p q : Int} (hc : ichk W H ps = 0) (hv : rvalid x y p q = true) (hp : p ≤ 256) (hq : q ≤ 256) :
    perr W H ps (cside p q p) (cside p q q) (cropL W H ps x y p q) = 0 ∧ putL W H ps (cside p q p) (cside p q q) (cropL W H ps x y p q) (clampC x) (clampC y) = ps := by
  have hi := (ichk_iff W H ps).1 hc
  have hv2 := (rvalid_iff x y p q).1 hv
  have hok : IOk (cside p q p) (cside p q q) (cropL W H ps x y p q) := by
    by_cases hz : p = 0 ∨ q = 0
    · unfold cside
      rw [if_pos hz, if_pos hz, cropL_nil hz]
      exact (ichk_iff 0 0 []).1 (by decide +kernel)
    · unfold cside
      rw [if_neg hz, if_neg hz]
      exact grid_ok (by omega) hp (by omega) hq (by omega) (fun a b => pick_ok hi _ _)
  refine ⟨by unfold perr; rw [if_pos hc]; exact (ichk_iff _ _ _).2 hok, ?_⟩
  have cx : clampC x = x := by unfold clampC; omega
  have cy : clampC y = y := by unfold clampC; omega
  rw [cx, cy]
  unfold putL
  rw [show gridL W H (putF W H ps (cside p q p) (cside p q q) (cropL W H ps x y p q) x y) = gridL W H (pick W H ps) from grid_congr (fun a b h1 h2 h3 h4 => ?_) hi.w0]
  · exact grid_pick hi
  · unfold putF
    split
    case isTrue d =>
      have hz : ¬ (p = 0 ∨ q = 0) := by
        intro hz
        unfold cside at d
        rw [if_pos hz, if_pos hz] at d
        omega
      unfold cside at d ⊢
      rw [if_neg hz, if_neg hz] at d ⊢
      unfold cropL
      rw [pick_grid _ ⟨d.1, d.2.1⟩ ⟨d.2.2.1, d.2.2.2⟩]
      congr 1 <;> omega
    case isFalse d => rfl
theorem walk_back (v0 : Value) (x0 : Int × Int × List Px) (v1 : Value) (x1 : Int × Int × Int × Int) (w : World) (h0 : ImgV w v0 x0) (h1 : RcV v1 x1) :
    Calls Try.prog 10 #[v0, v1] w fun e w' => e = .returned (.bool true) ∧ Below w.heap.size w w' := by
  obtain ⟨⟨A, n, c, rfl, hp⟩, _, _⟩ := h0
  obtain ⟨W, H, ps⟩ := x0
  obtain rfl := hp.len
  obtain ⟨rfl, _⟩ := h1
  obtain ⟨x, y, p, q⟩ := x1
  by_cases he : cerr (ichk W H ps) x y p q = 0
  · have hc : ichk W H ps = 0 := by
      unfold cerr at he
      by_cases hc : ichk W H ps = 0
      · exact hc
      · rw [if_neg hc] at he; exact he
    have hv : rvalid x y p q = true := by
      unfold cerr at he
      rw [if_pos hc] at he
      by_cases hv : rvalid x y p q = true
      · exact hv
      · rw [if_neg hv] at he; omega
    have hg : ¬ (256 < p ∨ 256 < q) := by
      unfold cerr at he
      rw [if_pos hc, if_pos hv] at he
      by_cases hg : 256 < p ∨ 256 < q
      · rw [if_pos hg] at he; omega
      · exact hg
    obtain ⟨b1, b2⟩ := put_back hc hv (by omega) (by omega)
    refine back_ok W H A c ps x y p q (cside p q p) (cside p q q) (cropL W H ps x y p q) w hp (fun w' h => ?_) (fun w' A' c' h h' => ?_)
    · have := crop_any W H A c ps w' h x y p q
      rw [he, imOut_ok] at this
      exact this
    · have := put_any W H A c ps (cside p q p) (cside p q q) A' c' (cropL W H ps x y p q) x y w' h h'
      rw [b1, imOut_ok, b2] at this
      exact this
  · refine back_err W H A c ps x y p q (cerr (ichk W H ps) x y p q) (by simp [he]) w hp (fun w' h => ?_)
    have := crop_any W H A c ps w' h x y p q
    rw [imOut_err he] at this
    exact this
end Go.Proofs.Ytllmckapiplpcaa
