/- raster.Check and its reference: the error of any image. -/
import Derived.Test.YtineinmghajmnaaMA
import Derived.Deep.LoopGhost
import Derived.Deep.RegionLaw
import Derived.Deep.CutRange
namespace Go.Proofs.Ytineinmghajmnaa
open Go.RowKit

set_option maxHeartbeats 1000000 in
theorem sized_any (w h : Int) (W : World) :
    Calls Try.prog 53 #[.int .i64 w, .int .i64 h] W fun e w' => e = .returned (.bool (sized w h)) ∧ W = w' := by
  by_cases h1 : 0 ≤ w
  case neg =>
    have E := Lib.hid (show sized w h = false by unfold sized; rw [decide_eq_false_iff_not]; omega)
    go_enter Try.func53, Try.ntmps53
    go_wp2
    go_ret
    exact ⟨ret_bool E.out.symm, rfl⟩
  by_cases h2 : w ≤ 256
  case neg =>
    have E := Lib.hid (show sized w h = false by unfold sized; rw [decide_eq_false_iff_not]; omega)
    go_enter Try.func53, Try.ntmps53
    go_wp2
    go_ret
    exact ⟨ret_bool E.out.symm, rfl⟩
  by_cases h3 : 0 ≤ h
  case neg =>
    have E := Lib.hid (show sized w h = false by unfold sized; rw [decide_eq_false_iff_not]; omega)
    go_enter Try.func53, Try.ntmps53
    go_wp2
    go_ret
    exact ⟨ret_bool E.out.symm, rfl⟩
  by_cases h4 : h ≤ 256
  case neg =>
    have E := Lib.hid (show sized w h = false by unfold sized; rw [decide_eq_false_iff_not]; omega)
    go_enter Try.func53, Try.ntmps53
    go_wp2
    go_ret
    exact ⟨ret_bool E.out.symm, rfl⟩
  by_cases h5 : w = 0
  · by_cases h6 : h = 0
    · subst h5 h6
      have E := Lib.hid (show sized 0 0 = true by decide)
      go_enter Try.func53, Try.ntmps53
      go_wp2
      go_ret
      exact ⟨ret_bool E.out.symm, rfl⟩
    · have h6' : (h == 0) = false := by simp [h6]
      subst h5
      have E := Lib.hid (show sized 0 h = false by unfold sized; rw [decide_eq_false_iff_not]; omega)
      go_enter Try.func53, Try.ntmps53
      go_wp2
      go_ret
      exact ⟨ret_bool E.out.symm, rfl⟩
  · have h5' : (w == 0) = false := by simp [h5]
    by_cases h6 : h = 0
    · subst h6
      have E := Lib.hid (show sized w 0 = false by unfold sized; rw [decide_eq_false_iff_not]; omega)
      go_enter Try.func53, Try.ntmps53
      go_wp2
      go_ret
      exact ⟨ret_bool E.out.symm, rfl⟩
    · have h6' : (h == 0) = false := by simp [h6]
      have E := Lib.hid (show sized w h = true by unfold sized; rw [decide_eq_true_eq]; omega)
      go_enter Try.func53, Try.ntmps53
      go_wp2
      go_ret
      exact ⟨ret_bool E.out.symm, rfl⟩

theorem wh_bd (w h : Int) (h1 : sized w h = true) : 0 ≤ w * h ∧ w * h ≤ 65536 := by
  unfold sized at h1
  rw [decide_eq_true_eq] at h1
  have e1 : w * h ≤ 256 * 256 := Int.mul_le_mul (by omega) (by omega) (by omega) (by omega)
  have e0 : 0 ≤ w * h := Int.mul_nonneg (by omega) (by omega)
  omega

/-- The loop's head. -/
def ChkIRel (ps : List Px) (w : World) (i : Value) (wr : World) : Prop :=
  ∃ k : Nat, k ≤ ps.length ∧ i = .int .i64 k ∧ (∀ j, j < k → (pat ps j).ok) ∧ Below w.heap.size w wr

theorem px_eta (p : Px) : (⟨p.r, p.g, p.b, p.a⟩ : Px) = p := rfl

set_option maxHeartbeats 2000000 in
theorem icheck_any (W H : Int) (A : Option Addr) (n c : Nat) (ps : List Px) (w : World) (h : Pixs w w.heap.size (.slice A n c) ps) :
    Calls Try.prog 22 #[.agg #[.int .i64 W, .int .i64 H, .slice A n c]] w fun e w' => e = .returned (.int .i64 (ichk W H ps)) ∧ Below w.heap.size w w' := by
  obtain rfl := h.len
  have hmx := h.max
  by_cases hs : sized W H = true
  case neg =>
    have hs' : sized W H = false := by simpa using hs
    have E := Lib.hid (show ichk W H ps = 15 by unfold ichk; rw [if_neg (fun e => hs e.1)])
    have HS := Lib.hid hs'; clear hs hs' h
    go_enter Try.func22, Try.ntmps22
    go_wp2_with fail
    refine (sized_any _ _ _).mono ?_
    rintro e w1 ⟨rfl, rfl⟩
    rw [HS.out]
    go_wp2_with fail
    go_ret
    exact ⟨ret_int E.out.symm, bel_alloc (Below.refl _ _) _⟩
  have hwh := wh_bd W H hs
  by_cases hl : (ps.length : Int) = W * H
  case neg =>
    have E := Lib.hid (show ichk W H ps = 15 by unfold ichk; rw [if_neg (fun e => hl e.2)])
    have hne : ((ps.length : Int) != W * H) = true := by simp [hl]
    have HS := Lib.hid hs; clear hs h hl
    go_enter Try.func22, Try.ntmps22
    go_wp2_with fail
    refine (sized_any _ _ _).mono ?_
    rintro e w1 ⟨rfl, rfl⟩
    rw [HS.out]
    go_wp2_with fail
    go_ret
    exact ⟨ret_int E.out.symm, bel_alloc (Below.refl _ _) _⟩
  have E := Lib.hid (show ichk W H ps = if allOk ps then 0 else 2 by unfold ichk; rw [if_pos ⟨hs, hl⟩])
  have hne : ((ps.length : Int) != W * H) = false := by simp [hl]
  have hln : ps.length ≤ 65536 := by omega
  have HS := Lib.hid hs; clear hs hl
  have HP := Lib.hid h; clear h
  go_enter Try.func22, Try.ntmps22
  go_wp2_with fail
  refine (sized_any _ _ _).mono ?_
  rintro e w1 ⟨rfl, rfl⟩
  rw [HS.out]
  go_wp2_with fail
  have HP0 := Lib.hid (HP.out.alloc (.cells #[.int .i64 W, .int .i64 H, .slice A ps.length c] 24))
  have hB0 : Below w.heap.size w (w.alloc (.cells #[.int .i64 W, .int .i64 H, .slice A ps.length c] 24)) := bel_alloc (Below.refl _ _) _
  go_loopw [25] (ChkIRel ps (w.alloc (.cells #[.int .i64 W, .int .i64 H, .slice A ps.length c] 24))) (fun i _ => ps.length - (intOf i).toNat)
  case atStart => exact ⟨0, Nat.zero_le _, rfl, fun j hj => absurd hj (by omega), Below.refl _ _⟩
  case round =>
    obtain ⟨k, hk, rfl, hj, hbel⟩ := hrel
    have HJ := Lib.hid hj; clear hj
    by_cases hlt : k < ps.length
    · have hP := HP0.out.on hbel
      obtain ⟨A', c', ev, _, hc⟩ := hP
      obtain ⟨b, o, rfl, hb, c1, c2, c3, c4⟩ := hc k hlt
      injection ev with ev1 _ ev3
      subst ev1
      clear hc ev3
      have HNO := Lib.hid (allOk_no ps k hlt)
      generalize hp : pat ps k = p at *
      have HPK := Lib.hid hp; clear hp
      obtain ⟨r, g, bl, al⟩ := p
      simp only at c1 c2 c3 c4
      by_cases hok : (Px.mk r g bl al).ok
      · have HOK := Lib.hid ((pxOk_iff _).2 hok)
        have HO := Lib.hid hok; clear hok
        go_wp2_with fail
        refine (pvalid_any _ _ _ _ _).mono ?_
        rintro e w4 ⟨rfl, hb4⟩
        rw [HOK.out]
        go_wp2_with fail
        go_roundw
        case rel =>
          refine ⟨k + 1, by omega, by go_num, fun j hj => ?_, (hbel.alloc hbel.size _).trans (hb4.mono (by have := hbel.size; simp at this ⊢; omega))⟩
          by_cases e : j = k
          · subst e; rw [HPK.out]; exact HO.out
          · exact HJ.out j (by omega)
        case measure => simp [intOf]; omega
      · have HOK := Lib.hid (show pxOk ⟨r, g, bl, al⟩ = false by rw [Bool.eq_false_iff]; intro e; exact hok ((pxOk_iff _).1 e))
        have E2 := Lib.hid (HNO.out hok)
        go_wp2_with fail
        refine (pvalid_any _ _ _ _ _).mono ?_
        rintro e w4 ⟨rfl, hb4⟩
        rw [HOK.out]
        go_wp2_with fail
        go_ret
        exact ⟨ret_int (by rw [E.out, E2.out]; rfl), bel_trans hB0 ((hbel.alloc hbel.size _).trans (hb4.mono (by have := hbel.size; simp at this ⊢; omega)))⟩
    · have E2 := Lib.hid (show allOk ps = true by rw [allOk_iff]; intro i hi; exact HJ.out i (by omega))
      go_wp2_with fail
      go_ret
      exact ⟨ret_int (by rw [E.out, E2.out]; rfl), bel_trans hB0 hbel⟩
end Go.Proofs.Ytineinmghajmnaa
namespace Go.Proofs.Ytineinmghajmnaa
open Go.RowKit

/-- The pixel of an image at a place, the zero pixel outside. -/
def pick (W H : Int) (ps : List Px) (x y : Int) : Px := if 0 ≤ x ∧ x < W ∧ 0 ≤ y ∧ y < H then pat ps (y * W + x).toNat else Px.zero
/-- A pixel is returned. -/
def PxPost (p : Px) (w : World) (e : Ending) (w' : World) : Prop := e = .returned (.agg #[.int .i64 p.r, .int .i64 p.g, .int .i64 p.b, .int .i64 p.a]) ∧ Below w.heap.size w w'
theorem bel1 (w : World) (o : Obj) : Below w.heap.size w (w.alloc o) := bel_alloc (Below.refl _ _) _
theorem pick_out {W H : Int} {ps : List Px} {x y : Int} (h : ¬ (0 ≤ x ∧ x < W ∧ 0 ≤ y ∧ y < H)) : pick W H ps x y = Px.zero := by unfold pick; rw [if_neg h]
theorem pick_in {W H : Int} {ps : List Px} {x y : Int} (h : 0 ≤ x ∧ x < W ∧ 0 ≤ y ∧ y < H) : pick W H ps x y = pat ps (y * W + x).toNat := by unfold pick; rw [if_pos h]
theorem idx_lt {W H x y : Int} (h : 0 ≤ x ∧ x < W ∧ 0 ≤ y ∧ y < H) : 0 ≤ y * W ∧ y * W + x < W * H := by
  have h1 : 0 ≤ y * W := Int.mul_nonneg (by omega) (by omega)
  have h2 : (y + 1) * W ≤ H * W := Int.mul_le_mul_of_nonneg_right (by omega) (by omega)
  rw [Int.add_mul, Int.one_mul, Int.mul_comm H W] at h2
  omega
theorem iok_len {W H : Int} {ps : List Px} (i : IOk W H ps) : W * H ≤ 65536 := by
  have := Int.mul_le_mul i.w1 i.h1 i.h0 (by omega)
  omega
theorem set4_below {B : Nat} {w0 w : World} {g : Nat} (h : Below B w0 w) (hg : B ≤ g) (j0 j1 j2 j3 : Nat) (a b c d : Value) : Below B w0 ((((w.setCell ⟨g, j0, none⟩ a).setCell ⟨g, j1, none⟩ b).setCell ⟨g, j2, none⟩ c).setCell ⟨g, j3, none⟩ d) :=
  (((h.setCell (p := ⟨g, j0, none⟩) hg a).setCell (p := ⟨g, j1, none⟩) hg b).setCell (p := ⟨g, j2, none⟩) hg c).setCell (p := ⟨g, j3, none⟩) hg d
theorem set3_below {B : Nat} {w0 w : World} {g : Nat} (h : Below B w0 w) (hg : B ≤ g) (a b c : Value) : Below B w0 (((w.setCell ⟨g, 0, none⟩ a).setCell ⟨g, 1, none⟩ b).setCell ⟨g, 2, none⟩ c) :=
  ((h.setCell (p := ⟨g, 0, none⟩) hg a).setCell (p := ⟨g, 1, none⟩) hg b).setCell (p := ⟨g, 2, none⟩) hg c
theorem two_boxes (w : World) (vs us : Array Value) (t u : TypeId) (w0 : World) (hw : w0 = (w.alloc (.cells vs t)).alloc (.cells us u)) : Bx w0 w.heap.size t vs ∧ Bx w0 (w.heap.size + 1) u us ∧ Below w.heap.size w w0 := by
  subst hw
  have b := Bx.new (w.alloc (.cells vs t)) u us
  rw [World.size_alloc] at b
  exact ⟨(Bx.new w t vs).alloc _, b, bel_alloc (bel1 _ _) _⟩
theorem size_set (w : World) (a : Addr) (v : Value) : (w.setCell a v).heap.size = w.heap.size := by simp [World.setCell]

set_option maxHeartbeats 2000000 in
theorem at_any (W H : Int) (A : Option Addr) (n c : Nat) (ps : List Px) (x y : Int) (w : World) (hi : IOk W H ps) (h : Pixs w w.heap.size (.slice A n c) ps) :
    Calls Try.prog 54 #[.agg #[.int .i64 W, .int .i64 H, .slice A n c], .int .i64 x, .int .i64 y] w (PxPost (pick W H ps x y) w) := by
  obtain rfl := h.len
  by_cases h0 : 0 ≤ x
  case neg =>
    have E := Lib.hid (pick_out (W := W) (H := H) (ps := ps) (x := x) (y := y) (by omega))
    clear h hi
    go_enter Try.func54, Try.ntmps54
    go_upto_region 1 with fail
    obtain ⟨hb1, hb2, hB⟩ := two_boxes w #[.int .i64 W, .int .i64 H, .slice A ps.length c] #[.int .i64 0, .int .i64 0, .int .i64 0, .int .i64 0] 24 27 _ rfl
    skip
    generalize World.alloc (w.alloc _) _ = w0 at *
    have HB := Lib.hid hB; clear hB
    obtain ⟨⟨i1, i2, i3⟩, _, _, _⟩ := hb1.three
    obtain ⟨⟨r1, r2, r3, r4⟩, rf1, rf2, rf3, rf4⟩ := hb2.four
    clear hb1 hb2
    go_wp2_with fail
    refine bodyPost_ret (v := .agg #[.int .i64 0, .int .i64 0, .int .i64 0, .int .i64 0]) (by simp [results, Try.results54, go_sem, r1, r2, r3, r4]) rfl ⟨by rw [E.out]; rfl, ?_⟩
    exact set4_below HB.out (Nat.le_succ _) _ _ _ _ _ _ _ _
  by_cases h1 : x < W
  case neg =>
    have E := Lib.hid (pick_out (W := W) (H := H) (ps := ps) (x := x) (y := y) (by omega))
    clear h hi
    go_enter Try.func54, Try.ntmps54
    go_upto_region 1 with fail
    obtain ⟨hb1, hb2, hB⟩ := two_boxes w #[.int .i64 W, .int .i64 H, .slice A ps.length c] #[.int .i64 0, .int .i64 0, .int .i64 0, .int .i64 0] 24 27 _ rfl
    skip
    generalize World.alloc (w.alloc _) _ = w0 at *
    have HB := Lib.hid hB; clear hB
    obtain ⟨⟨i1, i2, i3⟩, _, _, _⟩ := hb1.three
    obtain ⟨⟨r1, r2, r3, r4⟩, rf1, rf2, rf3, rf4⟩ := hb2.four
    clear hb1 hb2
    go_wp2_with fail
    refine bodyPost_ret (v := .agg #[.int .i64 0, .int .i64 0, .int .i64 0, .int .i64 0]) (by simp [results, Try.results54, go_sem, r1, r2, r3, r4]) rfl ⟨by rw [E.out]; rfl, ?_⟩
    exact set4_below HB.out (Nat.le_succ _) _ _ _ _ _ _ _ _
  by_cases h2 : 0 ≤ y
  case neg =>
    have E := Lib.hid (pick_out (W := W) (H := H) (ps := ps) (x := x) (y := y) (by omega))
    clear h hi
    go_enter Try.func54, Try.ntmps54
    go_upto_region 1 with fail
    obtain ⟨hb1, hb2, hB⟩ := two_boxes w #[.int .i64 W, .int .i64 H, .slice A ps.length c] #[.int .i64 0, .int .i64 0, .int .i64 0, .int .i64 0] 24 27 _ rfl
    skip
    generalize World.alloc (w.alloc _) _ = w0 at *
    have HB := Lib.hid hB; clear hB
    obtain ⟨⟨i1, i2, i3⟩, _, _, _⟩ := hb1.three
    obtain ⟨⟨r1, r2, r3, r4⟩, rf1, rf2, rf3, rf4⟩ := hb2.four
    clear hb1 hb2
    go_wp2_with fail
    refine bodyPost_ret (v := .agg #[.int .i64 0, .int .i64 0, .int .i64 0, .int .i64 0]) (by simp [results, Try.results54, go_sem, r1, r2, r3, r4]) rfl ⟨by rw [E.out]; rfl, ?_⟩
    exact set4_below HB.out (Nat.le_succ _) _ _ _ _ _ _ _ _
  by_cases h3 : y < H
  case neg =>
    have E := Lib.hid (pick_out (W := W) (H := H) (ps := ps) (x := x) (y := y) (by omega))
    clear h hi
    go_enter Try.func54, Try.ntmps54
    go_upto_region 1 with fail
    obtain ⟨hb1, hb2, hB⟩ := two_boxes w #[.int .i64 W, .int .i64 H, .slice A ps.length c] #[.int .i64 0, .int .i64 0, .int .i64 0, .int .i64 0] 24 27 _ rfl
    skip
    generalize World.alloc (w.alloc _) _ = w0 at *
    have HB := Lib.hid hB; clear hB
    obtain ⟨⟨i1, i2, i3⟩, _, _, _⟩ := hb1.three
    obtain ⟨⟨r1, r2, r3, r4⟩, rf1, rf2, rf3, rf4⟩ := hb2.four
    clear hb1 hb2
    go_wp2_with fail
    refine bodyPost_ret (v := .agg #[.int .i64 0, .int .i64 0, .int .i64 0, .int .i64 0]) (by simp [results, Try.results54, go_sem, r1, r2, r3, r4]) rfl ⟨by rw [E.out]; rfl, ?_⟩
    exact set4_below HB.out (Nat.le_succ _) _ _ _ _ _ _ _ _
  have hr := idx_lt (W := W) (H := H) (x := x) (y := y) ⟨h0, h1, h2, h3⟩
  have hl := iok_len hi
  have hn := hi.n
  obtain ⟨m, hm⟩ : ∃ m : Nat, y * W + x = m := ⟨(y * W + x).toNat, by omega⟩
  have hml : m < ps.length := by omega
  have E := Lib.hid (pick_in (W := W) (H := H) (ps := ps) (x := x) (y := y) ⟨h0, h1, h2, h3⟩)
  rw [hm, Int.toNat_natCast] at E
  obtain ⟨A', c', ev, _, hc⟩ := h
  obtain ⟨b, o, rfl, hb, c1, c2, c3, c4⟩ := hc m hml
  injection ev with ev1 _ ev3
  subst ev1
  have hW := hi.w1
  have hH := hi.h1
  clear hc ev3 hi
  generalize pat ps m = p at *
  go_enter Try.func54, Try.ntmps54
  go_upto_region 1 with fail
  obtain ⟨hb1, hb2, hB⟩ := two_boxes w #[.int .i64 W, .int .i64 H, .slice (some ⟨b, o, none⟩) ps.length c] #[.int .i64 0, .int .i64 0, .int .i64 0, .int .i64 0] 24 27 _ rfl
  replace c1 := (hB.cell (p := ⟨b, o + m * 4, none⟩) hb).trans c1; replace c2 := (hB.cell (p := ⟨b, o + m * 4 + 1, none⟩) hb).trans c2; replace c3 := (hB.cell (p := ⟨b, o + m * 4 + 2, none⟩) hb).trans c3; replace c4 := (hB.cell (p := ⟨b, o + m * 4 + 3, none⟩) hb).trans c4
  generalize World.alloc (w.alloc _) _ = w0 at *
  have HB := Lib.hid hB; clear hB
  obtain ⟨⟨i1, i2, i3⟩, _, _, _⟩ := hb1.three
  obtain ⟨⟨r1, r2, r3, r4⟩, rf1, rf2, rf3, rf4⟩ := hb2.four
  clear hb1 hb2
  go_wp2_with fail
  refine bodyPost_ret (v := .agg #[.int .i64 p.r, .int .i64 p.g, .int .i64 p.b, .int .i64 p.a]) (by simp [results, Try.results54, go_sem, r1, r2, r3, r4]) rfl ⟨by rw [E.out], ?_⟩
  exact set4_below HB.out (Nat.le_succ _) _ _ _ _ _ _ _ _

set_option maxHeartbeats 2000000 in
theorem pick_any (W H : Int) (A : Option Addr) (n c : Nat) (ps : List Px) (x y : Int) (w : World) (hi : IOk W H ps) (h : Pixs w w.heap.size (.slice A n c) ps) :
    Calls Try.prog 90 #[.agg #[.int .i64 W, .int .i64 H, .slice A n c], .int .i64 x, .int .i64 y] w (PxPost (pick W H ps x y) w) := by
  obtain rfl := h.len
  by_cases h0 : 0 ≤ x
  case neg =>
    have E := Lib.hid (pick_out (W := W) (H := H) (ps := ps) (x := x) (y := y) (by omega))
    clear h hi
    go_enter Try.func90, Try.ntmps90
    go_upto_region 1 with fail
    obtain ⟨hb1, hb2, hB⟩ := two_boxes w #[.int .i64 W, .int .i64 H, .slice A ps.length c] #[.int .i64 0, .int .i64 0, .int .i64 0, .int .i64 0] 24 27 _ rfl
    skip
    generalize World.alloc (w.alloc _) _ = w0 at *
    have HB := Lib.hid hB; clear hB
    obtain ⟨⟨i1, i2, i3⟩, _, _, _⟩ := hb1.three
    obtain ⟨⟨r1, r2, r3, r4⟩, rf1, rf2, rf3, rf4⟩ := hb2.four
    clear hb1 hb2
    go_wp2_with fail
    refine bodyPost_ret (v := .agg #[.int .i64 0, .int .i64 0, .int .i64 0, .int .i64 0]) (by simp [results, Try.results90, go_sem, r1, r2, r3, r4]) rfl ⟨by rw [E.out]; rfl, ?_⟩
    exact set4_below HB.out (Nat.le_succ _) _ _ _ _ _ _ _ _
  by_cases h1 : x < W
  case neg =>
    have E := Lib.hid (pick_out (W := W) (H := H) (ps := ps) (x := x) (y := y) (by omega))
    clear h hi
    go_enter Try.func90, Try.ntmps90
    go_upto_region 1 with fail
    obtain ⟨hb1, hb2, hB⟩ := two_boxes w #[.int .i64 W, .int .i64 H, .slice A ps.length c] #[.int .i64 0, .int .i64 0, .int .i64 0, .int .i64 0] 24 27 _ rfl
    skip
    generalize World.alloc (w.alloc _) _ = w0 at *
    have HB := Lib.hid hB; clear hB
    obtain ⟨⟨i1, i2, i3⟩, _, _, _⟩ := hb1.three
    obtain ⟨⟨r1, r2, r3, r4⟩, rf1, rf2, rf3, rf4⟩ := hb2.four
    clear hb1 hb2
    go_wp2_with fail
    refine bodyPost_ret (v := .agg #[.int .i64 0, .int .i64 0, .int .i64 0, .int .i64 0]) (by simp [results, Try.results90, go_sem, r1, r2, r3, r4]) rfl ⟨by rw [E.out]; rfl, ?_⟩
    exact set4_below HB.out (Nat.le_succ _) _ _ _ _ _ _ _ _
  by_cases h2 : 0 ≤ y
  case neg =>
    have E := Lib.hid (pick_out (W := W) (H := H) (ps := ps) (x := x) (y := y) (by omega))
    clear h hi
    go_enter Try.func90, Try.ntmps90
    go_upto_region 1 with fail
    obtain ⟨hb1, hb2, hB⟩ := two_boxes w #[.int .i64 W, .int .i64 H, .slice A ps.length c] #[.int .i64 0, .int .i64 0, .int .i64 0, .int .i64 0] 24 27 _ rfl
    skip
    generalize World.alloc (w.alloc _) _ = w0 at *
    have HB := Lib.hid hB; clear hB
    obtain ⟨⟨i1, i2, i3⟩, _, _, _⟩ := hb1.three
    obtain ⟨⟨r1, r2, r3, r4⟩, rf1, rf2, rf3, rf4⟩ := hb2.four
    clear hb1 hb2
    go_wp2_with fail
    refine bodyPost_ret (v := .agg #[.int .i64 0, .int .i64 0, .int .i64 0, .int .i64 0]) (by simp [results, Try.results90, go_sem, r1, r2, r3, r4]) rfl ⟨by rw [E.out]; rfl, ?_⟩
    exact set4_below HB.out (Nat.le_succ _) _ _ _ _ _ _ _ _
  by_cases h3 : y < H
  case neg =>
    have E := Lib.hid (pick_out (W := W) (H := H) (ps := ps) (x := x) (y := y) (by omega))
    clear h hi
    go_enter Try.func90, Try.ntmps90
    go_upto_region 1 with fail
    obtain ⟨hb1, hb2, hB⟩ := two_boxes w #[.int .i64 W, .int .i64 H, .slice A ps.length c] #[.int .i64 0, .int .i64 0, .int .i64 0, .int .i64 0] 24 27 _ rfl
    skip
    generalize World.alloc (w.alloc _) _ = w0 at *
    have HB := Lib.hid hB; clear hB
    obtain ⟨⟨i1, i2, i3⟩, _, _, _⟩ := hb1.three
    obtain ⟨⟨r1, r2, r3, r4⟩, rf1, rf2, rf3, rf4⟩ := hb2.four
    clear hb1 hb2
    go_wp2_with fail
    refine bodyPost_ret (v := .agg #[.int .i64 0, .int .i64 0, .int .i64 0, .int .i64 0]) (by simp [results, Try.results90, go_sem, r1, r2, r3, r4]) rfl ⟨by rw [E.out]; rfl, ?_⟩
    exact set4_below HB.out (Nat.le_succ _) _ _ _ _ _ _ _ _
  have hr := idx_lt (W := W) (H := H) (x := x) (y := y) ⟨h0, h1, h2, h3⟩
  have hl := iok_len hi
  have hn := hi.n
  obtain ⟨m, hm⟩ : ∃ m : Nat, y * W + x = m := ⟨(y * W + x).toNat, by omega⟩
  have hml : m < ps.length := by omega
  have E := Lib.hid (pick_in (W := W) (H := H) (ps := ps) (x := x) (y := y) ⟨h0, h1, h2, h3⟩)
  rw [hm, Int.toNat_natCast] at E
  obtain ⟨A', c', ev, _, hc⟩ := h
  obtain ⟨b, o, rfl, hb, c1, c2, c3, c4⟩ := hc m hml
  injection ev with ev1 _ ev3
  subst ev1
  have hW := hi.w1
  have hH := hi.h1
  clear hc ev3 hi
  generalize pat ps m = p at *
  go_enter Try.func90, Try.ntmps90
  go_upto_region 1 with fail
  obtain ⟨hb1, hb2, hB⟩ := two_boxes w #[.int .i64 W, .int .i64 H, .slice (some ⟨b, o, none⟩) ps.length c] #[.int .i64 0, .int .i64 0, .int .i64 0, .int .i64 0] 24 27 _ rfl
  replace c1 := (hB.cell (p := ⟨b, o + m * 4, none⟩) hb).trans c1; replace c2 := (hB.cell (p := ⟨b, o + m * 4 + 1, none⟩) hb).trans c2; replace c3 := (hB.cell (p := ⟨b, o + m * 4 + 2, none⟩) hb).trans c3; replace c4 := (hB.cell (p := ⟨b, o + m * 4 + 3, none⟩) hb).trans c4
  generalize World.alloc (w.alloc _) _ = w0 at *
  have HB := Lib.hid hB; clear hB
  obtain ⟨⟨i1, i2, i3⟩, _, _, _⟩ := hb1.three
  obtain ⟨⟨r1, r2, r3, r4⟩, rf1, rf2, rf3, rf4⟩ := hb2.four
  clear hb1 hb2
  go_wp2_with fail
  refine bodyPost_ret (v := .agg #[.int .i64 p.r, .int .i64 p.g, .int .i64 p.b, .int .i64 p.a]) (by simp [results, Try.results90, go_sem, r1, r2, r3, r4]) rfl ⟨by rw [E.out], ?_⟩
  exact set4_below HB.out (Nat.le_succ _) _ _ _ _ _ _ _ _

/-- A new image of zero pixels. -/
def BlankPost (W H : Int) (n : Nat) (w : World) (e : Ending) (w' : World) : Prop :=
  ∃ g, e = .returned (.agg #[.int .i64 W, .int .i64 H, .slice (some ⟨g, 0, none⟩) n n]) ∧ PRow w' w.heap.size (.slice (some ⟨g, 0, none⟩) n n) (List.replicate n Px.zero) ∧ Below w.heap.size w w'
/-- make([]api.Pixel, n). -/
theorem pmake (w : World) {ops : Array Oper} {rest : List Oper} {o : Oper} {a : Act} {Q : Exit → Act → World → Prop} (hgd : o.guard = none) (l c : Operand)
    (ho : o.op = .makeSlice 22 l c) (B : Nat) (L C : Int) (n : Nat) (hl : a.eval l = .int .i64 L) (hc : a.eval c = .int .i64 C) (hL : L = n) (hC : C = n) (hn : n ≤ 1000000000) (hB : B ≤ w.heap.size)
    (h : ∀ w', PRow w' B (.slice (some ⟨w.heap.size, 0, none⟩) n n) (List.replicate n Px.zero) → Below w.heap.size w w' → wpList Try.prog ops Q rest (a.put o.dst (.slice (some ⟨w.heap.size, 0, none⟩) n n)) w') : wpList Try.prog ops Q (o :: rest) a w := by
  obtain ⟨i0, hi0, hz0, hz1, hz2⟩ := info_parts Try.infoPx
  refine fmake 27 4 22 32 i0 _ Try.underlying22 hi0 hz0 hz1 hz2 rfl (by omega) (by omega) w hgd l c ho B L C n hl hc hL hC hn hB fun w' h1 h2 => h w' ?_ h2
  unfold PRow
  rw [List.length_replicate, flat4_rep]
  exact h1
set_option maxHeartbeats 2000000 in
theorem blank_any (W H : Int) (n : Nat) (w : World) (hn : W * H = n) (hl : n ≤ 65536) :
    Calls Try.prog 56 #[.int .i64 W, .int .i64 H] w (BlankPost W H n w) := by
  have hm0 : 0 ≤ W * H := by omega
  have hm1 : W * H ≤ 65536 := by omega
  go_enter Try.func56, Try.ntmps56
  go_upto_region 1 with fail
  have hbx := Bx.new w 24 #[.int .i64 0, .int .i64 0, .slice none 0 0]
  have hB := bel1 w (.cells #[.int .i64 0, .int .i64 0, .slice none 0 0] 24)
  have hsz : (w.alloc (.cells #[.int .i64 0, .int .i64 0, .slice none 0 0] 24)).heap.size = w.heap.size + 1 := by simp
  generalize World.alloc w _ = w0 at *
  have hsz0 : w.heap.size + 1 ≤ w0.heap.size := by omega
  go_wp2_with (at_make; refine pmake _ rfl _ _ rfl (w.heap.size + 1) _ _ n rfl rfl (by omega) (by omega) (by omega) hsz0 ?_; intro w5 hrow hbw; have hbx5 := hbx.below hbw; obtain ⟨⟨s0, s1, s2⟩, sf0, sf1, sf2⟩ := hbx5.three)
  refine bodyPost_ret (v := .agg #[.int .i64 W, .int .i64 H, .slice (some ⟨w0.heap.size, 0, none⟩) n n]) (by simp [results, Try.results56, go_sem, s0, s1, s2]) rfl ⟨_, rfl, ?_, ?_⟩
  · exact ((hrow.set (Nat.lt_succ_self _) (Nat.le_refl _)).set (Nat.lt_succ_self _) (Nat.le_refl _)).set (Nat.lt_succ_self _) (Nat.le_succ _)
  · exact set3_below (bel_trans hB hbw) (Nat.le_refl _) _ _ _
end Go.Proofs.Ytineinmghajmnaa
namespace Go.Proofs.Ytineinmghajmnaa
open Go.RowKit

section
variable {w w' : World} {B g n cap : Nat} {ps : List Px}
theorem PRow.len (h : PRow w B (.slice (some ⟨g, 0, none⟩) n cap) ps) : ps.length = n := by
  obtain ⟨A, c, e⟩ := h.shape
  injection e with _ e _
  exact e.symm
theorem PRow.put (h : PRow w B (.slice (some ⟨g, 0, none⟩) n cap) ps) (k : Nat) (hk : k < n) (p : Px) :
    PRow ((((w.setCell ⟨g, k * 4, none⟩ (.int .i64 p.r)).setCell ⟨g, k * 4 + 1, none⟩ (.int .i64 p.g)).setCell ⟨g, k * 4 + 2, none⟩ (.int .i64 p.b)).setCell ⟨g, k * 4 + 3, none⟩ (.int .i64 p.a)) B (.slice (some ⟨g, 0, none⟩) n cap) (ps.set k p) := by
  obtain rfl := h.len
  have h1 : FRow 27 4 w B (.slice (some ⟨g, 0, none⟩) ps.length cap) ps.length (flat4 ps) := h
  have h2 := (((h1.stored (k * 4) p.r).stored (k * 4 + 1) p.g).stored (k * 4 + 2) p.b).stored (k * 4 + 3) p.a
  unfold PRow
  rw [List.length_set, flat4_set ps k p hk]
  exact h2
theorem PRow.at4 (h : PRow w B (.slice (some ⟨g, 0, none⟩) n cap) ps) {k : Nat} (hk : k < n) :
    (w.cell? ⟨g, k * 4, none⟩ = some (.int .i64 (pat ps k).r) ∧ w.cell? ⟨g, k * 4 + 1, none⟩ = some (.int .i64 (pat ps k).g) ∧ w.cell? ⟨g, k * 4 + 2, none⟩ = some (.int .i64 (pat ps k).b) ∧ w.cell? ⟨g, k * 4 + 3, none⟩ = some (.int .i64 (pat ps k).a)) ∧
    (w.frozen? ⟨g, k * 4, none⟩ = false ∧ w.frozen? ⟨g, k * 4 + 1, none⟩ = false ∧ w.frozen? ⟨g, k * 4 + 2, none⟩ = false ∧ w.frozen? ⟨g, k * 4 + 3, none⟩ = false) := by
  obtain rfl := h.len
  have h1 : FRow 27 4 w B (.slice (some ⟨g, 0, none⟩) ps.length cap) ps.length (flat4 ps) := h
  have hh := flat4_get ps k hk
  exact ⟨⟨h1.cell hh.1, h1.cell hh.2.1, h1.cell hh.2.2.1, h1.cell hh.2.2.2⟩, h1.frozen _, h1.frozen _, h1.frozen _, h1.frozen _⟩
theorem PRow.lo (h : PRow w B (.slice (some ⟨g, 0, none⟩) n cap) ps) : B ≤ g ∧ g < w.heap.size := World.ownsRow.lt h g rfl
end
section
variable {B g g' : Nat} {a w : World}
theorem KB.bx {t : TypeId} {vs : Array Value} (h : KB B g a w) (hb : Bx a g' t vs) (hl : g' < B) (hn : g' ≠ g) : Bx w g' t vs := (h.block g' hl hn).trans hb
theorem KB.pixs {v : Value} {ps : List Px} {B' : Nat} (h : KB B g a w) (hp : Pixs a B' v ps) (h1 : B' ≤ g) (h2 : B' ≤ B) : Pixs w B' v ps := hp.keep fun b o hb => h.cell (Nat.lt_of_lt_of_le hb h2) (by omega)
theorem KB.set4 (h : KB B g a w) (j0 j1 j2 j3 : Nat) (x y z u : Value) : KB B g a ((((w.setCell ⟨g, j0, none⟩ x).setCell ⟨g, j1, none⟩ y).setCell ⟨g, j2, none⟩ z).setCell ⟨g, j3, none⟩ u) := (((h.set _ _).set _ _).set _ _).set _ _
end
/-- The head of a loop that fills the pixels of a new image. -/
def FillRel (l : List Px) (g B n : Nat) (w0 : World) (gh : Nat) (i : Value) (wr : World) : Prop :=
  ∃ k : Nat, k ≤ l.length ∧ gh = l.length - k ∧ i = .int .i64 k ∧ PRow wr B (.slice (some ⟨g, 0, none⟩) n n) (partD Px.zero l k) ∧ KB w0.heap.size g w0 wr
theorem FillRel.start {l : List Px} {g B n : Nat} {w0 : World} (hn : l.length = n) (h : PRow w0 B (.slice (some ⟨g, 0, none⟩) n n) (List.replicate n Px.zero)) : FillRel l g B n w0 n (.int .i64 0) w0 :=
  ⟨0, Nat.zero_le _, by omega, rfl, by rw [partD_zero, hn]; exact h, KB.refl _ _ _⟩
theorem part_put {l : List Px} {g B n cap k : Nat} {w : World} (hk : k < l.length) (hn : l.length = n) (h : PRow w B (.slice (some ⟨g, 0, none⟩) n cap) (partD Px.zero l k)) {p : Px} (hp : pat l k = p) :
    PRow ((((w.setCell ⟨g, k * 4, none⟩ (.int .i64 p.r)).setCell ⟨g, k * 4 + 1, none⟩ (.int .i64 p.g)).setCell ⟨g, k * 4 + 2, none⟩ (.int .i64 p.b)).setCell ⟨g, k * 4 + 3, none⟩ (.int .i64 p.a)) B (.slice (some ⟨g, 0, none⟩) n cap) (partD Px.zero l (k + 1)) := by
  rw [← partD_set Px.zero l k hk, show l.getD k Px.zero = p from hp]
  exact h.put k (by omega) p
/-- An image and an error. -/
def ImPost (err W H : Int) (ps : List Px) (w : World) (e : Ending) (w' : World) : Prop :=
  ∃ A n c, e = .returned (.tuple #[.agg #[.int .i64 W, .int .i64 H, .slice A n c], .int .i64 err]) ∧ PRow w' w.heap.size (.slice A n c) ps ∧ Below w.heap.size w w'
def ImOut (err W H : Int) (ps : List Px) : World → Ending → World → Prop := ImPost err (if err = 0 then W else 0) (if err = 0 then H else 0) (if err = 0 then ps else [])
theorem imOut_err {err W H : Int} {l : List Px} (h : err ≠ 0) : ImOut err W H l = ImPost err 0 0 [] := by unfold ImOut; simp [h]
theorem imOut_of {err W H : Int} {l : List Px} {w w' : World} {e : Ending} (h : err ≠ 0) (hp : ImPost err 0 0 [] w e w') : ImOut err W H l w e w' := by rw [imOut_err h]; exact hp
theorem imOut_ok (W H : Int) (l : List Px) : ImOut 0 W H l = ImPost 0 W H l := by unfold ImOut; simp
theorem PRow.set3 {w : World} {B B' g : Nat} {v : Value} {ps : List Px} (h : PRow w B v ps) (hg : g < B) (hB : B' ≤ B) (a b c : Value) : PRow (((w.setCell ⟨g, 0, none⟩ a).setCell ⟨g, 1, none⟩ b).setCell ⟨g, 2, none⟩ c) B' v ps :=
  ((h.set hg (Nat.le_refl _)).set hg (Nat.le_refl _)).set hg hB
theorem one_box (w : World) (vs : Array Value) (t : TypeId) (w0 : World) (hw : w0 = w.alloc (.cells vs t)) : Bx w0 w.heap.size t vs ∧ Below w.heap.size w w0 ∧ w0.heap.size = w.heap.size + 1 := by
  subst hw
  exact ⟨Bx.new w t vs, bel1 _ _, World.size_alloc _ _⟩
/-- The error of New. -/
def nerr (W H : Int) (p : Px) : Int := if sized W H then (if pxOk p then 0 else 2) else 15
theorem sized_nat {W H : Int} (h : sized W H = true) : ∃ n : Nat, W * H = n ∧ n ≤ 65536 ∧ (W * H).toNat = n := ⟨(W * H).toNat, by have := wh_bd W H h; omega, by have := wh_bd W H h; omega, rfl⟩
theorem pat_rep (n k : Nat) (p : Px) (h : k < n) : pat (List.replicate n p) k = p := by simp [pat, h]

theorem three_boxes (w : World) (vs us ts : Array Value) (t u v : TypeId) (w0 : World) (hw : w0 = ((w.alloc (.cells vs t)).alloc (.cells us u)).alloc (.cells ts v)) :
    Bx w0 w.heap.size t vs ∧ Bx w0 (w.heap.size + 1) u us ∧ Bx w0 (w.heap.size + 1 + 1) v ts ∧ Below w.heap.size w w0 ∧ w0.heap.size = w.heap.size + 3 := by
  obtain ⟨a, b, c⟩ := two_boxes w vs us t u _ rfl
  have d := Bx.new ((w.alloc (.cells vs t)).alloc (.cells us u)) v ts
  rw [World.size_alloc, World.size_alloc] at d
  subst hw
  exact ⟨a.alloc _, b.alloc _, d, bel_alloc c _, by rw [World.size_alloc, World.size_alloc, World.size_alloc]⟩
theorem Bx.other4 {w : World} {g g' : Nat} {t : TypeId} {vs : Array Value} (h : Bx w g t vs) (hne : g ≠ g') (j0 j1 j2 j3 : Nat) (a b c d : Value) : Bx ((((w.setCell ⟨g', j0, none⟩ a).setCell ⟨g', j1, none⟩ b).setCell ⟨g', j2, none⟩ c).setCell ⟨g', j3, none⟩ d) g t vs := (((h.other hne _ _).other hne _ _).other hne _ _).other hne _ _
theorem wrap_in (n : Int) (h : -9223372036854775808 ≤ n ∧ n ≤ 9223372036854775807) : IntKind.i64.wrap n = n := by rw [IntKind.wrap_i64]; omega
theorem pos_of {w h : Int} {k : Nat} (hk : k < (w * h).toNat) (hw : 0 ≤ w) : 0 < w := by
  rcases Int.lt_or_eq_of_le hw with c | c
  · exact c
  · rw [← c, Int.zero_mul] at hk; simp at hk
end Go.Proofs.Ytineinmghajmnaa
