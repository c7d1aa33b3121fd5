/- WandFloods: the walk. -/
import Derived.Test.YtgdefgpbaccneaaWandAwake
import Derived.Test.YtgdefgpbaccneaaImgOpen
namespace Go.Proofs.Ytgdefgpbaccneaa
open Go.RowKit

/-- What the answer of a flood comes to: both floods give the same. -/
theorem flOut_same {W H x y t : Int} {dg : Bool} {ps : List Px} {chk : Int} {l1 l2 : List Int}
    (h1 : ferr chk W H x y (uok t) = 0 → FloodIs ps.length W dg (simP ps t (y * W + x).toNat) (y * W + x).toNat l1) (h2 : ferr chk W H x y (uok t) = 0 → FloodIs ps.length W dg (simP ps t (y * W + x).toNat) (y * W + x).toNat l2) :
    (if ferr chk W H x y (uok t) = 0 then l1 else []) = (if ferr chk W H x y (uok t) = 0 then l2 else []) := by
  split
  · rename_i h; exact floodIs_eq (h1 h) (h2 h)
  · rfl
theorem boxIP (w : World) (W H x y : Int) (v : Value) (w0 : World)
    (hw : w0 = (w.alloc (.cells #[.int .i64 W, .int .i64 H, v] 24)).alloc (.cells #[.int .i64 x, .int .i64 y] 26)) :
    ImgAt w0 w.heap.size W H v ∧ PtAt w0 (w.heap.size + 1) x y ∧ Below w.heap.size w w0 := by
  subst hw
  have a := ImgAt.new w W H v 24
  have b := PtAt.new (w.alloc (.cells #[.int .i64 W, .int .i64 H, v] 24)) x y 26
  simp only [World.size_alloc] at b
  exact ⟨a.below (bel1 _ _), b, bel_alloc (bel1 _ _) _⟩

set_option maxHeartbeats 4000000 in
theorem walk_floods (v0 : Value) (x0 : Int × Int × List Px) (v1 : Value) (x1 : Int × Int) (t : Int) (dg : Bool) (w : World) (h0 : ImgV w v0 x0) (h1 : PtV v1 x1) :
    Calls Try.prog 3 #[v0, v1, .int .i64 t, .bool dg] w fun e w' => e = .returned (.bool true) ∧ Below w.heap.size w w' := by
  obtain ⟨⟨A, n, c, rfl, hp⟩, _, _⟩ := h0
  obtain ⟨rfl, _, _⟩ := h1
  obtain ⟨W, H, ps⟩ := x0
  obtain ⟨x, y⟩ := x1
  have HP := Lib.hid hp; clear hp
  go_enter Try.func3, Try.ntmps3
  go_wp2_with fail
  obtain ⟨hI, hX, hB⟩ := boxIP w W H x y (.slice A n c) _ rfl
  generalize World.alloc (w.alloc _) _ = wa at *
  refine (flood_any W H x y t dg A n c ps _ (HP.out.on hB)).mono ?_
  rintro e w2 ⟨l1, hl1, u1, rfl, hrow1, hb1⟩
  have HL1 := Lib.hid hl1
  generalize hE : ferr (ichk W H ps) W H x y (uok t) = er at *
  have HE := Lib.hid hE
  clear hE hl1
  obtain ⟨M1, m1, rfl⟩ := irow_shape hrow1
  have HR1 := Lib.hid hrow1
  have HB1 := Lib.hid (bel_trans hB hb1)
  have HI1 := Lib.hid (hI.below hb1)
  have HX1 := Lib.hid (hX.below hb1)
  clear hrow1 hb1 hI hX hB
  obtain ⟨i0, i1, i2, i3⟩ := HI1.out
  obtain ⟨z0, z1, z2⟩ := HX1.out
  generalize hWW : (if er = 0 then W else 0) = W1 at *
  generalize hHH : (if er = 0 then H else 0) = H1 at *
  generalize hLL : (if er = 0 then l1 else []) = L1 at *
  have HWW := Lib.hid hWW; have HHH := Lib.hid hHH; have HLL := Lib.hid hLL
  clear hWW hHH hLL
  go_wp2_with fail
  have HN := Lib.hid (Mk.new W1 H1 29 HR1.out)
  have HBa := Lib.hid (bel_alloc HB1.out (.cells #[.int .i64 W1, .int .i64 H1, .slice M1 L1.length m1] 29))
  refine (rflood_any W H x y t dg A n c ps _ (HP.out.on HBa.out)).mono ?_
  rintro e w3 ⟨l2, hl2, u2, rfl, hrow2, hb2⟩
  rw [HE.out] at hl2 hrow2
  rw [HE.out, HWW.out, HHH.out]
  have hs := flOut_same (W := W) (H := H) (x := x) (y := y) (t := t) (dg := dg) (ps := ps) (chk := ichk W H ps) (l1 := l1) (l2 := l2) (by rw [HE.out]; exact HL1.out) (by rw [HE.out]; exact hl2)
  rw [HE.out, HLL.out] at hs
  rw [← hs] at hrow2
  obtain ⟨M2, m2, rfl⟩ := irow_shape hrow2
  have HM1 := Lib.hid (HN.out.below hb2)
  have HB3 := Lib.hid (bel_trans HBa.out hb2)
  have HR2 := Lib.hid hrow2
  clear hs hl2 hrow2 hb2 i0 i1 i2 i3 z0 z1 z2
  obtain ⟨u4, ⟨g0, g1, g2, g3⟩, hi4⟩ := HM1.out
  have HI4 := Lib.hid hi4
  clear hi4
  go_wp2_with fail
  refine (msame_true W1 H1 W1 H1 _ _ L1 _ rfl rfl ((HI4.out.below (bel1 _ _)).more (bel1 w3 _).size) ((HR2.out.ints.below (bel1 _ _)).more (bel1 w3 _).size)).mono ?_
  rintro e w4 ⟨rfl, hb4⟩
  have hB4 := bel_trans (bel_alloc HB3.out _) hb4
  clear hb4 g0 g1 g2 g3
  go_wp2_with fail
  refine (awake_any _).mono ?_
  rintro e w5 ⟨rfl, hb5⟩
  go_wp2_with fail
  go_ret
  exact ⟨rfl, bel_trans hB4 hb5⟩
end Go.Proofs.Ytgdefgpbaccneaa
