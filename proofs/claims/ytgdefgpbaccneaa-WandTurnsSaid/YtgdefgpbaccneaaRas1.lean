/- raster.at, its reference's Pick, raster.blank: a pixel of a valid image, an image of zero pixels. -/
import Derived.Test.YtgdefgpbaccneaaPxRow
import Derived.Test.YtgdefgpbaccneaaImgChk
import Derived.Test.YtgdefgpbaccneaaBox
import Derived.Test.YtgdefgpbaccneaaKeep
import Derived.Test.YtgdefgpbaccneaaLaws
import Derived.Deep.LoopGhost
import Derived.Deep.RegionLaw
import Derived.Deep.CutRange
namespace Go.Proofs.Ytgdefgpbaccneaa
open Go.RowKit

/-- The pixel of an image at a place, the zero pixel outside. -/
def pick (W H : Int) (ps : List Px) (x y : Int) : Px := if 0 ≤ x ∧ x < W ∧ 0 ≤ y ∧ y < H then pat ps (y * W + x).toNat else Px.zero
/-- A pixel is returned. -/
def PxPost (p : Px) (w : World) (e : Ending) (w' : World) : Prop := e = .returned (.agg #[.int .i64 p.r, .int .i64 p.g, .int .i64 p.b, .int .i64 p.a]) ∧ Below w.heap.size w w'
theorem bel1F (w : World) (o : Obj) : Below w.heap.size w (w.alloc o) := bel_alloc (Below.refl _ _) _
theorem pick_out {W H : Int} {ps : List Px} {x y : Int} (h : ¬ (0 ≤ x ∧ x < W ∧ 0 ≤ y ∧ y < H)) : pick W H ps x y = Px.zero := by unfold pick; rw [if_neg h]
theorem pick_in {W H : Int} {ps : List Px} {x y : Int} (h : 0 ≤ x ∧ x < W ∧ 0 ≤ y ∧ y < H) : pick W H ps x y = pat ps (y * W + x).toNat := by unfold pick; rw [if_pos h]
theorem idx_lt {W H x y : Int} (h : 0 ≤ x ∧ x < W ∧ 0 ≤ y ∧ y < H) : 0 ≤ y * W ∧ y * W + x < W * H := by
  have h1 : 0 ≤ y * W := Int.mul_nonneg (by omega) (by omega)
  have h2 : (y + 1) * W ≤ H * W := Int.mul_le_mul_of_nonneg_right (by omega) (by omega)
  rw [Int.add_mul, Int.one_mul, Int.mul_comm H W] at h2
  omega
theorem iok_len {W H : Int} {ps : List Px} (i : IOk W H ps) : W * H ≤ 65536 := by
  have := Int.mul_le_mul i.w1 i.h1 i.h0 (by omega)
  omega
theorem set4_below {B : Nat} {w0 w : World} {g : Nat} (h : Below B w0 w) (hg : B ≤ g) (j0 j1 j2 j3 : Nat) (a b c d : Value) : Below B w0 ((((w.setCell ⟨g, j0, none⟩ a).setCell ⟨g, j1, none⟩ b).setCell ⟨g, j2, none⟩ c).setCell ⟨g, j3, none⟩ d) :=
  (((h.setCell (p := ⟨g, j0, none⟩) hg a).setCell (p := ⟨g, j1, none⟩) hg b).setCell (p := ⟨g, j2, none⟩) hg c).setCell (p := ⟨g, j3, none⟩) hg d
theorem set3_below {B : Nat} {w0 w : World} {g : Nat} (h : Below B w0 w) (hg : B ≤ g) (a b c : Value) : Below B w0 (((w.setCell ⟨g, 0, none⟩ a).setCell ⟨g, 1, none⟩ b).setCell ⟨g, 2, none⟩ c) :=
  ((h.setCell (p := ⟨g, 0, none⟩) hg a).setCell (p := ⟨g, 1, none⟩) hg b).setCell (p := ⟨g, 2, none⟩) hg c
theorem two_boxesF (w : World) (vs us : Array Value) (t u : TypeId) (w0 : World) (hw : w0 = (w.alloc (.cells vs t)).alloc (.cells us u)) : Bx w0 w.heap.size t vs ∧ Bx w0 (w.heap.size + 1) u us ∧ Below w.heap.size w w0 := by
  subst hw
  have b := Bx.new (w.alloc (.cells vs t)) u us
  rw [World.size_alloc] at b
  exact ⟨(Bx.new w t vs).alloc _, b, bel_alloc (bel1F _ _) _⟩
theorem size_setF (w : World) (a : Addr) (v : Value) : (w.setCell a v).heap.size = w.heap.size := by simp [World.setCell]

set_option maxHeartbeats 2000000 in
theorem at_any (W H : Int) (A : Option Addr) (n c : Nat) (ps : List Px) (x y : Int) (w : World) (hi : IOk W H ps) (h : Pixs w w.heap.size (.slice A n c) ps) :
    Calls Try.prog 41 #[.agg #[.int .i64 W, .int .i64 H, .slice A n c], .int .i64 x, .int .i64 y] w (PxPost (pick W H ps x y) w) := by
  obtain rfl := h.len
  by_cases h0 : 0 ≤ x
  case neg =>
    have E := Lib.hid (pick_out (W := W) (H := H) (ps := ps) (x := x) (y := y) (by omega))
    clear h hi
    go_enter Try.func41, Try.ntmps41
    go_upto_region 1 with fail
    obtain ⟨hb1, hb2, hB⟩ := two_boxesF w #[.int .i64 W, .int .i64 H, .slice A ps.length c] #[.int .i64 0, .int .i64 0, .int .i64 0, .int .i64 0] 24 37 _ rfl
    skip
    generalize World.alloc (w.alloc _) _ = w0 at *
    have HB := Lib.hid hB; clear hB
    obtain ⟨⟨i1, i2, i3⟩, _, _, _⟩ := hb1.three
    obtain ⟨⟨r1, r2, r3, r4⟩, rf1, rf2, rf3, rf4⟩ := hb2.four
    clear hb1 hb2
    go_wp2_with fail
    refine bodyPost_ret (v := .agg #[.int .i64 0, .int .i64 0, .int .i64 0, .int .i64 0]) (by simp [results, Try.results41, go_sem, r1, r2, r3, r4]) rfl ⟨by rw [E.out]; rfl, ?_⟩
    exact set4_below HB.out (Nat.le_succ _) _ _ _ _ _ _ _ _
  by_cases h1 : x < W
  case neg =>
    have E := Lib.hid (pick_out (W := W) (H := H) (ps := ps) (x := x) (y := y) (by omega))
    clear h hi
    go_enter Try.func41, Try.ntmps41
    go_upto_region 1 with fail
    obtain ⟨hb1, hb2, hB⟩ := two_boxesF w #[.int .i64 W, .int .i64 H, .slice A ps.length c] #[.int .i64 0, .int .i64 0, .int .i64 0, .int .i64 0] 24 37 _ rfl
    skip
    generalize World.alloc (w.alloc _) _ = w0 at *
    have HB := Lib.hid hB; clear hB
    obtain ⟨⟨i1, i2, i3⟩, _, _, _⟩ := hb1.three
    obtain ⟨⟨r1, r2, r3, r4⟩, rf1, rf2, rf3, rf4⟩ := hb2.four
    clear hb1 hb2
    go_wp2_with fail
    refine bodyPost_ret (v := .agg #[.int .i64 0, .int .i64 0, .int .i64 0, .int .i64 0]) (by simp [results, Try.results41, go_sem, r1, r2, r3, r4]) rfl ⟨by rw [E.out]; rfl, ?_⟩
    exact set4_below HB.out (Nat.le_succ _) _ _ _ _ _ _ _ _
  by_cases h2 : 0 ≤ y
  case neg =>
    have E := Lib.hid (pick_out (W := W) (H := H) (ps := ps) (x := x) (y := y) (by omega))
    clear h hi
    go_enter Try.func41, Try.ntmps41
    go_upto_region 1 with fail
    obtain ⟨hb1, hb2, hB⟩ := two_boxesF w #[.int .i64 W, .int .i64 H, .slice A ps.length c] #[.int .i64 0, .int .i64 0, .int .i64 0, .int .i64 0] 24 37 _ rfl
    skip
    generalize World.alloc (w.alloc _) _ = w0 at *
    have HB := Lib.hid hB; clear hB
    obtain ⟨⟨i1, i2, i3⟩, _, _, _⟩ := hb1.three
    obtain ⟨⟨r1, r2, r3, r4⟩, rf1, rf2, rf3, rf4⟩ := hb2.four
    clear hb1 hb2
    go_wp2_with fail
    refine bodyPost_ret (v := .agg #[.int .i64 0, .int .i64 0, .int .i64 0, .int .i64 0]) (by simp [results, Try.results41, go_sem, r1, r2, r3, r4]) rfl ⟨by rw [E.out]; rfl, ?_⟩
    exact set4_below HB.out (Nat.le_succ _) _ _ _ _ _ _ _ _
  by_cases h3 : y < H
  case neg =>
    have E := Lib.hid (pick_out (W := W) (H := H) (ps := ps) (x := x) (y := y) (by omega))
    clear h hi
    go_enter Try.func41, Try.ntmps41
    go_upto_region 1 with fail
    obtain ⟨hb1, hb2, hB⟩ := two_boxesF w #[.int .i64 W, .int .i64 H, .slice A ps.length c] #[.int .i64 0, .int .i64 0, .int .i64 0, .int .i64 0] 24 37 _ rfl
    skip
    generalize World.alloc (w.alloc _) _ = w0 at *
    have HB := Lib.hid hB; clear hB
    obtain ⟨⟨i1, i2, i3⟩, _, _, _⟩ := hb1.three
    obtain ⟨⟨r1, r2, r3, r4⟩, rf1, rf2, rf3, rf4⟩ := hb2.four
    clear hb1 hb2
    go_wp2_with fail
    refine bodyPost_ret (v := .agg #[.int .i64 0, .int .i64 0, .int .i64 0, .int .i64 0]) (by simp [results, Try.results41, go_sem, r1, r2, r3, r4]) rfl ⟨by rw [E.out]; rfl, ?_⟩
    exact set4_below HB.out (Nat.le_succ _) _ _ _ _ _ _ _ _
  have hr := idx_lt (W := W) (H := H) (x := x) (y := y) ⟨h0, h1, h2, h3⟩
  have hl := iok_len hi
  have hn := hi.n
  obtain ⟨m, hm⟩ : ∃ m : Nat, y * W + x = m := ⟨(y * W + x).toNat, by omega⟩
  have hml : m < ps.length := by omega
  have E := Lib.hid (pick_in (W := W) (H := H) (ps := ps) (x := x) (y := y) ⟨h0, h1, h2, h3⟩)
  rw [hm, Int.toNat_natCast] at E
  obtain ⟨A', c', ev, _, hc⟩ := h
  obtain ⟨b, o, rfl, hb, c1, c2, c3, c4⟩ := hc m hml
  injection ev with ev1 _ ev3
  subst ev1
  have hW := hi.w1
  have hH := hi.h1
  clear hc ev3 hi
  generalize pat ps m = p at *
  go_enter Try.func41, Try.ntmps41
  go_upto_region 1 with fail
  obtain ⟨hb1, hb2, hB⟩ := two_boxesF w #[.int .i64 W, .int .i64 H, .slice (some ⟨b, o, none⟩) ps.length c] #[.int .i64 0, .int .i64 0, .int .i64 0, .int .i64 0] 24 37 _ rfl
  replace c1 := (hB.cell (p := ⟨b, o + m * 4, none⟩) hb).trans c1; replace c2 := (hB.cell (p := ⟨b, o + m * 4 + 1, none⟩) hb).trans c2; replace c3 := (hB.cell (p := ⟨b, o + m * 4 + 2, none⟩) hb).trans c3; replace c4 := (hB.cell (p := ⟨b, o + m * 4 + 3, none⟩) hb).trans c4
  generalize World.alloc (w.alloc _) _ = w0 at *
  have HB := Lib.hid hB; clear hB
  obtain ⟨⟨i1, i2, i3⟩, _, _, _⟩ := hb1.three
  obtain ⟨⟨r1, r2, r3, r4⟩, rf1, rf2, rf3, rf4⟩ := hb2.four
  clear hb1 hb2
  go_wp2_with fail
  refine bodyPost_ret (v := .agg #[.int .i64 p.r, .int .i64 p.g, .int .i64 p.b, .int .i64 p.a]) (by simp [results, Try.results41, go_sem, r1, r2, r3, r4]) rfl ⟨by rw [E.out], ?_⟩
  exact set4_below HB.out (Nat.le_succ _) _ _ _ _ _ _ _ _

/-- A new image of zero pixels. -/
def BlankPost (W H : Int) (n : Nat) (w : World) (e : Ending) (w' : World) : Prop :=
  ∃ g, e = .returned (.agg #[.int .i64 W, .int .i64 H, .slice (some ⟨g, 0, none⟩) n n]) ∧ PRow w' w.heap.size (.slice (some ⟨g, 0, none⟩) n n) (List.replicate n Px.zero) ∧ Below w.heap.size w w'
/-- make([]api.Pixel, n). -/
theorem pmake (w : World) {ops : Array Oper} {rest : List Oper} {o : Oper} {a : Act} {Q : Exit → Act → World → Prop} (hgd : o.guard = none) (l c : Operand)
    (ho : o.op = .makeSlice 22 l c) (B : Nat) (L C : Int) (n : Nat) (hl : a.eval l = .int .i64 L) (hc : a.eval c = .int .i64 C) (hL : L = n) (hC : C = n) (hn : n ≤ 1000000000) (hB : B ≤ w.heap.size)
    (h : ∀ w', PRow w' B (.slice (some ⟨w.heap.size, 0, none⟩) n n) (List.replicate n Px.zero) → Below w.heap.size w w' → wpList Try.prog ops Q rest (a.put o.dst (.slice (some ⟨w.heap.size, 0, none⟩) n n)) w') : wpList Try.prog ops Q (o :: rest) a w := by
  obtain ⟨i0, hi0, hz0, hz1, hz2⟩ := info_parts Try.infoPx
  refine fmake 37 4 22 32 i0 _ Try.underlying22 hi0 hz0 hz1 hz2 rfl (by omega) (by omega) w hgd l c ho B L C n hl hc hL hC hn hB fun w' h1 h2 => h w' ?_ h2
  unfold PRow
  rw [List.length_replicate, flat4_rep]
  exact h1
set_option maxHeartbeats 2000000 in
theorem blank_any (W H : Int) (n : Nat) (w : World) (hn : W * H = n) (hl : n ≤ 65536) :
    Calls Try.prog 40 #[.int .i64 W, .int .i64 H] w (BlankPost W H n w) := by
  have hm0 : 0 ≤ W * H := by omega
  have hm1 : W * H ≤ 65536 := by omega
  go_enter Try.func40, Try.ntmps40
  go_upto_region 1 with fail
  have hbx := Bx.new w 24 #[.int .i64 0, .int .i64 0, .slice none 0 0]
  have hB := bel1F w (.cells #[.int .i64 0, .int .i64 0, .slice none 0 0] 24)
  have hsz : (w.alloc (.cells #[.int .i64 0, .int .i64 0, .slice none 0 0] 24)).heap.size = w.heap.size + 1 := by simp
  generalize World.alloc w _ = w0 at *
  have hsz0 : w.heap.size + 1 ≤ w0.heap.size := by omega
  go_wp2_with (at_make; refine pmake _ rfl _ _ rfl (w.heap.size + 1) _ _ n rfl rfl (by omega) (by omega) (by omega) hsz0 ?_; intro w5 hrow hbw; have hbx5 := hbx.below hbw; obtain ⟨⟨s0, s1, s2⟩, sf0, sf1, sf2⟩ := hbx5.three)
  refine bodyPost_ret (v := .agg #[.int .i64 W, .int .i64 H, .slice (some ⟨w0.heap.size, 0, none⟩) n n]) (by simp [results, Try.results40, go_sem, s0, s1, s2]) rfl ⟨_, rfl, ?_, ?_⟩
  · exact ((hrow.set (Nat.lt_succ_self _) (Nat.le_refl _)).set (Nat.lt_succ_self _) (Nat.le_refl _)).set (Nat.lt_succ_self _) (Nat.le_succ _)
  · exact set3_below (bel_trans hB hbw) (Nat.le_refl _) _ _ _
end Go.Proofs.Ytgdefgpbaccneaa
