/- raster.at, its reference's Pick, raster.blank: a pixel of a valid image, an image of zero pixels. -/
import Derived.Test.YtmbglkholoblaaaDoorPxRow
import Derived.Test.YtmbglkholoblaaaDoorImgChk
import Derived.Test.YtmbglkholoblaaaDoorBox
import Derived.Test.YtmbglkholoblaaaDoorKeep
import Derived.Test.YtmbglkholoblaaaDoorLaws
import Derived.Deep.LoopGhost
import Derived.Deep.RegionLaw
import Derived.Deep.CutRange
namespace Go.Proofs.YtmbglkholoblaaaDoor
open Go.RowKit

/-- The pixel of an image at a place, the zero pixel outside. -/
def pick (W H : Int) (ps : List Px) (x y : Int) : Px := if 0 ≤ x ∧ x < W ∧ 0 ≤ y ∧ y < H then pat ps (y * W + x).toNat else Px.zero
/-- A pixel is returned. -/
def PxPost (p : Px) (w : World) (e : Ending) (w' : World) : Prop := e = .returned (.agg #[.int .i64 p.r, .int .i64 p.g, .int .i64 p.b, .int .i64 p.a]) ∧ Below w.heap.size w w'
theorem bel1 (w : World) (o : Obj) : Below w.heap.size w (w.alloc o) := bel_alloc (Below.refl _ _) _
theorem pick_out {W H : Int} {ps : List Px} {x y : Int} (h : ¬ (0 ≤ x ∧ x < W ∧ 0 ≤ y ∧ y < H)) : pick W H ps x y = Px.zero := by unfold pick; rw [if_neg h]
theorem pick_in {W H : Int} {ps : List Px} {x y : Int} (h : 0 ≤ x ∧ x < W ∧ 0 ≤ y ∧ y < H) : pick W H ps x y = pat ps (y * W + x).toNat := by unfold pick; rw [if_pos h]
theorem idx_lt {W H x y : Int} (h : 0 ≤ x ∧ x < W ∧ 0 ≤ y ∧ y < H) : 0 ≤ y * W ∧ y * W + x < W * H := by
  have h1 : 0 ≤ y * W := Int.mul_nonneg (by omega) (by omega)
  have h2 : (y + 1) * W ≤ H * W := Int.mul_le_mul_of_nonneg_right (by omega) (by omega)
  rw [Int.add_mul, Int.one_mul, Int.mul_comm H W] at h2
  omega
theorem iok_len {W H : Int} {ps : List Px} (i : IOk W H ps) : W * H ≤ 65536 := by
  have := Int.mul_le_mul i.w1 i.h1 i.h0 (by omega)
  omega
theorem set4_below {B : Nat} {w0 w : World} {g : Nat} (h : Below B w0 w) (hg : B ≤ g) (j0 j1 j2 j3 : Nat) (a b c d : Value) : Below B w0 ((((w.setCell ⟨g, j0, none⟩ a).setCell ⟨g, j1, none⟩ b).setCell ⟨g, j2, none⟩ c).setCell ⟨g, j3, none⟩ d) :=
  (((h.setCell (p := ⟨g, j0, none⟩) hg a).setCell (p := ⟨g, j1, none⟩) hg b).setCell (p := ⟨g, j2, none⟩) hg c).setCell (p := ⟨g, j3, none⟩) hg d
theorem set3_below {B : Nat} {w0 w : World} {g : Nat} (h : Below B w0 w) (hg : B ≤ g) (a b c : Value) : Below B w0 (((w.setCell ⟨g, 0, none⟩ a).setCell ⟨g, 1, none⟩ b).setCell ⟨g, 2, none⟩ c) :=
  ((h.setCell (p := ⟨g, 0, none⟩) hg a).setCell (p := ⟨g, 1, none⟩) hg b).setCell (p := ⟨g, 2, none⟩) hg c
theorem two_boxes (w : World) (vs us : Array Value) (t u : TypeId) (w0 : World) (hw : w0 = (w.alloc (.cells vs t)).alloc (.cells us u)) : Bx w0 w.heap.size t vs ∧ Bx w0 (w.heap.size + 1) u us ∧ Below w.heap.size w w0 := by
  subst hw
  have b := Bx.new (w.alloc (.cells vs t)) u us
  rw [World.size_alloc] at b
  exact ⟨(Bx.new w t vs).alloc _, b, bel_alloc (bel1 _ _) _⟩
theorem size_set (w : World) (a : Addr) (v : Value) : (w.setCell a v).heap.size = w.heap.size := by simp [World.setCell]

/-- A new image of zero pixels. -/
def BlankPost (W H : Int) (n : Nat) (w : World) (e : Ending) (w' : World) : Prop :=
  ∃ g, e = .returned (.agg #[.int .i64 W, .int .i64 H, .slice (some ⟨g, 0, none⟩) n n]) ∧ PRow w' w.heap.size (.slice (some ⟨g, 0, none⟩) n n) (List.replicate n Px.zero) ∧ Below w.heap.size w w'
/-- make([]api.Pixel, n). -/
theorem pmake (w : World) {ops : Array Oper} {rest : List Oper} {o : Oper} {a : Act} {Q : Exit → Act → World → Prop} (hgd : o.guard = none) (l c : Operand)
    (ho : o.op = .makeSlice 43 l c) (B : Nat) (L C : Int) (n : Nat) (hl : a.eval l = .int .i64 L) (hc : a.eval c = .int .i64 C) (hL : L = n) (hC : C = n) (hn : n ≤ 1000000000) (hB : B ≤ w.heap.size)
    (h : ∀ w', PRow w' B (.slice (some ⟨w.heap.size, 0, none⟩) n n) (List.replicate n Px.zero) → Below w.heap.size w w' → wpList Tryd.prog ops Q rest (a.put o.dst (.slice (some ⟨w.heap.size, 0, none⟩) n n)) w') : wpList Tryd.prog ops Q (o :: rest) a w := by
  obtain ⟨i0, hi0, hz0, hz1, hz2⟩ := info_parts Tryd.infoPx
  refine fmake 25 4 43 32 i0 _ Tryd.underlying43 hi0 hz0 hz1 hz2 rfl (by omega) (by omega) w hgd l c ho B L C n hl hc hL hC hn hB fun w' h1 h2 => h w' ?_ h2
  unfold PRow
  rw [List.length_replicate, flat4_rep]
  exact h1
end Go.Proofs.YtmbglkholoblaaaDoor
