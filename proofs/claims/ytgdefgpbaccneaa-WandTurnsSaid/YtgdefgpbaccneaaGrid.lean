/- A raster as a list: the pixel of each place, row by row. No program in sight. -/
import Derived.Test.YtgdefgpbaccneaaRas2
namespace Go.Proofs.Ytgdefgpbaccneaa

/-- The pixels f x y of the places of a raster of w by h pixels, row by row. -/
def gridL (w h : Int) (f : Int → Int → Px) : List Px := (List.range (w * h).toNat).map fun k : Nat => f ((k : Int) % w) ((k : Int) / w)
theorem grid_length (w h : Int) (f : Int → Int → Px) : (gridL w h f).length = (w * h).toNat := by simp [gridL]
theorem grid_pat (w h : Int) (f : Int → Int → Px) (k : Nat) (hk : k < (w * h).toNat) : pat (gridL w h f) k = f ((k : Int) % w) ((k : Int) / w) := by
  simp [pat, gridL, hk]
theorem place_modF {w x y : Int} (h : 0 ≤ x ∧ x < w) : (y * w + x) % w = x ∧ (y * w + x) / w = y := by
  have hw : w ≠ 0 := by omega
  constructor
  · rw [Int.add_comm, Int.add_mul_emod_self_right]; exact Int.emod_eq_of_lt h.1 h.2
  · rw [Int.add_comm, Int.add_mul_ediv_right _ _ hw, Int.ediv_eq_zero_of_lt h.1 h.2, Int.zero_add]
theorem grid_at {w h : Int} (f : Int → Int → Px) {x y : Int} (hx : 0 ≤ x ∧ x < w) (hy : 0 ≤ y ∧ y < h) : pat (gridL w h f) (y * w + x).toNat = f x y := by
  have hi := idx_lt (W := w) (H := h) (x := x) (y := y) ⟨hx.1, hx.2, hy.1, hy.2⟩
  rw [grid_pat w h f _ (by omega), show (((y * w + x).toNat : Nat) : Int) = y * w + x by omega, (place_modF hx).1, (place_modF hx).2]
theorem take_succ_pat (l : List Px) (k : Nat) (h : k < l.length) : l.take (k + 1) = l.take k ++ [pat l k] := by
  rw [List.take_succ_eq_append_getElem h]
  simp [pat, h]
theorem list_ext_pat {l m : List Px} (hl : l.length = m.length) (h : ∀ k, k < l.length → pat l k = pat m k) : l = m := by
  apply List.ext_getElem hl
  intro i h1 h2
  have := h i h1
  simpa [pat, h1, h2] using this
theorem grid_congr {w h : Int} {f g : Int → Int → Px} (e : ∀ x y, 0 ≤ x → x < w → 0 ≤ y → y < h → f x y = g x y) (hw : 0 ≤ w) : gridL w h f = gridL w h g := by
  refine list_ext_pat (by rw [grid_length, grid_length]) fun k hk => ?_
  rw [grid_length] at hk
  rw [grid_pat _ _ _ _ hk, grid_pat _ _ _ _ hk]
  have hp : 0 < w * h := by omega
  have hw0 : 0 < w := by
    rcases Int.lt_or_eq_of_le hw with c | c
    · exact c
    · rw [← c, Int.zero_mul] at hp; omega
  refine e _ _ (Int.emod_nonneg _ (by omega)) (Int.emod_lt_of_pos _ hw0) (Int.ediv_nonneg (by omega) hw) ?_
  rw [Int.ediv_lt_iff_lt_mul hw0]
  rw [Int.mul_comm] at hp
  have : w * h = h * w := Int.mul_comm _ _
  omega
/-- The place of the pixel k. -/
theorem place_ofF {w h : Int} {k : Nat} (hk : k < (w * h).toNat) (hw : 0 < w) : (0 ≤ (k : Int) % w ∧ (k : Int) % w < w) ∧ 0 ≤ (k : Int) / w ∧ (k : Int) / w < h := by
  refine ⟨⟨Int.emod_nonneg _ (by omega), Int.emod_lt_of_pos _ hw⟩, Int.ediv_nonneg (by omega) (by omega), ?_⟩
  rw [Int.ediv_lt_iff_lt_mul hw]
  have : w * h = h * w := Int.mul_comm _ _
  omega
/-- A valid image is the raster of its own pixels. -/
theorem grid_pick {W H : Int} {ps : List Px} (i : IOk W H ps) : gridL W H (pick W H ps) = ps := by
  have hn := i.n
  refine list_ext_pat (by rw [grid_length]; omega) fun k hk => ?_
  rw [grid_length] at hk
  rw [grid_pat _ _ _ _ hk]
  have hw : 0 < W := by
    rcases Int.lt_or_eq_of_le i.w0 with c | c
    · exact c
    · rw [← c, Int.zero_mul] at hk; simp at hk
  have hp := place_ofF hk hw
  rw [pick_in ⟨hp.1.1, hp.1.2, hp.2.1, hp.2.2⟩]
  have := Int.mul_ediv_add_emod (k : Int) W
  congr 1
  rw [Int.mul_comm] at this
  omega
theorem pick_grid {w h : Int} (f : Int → Int → Px) {x y : Int} (hx : 0 ≤ x ∧ x < w) (hy : 0 ≤ y ∧ y < h) : pick w h (gridL w h f) x y = f x y := by
  rw [pick_in ⟨hx.1, hx.2, hy.1, hy.2⟩, grid_at f hx hy]
theorem pick_ok {W H : Int} {ps : List Px} (i : IOk W H ps) (x y : Int) : (pick W H ps x y).ok := by
  by_cases h : 0 ≤ x ∧ x < W ∧ 0 ≤ y ∧ y < H
  · rw [pick_in h]
    have := idx_lt h
    have := i.n
    exact i.ok _ (by omega)
  · rw [pick_out h]; decide
theorem grid_ok {W H : Int} {f : Int → Int → Px} (hW : 0 ≤ W) (hW1 : W ≤ 256) (hH : 0 ≤ H) (hH1 : H ≤ 256) (hz : W = 0 ↔ H = 0) (hf : ∀ x y, (f x y).ok) : IOk W H (gridL W H f) := by
  have h0 : 0 ≤ W * H := Int.mul_nonneg hW hH
  refine ⟨hW, hW1, hH, hH1, hz, by rw [grid_length]; omega, fun i hi => ?_⟩
  rw [grid_length] at hi
  rw [grid_pat _ _ _ _ hi]
  exact hf _ _
end Go.Proofs.Ytgdefgpbaccneaa
