/- RasterTiles: words, and the plain law. -/
import Derived.Test.YtllmckapiplpcaaTRow
import Derived.Test.YtllmckapiplpcaaRasAny
import Derived.Test.YtllmckapiplpcaaRasW8
namespace Go.Proofs.Ytllmckapiplpcaa
open Go.RowKit

/-- The tile t is the part of the image at place n. -/
def TilIs (W H : Int) (ps : List Px) (n : Nat) (t : Til) : Prop :=
  t.W = min 16 (W - 16 * ((n : Int) % colsOf W)) ∧ t.H = min 16 (H - 16 * ((n : Int) / colsOf W)) ∧ t.ps = cropL W H ps (16 * ((n : Int) % colsOf W)) (16 * ((n : Int) / colsOf W)) t.W t.H
/-- The row v holds the first q tiles. -/
def TilesAt (W H : Int) (ps : List Px) (B : Nat) (w0 : World) (q : Nat) (v : Value) (wr : World) : Prop :=
  ∃ ts : List Til, ts.length = q ∧ (∀ i, i < q → TilIs W H ps i (tget ts i)) ∧ TRow wr B v ts ∧ (∀ i, i < q → TilOk wr v.ownBlock (tget ts i)) ∧ Below B w0 wr
def TilOut (W H : Int) (ps : List Px) (B : Nat) (w0 : World) (co ro : Nat) (gh : Nat) (v y : Value) (wr : World) : Prop := ∃ r : Nat, r ≤ ro ∧ gh = ro - r ∧ y = .int .i64 (16 * (r : Int)) ∧ TilesAt W H ps B w0 (r * co) v wr
def TilIn (W H : Int) (ps : List Px) (B : Nat) (w0 : World) (co r : Nat) (gh : Nat) (v x : Value) (wr : World) : Prop := ∃ s : Nat, s ≤ co ∧ gh = co - s ∧ x = .int .i64 (16 * (s : Int)) ∧ TilesAt W H ps B w0 (r * co + s) v wr
theorem tget_left {ts us : List Til} {i : Nat} (h : i < ts.length) : tget (ts ++ us) i = tget ts i := by unfold tget; simp [List.getElem?_append_left h]
theorem tget_last (ts : List Til) (t : Til) : tget (ts ++ [t]) ts.length = t := by unfold tget; simp
theorem TilesAt.start (W H : Int) (ps : List Px) (w : World) : TilesAt W H ps w.heap.size w 0 (.slice none 0 0) w := ⟨[], rfl, fun i hi => absurd hi (by omega), TRow.nil _ _, fun i hi => absurd hi (by omega), Below.refl _ _⟩
/-- The places of a tile. -/
theorem til_place {W H : Int} {r s : Nat} {co ro : Nat} (hco : colsOf W = co) (hro : colsOf H = ro) (hr : r < ro) (hs : s < co) :
    ((r * co + s : Nat) : Int) % colsOf W = s ∧ ((r * co + s : Nat) : Int) / colsOf W = r ∧ 16 * (s : Int) < W ∧ 16 * (r : Int) < H := by
  have h := place_mod (w := (co : Int)) (x := (s : Int)) (y := (r : Int)) (by omega)
  rw [← Int.natCast_mul, ← Int.natCast_add] at h
  rw [hco]
  refine ⟨h.1, h.2, ?_, ?_⟩
  · unfold colsOf at hco; omega
  · unfold colsOf at hro; omega
/-- The part of a valid image at a tile's place is valid. -/
theorem crop_ok {W H x y p q : Int} {ps : List Px} (i : IOk W H ps) (hp : 1 ≤ p ∧ p ≤ 16) (hq : 1 ≤ q ∧ q ≤ 16) : IOk p q (cropL W H ps x y p q) :=
  grid_ok (by omega) (by omega) (by omega) (by omega) (by omega) (fun _ _ => pick_ok i _ _)
theorem tiles_err {W H : Int} {ps : List Px} {ts : List Til} (i : IOk W H ps) (hW : 1 ≤ W) (hH : 1 ≤ H) (hl : (ts.length : Int) = colsOf W * colsOf H) (ht : ∀ k, k < ts.length → TilIs W H ps k (tget ts k)) : joinErr W H ts = 0 := by
  have hw1 := i.w1; have hh1 := i.h1
  unfold joinErr
  rw [if_pos ⟨hW, hw1, hH, hh1, hl⟩]
  have : ∀ k, k ≤ ts.length → scanErr W H (colsOf W) ts k = 0 := by
    intro k
    induction k with
    | zero => intro _; rfl
    | succ k ih =>
      intro hk
      rw [scan_step (ih (by omega))]
      obtain ⟨h1, h2, h3⟩ := ht k (by omega)
      have c1 := cols_bd (w := W) ⟨hW, hw1⟩
      have m1 : 0 ≤ (k : Int) % colsOf W ∧ (k : Int) % colsOf W < colsOf W := ⟨Int.emod_nonneg _ (by omega), Int.emod_lt_of_pos _ (by omega)⟩
      have d1 : 0 ≤ (k : Int) / colsOf W := Int.ediv_nonneg (by omega) (by omega)
      have d2 : (k : Int) / colsOf W < colsOf H := by
        rw [Int.ediv_lt_iff_lt_mul (by omega), Int.mul_comm]
        omega
      unfold tilErr
      rw [Int.mul_comm _ 16, Int.mul_comm _ 16, if_pos ⟨h1, h2⟩, h3]
      refine (ichk_iff _ _ _).2 ?_
      generalize (k : Int) % colsOf W = X at *
      generalize (k : Int) / colsOf W = Y at *
      have e1 : 16 * X < W := by unfold colsOf at m1; omega
      have e2 : 16 * Y < H := by unfold colsOf at d2; omega
      exact crop_ok i (by omega) (by omega)
  exact this _ (Nat.le_refl _)
theorem tiles_join {W H : Int} {ps : List Px} {ts : List Til} (i : IOk W H ps) (hW : 1 ≤ W) (hH : 1 ≤ H) (hl : (ts.length : Int) = colsOf W * colsOf H) (ht : ∀ k, k < ts.length → TilIs W H ps k (tget ts k)) : joinL W H ts = ps := by
  have hw1 := i.w1; have hh1 := i.h1
  unfold joinL
  refine Eq.trans (grid_congr (fun x y hx hx' hy hy' => ?_) i.w0) (grid_pick i)
  have hi := til_idx (w := W) (h := H) (x := x) (y := y) ⟨hW, hw1⟩ ⟨hH, hh1⟩ ⟨hx, hx'⟩ ⟨hy, hy'⟩
  obtain ⟨m, hm⟩ : ∃ m : Nat, y / 16 * colsOf W + x / 16 = m := ⟨(y / 16 * colsOf W + x / 16).toNat, by omega⟩
  obtain ⟨h1, h2, h3⟩ := ht m (by omega)
  have hx16 : 0 ≤ x / 16 ∧ x / 16 < colsOf W := by unfold colsOf; omega
  have hp := place_mod (w := colsOf W) (x := x / 16) (y := y / 16) hx16
  rw [hm] at hp
  unfold joinF
  rw [hm, Int.toNat_natCast]
  rw [hp.1] at h1
  rw [hp.2] at h2
  rw [hp.1, hp.2] at h3
  generalize tget ts m = t at *
  rw [h3]
  unfold cropL
  rw [pick_grid _ (by omega) (by omega)]
  congr 1 <;> omega
end Go.Proofs.Ytllmckapiplpcaa
