/- RasterTiles: the whole walk. -/
import Derived.Test.YtllmckapiplpcaaRasWA
namespace Go.Proofs.Ytllmckapiplpcaa
open Go.RowKit

theorem crop_tile {W H : Int} {ps : List Px} (hc : ichk W H ps = 0) {x y p q : Int} (hx : 0 ≤ x ∧ x ≤ 256) (hy : 0 ≤ y ∧ y ≤ 256) (hp : 1 ≤ p ∧ p ≤ 16) (hq : 1 ≤ q ∧ q ≤ 16) (A : Option Addr) (c : Nat) (w : World) (h : Pixs w w.heap.size (.slice A ps.length c) ps) :
    Calls Try.prog 27 #[.agg #[.int .i64 W, .int .i64 H, .slice A ps.length c], .agg #[.int .i64 x, .int .i64 y, .int .i64 p, .int .i64 q]] w (ImPost 0 p q (cropL W H ps x y p q) w) := by
  have := crop_any W H A c ps w h x y p q
  have hv : rvalid x y p q = true := (rvalid_iff x y p q).2 (by omega)
  rw [show cerr (ichk W H ps) x y p q = 0 by unfold cerr; rw [if_pos hc, if_pos hv, if_neg (by omega)], imOut_ok, show cside p q p = p by unfold cside; rw [if_neg (by omega)], show cside p q q = q by unfold cside; rw [if_neg (by omega)]] at this
  exact this
theorem walk_tiles (v0 : Value) (x0 : Int × Int × List Px) (w : World) (h0 : ImgV w v0 x0) :
    Calls Try.prog 12 #[v0] w fun e w' => e = .returned (.bool true) ∧ Below w.heap.size w w' := by
  obtain ⟨⟨A, n, c, rfl, hp⟩, _, _⟩ := h0
  obtain ⟨W, H, ps⟩ := x0
  obtain rfl := hp.len
  by_cases hc : ichk W H ps = 0
  · have i := (ichk_iff W H ps).1 hc
    have K : ∀ w', Pixs w' w'.heap.size (.slice A ps.length c) ps → Calls Try.prog 18 #[.agg #[.int .i64 W, .int .i64 H, .slice A ps.length c]] w' fun e w'' => e = .returned (.int .i64 0) ∧ Below w'.heap.size w' w'' := by
      intro w' h
      have := icheck_any W H A ps.length c ps w' h
      rw [hc] at this
      exact this
    have hw0 := i.w0; have hw1 := i.w1; have hh0 := i.h0; have hh1 := i.h1; have hz := i.z
    by_cases hW : W = 0
    · subst hW
      exact tiles_zero H A c ps w hp K (fun w' => full_ok 0 H A c ps w' i)
    · have hW1 : 1 ≤ W := by omega
      have hH1 : 1 ≤ H := by omega
      have c1 := cols_bd (w := W) ⟨hW1, hw1⟩
      have c2 := cols_bd (w := H) ⟨hH1, hh1⟩
      obtain ⟨co, hco⟩ : ∃ co : Nat, colsOf W = co := ⟨(colsOf W).toNat, by omega⟩
      obtain ⟨ro, hro⟩ : ∃ ro : Nat, colsOf H = ro := ⟨(colsOf H).toNat, by omega⟩
      refine tiles_run W H A c ps co ro w hp hW1 hw1 hH1 hh1 (by unfold colsOf at hco; omega) (fun s hs => by unfold colsOf at hco; omega) (by unfold colsOf at hro; omega) (fun r hr => by unfold colsOf at hro; omega) (by omega) (by omega) ?_ K (fun w' => full_ok W H A c ps w' i) ?_ ?_
      · intro r s hr hs t e1 e2 e3
        have hpl := til_place hco hro hr hs
        unfold TilIs
        rw [hpl.1, hpl.2.1]
        exact ⟨e1, e2, by rw [e3, e1, e2]⟩
      · intro r s hr hs w' h
        have hpl := til_place hco hro hr hs
        exact crop_tile hc (by omega) (by omega) (by omega) (by omega) A c w' h
      · intro w' A' c' ts hl hti him
        have := join_any W H A' c' ts w' him
        have hl2 : (ts.length : Int) = colsOf W * colsOf H := by rw [hl, hco, hro, Int.natCast_mul, Int.mul_comm]
        rw [tiles_err i hW1 hH1 hl2 hti, imOut_ok, tiles_join i hW1 hH1 hl2 hti] at this
        exact this
  · exact tiles_no W H A c ps (ichk W H ps) (by simp [hc]) w hp (fun w' h => icheck_any W H A ps.length c ps w' h)
end Go.Proofs.Ytllmckapiplpcaa
