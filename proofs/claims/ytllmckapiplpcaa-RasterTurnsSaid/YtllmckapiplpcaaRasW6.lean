/- RasterTurns: the plain law, and the whole walk. -/
import Derived.Test.YtllmckapiplpcaaRasW5
namespace Go.Proofs.Ytllmckapiplpcaa
open Go.RowKit

section
variable {W H : Int} {ps : List Px}
theorem fl1 : flipL W H ps 1 = gridL W H fun a b => pick W H ps (W - 1 - a) b := rfl
theorem fl2 : flipL W H ps 2 = gridL W H fun a b => pick W H ps a (H - 1 - b) := rfl
theorem fl3 : flipL W H ps 3 = gridL H W fun a b => pick W H ps b a := rfl
theorem fl4 : flipL W H ps 4 = gridL W H fun a b => pick W H ps (W - 1 - a) (H - 1 - b) := rfl
theorem g1 (f : Int → Int → Px) (hw : 0 ≤ W) : flipL W H (gridL W H f) 1 = gridL W H fun a b => f (W - 1 - a) b := by
  rw [fl1]; exact grid_congr (fun x y h1 h2 h3 h4 => pick_grid f (by omega) (by omega)) hw
theorem g2 (f : Int → Int → Px) (hw : 0 ≤ W) : flipL W H (gridL W H f) 2 = gridL W H fun a b => f a (H - 1 - b) := by
  rw [fl2]; exact grid_congr (fun x y h1 h2 h3 h4 => pick_grid f (by omega) (by omega)) hw
theorem g3 (f : Int → Int → Px) (hh : 0 ≤ H) : flipL W H (gridL W H f) 3 = gridL H W fun a b => f b a := by
  rw [fl3]; exact grid_congr (fun x y h1 h2 h3 h4 => pick_grid f (by omega) (by omega)) hh
theorem g4 (f : Int → Int → Px) (hw : 0 ≤ W) : flipL W H (gridL W H f) 4 = gridL W H fun a b => f (W - 1 - a) (H - 1 - b) := by
  rw [fl4]; exact grid_congr (fun x y h1 h2 h3 h4 => pick_grid f (by omega) (by omega)) hw
variable (i : IOk W H ps)
include i
theorem ok1 : IOk W H (flipL W H ps 1) := grid_ok i.w0 i.w1 i.h0 i.h1 i.z (fun _ _ => pick_ok i _ _)
theorem ok2 : IOk W H (flipL W H ps 2) := grid_ok i.w0 i.w1 i.h0 i.h1 i.z (fun _ _ => pick_ok i _ _)
theorem ok3 : IOk H W (flipL W H ps 3) := grid_ok i.h0 i.h1 i.w0 i.w1 i.z.symm (fun _ _ => pick_ok i _ _)
theorem ok4 : IOk W H (flipL W H ps 4) := grid_ok i.w0 i.w1 i.h0 i.h1 i.z (fun _ _ => pick_ok i _ _)
theorem back1 : flipL W H (flipL W H ps 1) 1 = ps := by
  rw [fl1 (W := W) (H := H) (ps := ps), g1 _ i.w0]
  refine Eq.trans (grid_congr (fun x y _ _ _ _ => ?_) i.w0) (grid_pick i)
  rw [show W - 1 - (W - 1 - x) = x by omega]
theorem back2 : flipL W H (flipL W H ps 2) 2 = ps := by
  rw [fl2 (W := W) (H := H) (ps := ps), g2 _ i.w0]
  refine Eq.trans (grid_congr (fun x y _ _ _ _ => ?_) i.w0) (grid_pick i)
  rw [show H - 1 - (H - 1 - y) = y by omega]
theorem back3 : flipL H W (flipL W H ps 3) 3 = ps := by
  rw [fl3 (W := W) (H := H) (ps := ps), g3 _ i.w0]
  exact grid_pick i
theorem back4 : flipL W H (flipL W H ps 4) 4 = ps := by
  rw [fl4 (W := W) (H := H) (ps := ps), g4 _ i.w0]
  refine Eq.trans (grid_congr (fun x y _ _ _ _ => ?_) i.w0) (grid_pick i)
  rw [show W - 1 - (W - 1 - x) = x by omega, show H - 1 - (H - 1 - y) = y by omega]
theorem half : flipL W H (flipL W H ps 1) 2 = flipL W H ps 4 := by
  rw [fl1, g2 _ i.w0, fl4]
theorem turn : flipL H W (flipL W H ps 3) 1 = flipL W H (flipL W H ps 2) 3 := by
  rw [fl3, g1 _ i.h0, fl2, g3 _ i.h0]
end
theorem flip_ok {W H : Int} {ps : List Px} (kd : Int) (hk : 1 ≤ kd ∧ kd ≤ 4) (i : IOk W H ps) (A : Option Addr) (c : Nat) (w : World) (h : Pixs w w.heap.size (.slice A ps.length c) ps) :
    Calls Try.prog 31 #[.agg #[.int .i64 W, .int .i64 H, .slice A ps.length c], .int .i64 kd] w (ImPost 0 (if kd = 3 then H else W) (if kd = 3 then W else H) (flipL W H ps kd) w) := by
  have := flip_any W H A c ps w h kd
  rw [show ferr (ichk W H ps) kd = 0 by unfold ferr; rw [if_pos ((ichk_iff W H ps).2 i), if_pos hk], imOut_ok] at this
  exact this
theorem walk_turns (v0 : Value) (x0 : Int × Int × List Px) (w : World) (h0 : ImgV w v0 x0) :
    Calls Try.prog 11 #[v0] w fun e w' => e = .returned (.bool true) ∧ Below w.heap.size w w' := by
  obtain ⟨⟨A, n, c, rfl, hp⟩, _, _⟩ := h0
  obtain ⟨W, H, ps⟩ := x0
  obtain rfl := hp.len
  by_cases hc : ichk W H ps = 0
  · have i := (ichk_iff W H ps).1 hc
    refine turns_yes W H A c ps (flipL W H ps 1) (flipL W H ps 2) (flipL W H ps 3) (flipL W H ps 4) (flipL H W (flipL W H ps 3) 1) w hp
      (fun w' h => flip_ok 1 (by omega) i A c w' h) (fun w' A' c' h => ?_) (fun w' h => flip_ok 2 (by omega) i A c w' h) (fun w' A' c' h => ?_) (fun w' h => flip_ok 3 (by omega) i A c w' h) (fun w' A' c' h => ?_) (fun w' h => flip_ok 4 (by omega) i A c w' h) (fun w' A' c' h => ?_)
      (fun w' A' c' h => ?_) (fun w' A' c' h => ?_) (fun w' A' c' h => ?_) (fun w' h => ?_)
    · have := flip_ok 1 (by omega) (ok1 i) A' c' w' h
      rw [back1 i] at this; exact this
    · have := flip_ok 2 (by omega) (ok2 i) A' c' w' h
      rw [back2 i] at this; exact this
    · have := flip_ok 3 (by omega) (ok3 i) A' c' w' h
      rw [back3 i] at this; exact this
    · have := flip_ok 4 (by omega) (ok4 i) A' c' w' h
      rw [back4 i] at this; exact this
    · have := flip_ok 2 (by omega) (ok1 i) A' c' w' h
      rw [half i] at this; exact this
    · exact flip_ok 1 (by omega) (ok3 i) A' c' w' h
    · have := flip_ok 3 (by omega) (ok2 i) A' c' w' h
      rw [← turn i] at this; exact this
    · have := icheck_any W H A ps.length c ps w' h
      rw [hc] at this; exact this
  · exact turns_no W H A c ps (ichk W H ps) (by simp [hc]) w hp (fun w' h => icheck_any W H A ps.length c ps w' h)
end Go.Proofs.Ytllmckapiplpcaa
