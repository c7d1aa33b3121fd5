/- Crop and Flip, each as one contract, for the program and for the reference. -/
import Derived.Test.YtllmckapiplpcaaRasCrop
import Derived.Test.YtllmckapiplpcaaRCrop
import Derived.Test.YtllmckapiplpcaaRCropE
import Derived.Test.YtllmckapiplpcaaFlipA
import Derived.Test.YtllmckapiplpcaaFlipB
import Derived.Test.YtllmckapiplpcaaFlipC
import Derived.Test.YtllmckapiplpcaaFlipD
import Derived.Test.YtllmckapiplpcaaRFlipA
import Derived.Test.YtllmckapiplpcaaRFlipB
import Derived.Test.YtllmckapiplpcaaRFlipC
import Derived.Test.YtllmckapiplpcaaRFlipD
namespace Go.Proofs.Ytllmckapiplpcaa
open Go.RowKit

def ferr (ch kd : Int) : Int := if ch = 0 then (if 1 ≤ kd ∧ kd ≤ 4 then 0 else 8) else ch
def flipF (W H : Int) (ps : List Px) (kd : Int) (a b : Int) : Px :=
  if kd = 1 then pick W H ps (W - 1 - a) b else if kd = 2 then pick W H ps a (H - 1 - b) else if kd = 3 then pick W H ps b a else pick W H ps (W - 1 - a) (H - 1 - b)
def flipL (W H : Int) (ps : List Px) (kd : Int) : List Px := gridL (if kd = 3 then H else W) (if kd = 3 then W else H) (flipF W H ps kd)
section
variable (W H : Int) (A : Option Addr) (c : Nat) (ps : List Px) (w : World) (h : Pixs w w.heap.size (.slice A ps.length c) ps)
include h
theorem crop_any (x y p q : Int) : Calls Try.prog 27 #[.agg #[.int .i64 W, .int .i64 H, .slice A ps.length c], .agg #[.int .i64 x, .int .i64 y, .int .i64 p, .int .i64 q]] w
    (ImOut (cerr (ichk W H ps) x y p q) (cside p q p) (cside p q q) (cropL W H ps x y p q) w) := by
  unfold cerr
  by_cases hc : ichk W H ps = 0
  · rw [if_pos hc]
    by_cases hv : rvalid x y p q = true
    · rw [if_pos hv]
      by_cases g1 : 256 < p
      · rw [if_pos (.inl g1), imOut_err (by omega)]; exact crop_bigw W H A c ps x y p q w h hc hv g1
      · by_cases g2 : 256 < q
        · rw [if_pos (.inr g2), imOut_err (by omega)]; exact crop_bigh W H A c ps x y p q w h hc hv ⟨by omega, g2⟩
        · rw [if_neg (by omega), imOut_ok]
          cases hm : rempty x y p q
          · have hz : ¬ (p = 0 ∨ q = 0) := by unfold rempty at hm; rw [hv] at hm; simp at hm; omega
            unfold cside
            rw [if_neg hz, if_neg hz]
            exact crop_yes W H A c ps x y p q w h hc hv ⟨by omega, by omega⟩ hm
          · have hz : p = 0 ∨ q = 0 := by unfold rempty at hm; rw [hv] at hm; simp at hm; exact hm
            unfold cside
            rw [if_pos hz, if_pos hz, cropL_nil hz]
            exact crop_emp W H A c ps x y p q w h hc hv ⟨by omega, by omega⟩ hm
    · rw [if_neg hv, imOut_err (by omega)]; exact crop_inv W H A c ps x y p q w h hc (by simpa using hv)
  · rw [if_neg hc, imOut_err hc]; exact crop_chk W H A c ps x y p q w h hc
theorem rcrop_any (x y p q : Int) : Calls Try.prog 28 #[.agg #[.int .i64 W, .int .i64 H, .slice A ps.length c], .agg #[.int .i64 x, .int .i64 y, .int .i64 p, .int .i64 q]] w
    (ImOut (cerr (ichk W H ps) x y p q) (cside p q p) (cside p q q) (cropL W H ps x y p q) w) := by
  unfold cerr
  by_cases hc : ichk W H ps = 0
  · rw [if_pos hc]
    by_cases hv : rvalid x y p q = true
    · rw [if_pos hv]
      by_cases g1 : 256 < p
      · rw [if_pos (.inl g1), imOut_err (by omega)]; exact rcrop_bigw W H A c ps x y p q w h hc hv g1
      · by_cases g2 : 256 < q
        · rw [if_pos (.inr g2), imOut_err (by omega)]; exact rcrop_bigh W H A c ps x y p q w h hc hv ⟨by omega, g2⟩
        · rw [if_neg (by omega), imOut_ok]
          cases hm : rempty x y p q
          · have hz : ¬ (p = 0 ∨ q = 0) := by unfold rempty at hm; rw [hv] at hm; simp at hm; omega
            unfold cside
            rw [if_neg hz, if_neg hz]
            exact rcrop_yes W H A c ps x y p q w h hc hv ⟨by omega, by omega⟩ hm
          · have hz : p = 0 ∨ q = 0 := by unfold rempty at hm; rw [hv] at hm; simp at hm; exact hm
            unfold cside
            rw [if_pos hz, if_pos hz, cropL_nil hz]
            exact rcrop_emp W H A c ps x y p q w h hc hv ⟨by omega, by omega⟩ hm
    · rw [if_neg hv, imOut_err (by omega)]; exact rcrop_inv W H A c ps x y p q w h hc (by simpa using hv)
  · rw [if_neg hc, imOut_err hc]; exact rcrop_chk W H A c ps x y p q w h hc
theorem flip_any (kd : Int) : Calls Try.prog 31 #[.agg #[.int .i64 W, .int .i64 H, .slice A ps.length c], .int .i64 kd] w
    (ImOut (ferr (ichk W H ps) kd) (if kd = 3 then H else W) (if kd = 3 then W else H) (flipL W H ps kd) w) := by
  unfold ferr
  by_cases hc : ichk W H ps = 0
  · rw [if_pos hc]
    by_cases k0 : kd < 1
    · rw [if_neg (by omega), imOut_err (by omega)]; exact flip_lo W H A c ps kd w h hc k0
    · by_cases k5 : 4 < kd
      · rw [if_neg (by omega), imOut_err (by omega)]; exact flip_hi W H A c ps kd w h hc k5
      · rw [if_pos (by omega), imOut_ok]
        rcases (show kd = 1 ∨ kd = 2 ∨ kd = 3 ∨ kd = 4 by omega) with rfl | rfl | rfl | rfl
        · exact flip_1 W H A c ps w h hc
        · exact flip_2 W H A c ps w h hc
        · exact flip_3 W H A c ps w h hc
        · exact flip_4 W H A c ps w h hc
  · rw [if_neg hc, imOut_err hc]; exact flip_chk W H A c ps kd w h hc
theorem rflip_any (kd : Int) : Calls Try.prog 32 #[.agg #[.int .i64 W, .int .i64 H, .slice A ps.length c], .int .i64 kd] w
    (ImOut (ferr (ichk W H ps) kd) (if kd = 3 then H else W) (if kd = 3 then W else H) (flipL W H ps kd) w) := by
  unfold ferr
  by_cases hc : ichk W H ps = 0
  · rw [if_pos hc]
    by_cases k0 : kd < 1
    · rw [if_neg (by omega), imOut_err (by omega)]; exact rflip_lo W H A c ps kd w h hc k0
    · by_cases k5 : 4 < kd
      · rw [if_neg (by omega), imOut_err (by omega)]; exact rflip_hi W H A c ps kd w h hc k5
      · rw [if_pos (by omega), imOut_ok]
        rcases (show kd = 1 ∨ kd = 2 ∨ kd = 3 ∨ kd = 4 by omega) with rfl | rfl | rfl | rfl
        · exact rflip_1 W H A c ps w h hc
        · exact rflip_2 W H A c ps w h hc
        · exact rflip_3 W H A c ps w h hc
        · exact rflip_4 W H A c ps w h hc
  · rw [if_neg hc, imOut_err hc]; exact rflip_chk W H A c ps kd w h hc
end
end Go.Proofs.Ytllmckapiplpcaa
