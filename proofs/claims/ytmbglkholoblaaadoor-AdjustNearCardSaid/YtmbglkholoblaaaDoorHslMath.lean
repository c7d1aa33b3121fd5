/- Hue, saturation and lightness, there and back. No program in sight. -/
import Derived.Test.YtmbglkholoblaaaDoorPix
namespace Go.Proofs.YtmbglkholoblaaaDoor

def hslD (M m : Int) : Int := 65535 - max (M + m - 65535) (-(M + m - 65535))
def hslK (r g b : Int) : Int := if max (max r g) b = r then 0 else if max (max r g) b = g then 2 else 4
def hslE (r g b : Int) : Int := if max (max r g) b = r then g - b else if max (max r g) b = g then b - r else r - g
/-- ToHsl of three unit values. -/
def toHsl (r g b : Int) : Int × Int × Int :=
  if max (max r g) b - min (min r g) b = 0 then (0, 0, rdiv (max (max r g) b + min (min r g) b) 2)
  else (rdiv (65536 * (hslK r g b * (max (max r g) b - min (min r g) b) + hslE r g b)) (6 * (max (max r g) b - min (min r g) b)) % 65536,
    rdiv ((max (max r g) b - min (min r g) b) * 65535) (hslD (max (max r g) b) (min (min r g) b)), rdiv (max (max r g) b + min (min r g) b) 2)
def hslC (s l : Int) : Int := rdiv ((65535 - max (2 * l - 65535) (-(2 * l - 65535))) * s) 65535
def hslX (C q f : Int) : Int := if q % 2 = 1 then rdiv (C * (65536 - f)) 65536 else rdiv (C * f) 65536
def hslPick (q C x : Int) : Int × Int × Int := if q = 0 then (C, x, 0) else if q = 1 then (x, C, 0) else if q = 2 then (0, C, x) else if q = 3 then (0, x, C) else if q = 4 then (x, 0, C) else (C, 0, x)
/-- FromHsl of a hue from 0 to 65535 and two unit values, with a unit value that is not 0. -/
def fromHsl (h s l a : Int) : Px :=
  let C := hslC s l
  let q := 6 * h / 65536
  let p := hslPick q C (hslX C q (6 * h - 65536 * q))
  let n := rdiv (2 * l - C) 2
  ⟨lim16 (p.1 + n), lim16 (p.2.1 + n), lim16 (p.2.2 + n), a⟩

section
theorem hslD_bd {M m : Int} (h0 : 0 ≤ m) (h2 : M ≤ 65535) : M - m ≤ hslD M m ∧ hslD M m ≤ 65535 := by unfold hslD; omega
/-- The chroma comes back with an error of at most 2. -/
theorem chroma_back {M m : Int} (h0 : 0 ≤ m) (h1 : m < M) (h2 : M ≤ 65535) :
    let L := rdiv (M + m) 2
    let S := rdiv ((M - m) * 65535) (hslD M m)
    (0 ≤ S ∧ S ≤ 65535) ∧ (m ≤ L ∧ L ≤ M) ∧ (2 * L = M + m ∨ 2 * L = M + m + 1) ∧ (M - m) - 2 ≤ hslC S L ∧ hslC S L ≤ (M - m) + 2 ∧ 0 ≤ hslC S L ∧ hslC S L ≤ 65535 := by
  intro L S
  have hD := hslD_bd h0 h2
  have hL := rdiv_spec (M + m) 2 (by omega)
  have hS := rdiv_spec ((M - m) * 65535) (hslD M m) (by omega)
  have eL : L = rdiv (M + m) 2 := rfl
  have eS : S = rdiv ((M - m) * 65535) (hslD M m) := rfl
  rw [← eL] at hL
  rw [← eS] at hS
  have hL1 : m ≤ L ∧ L ≤ M := by omega
  have hL2 : 2 * L = M + m ∨ 2 * L = M + m + 1 := by omega
  have hDD : hslD M m = 65535 - max (M + m - 65535) (-(M + m - 65535)) := rfl
  generalize hslD M m = D at *
  have hS0 : 0 ≤ S := by
    rcases Int.lt_or_le S 0 with c | c
    · have : D * S ≤ D * (-1) := Int.mul_le_mul_of_nonneg_left (by omega) (by omega)
      omega
    · exact c
  have hS1 : S ≤ 65535 := by
    rcases Int.lt_or_le 65535 S with c | c
    · have : D * 65536 ≤ D * S := Int.mul_le_mul_of_nonneg_left (by omega) (by omega)
      omega
    · exact c
  unfold hslC
  have hC := rdiv_spec ((65535 - max (2 * L - 65535) (-(2 * L - 65535))) * S) 65535 (by omega)
  have hD' : D - 1 ≤ 65535 - max (2 * L - 65535) (-(2 * L - 65535)) ∧ 65535 - max (2 * L - 65535) (-(2 * L - 65535)) ≤ D + 1 ∧ 0 ≤ 65535 - max (2 * L - 65535) (-(2 * L - 65535)) ∧ 65535 - max (2 * L - 65535) (-(2 * L - 65535)) ≤ 65535 := by omega
  generalize 65535 - max (2 * L - 65535) (-(2 * L - 65535)) = D' at *
  generalize rdiv (D' * S) 65535 = C at *
  have e : D' * S = D * S + (D' - D) * S := by rw [Int.sub_mul]; omega
  have e1 : (D' - D) * S ≤ S := by
    have : (D' - D) * S ≤ 1 * S := Int.mul_le_mul_of_nonneg_right (by omega) hS0
    omega
  have e2 : -S ≤ (D' - D) * S := by
    have : (-1) * S ≤ (D' - D) * S := Int.mul_le_mul_of_nonneg_right (by omega) hS0
    omega
  have e3 : 0 ≤ D' * S := Int.mul_nonneg (by omega) hS0
  have e4 : D' * S ≤ 65535 * 65535 := Int.mul_le_mul (by omega) hS1 hS0 (by omega)
  refine ⟨⟨hS0, hS1⟩, hL1, hL2, by omega, by omega, by omega, by omega⟩
/-- The part of the wheel: the hue times 6 is in the cell j (from the channel's own), at a place near X. -/
theorem wheel {c C E H j f k : Int} (c0 : 0 < c) (c1 : c ≤ 65535) (C0 : 0 ≤ C) (C1 : C ≤ 65535) (hC : c - 2 ≤ C) (hC' : C ≤ c + 2) (hE : -c ≤ E) (hE' : E ≤ c)
    (hH : H = rdiv (65536 * (k * c + E)) (6 * c)) (hf : 6 * H = 65536 * (k + j) + f) (f0 : 0 ≤ f) (f1 : f < 65536) :
    (-2 ≤ j ∧ j ≤ 1) ∧ (-3 ≤ E - j * c ∧ E - j * c ≤ c + 3) ∧ E - j * c - 5 ≤ rdiv (C * f) 65536 ∧ rdiv (C * f) 65536 ≤ E - j * c + 5 ∧ c - (E - j * c) - 5 ≤ rdiv (C * (65536 - f)) 65536 ∧ rdiv (C * (65536 - f)) 65536 ≤ c - (E - j * c) + 5 ∧
      (0 ≤ rdiv (C * f) 65536 ∧ rdiv (C * f) 65536 ≤ C) ∧ 0 ≤ rdiv (C * (65536 - f)) 65536 ∧ rdiv (C * (65536 - f)) 65536 ≤ C := by
  have h := rdiv_spec (65536 * (k * c + E)) (6 * c) (by omega)
  rw [← hH] at h
  have e1 : 6 * c * H = c * (6 * H) := by rw [Int.mul_assoc, Int.mul_left_comm]
  rw [e1, hf] at h
  have e2 : c * (65536 * (k + j) + f) = 65536 * (k * c) + 65536 * (j * c) + c * f := by
    rw [Int.mul_add, Int.mul_left_comm, Int.mul_add, Int.mul_comm c k, Int.mul_comm c j, Int.mul_add]
  rw [e2] at h
  have e3 : 65536 * (k * c + E) = 65536 * (k * c) + 65536 * E := by omega
  rw [e3] at h
  have cf0 : 0 ≤ c * f := Int.mul_nonneg (by omega) f0
  have cf1 : c * f ≤ c * 65535 := Int.mul_le_mul_of_nonneg_left (by omega) (by omega)
  have j0 : -2 ≤ j := by
    rcases Int.lt_or_le j (-2) with d | d
    · have : j * c ≤ (-3) * c := Int.mul_le_mul_of_nonneg_right (by omega) (by omega)
      omega
    · exact d
  have j1 : j ≤ 1 := by
    rcases Int.lt_or_le 1 j with d | d
    · have : 2 * c ≤ j * c := Int.mul_le_mul_of_nonneg_right (by omega) (by omega)
      omega
    · exact d
  generalize j * c = J at *
  have x1 := rdiv_spec (C * f) 65536 (by omega)
  have x2 := rdiv_spec (C * (65536 - f)) 65536 (by omega)
  have e4 : C * f = c * f + (C - c) * f := by rw [Int.sub_mul]; omega
  have e5 : (C - c) * f ≤ 2 * 65536 := by
    have : (C - c) * f ≤ 2 * f := Int.mul_le_mul_of_nonneg_right (by omega) f0
    omega
  have e6 : -(2 * 65536) ≤ (C - c) * f := by
    have : (-2) * f ≤ (C - c) * f := Int.mul_le_mul_of_nonneg_right (by omega) f0
    omega
  have e8 : (C - c) * (65536 - f) ≤ 2 * 65536 := by
    have : (C - c) * (65536 - f) ≤ 2 * (65536 - f) := Int.mul_le_mul_of_nonneg_right (by omega) (by omega)
    omega
  have e9 : -(2 * 65536) ≤ (C - c) * (65536 - f) := by
    have : (-2) * (65536 - f) ≤ (C - c) * (65536 - f) := Int.mul_le_mul_of_nonneg_right (by omega) (by omega)
    omega
  rw [Int.mul_sub] at e8 e9
  have e7 : C * (65536 - f) = 65536 * C - C * f := by rw [Int.mul_sub]; omega
  have Cf0 : 0 ≤ C * f := Int.mul_nonneg C0 f0
  have Cf1 : C * f ≤ C * 65536 := Int.mul_le_mul_of_nonneg_left (by omega) C0
  rw [e7] at x2 ⊢
  generalize rdiv (C * f) 65536 = X at *
  generalize rdiv (65536 * C - C * f) 65536 = Y at *
  generalize C * f = P at *
  generalize (C - c) * f = Q at *
  generalize c * f = R at *
  refine ⟨⟨j0, j1⟩, ⟨by omega, by omega⟩, by omega, by omega, by omega, by omega, ⟨by omega, by omega⟩, by omega, by omega⟩
/-- The place on the wheel and its cell. -/
theorem wheel_cell {H q f j k : Int} (hf : 6 * H = 65536 * (k + j) + f) (f0 : 0 ≤ f) (f1 : f < 65536) (hj : -2 ≤ j ∧ j ≤ 1) (hk : 0 ≤ k ∧ k ≤ 4) (hq : q = if k + j < 0 then k + j + 6 else k + j) :
    6 * (H % 65536) / 65536 = q ∧ 6 * (H % 65536) - 65536 * q = f := by
  have h : H % 65536 = if k + j < 0 then H + 65536 else H := by
    split <;> omega
  rw [h, hq]
  split <;> omega
set_option maxHeartbeats 8000000 in
/-- There and back: a difference of at most 8 in each channel. -/
theorem hsl_near {r g b : Int} (a : Int) (hr : 0 ≤ r ∧ r ≤ 65535) (hg : 0 ≤ g ∧ g ≤ 65535) (hb : 0 ≤ b ∧ b ≤ 65535) (hc : max (max r g) b - min (min r g) b ≠ 0) :
    let t := toHsl r g b
    let p := fromHsl t.1 t.2.1 t.2.2 a
    (-8 ≤ r - p.r ∧ r - p.r ≤ 8) ∧ (-8 ≤ g - p.g ∧ g - p.g ≤ 8) ∧ (-8 ≤ b - p.b ∧ b - p.b ≤ 8) := by
  intro t p
  have et : t = toHsl r g b := rfl
  have ep : p = fromHsl t.1 t.2.1 t.2.2 a := rfl
  unfold toHsl at et
  rw [if_neg hc] at et
  rw [et] at ep
  clear et
  have hM : (max (max r g) b = r ∧ hslK r g b = 0 ∧ hslE r g b = g - b) ∨ (max (max r g) b = g ∧ hslK r g b = 2 ∧ hslE r g b = b - r) ∨ (max (max r g) b = b ∧ hslK r g b = 4 ∧ hslE r g b = r - g) := by
    unfold hslK hslE
    by_cases e1 : max (max r g) b = r
    · left; rw [if_pos e1, if_pos e1]; exact ⟨e1, rfl, rfl⟩
    · right
      by_cases e2 : max (max r g) b = g
      · left; rw [if_neg e1, if_neg e1, if_pos e2, if_pos e2]; exact ⟨e2, rfl, rfl⟩
      · right; rw [if_neg e1, if_neg e1, if_neg e2, if_neg e2]; exact ⟨by omega, rfl, rfl⟩
  have hb1 : r ≤ max (max r g) b ∧ g ≤ max (max r g) b ∧ b ≤ max (max r g) b ∧ min (min r g) b ≤ r ∧ min (min r g) b ≤ g ∧ min (min r g) b ≤ b ∧ (min (min r g) b = r ∨ min (min r g) b = g ∨ min (min r g) b = b) := by omega
  generalize max (max r g) b = M at *
  generalize min (min r g) b = m at *
  generalize hslK r g b = k at *
  generalize hslE r g b = E at *
  obtain ⟨⟨s0, s1⟩, ⟨l0, l1⟩, l2, c0, c1, c2, c3⟩ := chroma_back (M := M) (m := m) (by omega) (by omega) (by omega)
  generalize rdiv ((M - m) * 65535) (hslD M m) = S at *
  generalize rdiv (M + m) 2 = L at *
  have hn := rdiv_spec (2 * L - hslC S L) 2 (by omega)
  have hH : rdiv (65536 * (k * (M - m) + E)) (6 * (M - m)) = rdiv (65536 * (k * (M - m) + E)) (6 * (M - m)) := rfl
  generalize hHH : rdiv (65536 * (k * (M - m) + E)) (6 * (M - m)) = H at *
  unfold fromHsl at ep
  dsimp only at ep
  generalize hslC S L = C at *
  generalize rdiv (2 * L - C) 2 = n at *
  have hw := wheel (c := M - m) (C := C) (E := E) (H := H) (j := 6 * H / 65536 - k) (f := 6 * H % 65536) (k := k) (by omega) (by omega) c2 c3 (by omega) (by omega) (by omega) (by omega) hHH.symm (by omega) (by omega) (by omega)
  have hwc := wheel_cell (H := H) (q := if k + (6 * H / 65536 - k) < 0 then k + (6 * H / 65536 - k) + 6 else k + (6 * H / 65536 - k)) (f := 6 * H % 65536) (j := 6 * H / 65536 - k) (k := k) (by omega) (by omega) (by omega) hw.1 (by omega) rfl
  rw [hwc.1] at ep
  rw [hwc.2] at ep
  clear hwc hHH hH
  generalize 6 * H / 65536 - k = j at *
  generalize 6 * H % 65536 = f at *
  obtain ⟨⟨j0, j1⟩, ⟨w0, w1⟩, w2, w3, w4, w5, ⟨w6, w7⟩, w8, w9⟩ := hw
  unfold hslX at ep
  generalize rdiv (C * f) 65536 = X at *
  generalize rdiv (C * (65536 - f)) 65536 = Y at *
  rcases hM with ⟨e1, rfl, rfl⟩ | ⟨e1, rfl, rfl⟩ | ⟨e1, rfl, rfl⟩ <;> rcases (show j = -2 ∨ j = -1 ∨ j = 0 ∨ j = 1 by omega) with rfl | rfl | rfl | rfl
  all_goals
    simp only [hslPick] at ep
    simp at ep
    rw [ep]
    unfold lim16
    dsimp only
    refine ⟨⟨?_, ?_⟩, ⟨?_, ?_⟩, ?_, ?_⟩ <;> omega
/-- A gray comes back. -/
theorem hsl_gray {r : Int} (a : Int) (hr : 0 ≤ r ∧ r ≤ 65535) : let t := toHsl r r r; fromHsl t.1 t.2.1 t.2.2 a = ⟨r, r, r, a⟩ := by
  intro t
  have et : t = toHsl r r r := rfl
  unfold toHsl at et
  rw [if_pos (by omega)] at et
  have h := rdiv_spec (max (max r r) r + min (min r r) r) 2 (by omega)
  generalize rdiv (max (max r r) r + min (min r r) r) 2 = L at *
  obtain rfl : L = r := by omega
  rw [et]
  unfold fromHsl hslC
  have e0 : rdiv 0 65535 = 0 := by decide
  have h2 := rdiv_spec (2 * L) 2 (by omega)
  generalize hn : rdiv (2 * L) 2 = n at *
  obtain rfl : n = L := by omega
  simp [e0, hslPick, hslX, show rdiv 0 65536 = 0 by decide, hn, lim16_id n hr]
end
end Go.Proofs.YtmbglkholoblaaaDoor
