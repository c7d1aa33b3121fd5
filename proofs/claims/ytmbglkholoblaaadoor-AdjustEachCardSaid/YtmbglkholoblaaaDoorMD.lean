/- Hue, saturation and lightness, there and back. No program in sight. -/
import Derived.Test.YtmbglkholoblaaaDoorMB
import Derived.Test.YtmbglkholoblaaaDoorMC
import Derived.Test.YtmbglkholoblaaaDoorMA
import Derived.Deep.LoopGhost
import Derived.Deep.RegionLaw
import Derived.Deep.CutRange
namespace Go.Proofs.YtmbglkholoblaaaDoor

def hslD (M m : Int) : Int := 65535 - max (M + m - 65535) (-(M + m - 65535))
def hslK (r g b : Int) : Int := if max (max r g) b = r then 0 else if max (max r g) b = g then 2 else 4
def hslE (r g b : Int) : Int := if max (max r g) b = r then g - b else if max (max r g) b = g then b - r else r - g
/-- ToHsl of three unit values. -/
def toHsl (r g b : Int) : Int × Int × Int :=
  if max (max r g) b - min (min r g) b = 0 then (0, 0, rdiv (max (max r g) b + min (min r g) b) 2)
  else (rdiv (65536 * (hslK r g b * (max (max r g) b - min (min r g) b) + hslE r g b)) (6 * (max (max r g) b - min (min r g) b)) % 65536,
    rdiv ((max (max r g) b - min (min r g) b) * 65535) (hslD (max (max r g) b) (min (min r g) b)), rdiv (max (max r g) b + min (min r g) b) 2)
def hslC (s l : Int) : Int := rdiv ((65535 - max (2 * l - 65535) (-(2 * l - 65535))) * s) 65535
def hslX (C q f : Int) : Int := if q % 2 = 1 then rdiv (C * (65536 - f)) 65536 else rdiv (C * f) 65536
def hslPick (q C x : Int) : Int × Int × Int := if q = 0 then (C, x, 0) else if q = 1 then (x, C, 0) else if q = 2 then (0, C, x) else if q = 3 then (0, x, C) else if q = 4 then (x, 0, C) else (C, 0, x)
/-- FromHsl of a hue from 0 to 65535 and two unit values, with a unit value that is not 0. -/
def fromHsl (h s l a : Int) : Px :=
  let C := hslC s l
  let q := 6 * h / 65536
  let p := hslPick q C (hslX C q (6 * h - 65536 * q))
  let n := rdiv (2 * l - C) 2
  ⟨lim16 (p.1 + n), lim16 (p.2.1 + n), lim16 (p.2.2 + n), a⟩

section
theorem hslD_bd {M m : Int} (h0 : 0 ≤ m) (h2 : M ≤ 65535) : M - m ≤ hslD M m ∧ hslD M m ≤ 65535 := by unfold hslD; omega
/-- The chroma comes back with an error of at most 2. -/
theorem chroma_back {M m : Int} (h0 : 0 ≤ m) (h1 : m < M) (h2 : M ≤ 65535) :
    let L := rdiv (M + m) 2
    let S := rdiv ((M - m) * 65535) (hslD M m)
    (0 ≤ S ∧ S ≤ 65535) ∧ (m ≤ L ∧ L ≤ M) ∧ (2 * L = M + m ∨ 2 * L = M + m + 1) ∧ (M - m) - 2 ≤ hslC S L ∧ hslC S L ≤ (M - m) + 2 ∧ 0 ≤ hslC S L ∧ hslC S L ≤ 65535 := by
  intro L S
  have hD := hslD_bd h0 h2
  have hL := rdiv_spec (M + m) 2 (by omega)
  have hS := rdiv_spec ((M - m) * 65535) (hslD M m) (by omega)
  have eL : L = rdiv (M + m) 2 := rfl
  have eS : S = rdiv ((M - m) * 65535) (hslD M m) := rfl
  rw [← eL] at hL
  rw [← eS] at hS
  have hL1 : m ≤ L ∧ L ≤ M := by omega
  have hL2 : 2 * L = M + m ∨ 2 * L = M + m + 1 := by omega
  have hDD : hslD M m = 65535 - max (M + m - 65535) (-(M + m - 65535)) := rfl
  generalize hslD M m = D at *
  have hS0 : 0 ≤ S := by
    rcases Int.lt_or_le S 0 with c | c
    · have : D * S ≤ D * (-1) := Int.mul_le_mul_of_nonneg_left (by omega) (by omega)
      omega
    · exact c
  have hS1 : S ≤ 65535 := by
    rcases Int.lt_or_le 65535 S with c | c
    · have : D * 65536 ≤ D * S := Int.mul_le_mul_of_nonneg_left (by omega) (by omega)
      omega
    · exact c
  unfold hslC
  have hC := rdiv_spec ((65535 - max (2 * L - 65535) (-(2 * L - 65535))) * S) 65535 (by omega)
  have hD' : D - 1 ≤ 65535 - max (2 * L - 65535) (-(2 * L - 65535)) ∧ 65535 - max (2 * L - 65535) (-(2 * L - 65535)) ≤ D + 1 ∧ 0 ≤ 65535 - max (2 * L - 65535) (-(2 * L - 65535)) ∧ 65535 - max (2 * L - 65535) (-(2 * L - 65535)) ≤ 65535 := by omega
  generalize 65535 - max (2 * L - 65535) (-(2 * L - 65535)) = D' at *
  generalize rdiv (D' * S) 65535 = C at *
  have e : D' * S = D * S + (D' - D) * S := by rw [Int.sub_mul]; omega
  have e1 : (D' - D) * S ≤ S := by
    have : (D' - D) * S ≤ 1 * S := Int.mul_le_mul_of_nonneg_right (by omega) hS0
    omega
  have e2 : -S ≤ (D' - D) * S := by
    have : (-1) * S ≤ (D' - D) * S := Int.mul_le_mul_of_nonneg_right (by omega) hS0
    omega
  have e3 : 0 ≤ D' * S := Int.mul_nonneg (by omega) hS0
  have e4 : D' * S ≤ 65535 * 65535 := Int.mul_le_mul (by omega) hS1 hS0 (by omega)
  refine ⟨⟨hS0, hS1⟩, hL1, hL2, by omega, by omega, by omega, by omega⟩
/-- The part of the wheel: the hue times 6 is in the cell j (from the channel's own), at a place near X. -/
theorem wheel {c C E H j f k : Int} (c0 : 0 < c) (c1 : c ≤ 65535) (C0 : 0 ≤ C) (C1 : C ≤ 65535) (hC : c - 2 ≤ C) (hC' : C ≤ c + 2) (hE : -c ≤ E) (hE' : E ≤ c)
    (hH : H = rdiv (65536 * (k * c + E)) (6 * c)) (hf : 6 * H = 65536 * (k + j) + f) (f0 : 0 ≤ f) (f1 : f < 65536) :
    (-2 ≤ j ∧ j ≤ 1) ∧ (-3 ≤ E - j * c ∧ E - j * c ≤ c + 3) ∧ E - j * c - 5 ≤ rdiv (C * f) 65536 ∧ rdiv (C * f) 65536 ≤ E - j * c + 5 ∧ c - (E - j * c) - 5 ≤ rdiv (C * (65536 - f)) 65536 ∧ rdiv (C * (65536 - f)) 65536 ≤ c - (E - j * c) + 5 ∧
      (0 ≤ rdiv (C * f) 65536 ∧ rdiv (C * f) 65536 ≤ C) ∧ 0 ≤ rdiv (C * (65536 - f)) 65536 ∧ rdiv (C * (65536 - f)) 65536 ≤ C := by
  have h := rdiv_spec (65536 * (k * c + E)) (6 * c) (by omega)
  rw [← hH] at h
  have e1 : 6 * c * H = c * (6 * H) := by rw [Int.mul_assoc, Int.mul_left_comm]
  rw [e1, hf] at h
  have e2 : c * (65536 * (k + j) + f) = 65536 * (k * c) + 65536 * (j * c) + c * f := by
    rw [Int.mul_add, Int.mul_left_comm, Int.mul_add, Int.mul_comm c k, Int.mul_comm c j, Int.mul_add]
  rw [e2] at h
  have e3 : 65536 * (k * c + E) = 65536 * (k * c) + 65536 * E := by omega
  rw [e3] at h
  have cf0 : 0 ≤ c * f := Int.mul_nonneg (by omega) f0
  have cf1 : c * f ≤ c * 65535 := Int.mul_le_mul_of_nonneg_left (by omega) (by omega)
  have j0 : -2 ≤ j := by
    rcases Int.lt_or_le j (-2) with d | d
    · have : j * c ≤ (-3) * c := Int.mul_le_mul_of_nonneg_right (by omega) (by omega)
      omega
    · exact d
  have j1 : j ≤ 1 := by
    rcases Int.lt_or_le 1 j with d | d
    · have : 2 * c ≤ j * c := Int.mul_le_mul_of_nonneg_right (by omega) (by omega)
      omega
    · exact d
  generalize j * c = J at *
  have x1 := rdiv_spec (C * f) 65536 (by omega)
  have x2 := rdiv_spec (C * (65536 - f)) 65536 (by omega)
  have e4 : C * f = c * f + (C - c) * f := by rw [Int.sub_mul]; omega
  have e5 : (C - c) * f ≤ 2 * 65536 := by
    have : (C - c) * f ≤ 2 * f := Int.mul_le_mul_of_nonneg_right (by omega) f0
    omega
  have e6 : -(2 * 65536) ≤ (C - c) * f := by
    have : (-2) * f ≤ (C - c) * f := Int.mul_le_mul_of_nonneg_right (by omega) f0
    omega
  have e8 : (C - c) * (65536 - f) ≤ 2 * 65536 := by
    have : (C - c) * (65536 - f) ≤ 2 * (65536 - f) := Int.mul_le_mul_of_nonneg_right (by omega) (by omega)
    omega
  have e9 : -(2 * 65536) ≤ (C - c) * (65536 - f) := by
    have : (-2) * (65536 - f) ≤ (C - c) * (65536 - f) := Int.mul_le_mul_of_nonneg_right (by omega) (by omega)
    omega
  rw [Int.mul_sub] at e8 e9
  have e7 : C * (65536 - f) = 65536 * C - C * f := by rw [Int.mul_sub]; omega
  have Cf0 : 0 ≤ C * f := Int.mul_nonneg C0 f0
  have Cf1 : C * f ≤ C * 65536 := Int.mul_le_mul_of_nonneg_left (by omega) C0
  rw [e7] at x2 ⊢
  generalize rdiv (C * f) 65536 = X at *
  generalize rdiv (65536 * C - C * f) 65536 = Y at *
  generalize C * f = P at *
  generalize (C - c) * f = Q at *
  generalize c * f = R at *
  refine ⟨⟨j0, j1⟩, ⟨by omega, by omega⟩, by omega, by omega, by omega, by omega, ⟨by omega, by omega⟩, by omega, by omega⟩
/-- The place on the wheel and its cell. -/
theorem wheel_cell {H q f j k : Int} (hf : 6 * H = 65536 * (k + j) + f) (f0 : 0 ≤ f) (f1 : f < 65536) (hj : -2 ≤ j ∧ j ≤ 1) (hk : 0 ≤ k ∧ k ≤ 4) (hq : q = if k + j < 0 then k + j + 6 else k + j) :
    6 * (H % 65536) / 65536 = q ∧ 6 * (H % 65536) - 65536 * q = f := by
  have h : H % 65536 = if k + j < 0 then H + 65536 else H := by
    split <;> omega
  rw [h, hq]
  split <;> omega
set_option maxHeartbeats 8000000 in
/-- There and back: a difference of at most 8 in each channel. -/
theorem hsl_near {r g b : Int} (a : Int) (hr : 0 ≤ r ∧ r ≤ 65535) (hg : 0 ≤ g ∧ g ≤ 65535) (hb : 0 ≤ b ∧ b ≤ 65535) (hc : max (max r g) b - min (min r g) b ≠ 0) :
    let t := toHsl r g b
    let p := fromHsl t.1 t.2.1 t.2.2 a
    (-8 ≤ r - p.r ∧ r - p.r ≤ 8) ∧ (-8 ≤ g - p.g ∧ g - p.g ≤ 8) ∧ (-8 ≤ b - p.b ∧ b - p.b ≤ 8) := by
  intro t p
  have et : t = toHsl r g b := rfl
  have ep : p = fromHsl t.1 t.2.1 t.2.2 a := rfl
  unfold toHsl at et
  rw [if_neg hc] at et
  rw [et] at ep
  clear et
  have hM : (max (max r g) b = r ∧ hslK r g b = 0 ∧ hslE r g b = g - b) ∨ (max (max r g) b = g ∧ hslK r g b = 2 ∧ hslE r g b = b - r) ∨ (max (max r g) b = b ∧ hslK r g b = 4 ∧ hslE r g b = r - g) := by
    unfold hslK hslE
    by_cases e1 : max (max r g) b = r
    · left; rw [if_pos e1, if_pos e1]; exact ⟨e1, rfl, rfl⟩
    · right
      by_cases e2 : max (max r g) b = g
      · left; rw [if_neg e1, if_neg e1, if_pos e2, if_pos e2]; exact ⟨e2, rfl, rfl⟩
      · right; rw [if_neg e1, if_neg e1, if_neg e2, if_neg e2]; exact ⟨by omega, rfl, rfl⟩
  have hb1 : r ≤ max (max r g) b ∧ g ≤ max (max r g) b ∧ b ≤ max (max r g) b ∧ min (min r g) b ≤ r ∧ min (min r g) b ≤ g ∧ min (min r g) b ≤ b ∧ (min (min r g) b = r ∨ min (min r g) b = g ∨ min (min r g) b = b) := by omega
  generalize max (max r g) b = M at *
  generalize min (min r g) b = m at *
  generalize hslK r g b = k at *
  generalize hslE r g b = E at *
  obtain ⟨⟨s0, s1⟩, ⟨l0, l1⟩, l2, c0, c1, c2, c3⟩ := chroma_back (M := M) (m := m) (by omega) (by omega) (by omega)
  generalize rdiv ((M - m) * 65535) (hslD M m) = S at *
  generalize rdiv (M + m) 2 = L at *
  have hn := rdiv_spec (2 * L - hslC S L) 2 (by omega)
  have hH : rdiv (65536 * (k * (M - m) + E)) (6 * (M - m)) = rdiv (65536 * (k * (M - m) + E)) (6 * (M - m)) := rfl
  generalize hHH : rdiv (65536 * (k * (M - m) + E)) (6 * (M - m)) = H at *
  unfold fromHsl at ep
  dsimp only at ep
  generalize hslC S L = C at *
  generalize rdiv (2 * L - C) 2 = n at *
  have hw := wheel (c := M - m) (C := C) (E := E) (H := H) (j := 6 * H / 65536 - k) (f := 6 * H % 65536) (k := k) (by omega) (by omega) c2 c3 (by omega) (by omega) (by omega) (by omega) hHH.symm (by omega) (by omega) (by omega)
  have hwc := wheel_cell (H := H) (q := if k + (6 * H / 65536 - k) < 0 then k + (6 * H / 65536 - k) + 6 else k + (6 * H / 65536 - k)) (f := 6 * H % 65536) (j := 6 * H / 65536 - k) (k := k) (by omega) (by omega) (by omega) hw.1 (by omega) rfl
  rw [hwc.1] at ep
  rw [hwc.2] at ep
  clear hwc hHH hH
  generalize 6 * H / 65536 - k = j at *
  generalize 6 * H % 65536 = f at *
  obtain ⟨⟨j0, j1⟩, ⟨w0, w1⟩, w2, w3, w4, w5, ⟨w6, w7⟩, w8, w9⟩ := hw
  unfold hslX at ep
  generalize rdiv (C * f) 65536 = X at *
  generalize rdiv (C * (65536 - f)) 65536 = Y at *
  rcases hM with ⟨e1, rfl, rfl⟩ | ⟨e1, rfl, rfl⟩ | ⟨e1, rfl, rfl⟩ <;> rcases (show j = -2 ∨ j = -1 ∨ j = 0 ∨ j = 1 by omega) with rfl | rfl | rfl | rfl
  all_goals
    simp only [hslPick] at ep
    simp at ep
    rw [ep]
    unfold lim16
    dsimp only
    refine ⟨⟨?_, ?_⟩, ⟨?_, ?_⟩, ?_, ?_⟩ <;> omega
/-- A gray comes back. -/
theorem hsl_gray {r : Int} (a : Int) (hr : 0 ≤ r ∧ r ≤ 65535) : let t := toHsl r r r; fromHsl t.1 t.2.1 t.2.2 a = ⟨r, r, r, a⟩ := by
  intro t
  have et : t = toHsl r r r := rfl
  unfold toHsl at et
  rw [if_pos (by omega)] at et
  have h := rdiv_spec (max (max r r) r + min (min r r) r) 2 (by omega)
  generalize rdiv (max (max r r) r + min (min r r) r) 2 = L at *
  obtain rfl : L = r := by omega
  rw [et]
  unfold fromHsl hslC
  have e0 : rdiv 0 65535 = 0 := by decide
  have h2 := rdiv_spec (2 * L) 2 (by omega)
  generalize hn : rdiv (2 * L) 2 = n at *
  obtain rfl : n = L := by omega
  simp [e0, hslPick, hslX, show rdiv 0 65536 = 0 by decide, hn, lim16_id n hr]
end
end Go.Proofs.YtmbglkholoblaaaDoor
namespace Go.Proofs.YtmbglkholoblaaaDoor

/-- A parameter; a stop's place and color. -/
def prm (l : List Int) (i : Nat) : Int := l.getD i 0
def sat (ss : List (Int × Px)) (i : Nat) : Int := (ss.getD i (0, Px.zero)).1
def sco (ss : List (Int × Px)) (i : Nat) : Px := (ss.getD i (0, Px.zero)).2
def cntOk (kind : Int) (n : Nat) : Bool :=
  if kind = 2 then decide (n = 5) else if kind = 3 then decide (4 ≤ n ∧ n ≤ 16 ∧ n % 2 = 0) else if kind = 4 ∨ kind = 11 then decide (n = 2) else if kind = 5 ∨ kind = 9 then decide (n = 3)
  else if kind = 6 ∨ kind = 7 then decide (n = 1) else if kind = 8 then decide (n = 9) else decide (n = 0)
def spLo (kind i : Int) : Int :=
  if kind = 2 ∧ i = 2 then 1 else if kind = 4 ∨ (kind = 5 ∧ 0 < i) ∨ (kind = 11 ∧ i = 1) then -65535 else if kind = 5 then -32768 else if kind = 7 then 2 else if kind = 8 then -262140 else if kind = 11 then -128 else 0
def spHi (kind i : Int) : Int :=
  if kind = 2 ∧ i = 2 then 256 else if kind = 4 ∨ (kind = 5 ∧ 0 < i) ∨ (kind = 11 ∧ i = 1) then 65535 else if kind = 5 then 32768 else if kind = 7 then 256 else if kind = 8 then 262140 else if kind = 11 then 128 else 65535
/-- Parameters and stops in their ranges. -/
def RngOk (kind : Int) (l : List Int) (ss : List (Int × Px)) : Prop :=
  (∀ i : Nat, i < l.length → spLo kind i ≤ prm l i ∧ prm l i ≤ spHi kind i) ∧ ¬ (kind = 9 ∧ prm l 0 = 0 ∧ prm l 1 = 0 ∧ prm l 2 = 0) ∧ (∀ i : Nat, i < ss.length → (0 ≤ sat ss i ∧ sat ss i ≤ 65535) ∧ (sco ss i).ok)
/-- Parameters and stops in their order. -/
def OrdOk (kind : Int) (l : List Int) (ss : List (Int × Px)) : Prop :=
  ¬ (kind = 2 ∧ prm l 1 ≤ prm l 0) ∧ (kind = 3 → ∀ i : Nat, i < l.length / 2 - 1 → prm l (2 * i) < prm l (2 * i + 2)) ∧ (∀ i : Nat, i < ss.length - 1 → sat ss i < sat ss (i + 1))
instance (kind : Int) (l : List Int) (ss : List (Int × Px)) : Decidable (RngOk kind l ss) := by unfold RngOk Px.ok; infer_instance
instance (kind : Int) (l : List Int) (ss : List (Int × Px)) : Decidable (OrdOk kind l ss) := by unfold OrdOk; infer_instance
def rngB (kind : Int) (l : List Int) (ss : List (Int × Px)) : Bool := decide (RngOk kind l ss)
def ordB (kind : Int) (l : List Int) (ss : List (Int × Px)) : Bool := decide (OrdOk kind l ss)
/-- The error of an adjustment. -/
def achk (kind : Int) (l : List Int) (ss : List (Int × Px)) : Int :=
  if kind < 1 ∨ 11 < kind then 8 else if cntOk kind l.length = false ∨ (decide (0 < ss.length) ≠ decide (kind = 10)) then 1 else if 16 < ss.length then 3 else if rngB kind l ss = false then 2 else if ordB kind l ss = false then 24 else 0
/-- The default parameters. -/
def dfl (kind : Int) : List Int :=
  if kind = 2 then [0, 65535, 16, 0, 65535] else if kind = 3 then [0, 0, 65535, 65535] else if kind = 4 ∨ kind = 11 then [0, 0] else if kind = 5 then [0, 0, 0] else if kind = 6 then [32768] else if kind = 7 then [4]
  else if kind = 8 then [65535, 0, 0, 0, 65535, 0, 0, 0, 65535] else if kind = 9 then [13933, 46871, 4731] else []
def derr (kind : Int) : Int := if 1 ≤ kind ∧ kind ≤ 11 then 0 else 8

def levT (l : List Int) (c : Int) : Int := lim16 (rdiv ((c - prm l 0) * 65535) (prm l 1 - prm l 0))
def levU (t g : Int) : Int := rdiv (65535 * t * g) (t * g + 16 * (65535 - t))
def lerp (a b t : Int) : Int := rdiv (a * (65535 - t) + b * t) 65535
def levF (l : List Int) (c : Int) : Int := lerp (prm l 3) (prm l 4) (levU (levT l c) (prm l 2))
def briF (l : List Int) (c : Int) : Int := lim16 (32768 + rdiv ((c + prm l 0 - 32768) * (65535 + prm l 1)) 65535)
def posF (n c : Int) : Int := rdiv (rdiv (c * n) 65535 * 65535) n
def facs : List Int := [65536, 68438, 71468, 74632, 77936, 81386, 84990, 88752, 92682, 96785, 101070, 105545, 110218, 115098, 120194, 125515]
def expD (s c : Int) : Int := if 0 ≤ s / 16 then rdiv (c * facs.getD (s % 16).toNat 0 * 2 ^ (s / 16).toNat) 65536 else rdiv (c * facs.getD (s % 16).toNat 0) (65536 * 2 ^ (-(s / 16)).toNat)
def expF (l : List Int) (c : Int) : Int := lim16 (expD (prm l 0) c + prm l 1)
/-- The knots of a list of parameters. -/
def knots (l : List Int) : List (Int × Int) := (List.range (l.length / 2)).map fun i => (prm l (2 * i), prm l (2 * i + 1))
/-- One channel. -/
def sing (kind : Int) (l : List Int) (c : Int) : Int :=
  if kind = 2 then levF l c else if kind = 3 then cat (knots l) c else if kind = 4 then briF l c else if kind = 7 then posF (prm l 0 - 1) c else if kind = 11 then expF l c else 65535 - c
def dot3 (a b c : Int) (p : Px) : Int := a * p.r + b * p.g + c * p.b
def luma (p : Px) : Int := rdiv (dot3 13933 46871 4731 ⟨lim16 p.r, lim16 p.g, lim16 p.b, 0⟩) 65535
def mixP (a b : Px) (t : Int) : Px :=
  let u := lim16 a.a * (65535 - lim16 t)
  let v := lim16 b.a * lim16 t
  if rdiv (u + v) 65535 = 0 then Px.zero else
  ⟨rdiv (lim16 a.r * u + lim16 b.r * v) (u + v), rdiv (lim16 a.g * u + lim16 b.g * v) (u + v), rdiv (lim16 a.b * u + lim16 b.b * v) (u + v), rdiv (u + v) 65535⟩
def mapGo (p : Int × Px) : List (Int × Px) → Int → Px
  | [], _ => p.2
  | q :: r, t => if t < q.1 then mixP p.2 q.2 (rdiv (65535 * (t - p.1)) (q.1 - p.1)) else mapGo q r t
def mapF (ss : List (Int × Px)) (t : Int) : Px := if t ≤ sat ss 0 then sco ss 0 else mapGo (sat ss 0, sco ss 0) (ss.drop 1) t
/-- Of any numbers. -/
def fromH (h s l a : Int) : Px := if lim16 a = 0 then Px.zero else fromHsl (h % 65536) (lim16 s) (lim16 l) (lim16 a)
def toH (p : Px) : Int × Int × Int := toHsl (lim16 p.r) (lim16 p.g) (lim16 p.b)
def hueL (l2 v : Int) : Int := if 0 ≤ l2 then v + rdiv ((65535 - v) * l2) 65535 else v - rdiv (v * (-l2)) 65535
def hueF (l : List Int) (p : Px) : Px := fromH ((toH p).1 + prm l 0) (lim16 (rdiv ((toH p).2.1 * (65535 + prm l 1)) 65535)) (hueL (prm l 2) (toH p).2.2) p.a
def thrF (l : List Int) (p : Px) : Int := if prm l 0 ≤ luma p then 65535 else 0
/-- The changed color. -/
def colF (kind : Int) (l : List Int) (ss : List (Int × Px)) (p : Px) : Int × Int × Int :=
  if kind = 5 then ((hueF l p).r, (hueF l p).g, (hueF l p).b)
  else if kind = 6 then (thrF l p, thrF l p, thrF l p)
  else if kind = 8 then (lim16 (rdiv (dot3 (prm l 0) (prm l 1) (prm l 2) p) 65535), lim16 (rdiv (dot3 (prm l 3) (prm l 4) (prm l 5) p) 65535), lim16 (rdiv (dot3 (prm l 6) (prm l 7) (prm l 8) p) 65535))
  else if kind = 9 then (rdiv (dot3 (prm l 0) (prm l 1) (prm l 2) p) (prm l 0 + prm l 1 + prm l 2), rdiv (dot3 (prm l 0) (prm l 1) (prm l 2) p) (prm l 0 + prm l 1 + prm l 2), rdiv (dot3 (prm l 0) (prm l 1) (prm l 2) p) (prm l 0 + prm l 1 + prm l 2))
  else if kind = 10 then ((mapF ss (luma p)).r, (mapF ss (luma p)).g, (mapF ss (luma p)).b)
  else (sing kind l p.r, sing kind l p.g, sing kind l p.b)
def appF (kind : Int) (l : List Int) (ss : List (Int × Px)) (p : Px) : Px := if p.a = 0 then Px.zero else ⟨(colF kind l ss p).1, (colF kind l ss p).2.1, (colF kind l ss p).2.2, p.a⟩
def perr (kind : Int) (l : List Int) (ss : List (Int × Px)) (p : Px) : Int := if achk kind l ss = 0 then (if pxOk p then 0 else 2) else achk kind l ss
def pixF (kind : Int) (l : List Int) (ss : List (Int × Px)) (p : Px) : Px := if perr kind l ss p = 0 then appF kind l ss p else Px.zero
end Go.Proofs.YtmbglkholoblaaaDoor
namespace Go.Proofs.YtmbglkholoblaaaDoor

theorem rdiv_in {a b q : Int} (hb : 0 < b) (h0 : 0 ≤ a) (h1 : a ≤ b * q) : 0 ≤ rdiv a b ∧ rdiv a b ≤ q := by
  have h := rdiv_spec a b hb
  constructor
  · rcases Int.lt_or_le (rdiv a b) 0 with c | c
    · have : b * rdiv a b ≤ b * (-1) := Int.mul_le_mul_of_nonneg_left (by omega) (by omega)
      omega
    · exact c
  · rcases Int.lt_or_le q (rdiv a b) with c | c
    · have : b * (q + 1) ≤ b * rdiv a b := Int.mul_le_mul_of_nonneg_left (by omega) (by omega)
      rw [Int.mul_add] at this
      omega
    · exact c
theorem rdiv_mul {b q : Int} (hb : 0 < b) : rdiv (b * q) b = q := by
  have h := rdiv_spec (b * q) b hb
  have h1 := rdiv_in (a := b * q - b * q) hb (by omega) (q := 0) (by omega)
  rcases Int.lt_trichotomy (rdiv (b * q) b) q with c | c | c
  · have : b * rdiv (b * q) b ≤ b * (q - 1) := Int.mul_le_mul_of_nonneg_left (by omega) (by omega)
    rw [Int.mul_sub] at this; omega
  · exact c
  · have : b * (q + 1) ≤ b * rdiv (b * q) b := Int.mul_le_mul_of_nonneg_left (by omega) (by omega)
    rw [Int.mul_add] at this; omega
theorem dot3_in {a b c : Int} {p : Px} (ha : 0 ≤ a) (hb : 0 ≤ b) (hc : 0 ≤ c) (hp : p.ok) : 0 ≤ dot3 a b c p ∧ dot3 a b c p ≤ (a + b + c) * 65535 := by
  obtain ⟨⟨r0, r1⟩, ⟨g0, g1⟩, ⟨b0, b1⟩, _⟩ := hp
  unfold dot3
  have e1 := Int.mul_nonneg ha r0; have e2 := Int.mul_nonneg hb g0; have e3 := Int.mul_nonneg hc b0
  have f1 : a * p.r ≤ a * 65535 := Int.mul_le_mul_of_nonneg_left r1 ha
  have f2 : b * p.g ≤ b * 65535 := Int.mul_le_mul_of_nonneg_left g1 hb
  have f3 : c * p.b ≤ c * 65535 := Int.mul_le_mul_of_nonneg_left b1 hc
  rw [Int.add_mul, Int.add_mul]
  omega
theorem lerp_in {a b t : Int} (ha : 0 ≤ a ∧ a ≤ 65535) (hb : 0 ≤ b ∧ b ≤ 65535) (ht : 0 ≤ t ∧ t ≤ 65535) : 0 ≤ lerp a b t ∧ lerp a b t ≤ 65535 := by
  have e1 : 0 ≤ a * (65535 - t) := Int.mul_nonneg ha.1 (by omega)
  have e2 : 0 ≤ b * t := Int.mul_nonneg hb.1 ht.1
  have f1 : a * (65535 - t) ≤ 65535 * (65535 - t) := Int.mul_le_mul_of_nonneg_right ha.2 (by omega)
  have f2 : b * t ≤ 65535 * t := Int.mul_le_mul_of_nonneg_right hb.2 ht.1
  exact rdiv_in (by omega) (by omega) (by omega)
theorem levU_pos {t g : Int} (ht : 0 ≤ t ∧ t ≤ 65535) (hg : 1 ≤ g ∧ g ≤ 256) : 0 < t * g + 16 * (65535 - t) ∧ 0 ≤ t * g ∧ t * g ≤ 16776960 := by
  have e1 : t * 1 ≤ t * g := Int.mul_le_mul_of_nonneg_left hg.1 ht.1
  have e2 : t * g ≤ 65535 * 256 := Int.mul_le_mul ht.2 hg.2 (by omega) (by omega)
  omega
theorem levU_in {t g : Int} (ht : 0 ≤ t ∧ t ≤ 65535) (hg : 1 ≤ g ∧ g ≤ 256) : 0 ≤ levU t g ∧ levU t g ≤ 65535 := by
  obtain ⟨h1, h2, h3⟩ := levU_pos ht hg
  unfold levU
  rw [Int.mul_assoc]
  refine rdiv_in h1 (by omega) ?_
  rw [Int.mul_comm (t * g + 16 * (65535 - t))]
  omega
theorem posF_in {n c : Int} (hn : 1 ≤ n ∧ n ≤ 255) (hc : 0 ≤ c ∧ c ≤ 65535) : (0 ≤ rdiv (c * n) 65535 ∧ rdiv (c * n) 65535 ≤ n) ∧ 0 ≤ posF n c ∧ posF n c ≤ 65535 := by
  have e1 : 0 ≤ c * n := Int.mul_nonneg hc.1 (by omega)
  have e2 : c * n ≤ 65535 * n := Int.mul_le_mul_of_nonneg_right hc.2 (by omega)
  have h := rdiv_in (a := c * n) (b := 65535) (q := n) (by omega) e1 e2
  refine ⟨h, ?_⟩
  unfold posF
  refine rdiv_in (by omega) (by omega) ?_
  generalize rdiv (c * n) 65535 = k at *
  have : k * 65535 ≤ n * 65535 := Int.mul_le_mul_of_nonneg_right h.2 (by omega)
  omega
theorem posF_twice {n c : Int} (hn : 1 ≤ n ∧ n ≤ 255) (hc : 0 ≤ c ∧ c ≤ 65535) : posF n (posF n c) = posF n c := by
  obtain ⟨⟨k0, k1⟩, p0, p1⟩ := posF_in hn hc
  have h : rdiv (posF n c * n) 65535 = rdiv (c * n) 65535 := by
    have s := rdiv_spec (rdiv (c * n) 65535 * 65535) n (by omega)
    have e : posF n c = rdiv (rdiv (c * n) 65535 * 65535) n := rfl
    rw [← e] at s
    have s2 := rdiv_spec (posF n c * n) 65535 (by omega)
    rw [Int.mul_comm n] at s
    generalize posF n c * n = z at *
    generalize rdiv (c * n) 65535 = k at *
    omega
  show rdiv (rdiv (posF n c * n) 65535 * 65535) n = _
  rw [h]; rfl
theorem luma_in {p : Px} (hp : p.ok) : luma p = rdiv (dot3 13933 46871 4731 p) 65535 ∧ 0 ≤ luma p ∧ luma p ≤ 65535 := by
  have e : luma p = rdiv (dot3 13933 46871 4731 p) 65535 := by
    unfold luma dot3
    dsimp only
    rw [lim16_id _ hp.1, lim16_id _ hp.2.1, lim16_id _ hp.2.2.1]
  have := dot3_in (a := 13933) (b := 46871) (c := 4731) (by omega) (by omega) (by omega) hp
  have h := rdiv_in (a := dot3 13933 46871 4731 p) (b := 65535) (q := 65535) (by omega) (by omega) (by omega)
  rw [e]
  exact ⟨rfl, h⟩
theorem mixP_ok {a b : Px} (t : Int) : (mixP a b t).ok := by
  unfold mixP
  dsimp only
  have ha := lim16_bd a.a; have hb := lim16_bd b.a; have ht := lim16_bd t
  have e1 : 0 ≤ lim16 a.a * (65535 - lim16 t) := Int.mul_nonneg ha.1 (by omega)
  have e2 : 0 ≤ lim16 b.a * lim16 t := Int.mul_nonneg hb.1 ht.1
  have f1 : lim16 a.a * (65535 - lim16 t) ≤ 65535 * (65535 - lim16 t) := Int.mul_le_mul_of_nonneg_right ha.2 (by omega)
  have f2 : lim16 b.a * lim16 t ≤ 65535 * lim16 t := Int.mul_le_mul_of_nonneg_right hb.2 ht.1
  generalize lim16 a.a * (65535 - lim16 t) = u at *
  generalize lim16 b.a * lim16 t = v at *
  by_cases hz : rdiv (u + v) 65535 = 0
  · rw [if_pos hz]; decide
  · rw [if_neg hz]
    have hd : 0 < u + v := by
      rcases Int.lt_or_le 0 (u + v) with c | c
      · exact c
      · exact absurd (by rw [show u + v = 0 by omega]; decide) hz
    have key : ∀ x y : Int, (0 ≤ lim16 x * u + lim16 y * v) ∧ lim16 x * u + lim16 y * v ≤ (u + v) * 65535 := by
      intro x y
      have hx := lim16_bd x; have hy := lim16_bd y
      have g1 := Int.mul_nonneg hx.1 e1; have g2 := Int.mul_nonneg hy.1 e2
      have h1 : lim16 x * u ≤ 65535 * u := Int.mul_le_mul_of_nonneg_right hx.2 e1
      have h2 : lim16 y * v ≤ 65535 * v := Int.mul_le_mul_of_nonneg_right hy.2 e2
      rw [Int.add_mul]
      omega
    exact ⟨rdiv_in hd (key _ _).1 (key _ _).2, rdiv_in hd (key _ _).1 (key _ _).2, rdiv_in hd (key _ _).1 (key _ _).2, rdiv_in (by omega) (by omega) (by omega)⟩
theorem mapGo_ok (r : List (Int × Px)) (p : Int × Px) (t : Int) (hp : p.2.ok) (hr : ∀ q ∈ r, q.2.ok) : (mapGo p r t).ok := by
  induction r generalizing p with
  | nil => exact hp
  | cons q r ih =>
    unfold mapGo
    split
    · exact mixP_ok _
    · exact ih q (hr q (by simp)) fun x hx => hr x (by simp [hx])
theorem mapF_ok {ss : List (Int × Px)} (h : ∀ i, i < ss.length → (sco ss i).ok) (t : Int) : (mapF ss t).ok := by
  have h0 : (sco ss 0).ok := by
    cases ss with
    | nil => decide
    | cons q r => exact h 0 (by simp)
  unfold mapF
  split
  · exact h0
  · refine mapGo_ok _ _ _ h0 fun q hq => ?_
    have := List.mem_of_mem_drop hq
    obtain ⟨i, hi, rfl⟩ := List.getElem_of_mem this
    have := h i hi
    simpa [sco, hi] using this
theorem fromH_ok (h s l a : Int) : (fromH h s l a).ok := by
  unfold fromH
  split
  · decide
  · unfold fromHsl
    exact ⟨lim16_bd _, lim16_bd _, lim16_bd _, lim16_bd _⟩

/-- What a check without error says. -/
structure AdjOk (kind : Int) (l : List Int) (ss : List (Int × Px)) : Prop where
  lo : 1 ≤ kind
  hi : kind ≤ 11
  cnt : cntOk kind l.length = true
  map : (0 < ss.length) ↔ kind = 10
  few : ss.length ≤ 16
  rng : RngOk kind l ss
  ord : OrdOk kind l ss
theorem achk_iff (kind : Int) (l : List Int) (ss : List (Int × Px)) : achk kind l ss = 0 ↔ AdjOk kind l ss := by
  unfold achk rngB ordB
  constructor
  · intro h
    split at h
    · omega
    · rename_i h1
      split at h
      · omega
      · rename_i h2
        split at h
        · omega
        · rename_i h3
          split at h
          · omega
          · rename_i h4
            split at h
            · omega
            · rename_i h5
              rw [not_or] at h2
              exact ⟨by omega, by omega, by simpa using h2.1, by simpa using h2.2, by omega, by simpa using h4, by simpa using h5⟩
  · intro a
    rw [if_neg (by have := a.lo; have := a.hi; omega), if_neg, if_neg (by have := a.few; omega), if_neg (by simpa using a.rng), if_neg (by simpa using a.ord)]
    rw [not_or]
    exact ⟨by simp [a.cnt], by simpa using a.map⟩
section
variable {kind : Int} {l : List Int} {ss : List (Int × Px)}
/-- The knots of the parameters are a curve. -/
theorem AdjOk.knots (a : AdjOk kind l ss) (h : kind = 3) : Good (knots l) := by
  subst h
  have hc := a.cnt
  simp [cntOk] at hc
  obtain ⟨h1, h2, h3⟩ := hc
  have hk : ∀ i, i < l.length / 2 → kx (Go.Proofs.YtmbglkholoblaaaDoor.knots l) i = prm l (2 * i) ∧ ky (Go.Proofs.YtmbglkholoblaaaDoor.knots l) i = prm l (2 * i + 1) := by
    intro i hi
    simp [kx, ky, Go.Proofs.YtmbglkholoblaaaDoor.knots, hi]
  have hlen : (Go.Proofs.YtmbglkholoblaaaDoor.knots l).length = l.length / 2 := by simp [Go.Proofs.YtmbglkholoblaaaDoor.knots]
  have hr := a.rng.1
  refine ⟨by omega, by omega, fun i hi => ?_, fun i hi => ?_⟩
  · rw [(hk i (by omega)).1, (hk i (by omega)).2]
    have u := hr (2 * i) (by omega); have v := hr (2 * i + 1) (by omega)
    simp [spLo, spHi] at u v
    omega
  · rw [(hk i (by omega)).1, (hk (i + 1) (by omega)).1]
    exact a.ord.2.1 rfl i (by omega)
theorem AdjOk.prm {i : Nat} (a : AdjOk kind l ss) (h : i < l.length) : spLo kind i ≤ prm l i ∧ prm l i ≤ spHi kind i := a.rng.1 i h
theorem AdjOk.len (a : AdjOk kind l ss) : (kind = 2 → l.length = 5) ∧ (kind = 4 → l.length = 2) ∧ (kind = 11 → l.length = 2) ∧ (kind = 5 → l.length = 3) ∧ (kind = 9 → l.length = 3) ∧ (kind = 6 → l.length = 1) ∧ (kind = 7 → l.length = 1) ∧ (kind = 8 → l.length = 9) := by
  have hc := a.cnt
  refine ⟨?_, ?_, ?_, ?_, ?_, ?_, ?_, ?_⟩ <;> (intro h; subst h; simpa [cntOk] using hc)
theorem AdjOk.p2 (a : AdjOk 2 l ss) : (0 ≤ Go.Proofs.YtmbglkholoblaaaDoor.prm l 0 ∧ Go.Proofs.YtmbglkholoblaaaDoor.prm l 0 < Go.Proofs.YtmbglkholoblaaaDoor.prm l 1 ∧ Go.Proofs.YtmbglkholoblaaaDoor.prm l 1 ≤ 65535) ∧ (1 ≤ Go.Proofs.YtmbglkholoblaaaDoor.prm l 2 ∧ Go.Proofs.YtmbglkholoblaaaDoor.prm l 2 ≤ 256) ∧ (0 ≤ Go.Proofs.YtmbglkholoblaaaDoor.prm l 3 ∧ Go.Proofs.YtmbglkholoblaaaDoor.prm l 3 ≤ 65535) ∧ (0 ≤ Go.Proofs.YtmbglkholoblaaaDoor.prm l 4 ∧ Go.Proofs.YtmbglkholoblaaaDoor.prm l 4 ≤ 65535) := by
  have hn := a.len.1 rfl
  have h0 := a.prm (i := 0) (by omega); have h1 := a.prm (i := 1) (by omega); have h2 := a.prm (i := 2) (by omega); have h3 := a.prm (i := 3) (by omega); have h4 := a.prm (i := 4) (by omega)
  have ho := a.ord.1
  simp [spLo, spHi] at h0 h1 h2 h3 h4 ho
  omega
theorem AdjOk.p4 (a : AdjOk 4 l ss) : (-65535 ≤ Go.Proofs.YtmbglkholoblaaaDoor.prm l 0 ∧ Go.Proofs.YtmbglkholoblaaaDoor.prm l 0 ≤ 65535) ∧ (-65535 ≤ Go.Proofs.YtmbglkholoblaaaDoor.prm l 1 ∧ Go.Proofs.YtmbglkholoblaaaDoor.prm l 1 ≤ 65535) := by
  have hn := a.len.2.1 rfl
  have h0 := a.prm (i := 0) (by omega); have h1 := a.prm (i := 1) (by omega)
  simp [spLo, spHi] at h0 h1
  omega
theorem AdjOk.p5 (a : AdjOk 5 l ss) : (-32768 ≤ Go.Proofs.YtmbglkholoblaaaDoor.prm l 0 ∧ Go.Proofs.YtmbglkholoblaaaDoor.prm l 0 ≤ 32768) ∧ (-65535 ≤ Go.Proofs.YtmbglkholoblaaaDoor.prm l 1 ∧ Go.Proofs.YtmbglkholoblaaaDoor.prm l 1 ≤ 65535) ∧ (-65535 ≤ Go.Proofs.YtmbglkholoblaaaDoor.prm l 2 ∧ Go.Proofs.YtmbglkholoblaaaDoor.prm l 2 ≤ 65535) := by
  have hn := a.len.2.2.2.1 rfl
  have h0 := a.prm (i := 0) (by omega); have h1 := a.prm (i := 1) (by omega); have h2 := a.prm (i := 2) (by omega)
  simp [spLo, spHi] at h0 h1 h2
  omega
theorem AdjOk.p6 (a : AdjOk 6 l ss) : 0 ≤ Go.Proofs.YtmbglkholoblaaaDoor.prm l 0 ∧ Go.Proofs.YtmbglkholoblaaaDoor.prm l 0 ≤ 65535 := by
  have hn := a.len.2.2.2.2.2.1 rfl
  have h0 := a.prm (i := 0) (by omega)
  simp [spLo, spHi] at h0
  omega
theorem AdjOk.p7 (a : AdjOk 7 l ss) : 2 ≤ Go.Proofs.YtmbglkholoblaaaDoor.prm l 0 ∧ Go.Proofs.YtmbglkholoblaaaDoor.prm l 0 ≤ 256 := by
  have hn := a.len.2.2.2.2.2.2.1 rfl
  have h0 := a.prm (i := 0) (by omega)
  simp [spLo, spHi] at h0
  omega
theorem AdjOk.p8 (a : AdjOk 8 l ss) (i : Nat) (hi : i < 9) : -262140 ≤ Go.Proofs.YtmbglkholoblaaaDoor.prm l i ∧ Go.Proofs.YtmbglkholoblaaaDoor.prm l i ≤ 262140 := by
  have hn := a.len.2.2.2.2.2.2.2 rfl
  have h0 := a.prm (i := i) (by omega)
  simp [spLo, spHi] at h0
  omega
theorem AdjOk.p9 (a : AdjOk 9 l ss) : (0 ≤ Go.Proofs.YtmbglkholoblaaaDoor.prm l 0 ∧ Go.Proofs.YtmbglkholoblaaaDoor.prm l 0 ≤ 65535) ∧ (0 ≤ Go.Proofs.YtmbglkholoblaaaDoor.prm l 1 ∧ Go.Proofs.YtmbglkholoblaaaDoor.prm l 1 ≤ 65535) ∧ (0 ≤ Go.Proofs.YtmbglkholoblaaaDoor.prm l 2 ∧ Go.Proofs.YtmbglkholoblaaaDoor.prm l 2 ≤ 65535) ∧ 0 < Go.Proofs.YtmbglkholoblaaaDoor.prm l 0 + Go.Proofs.YtmbglkholoblaaaDoor.prm l 1 + Go.Proofs.YtmbglkholoblaaaDoor.prm l 2 := by
  have hn := a.len.2.2.2.2.1 rfl
  have h0 := a.prm (i := 0) (by omega); have h1 := a.prm (i := 1) (by omega); have h2 := a.prm (i := 2) (by omega)
  have h3 := a.rng.2.1
  simp [spLo, spHi] at h0 h1 h2 h3
  omega
theorem AdjOk.p11 (a : AdjOk 11 l ss) : (-128 ≤ Go.Proofs.YtmbglkholoblaaaDoor.prm l 0 ∧ Go.Proofs.YtmbglkholoblaaaDoor.prm l 0 ≤ 128) ∧ (-65535 ≤ Go.Proofs.YtmbglkholoblaaaDoor.prm l 1 ∧ Go.Proofs.YtmbglkholoblaaaDoor.prm l 1 ≤ 65535) := by
  have hn := a.len.2.2.1 rfl
  have h0 := a.prm (i := 0) (by omega); have h1 := a.prm (i := 1) (by omega)
  simp [spLo, spHi] at h0 h1
  omega
theorem sing_in (a : AdjOk kind l ss) {c : Int} (hc : 0 ≤ c ∧ c ≤ 65535) : 0 ≤ sing kind l c ∧ sing kind l c ≤ 65535 := by
  unfold sing
  split
  · rename_i h; subst h
    obtain ⟨_, h2, h3, h4⟩ := a.p2
    exact lerp_in h3 h4 (levU_in (lim16_bd _) h2)
  · split
    · rename_i h
      unfold cat
      split
      · exact val_unit _ (a.knots h) _
      · omega
    · split
      · exact lim16_bd _
      · split
        · rename_i h; subst h
          have := a.p7
          exact (posF_in (by omega) hc).2
        · split
          · exact lim16_bd _
          · omega
theorem colF_ok (a : AdjOk kind l ss) {p : Px} (hp : p.ok) : (⟨(colF kind l ss p).1, (colF kind l ss p).2.1, (colF kind l ss p).2.2, p.a⟩ : Px).ok := by
  have hpa := hp.2.2.2
  unfold colF
  split
  · have := fromH_ok ((toH p).1 + Go.Proofs.YtmbglkholoblaaaDoor.prm l 0) (lim16 (rdiv ((toH p).2.1 * (65535 + Go.Proofs.YtmbglkholoblaaaDoor.prm l 1)) 65535)) (hueL (Go.Proofs.YtmbglkholoblaaaDoor.prm l 2) (toH p).2.2) p.a
    exact ⟨this.1, this.2.1, this.2.2.1, hpa⟩
  · split
    · have : 0 ≤ thrF l p ∧ thrF l p ≤ 65535 := by unfold thrF; split <;> omega
      exact ⟨this, this, this, hpa⟩
    · split
      · exact ⟨lim16_bd _, lim16_bd _, lim16_bd _, hpa⟩
      · split
        · rename_i h; subst h
          obtain ⟨h0, h1, h2, h3⟩ := a.p9
          have := dot3_in (a := Go.Proofs.YtmbglkholoblaaaDoor.prm l 0) (b := Go.Proofs.YtmbglkholoblaaaDoor.prm l 1) (c := Go.Proofs.YtmbglkholoblaaaDoor.prm l 2) h0.1 h1.1 h2.1 hp
          have := rdiv_in h3 this.1 this.2
          exact ⟨this, this, this, hpa⟩
        · split
          · have := mapF_ok (ss := ss) (fun i hi => (a.rng.2.2 i hi).2) (luma p)
            exact ⟨this.1, this.2.1, this.2.2.1, hpa⟩
          · exact ⟨sing_in a hp.1, sing_in a hp.2.1, sing_in a hp.2.2.1, hpa⟩
theorem appF_ok (a : AdjOk kind l ss) {p : Px} (hp : p.ok) : (appF kind l ss p).ok ∧ (p.a ≠ 0 → (appF kind l ss p).a = p.a) := by
  unfold appF
  split
  · rename_i h; exact ⟨by decide, fun h' => absurd h h'⟩
  · exact ⟨colF_ok a hp, fun _ => rfl⟩
end
/-- Done twice. -/
theorem inv_twice {p : Px} (ha : p.a ≠ 0) : appF 1 [] [] (appF 1 [] [] p) = p := by
  unfold appF
  rw [if_neg ha]
  dsimp only
  rw [if_neg ha]
  simp [colF, sing]
  cases p
  simp
  omega
theorem thr_twice {l : List Int} {p : Px} (hp : p.ok) (ha : p.a ≠ 0) (h0 : 0 ≤ prm l 0 ∧ prm l 0 ≤ 65535) : appF 6 l [] (appF 6 l [] p) = appF 6 l [] p := by
  unfold appF
  rw [if_neg ha]
  dsimp only
  rw [if_neg ha]
  simp only [colF]
  have hl := (luma_in hp).2
  have key : thrF l ⟨thrF l p, thrF l p, thrF l p, p.a⟩ = thrF l p := by
    have hb : 0 ≤ thrF l p ∧ thrF l p ≤ 65535 := by unfold thrF; split <;> omega
    have e := (luma_in (p := ⟨thrF l p, thrF l p, thrF l p, p.a⟩) ⟨hb, hb, hb, hp.2.2.2⟩).1
    have e2 : luma ⟨thrF l p, thrF l p, thrF l p, p.a⟩ = thrF l p := by
      rw [e]; unfold dot3; dsimp only
      rw [show 13933 * thrF l p + 46871 * thrF l p + 4731 * thrF l p = 65535 * thrF l p by omega, rdiv_mul (by omega)]
    have d : thrF l ⟨thrF l p, thrF l p, thrF l p, p.a⟩ = if prm l 0 ≤ thrF l p then 65535 else 0 := by
      show (if prm l 0 ≤ luma ⟨thrF l p, thrF l p, thrF l p, p.a⟩ then (65535 : Int) else 0) = _
      rw [e2]
    rw [d]
    unfold thrF
    split
    · rw [if_pos (by omega)]
    · rw [if_neg (by omega)]
  simp [key]
theorem pos_twice {l : List Int} {p : Px} (hp : p.ok) (ha : p.a ≠ 0) (h0 : 2 ≤ prm l 0 ∧ prm l 0 ≤ 256) : appF 7 l [] (appF 7 l [] p) = appF 7 l [] p := by
  unfold appF
  rw [if_neg ha]
  dsimp only
  rw [if_neg ha]
  simp [colF, sing, posF_twice (n := prm l 0 - 1) (by omega) hp.1, posF_twice (n := prm l 0 - 1) (by omega) hp.2.1, posF_twice (n := prm l 0 - 1) (by omega) hp.2.2.1]
theorem gray_twice {l : List Int} {p : Px} (ha : p.a ≠ 0) (h0 : 0 < prm l 0 + prm l 1 + prm l 2) : appF 9 l [] (appF 9 l [] p) = appF 9 l [] p := by
  unfold appF
  rw [if_neg ha]
  dsimp only
  rw [if_neg ha]
  simp only [colF]
  generalize rdiv (dot3 (prm l 0) (prm l 1) (prm l 2) p) (prm l 0 + prm l 1 + prm l 2) = c
  have : rdiv (dot3 (prm l 0) (prm l 1) (prm l 2) ⟨c, c, c, p.a⟩) (prm l 0 + prm l 1 + prm l 2) = c := by
    unfold dot3
    dsimp only
    rw [← Int.add_mul, ← Int.add_mul, rdiv_mul h0]
  simp [this]
/-- With default parameters nothing changes. -/
theorem same_of {k : Int} {p : Px} (ha : p.a ≠ 0) (h : colF k (dfl k) [] p = (p.r, p.g, p.b)) : appF k (dfl k) [] p = p := by
  unfold appF
  rw [if_neg ha, h]
theorem lev_same {c : Int} (hc : 0 ≤ c ∧ c ≤ 65535) : levF [0, 65535, 16, 0, 65535] c = c := by
  have e1 : levT [0, 65535, 16, 0, 65535] c = c := by
    show lim16 (rdiv ((c - 0) * 65535) (65535 - 0)) = c
    rw [Int.sub_zero, Int.sub_zero, Int.mul_comm, rdiv_mul (by omega), lim16_id _ hc]
  have e2 : levU c 16 = c := by
    unfold levU
    rw [show c * 16 + 16 * (65535 - c) = 1048560 by omega, show 65535 * c * 16 = 1048560 * c by omega, rdiv_mul (by omega)]
  show lerp 0 65535 (levU (levT [0, 65535, 16, 0, 65535] c) 16) = c
  rw [e1, e2]
  unfold lerp
  rw [Int.zero_mul, Int.zero_add, rdiv_mul (by omega)]
theorem cat_same {c : Int} (hc : 0 ≤ c ∧ c ≤ 65535) : cat (knots [0, 0, 65535, 65535]) c = c := by
  have e : knots [0, 0, 65535, 65535] = [(0, 0), (65535, 65535)] := by decide
  rw [e]
  unfold cat
  rw [if_pos (by decide)]
  unfold val
  simp only [kx, ky, List.getD_cons_zero, List.drop_succ_cons, List.drop_zero]
  split
  · omega
  · simp only [valGo, lin]
    split
    · rw [Int.sub_zero, Int.sub_zero, rdiv_mul (by omega)]; omega
    · omega
theorem bri_same {c : Int} (hc : 0 ≤ c ∧ c ≤ 65535) : briF [0, 0] c = c := by
  show lim16 (32768 + rdiv ((c + 0 - 32768) * (65535 + 0)) 65535) = c
  rw [Int.add_zero, Int.add_zero, Int.mul_comm, rdiv_mul (by omega), show 32768 + (c - 32768) = c by omega, lim16_id _ hc]
theorem exp_same {c : Int} (hc : 0 ≤ c ∧ c ≤ 65535) : expF [0, 0] c = c := by
  show lim16 (expD 0 c + 0) = c
  have : expD 0 c = c := by
    show rdiv (c * 65536 * 1) 65536 = c
    rw [Int.mul_one, Int.mul_comm, rdiv_mul (by omega)]
  rw [this, Int.add_zero, lim16_id _ hc]
theorem nothing_same {k : Int} (hk : k = 2 ∨ k = 3 ∨ k = 4 ∨ k = 8 ∨ k = 11) {p : Px} (hp : p.ok) (ha : p.a ≠ 0) : appF k (dfl k) [] p = p := by
  refine same_of ha ?_
  obtain ⟨h1, h2, h3, _⟩ := hp
  rcases hk with rfl | rfl | rfl | rfl | rfl
  · simp [colF, sing, dfl, lev_same h1, lev_same h2, lev_same h3]
  · simp [colF, sing, dfl, cat_same h1, cat_same h2, cat_same h3]
  · simp [colF, sing, dfl, bri_same h1, bri_same h2, bri_same h3]
  · have e : ∀ c : Int, 0 ≤ c ∧ c ≤ 65535 → lim16 (rdiv (65535 * c) 65535) = c := fun c hc => by rw [rdiv_mul (by omega), lim16_id _ hc]
    simp [colF, dfl, prm, dot3, e _ h1, e _ h2, e _ h3]
  · simp [colF, sing, dfl, exp_same h1, exp_same h2, exp_same h3]
theorem nothing_ok {k : Int} (hk : k = 2 ∨ k = 3 ∨ k = 4 ∨ k = 8 ∨ k = 11) : achk k (dfl k) [] = 0 := by
  rcases hk with rfl | rfl | rfl | rfl | rfl <;> decide +kernel
end Go.Proofs.YtmbglkholoblaaaDoor
namespace Go.Proofs.YtmbglkholoblaaaDoor
open Go.RowKit

/-- The pixel of an image at a place, the zero pixel outside. -/
def pick (W H : Int) (ps : List Px) (x y : Int) : Px := if 0 ≤ x ∧ x < W ∧ 0 ≤ y ∧ y < H then pat ps (y * W + x).toNat else Px.zero
/-- A pixel is returned. -/
def PxPost (p : Px) (w : World) (e : Ending) (w' : World) : Prop := e = .returned (.agg #[.int .i64 p.r, .int .i64 p.g, .int .i64 p.b, .int .i64 p.a]) ∧ Below w.heap.size w w'
theorem bel1 (w : World) (o : Obj) : Below w.heap.size w (w.alloc o) := bel_alloc (Below.refl _ _) _
theorem pick_out {W H : Int} {ps : List Px} {x y : Int} (h : ¬ (0 ≤ x ∧ x < W ∧ 0 ≤ y ∧ y < H)) : pick W H ps x y = Px.zero := by unfold pick; rw [if_neg h]
theorem pick_in {W H : Int} {ps : List Px} {x y : Int} (h : 0 ≤ x ∧ x < W ∧ 0 ≤ y ∧ y < H) : pick W H ps x y = pat ps (y * W + x).toNat := by unfold pick; rw [if_pos h]
theorem idx_lt {W H x y : Int} (h : 0 ≤ x ∧ x < W ∧ 0 ≤ y ∧ y < H) : 0 ≤ y * W ∧ y * W + x < W * H := by
  have h1 : 0 ≤ y * W := Int.mul_nonneg (by omega) (by omega)
  have h2 : (y + 1) * W ≤ H * W := Int.mul_le_mul_of_nonneg_right (by omega) (by omega)
  rw [Int.add_mul, Int.one_mul, Int.mul_comm H W] at h2
  omega
theorem iok_len {W H : Int} {ps : List Px} (i : IOk W H ps) : W * H ≤ 65536 := by
  have := Int.mul_le_mul i.w1 i.h1 i.h0 (by omega)
  omega
theorem set4_below {B : Nat} {w0 w : World} {g : Nat} (h : Below B w0 w) (hg : B ≤ g) (j0 j1 j2 j3 : Nat) (a b c d : Value) : Below B w0 ((((w.setCell ⟨g, j0, none⟩ a).setCell ⟨g, j1, none⟩ b).setCell ⟨g, j2, none⟩ c).setCell ⟨g, j3, none⟩ d) :=
  (((h.setCell (p := ⟨g, j0, none⟩) hg a).setCell (p := ⟨g, j1, none⟩) hg b).setCell (p := ⟨g, j2, none⟩) hg c).setCell (p := ⟨g, j3, none⟩) hg d
theorem set3_below {B : Nat} {w0 w : World} {g : Nat} (h : Below B w0 w) (hg : B ≤ g) (a b c : Value) : Below B w0 (((w.setCell ⟨g, 0, none⟩ a).setCell ⟨g, 1, none⟩ b).setCell ⟨g, 2, none⟩ c) :=
  ((h.setCell (p := ⟨g, 0, none⟩) hg a).setCell (p := ⟨g, 1, none⟩) hg b).setCell (p := ⟨g, 2, none⟩) hg c
theorem two_boxes (w : World) (vs us : Array Value) (t u : TypeId) (w0 : World) (hw : w0 = (w.alloc (.cells vs t)).alloc (.cells us u)) : Bx w0 w.heap.size t vs ∧ Bx w0 (w.heap.size + 1) u us ∧ Below w.heap.size w w0 := by
  subst hw
  have b := Bx.new (w.alloc (.cells vs t)) u us
  rw [World.size_alloc] at b
  exact ⟨(Bx.new w t vs).alloc _, b, bel_alloc (bel1 _ _) _⟩
theorem size_set (w : World) (a : Addr) (v : Value) : (w.setCell a v).heap.size = w.heap.size := by simp [World.setCell]

/-- A new image of zero pixels. -/
def BlankPost (W H : Int) (n : Nat) (w : World) (e : Ending) (w' : World) : Prop :=
  ∃ g, e = .returned (.agg #[.int .i64 W, .int .i64 H, .slice (some ⟨g, 0, none⟩) n n]) ∧ PRow w' w.heap.size (.slice (some ⟨g, 0, none⟩) n n) (List.replicate n Px.zero) ∧ Below w.heap.size w w'
/-- make([]api.Pixel, n). -/
theorem pmake (w : World) {ops : Array Oper} {rest : List Oper} {o : Oper} {a : Act} {Q : Exit → Act → World → Prop} (hgd : o.guard = none) (l c : Operand)
    (ho : o.op = .makeSlice 43 l c) (B : Nat) (L C : Int) (n : Nat) (hl : a.eval l = .int .i64 L) (hc : a.eval c = .int .i64 C) (hL : L = n) (hC : C = n) (hn : n ≤ 1000000000) (hB : B ≤ w.heap.size)
    (h : ∀ w', PRow w' B (.slice (some ⟨w.heap.size, 0, none⟩) n n) (List.replicate n Px.zero) → Below w.heap.size w w' → wpList Tryd.prog ops Q rest (a.put o.dst (.slice (some ⟨w.heap.size, 0, none⟩) n n)) w') : wpList Tryd.prog ops Q (o :: rest) a w := by
  obtain ⟨i0, hi0, hz0, hz1, hz2⟩ := info_parts Tryd.infoPx
  refine fmake 25 4 43 32 i0 _ Tryd.underlying43 hi0 hz0 hz1 hz2 rfl (by omega) (by omega) w hgd l c ho B L C n hl hc hL hC hn hB fun w' h1 h2 => h w' ?_ h2
  unfold PRow
  rw [List.length_replicate, flat4_rep]
  exact h1
end Go.Proofs.YtmbglkholoblaaaDoor
namespace Go.Proofs.YtmbglkholoblaaaDoor
open Go.RowKit

section
variable {w w' : World} {B g n cap : Nat} {ps : List Px}
theorem PRow.len (h : PRow w B (.slice (some ⟨g, 0, none⟩) n cap) ps) : ps.length = n := by
  obtain ⟨A, c, e⟩ := h.shape
  injection e with _ e _
  exact e.symm
theorem PRow.put (h : PRow w B (.slice (some ⟨g, 0, none⟩) n cap) ps) (k : Nat) (hk : k < n) (p : Px) :
    PRow ((((w.setCell ⟨g, k * 4, none⟩ (.int .i64 p.r)).setCell ⟨g, k * 4 + 1, none⟩ (.int .i64 p.g)).setCell ⟨g, k * 4 + 2, none⟩ (.int .i64 p.b)).setCell ⟨g, k * 4 + 3, none⟩ (.int .i64 p.a)) B (.slice (some ⟨g, 0, none⟩) n cap) (ps.set k p) := by
  obtain rfl := h.len
  have h1 : FRow 25 4 w B (.slice (some ⟨g, 0, none⟩) ps.length cap) ps.length (flat4 ps) := h
  have h2 := (((h1.stored (k * 4) p.r).stored (k * 4 + 1) p.g).stored (k * 4 + 2) p.b).stored (k * 4 + 3) p.a
  unfold PRow
  rw [List.length_set, flat4_set ps k p hk]
  exact h2
theorem PRow.at4 (h : PRow w B (.slice (some ⟨g, 0, none⟩) n cap) ps) {k : Nat} (hk : k < n) :
    (w.cell? ⟨g, k * 4, none⟩ = some (.int .i64 (pat ps k).r) ∧ w.cell? ⟨g, k * 4 + 1, none⟩ = some (.int .i64 (pat ps k).g) ∧ w.cell? ⟨g, k * 4 + 2, none⟩ = some (.int .i64 (pat ps k).b) ∧ w.cell? ⟨g, k * 4 + 3, none⟩ = some (.int .i64 (pat ps k).a)) ∧
    (w.frozen? ⟨g, k * 4, none⟩ = false ∧ w.frozen? ⟨g, k * 4 + 1, none⟩ = false ∧ w.frozen? ⟨g, k * 4 + 2, none⟩ = false ∧ w.frozen? ⟨g, k * 4 + 3, none⟩ = false) := by
  obtain rfl := h.len
  have h1 : FRow 25 4 w B (.slice (some ⟨g, 0, none⟩) ps.length cap) ps.length (flat4 ps) := h
  have hh := flat4_get ps k hk
  exact ⟨⟨h1.cell hh.1, h1.cell hh.2.1, h1.cell hh.2.2.1, h1.cell hh.2.2.2⟩, h1.frozen _, h1.frozen _, h1.frozen _, h1.frozen _⟩
theorem PRow.lo (h : PRow w B (.slice (some ⟨g, 0, none⟩) n cap) ps) : B ≤ g ∧ g < w.heap.size := World.ownsRow.lt h g rfl
end
section
variable {B g g' : Nat} {a w : World}
theorem KB.bx {t : TypeId} {vs : Array Value} (h : KB B g a w) (hb : Bx a g' t vs) (hl : g' < B) (hn : g' ≠ g) : Bx w g' t vs := (h.block g' hl hn).trans hb
theorem KB.pixs {v : Value} {ps : List Px} {B' : Nat} (h : KB B g a w) (hp : Pixs a B' v ps) (h1 : B' ≤ g) (h2 : B' ≤ B) : Pixs w B' v ps := hp.keep fun b o hb => h.cell (Nat.lt_of_lt_of_le hb h2) (by omega)
theorem KB.set4 (h : KB B g a w) (j0 j1 j2 j3 : Nat) (x y z u : Value) : KB B g a ((((w.setCell ⟨g, j0, none⟩ x).setCell ⟨g, j1, none⟩ y).setCell ⟨g, j2, none⟩ z).setCell ⟨g, j3, none⟩ u) := (((h.set _ _).set _ _).set _ _).set _ _
end
/-- The head of a loop that fills the pixels of a new image. -/
def FillRel (l : List Px) (g B n : Nat) (w0 : World) (gh : Nat) (i : Value) (wr : World) : Prop :=
  ∃ k : Nat, k ≤ l.length ∧ gh = l.length - k ∧ i = .int .i64 k ∧ PRow wr B (.slice (some ⟨g, 0, none⟩) n n) (partD Px.zero l k) ∧ KB w0.heap.size g w0 wr
theorem FillRel.start {l : List Px} {g B n : Nat} {w0 : World} (hn : l.length = n) (h : PRow w0 B (.slice (some ⟨g, 0, none⟩) n n) (List.replicate n Px.zero)) : FillRel l g B n w0 n (.int .i64 0) w0 :=
  ⟨0, Nat.zero_le _, by omega, rfl, by rw [partD_zero, hn]; exact h, KB.refl _ _ _⟩
theorem part_put {l : List Px} {g B n cap k : Nat} {w : World} (hk : k < l.length) (hn : l.length = n) (h : PRow w B (.slice (some ⟨g, 0, none⟩) n cap) (partD Px.zero l k)) {p : Px} (hp : pat l k = p) :
    PRow ((((w.setCell ⟨g, k * 4, none⟩ (.int .i64 p.r)).setCell ⟨g, k * 4 + 1, none⟩ (.int .i64 p.g)).setCell ⟨g, k * 4 + 2, none⟩ (.int .i64 p.b)).setCell ⟨g, k * 4 + 3, none⟩ (.int .i64 p.a)) B (.slice (some ⟨g, 0, none⟩) n cap) (partD Px.zero l (k + 1)) := by
  rw [← partD_set Px.zero l k hk, show l.getD k Px.zero = p from hp]
  exact h.put k (by omega) p
/-- An image and an error. -/
def ImPost (err W H : Int) (ps : List Px) (w : World) (e : Ending) (w' : World) : Prop :=
  ∃ A n c, e = .returned (.tuple #[.agg #[.int .i64 W, .int .i64 H, .slice A n c], .int .i64 err]) ∧ PRow w' w.heap.size (.slice A n c) ps ∧ Below w.heap.size w w'
def ImOut (err W H : Int) (ps : List Px) : World → Ending → World → Prop := ImPost err (if err = 0 then W else 0) (if err = 0 then H else 0) (if err = 0 then ps else [])
theorem imOut_err {err W H : Int} {l : List Px} (h : err ≠ 0) : ImOut err W H l = ImPost err 0 0 [] := by unfold ImOut; simp [h]
theorem imOut_of {err W H : Int} {l : List Px} {w w' : World} {e : Ending} (h : err ≠ 0) (hp : ImPost err 0 0 [] w e w') : ImOut err W H l w e w' := by rw [imOut_err h]; exact hp
theorem imOut_ok (W H : Int) (l : List Px) : ImOut 0 W H l = ImPost 0 W H l := by unfold ImOut; simp
theorem PRow.set3 {w : World} {B B' g : Nat} {v : Value} {ps : List Px} (h : PRow w B v ps) (hg : g < B) (hB : B' ≤ B) (a b c : Value) : PRow (((w.setCell ⟨g, 0, none⟩ a).setCell ⟨g, 1, none⟩ b).setCell ⟨g, 2, none⟩ c) B' v ps :=
  ((h.set hg (Nat.le_refl _)).set hg (Nat.le_refl _)).set hg hB
theorem one_box (w : World) (vs : Array Value) (t : TypeId) (w0 : World) (hw : w0 = w.alloc (.cells vs t)) : Bx w0 w.heap.size t vs ∧ Below w.heap.size w w0 ∧ w0.heap.size = w.heap.size + 1 := by
  subst hw
  exact ⟨Bx.new w t vs, bel1 _ _, World.size_alloc _ _⟩
/-- The error of New. -/
def nerr (W H : Int) (p : Px) : Int := if sized W H then (if pxOk p then 0 else 2) else 15
theorem sized_nat {W H : Int} (h : sized W H = true) : ∃ n : Nat, W * H = n ∧ n ≤ 65536 ∧ (W * H).toNat = n := ⟨(W * H).toNat, by have := wh_bd W H h; omega, by have := wh_bd W H h; omega, rfl⟩
theorem pat_rep (n k : Nat) (p : Px) (h : k < n) : pat (List.replicate n p) k = p := by simp [pat, h]

theorem three_boxes (w : World) (vs us ts : Array Value) (t u v : TypeId) (w0 : World) (hw : w0 = ((w.alloc (.cells vs t)).alloc (.cells us u)).alloc (.cells ts v)) :
    Bx w0 w.heap.size t vs ∧ Bx w0 (w.heap.size + 1) u us ∧ Bx w0 (w.heap.size + 1 + 1) v ts ∧ Below w.heap.size w w0 ∧ w0.heap.size = w.heap.size + 3 := by
  obtain ⟨a, b, c⟩ := two_boxes w vs us t u _ rfl
  have d := Bx.new ((w.alloc (.cells vs t)).alloc (.cells us u)) v ts
  rw [World.size_alloc, World.size_alloc] at d
  subst hw
  exact ⟨a.alloc _, b.alloc _, d, bel_alloc c _, by rw [World.size_alloc, World.size_alloc, World.size_alloc]⟩
theorem Bx.other4 {w : World} {g g' : Nat} {t : TypeId} {vs : Array Value} (h : Bx w g t vs) (hne : g ≠ g') (j0 j1 j2 j3 : Nat) (a b c d : Value) : Bx ((((w.setCell ⟨g', j0, none⟩ a).setCell ⟨g', j1, none⟩ b).setCell ⟨g', j2, none⟩ c).setCell ⟨g', j3, none⟩ d) g t vs := (((h.other hne _ _).other hne _ _).other hne _ _).other hne _ _
theorem wrap_in (n : Int) (h : -9223372036854775808 ≤ n ∧ n ≤ 9223372036854775807) : IntKind.i64.wrap n = n := by rw [IntKind.wrap_i64]; omega
theorem pos_of {w h : Int} {k : Nat} (hk : k < (w * h).toNat) (hw : 0 ≤ w) : 0 < w := by
  rcases Int.lt_or_eq_of_le hw with c | c
  · exact c
  · rw [← c, Int.zero_mul] at hk; simp at hk
end Go.Proofs.YtmbglkholoblaaaDoor
