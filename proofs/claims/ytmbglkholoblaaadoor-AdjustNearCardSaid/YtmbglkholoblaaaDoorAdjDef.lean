/- What the adjustments compute. No program in sight. -/
import Derived.Test.YtmbglkholoblaaaDoorHslMath
import Derived.Test.YtmbglkholoblaaaDoorCurveMath
import Derived.Test.YtmbglkholoblaaaDoorImgMath
namespace Go.Proofs.YtmbglkholoblaaaDoor

/-- A parameter; a stop's place and color. -/
def prm (l : List Int) (i : Nat) : Int := l.getD i 0
def sat (ss : List (Int × Px)) (i : Nat) : Int := (ss.getD i (0, Px.zero)).1
def sco (ss : List (Int × Px)) (i : Nat) : Px := (ss.getD i (0, Px.zero)).2
def cntOk (kind : Int) (n : Nat) : Bool :=
  if kind = 2 then decide (n = 5) else if kind = 3 then decide (4 ≤ n ∧ n ≤ 16 ∧ n % 2 = 0) else if kind = 4 ∨ kind = 11 then decide (n = 2) else if kind = 5 ∨ kind = 9 then decide (n = 3)
  else if kind = 6 ∨ kind = 7 then decide (n = 1) else if kind = 8 then decide (n = 9) else decide (n = 0)
def spLo (kind i : Int) : Int :=
  if kind = 2 ∧ i = 2 then 1 else if kind = 4 ∨ (kind = 5 ∧ 0 < i) ∨ (kind = 11 ∧ i = 1) then -65535 else if kind = 5 then -32768 else if kind = 7 then 2 else if kind = 8 then -262140 else if kind = 11 then -128 else 0
def spHi (kind i : Int) : Int :=
  if kind = 2 ∧ i = 2 then 256 else if kind = 4 ∨ (kind = 5 ∧ 0 < i) ∨ (kind = 11 ∧ i = 1) then 65535 else if kind = 5 then 32768 else if kind = 7 then 256 else if kind = 8 then 262140 else if kind = 11 then 128 else 65535
/-- Parameters and stops in their ranges. -/
def RngOk (kind : Int) (l : List Int) (ss : List (Int × Px)) : Prop :=
  (∀ i : Nat, i < l.length → spLo kind i ≤ prm l i ∧ prm l i ≤ spHi kind i) ∧ ¬ (kind = 9 ∧ prm l 0 = 0 ∧ prm l 1 = 0 ∧ prm l 2 = 0) ∧ (∀ i : Nat, i < ss.length → (0 ≤ sat ss i ∧ sat ss i ≤ 65535) ∧ (sco ss i).ok)
/-- Parameters and stops in their order. -/
def OrdOk (kind : Int) (l : List Int) (ss : List (Int × Px)) : Prop :=
  ¬ (kind = 2 ∧ prm l 1 ≤ prm l 0) ∧ (kind = 3 → ∀ i : Nat, i < l.length / 2 - 1 → prm l (2 * i) < prm l (2 * i + 2)) ∧ (∀ i : Nat, i < ss.length - 1 → sat ss i < sat ss (i + 1))
instance (kind : Int) (l : List Int) (ss : List (Int × Px)) : Decidable (RngOk kind l ss) := by unfold RngOk Px.ok; infer_instance
instance (kind : Int) (l : List Int) (ss : List (Int × Px)) : Decidable (OrdOk kind l ss) := by unfold OrdOk; infer_instance
def rngB (kind : Int) (l : List Int) (ss : List (Int × Px)) : Bool := decide (RngOk kind l ss)
def ordB (kind : Int) (l : List Int) (ss : List (Int × Px)) : Bool := decide (OrdOk kind l ss)
/-- The error of an adjustment. -/
def achk (kind : Int) (l : List Int) (ss : List (Int × Px)) : Int :=
  if kind < 1 ∨ 11 < kind then 8 else if cntOk kind l.length = false ∨ (decide (0 < ss.length) ≠ decide (kind = 10)) then 1 else if 16 < ss.length then 3 else if rngB kind l ss = false then 2 else if ordB kind l ss = false then 24 else 0
/-- The default parameters. -/
def dfl (kind : Int) : List Int :=
  if kind = 2 then [0, 65535, 16, 0, 65535] else if kind = 3 then [0, 0, 65535, 65535] else if kind = 4 ∨ kind = 11 then [0, 0] else if kind = 5 then [0, 0, 0] else if kind = 6 then [32768] else if kind = 7 then [4]
  else if kind = 8 then [65535, 0, 0, 0, 65535, 0, 0, 0, 65535] else if kind = 9 then [13933, 46871, 4731] else []
def derr (kind : Int) : Int := if 1 ≤ kind ∧ kind ≤ 11 then 0 else 8

def levT (l : List Int) (c : Int) : Int := lim16 (rdiv ((c - prm l 0) * 65535) (prm l 1 - prm l 0))
def levU (t g : Int) : Int := rdiv (65535 * t * g) (t * g + 16 * (65535 - t))
def lerp (a b t : Int) : Int := rdiv (a * (65535 - t) + b * t) 65535
def levF (l : List Int) (c : Int) : Int := lerp (prm l 3) (prm l 4) (levU (levT l c) (prm l 2))
def briF (l : List Int) (c : Int) : Int := lim16 (32768 + rdiv ((c + prm l 0 - 32768) * (65535 + prm l 1)) 65535)
def posF (n c : Int) : Int := rdiv (rdiv (c * n) 65535 * 65535) n
def facs : List Int := [65536, 68438, 71468, 74632, 77936, 81386, 84990, 88752, 92682, 96785, 101070, 105545, 110218, 115098, 120194, 125515]
def expD (s c : Int) : Int := if 0 ≤ s / 16 then rdiv (c * facs.getD (s % 16).toNat 0 * 2 ^ (s / 16).toNat) 65536 else rdiv (c * facs.getD (s % 16).toNat 0) (65536 * 2 ^ (-(s / 16)).toNat)
def expF (l : List Int) (c : Int) : Int := lim16 (expD (prm l 0) c + prm l 1)
/-- The knots of a list of parameters. -/
def knots (l : List Int) : List (Int × Int) := (List.range (l.length / 2)).map fun i => (prm l (2 * i), prm l (2 * i + 1))
/-- One channel. -/
def sing (kind : Int) (l : List Int) (c : Int) : Int :=
  if kind = 2 then levF l c else if kind = 3 then cat (knots l) c else if kind = 4 then briF l c else if kind = 7 then posF (prm l 0 - 1) c else if kind = 11 then expF l c else 65535 - c
def dot3 (a b c : Int) (p : Px) : Int := a * p.r + b * p.g + c * p.b
def luma (p : Px) : Int := rdiv (dot3 13933 46871 4731 ⟨lim16 p.r, lim16 p.g, lim16 p.b, 0⟩) 65535
def mixP (a b : Px) (t : Int) : Px :=
  let u := lim16 a.a * (65535 - lim16 t)
  let v := lim16 b.a * lim16 t
  if rdiv (u + v) 65535 = 0 then Px.zero else
  ⟨rdiv (lim16 a.r * u + lim16 b.r * v) (u + v), rdiv (lim16 a.g * u + lim16 b.g * v) (u + v), rdiv (lim16 a.b * u + lim16 b.b * v) (u + v), rdiv (u + v) 65535⟩
def mapGo (p : Int × Px) : List (Int × Px) → Int → Px
  | [], _ => p.2
  | q :: r, t => if t < q.1 then mixP p.2 q.2 (rdiv (65535 * (t - p.1)) (q.1 - p.1)) else mapGo q r t
def mapF (ss : List (Int × Px)) (t : Int) : Px := if t ≤ sat ss 0 then sco ss 0 else mapGo (sat ss 0, sco ss 0) (ss.drop 1) t
/-- Of any numbers. -/
def fromH (h s l a : Int) : Px := if lim16 a = 0 then Px.zero else fromHsl (h % 65536) (lim16 s) (lim16 l) (lim16 a)
def toH (p : Px) : Int × Int × Int := toHsl (lim16 p.r) (lim16 p.g) (lim16 p.b)
def hueL (l2 v : Int) : Int := if 0 ≤ l2 then v + rdiv ((65535 - v) * l2) 65535 else v - rdiv (v * (-l2)) 65535
def hueF (l : List Int) (p : Px) : Px := fromH ((toH p).1 + prm l 0) (lim16 (rdiv ((toH p).2.1 * (65535 + prm l 1)) 65535)) (hueL (prm l 2) (toH p).2.2) p.a
def thrF (l : List Int) (p : Px) : Int := if prm l 0 ≤ luma p then 65535 else 0
/-- The changed color. -/
def colF (kind : Int) (l : List Int) (ss : List (Int × Px)) (p : Px) : Int × Int × Int :=
  if kind = 5 then ((hueF l p).r, (hueF l p).g, (hueF l p).b)
  else if kind = 6 then (thrF l p, thrF l p, thrF l p)
  else if kind = 8 then (lim16 (rdiv (dot3 (prm l 0) (prm l 1) (prm l 2) p) 65535), lim16 (rdiv (dot3 (prm l 3) (prm l 4) (prm l 5) p) 65535), lim16 (rdiv (dot3 (prm l 6) (prm l 7) (prm l 8) p) 65535))
  else if kind = 9 then (rdiv (dot3 (prm l 0) (prm l 1) (prm l 2) p) (prm l 0 + prm l 1 + prm l 2), rdiv (dot3 (prm l 0) (prm l 1) (prm l 2) p) (prm l 0 + prm l 1 + prm l 2), rdiv (dot3 (prm l 0) (prm l 1) (prm l 2) p) (prm l 0 + prm l 1 + prm l 2))
  else if kind = 10 then ((mapF ss (luma p)).r, (mapF ss (luma p)).g, (mapF ss (luma p)).b)
  else (sing kind l p.r, sing kind l p.g, sing kind l p.b)
def appF (kind : Int) (l : List Int) (ss : List (Int × Px)) (p : Px) : Px := if p.a = 0 then Px.zero else ⟨(colF kind l ss p).1, (colF kind l ss p).2.1, (colF kind l ss p).2.2, p.a⟩
def perr (kind : Int) (l : List Int) (ss : List (Int × Px)) (p : Px) : Int := if achk kind l ss = 0 then (if pxOk p then 0 else 2) else achk kind l ss
def pixF (kind : Int) (l : List Int) (ss : List (Int × Px)) (p : Px) : Px := if perr kind l ss p = 0 then appF kind l ss p else Px.zero
end Go.Proofs.YtmbglkholoblaaaDoor
