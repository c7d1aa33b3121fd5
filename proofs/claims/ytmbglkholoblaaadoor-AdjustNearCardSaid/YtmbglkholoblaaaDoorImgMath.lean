/- Images as plain data: a width, a height, a list of pixels; what Check comes to. No program in sight. -/
import Derived.Test.YtmbglkholoblaaaDoorMath
namespace Go.Proofs.YtmbglkholoblaaaDoor

/-- A pixel. -/
structure Px where
  r : Int
  g : Int
  b : Int
  a : Int
def Px.zero : Px := ⟨0, 0, 0, 0⟩
/-- All values are unit values. -/
def Px.ok (p : Px) : Prop := (0 ≤ p.r ∧ p.r ≤ 65535) ∧ (0 ≤ p.g ∧ p.g ≤ 65535) ∧ (0 ≤ p.b ∧ p.b ≤ 65535) ∧ (0 ≤ p.a ∧ p.a ≤ 65535)
instance (p : Px) : Decidable p.ok := by unfold Px.ok; exact inferInstance
def pxOk (p : Px) : Bool := decide p.ok
theorem pxOk_iff (p : Px) : pxOk p = true ↔ p.ok := by unfold pxOk; simp
/-- The pixel at a place. -/
def pat (ps : List Px) (i : Nat) : Px := ps.getD i Px.zero

def sized (w h : Int) : Bool := decide (0 ≤ w ∧ w ≤ 256 ∧ 0 ≤ h ∧ h ≤ 256 ∧ (w = 0 ↔ h = 0))
/-- A valid image. -/
structure IOk (w h : Int) (ps : List Px) : Prop where
  w0 : 0 ≤ w
  w1 : w ≤ 256
  h0 : 0 ≤ h
  h1 : h ≤ 256
  z : w = 0 ↔ h = 0
  n : (ps.length : Int) = w * h
  ok : ∀ i, i < ps.length → (pat ps i).ok
def allOk (ps : List Px) : Bool := ps.all pxOk
/-- The error of an image. -/
def ichk (w h : Int) (ps : List Px) : Int := if sized w h = true ∧ (ps.length : Int) = w * h then (if allOk ps then 0 else 2) else 15
theorem allOk_iff (ps : List Px) : allOk ps = true ↔ ∀ i, i < ps.length → (pat ps i).ok := by
  unfold allOk
  rw [List.all_eq_true]
  constructor
  · intro h i hi
    have := h ps[i] (List.getElem_mem hi)
    rw [pxOk_iff] at this
    simpa [pat, hi] using this
  · intro h p hp
    obtain ⟨i, hi, rfl⟩ := List.getElem_of_mem hp
    have := h i hi
    rw [pxOk_iff]
    simpa [pat, hi] using this
theorem ichk_iff (w h : Int) (ps : List Px) : ichk w h ps = 0 ↔ IOk w h ps := by
  unfold ichk
  constructor
  · intro e
    split at e
    · rename_i hs
      split at e
      · rename_i ha
        have h1 := hs.1
        unfold sized at h1
        rw [decide_eq_true_eq] at h1
        exact ⟨h1.1, h1.2.1, h1.2.2.1, h1.2.2.2.1, h1.2.2.2.2, hs.2, (allOk_iff ps).1 ha⟩
      · cases e
    · cases e
  · intro i
    rw [if_pos ⟨by unfold sized; rw [decide_eq_true_eq]; exact ⟨i.w0, i.w1, i.h0, i.h1, i.z⟩, i.n⟩, if_pos ((allOk_iff ps).2 i.ok)]
theorem allOk_no (ps : List Px) (k : Nat) (h : k < ps.length) (hn : ¬ (pat ps k).ok) : allOk ps = false := by
  rw [Bool.eq_false_iff]
  intro e
  exact hn ((allOk_iff ps).1 e k h)
end Go.Proofs.YtmbglkholoblaaaDoor
