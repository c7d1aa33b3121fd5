/- A block of the heap that is a box: it holds these cells, and may be written. -/
import Derived.Test.YtanlnigebbcajaaDoorMem
namespace Go.Proofs.YtanlnigebbcajaaDoor
open Go.RowKit

def Bx (w : World) (g : Nat) (t : TypeId) (vs : Array Value) : Prop := w.heap[g]? = some (.cells vs t (0, 0))
section
variable {w w' : World} {g g' : Nat} {t : TypeId} {vs : Array Value}
theorem Bx.lt (h : Bx w g t vs) : g < w.heap.size := by
  unfold Bx at h
  rcases Nat.lt_or_ge g w.heap.size with c | c
  · exact c
  · rw [Array.getElem?_eq_none c] at h; cases h
theorem Bx.below (h : Bx w g t vs) (hb : Below w.heap.size w w') : Bx w' g t vs := (hb.block g h.lt).trans h
theorem Bx.low {B : Nat} (h : Bx w g t vs) (hg : g < B) (hb : Below B w w') : Bx w' g t vs := (hb.block g hg).trans h
theorem Bx.new (w : World) (t : TypeId) (vs : Array Value) : Bx (w.alloc (.cells vs t)) w.heap.size t vs := by
  show (w.heap.push _)[w.heap.size]? = _
  simp
theorem Bx.alloc (h : Bx w g t vs) (o : Obj) : Bx (w.alloc o) g t vs := (Below.heap_alloc w o g h.lt).trans h
theorem Bx.drewN (h : Bx w g t vs) (n : Nat) : Bx (w.drewN n) g t vs := h
theorem Bx.drew (h : Bx w g t vs) : Bx w.drew g t vs := h
theorem Bx.other (h : Bx w g t vs) (hne : g ≠ g') (j : Nat) (v : Value) : Bx (w.setCell ⟨g', j, none⟩ v) g t vs := (heap_setCell_other w ⟨g', j, none⟩ g v hne).trans h
theorem Bx.set (h : Bx w g t vs) (j : Nat) (v : Value) : Bx (w.setCell ⟨g, j, none⟩ v) g t (vs.setIfInBounds j v) := heap_setCell_same w g j vs t v h
theorem Bx.cell (h : Bx w g t vs) {j : Nat} {v : Value} (hj : vs[j]? = some v) : w.cell? ⟨g, j, none⟩ = some v := by
  unfold Bx at h
  simp [World.cell?, h, hj]
theorem Bx.frozen (h : Bx w g t vs) (j : Nat) : w.frozen? ⟨g, j, none⟩ = false := frozen_of_row w g j vs t h
end
theorem Bx.two {w : World} {g : Nat} {t : TypeId} {a b : Value} (h : Bx w g t #[a, b]) : (w.cell? ⟨g, 0, none⟩ = some a ∧ w.cell? ⟨g, 1, none⟩ = some b) ∧ (w.frozen? ⟨g, 0, none⟩ = false ∧ w.frozen? ⟨g, 1, none⟩ = false) :=
  ⟨⟨h.cell rfl, h.cell rfl⟩, h.frozen _, h.frozen _⟩
theorem Bx.three {w : World} {g : Nat} {t : TypeId} {a b c : Value} (h : Bx w g t #[a, b, c]) : (w.cell? ⟨g, 0, none⟩ = some a ∧ w.cell? ⟨g, 1, none⟩ = some b ∧ w.cell? ⟨g, 2, none⟩ = some c) ∧ (w.frozen? ⟨g, 0, none⟩ = false ∧ w.frozen? ⟨g, 1, none⟩ = false ∧ w.frozen? ⟨g, 2, none⟩ = false) :=
  ⟨⟨h.cell rfl, h.cell rfl, h.cell rfl⟩, h.frozen _, h.frozen _, h.frozen _⟩
theorem Bx.four {w : World} {g : Nat} {t : TypeId} {a b c d : Value} (h : Bx w g t #[a, b, c, d]) : (w.cell? ⟨g, 0, none⟩ = some a ∧ w.cell? ⟨g, 1, none⟩ = some b ∧ w.cell? ⟨g, 2, none⟩ = some c ∧ w.cell? ⟨g, 3, none⟩ = some d) ∧ (w.frozen? ⟨g, 0, none⟩ = false ∧ w.frozen? ⟨g, 1, none⟩ = false ∧ w.frozen? ⟨g, 2, none⟩ = false ∧ w.frozen? ⟨g, 3, none⟩ = false) :=
  ⟨⟨h.cell rfl, h.cell rfl, h.cell rfl, h.cell rfl⟩, h.frozen _, h.frozen _, h.frozen _, h.frozen _⟩
theorem Bx.six {w : World} {g : Nat} {t : TypeId} {a b c d e f : Value} (h : Bx w g t #[a, b, c, d, e, f]) : (w.cell? ⟨g, 0, none⟩ = some a ∧ w.cell? ⟨g, 1, none⟩ = some b ∧ w.cell? ⟨g, 2, none⟩ = some c ∧ w.cell? ⟨g, 3, none⟩ = some d ∧ w.cell? ⟨g, 4, none⟩ = some e ∧ w.cell? ⟨g, 5, none⟩ = some f) ∧ (w.frozen? ⟨g, 0, none⟩ = false ∧ w.frozen? ⟨g, 1, none⟩ = false ∧ w.frozen? ⟨g, 2, none⟩ = false ∧ w.frozen? ⟨g, 3, none⟩ = false ∧ w.frozen? ⟨g, 4, none⟩ = false ∧ w.frozen? ⟨g, 5, none⟩ = false) :=
  ⟨⟨h.cell rfl, h.cell rfl, h.cell rfl, h.cell rfl, h.cell rfl, h.cell rfl⟩, h.frozen _, h.frozen _, h.frozen _, h.frozen _, h.frozen _, h.frozen _⟩
/-- Six cells are stored. -/
def set6 (w : World) (g : Nat) (a b c d e f : Value) : World := (((((w.setCell ⟨g, 0, none⟩ a).setCell ⟨g, 1, none⟩ b).setCell ⟨g, 2, none⟩ c).setCell ⟨g, 3, none⟩ d).setCell ⟨g, 4, none⟩ e).setCell ⟨g, 5, none⟩ f
theorem set6_bx {w : World} {g : Nat} {t : TypeId} {a' b' c' d' e' f' : Value} (h : Bx w g t #[a', b', c', d', e', f']) (a b c d e f : Value) : Bx (set6 w g a b c d e f) g t #[a, b, c, d, e, f] := by
  have := (((((h.set 0 a).set 1 b).set 2 c).set 3 d).set 4 e).set 5 f
  exact this
theorem set6_other {w : World} {g g' : Nat} {t : TypeId} {vs : Array Value} (h : Bx w g t vs) (hne : g ≠ g') (a b c d e f : Value) : Bx (set6 w g' a b c d e f) g t vs :=
  (((((h.other hne 0 a).other hne 1 b).other hne 2 c).other hne 3 d).other hne 4 e).other hne 5 f
theorem set6_below {B : Nat} {w0 w : World} {g : Nat} (h : Below B w0 w) (hg : B ≤ g) (a b c d e f : Value) : Below B w0 (set6 w g a b c d e f) :=
  (((((h.setCell (p := ⟨g, 0, none⟩) hg a).setCell (p := ⟨g, 1, none⟩) hg b).setCell (p := ⟨g, 2, none⟩) hg c).setCell (p := ⟨g, 3, none⟩) hg d).setCell (p := ⟨g, 4, none⟩) hg e).setCell (p := ⟨g, 5, none⟩) hg f
end Go.Proofs.YtanlnigebbcajaaDoor
