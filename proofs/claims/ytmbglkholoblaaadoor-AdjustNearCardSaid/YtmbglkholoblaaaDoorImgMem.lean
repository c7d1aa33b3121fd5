/- Words for slices of pixels (four ints each). -/
import Derived.Test.YtmbglkholoblaaaDoorMem
import Derived.Test.YtmbglkholoblaaaDoorImgMath
namespace Go.Proofs.YtmbglkholoblaaaDoor
open Go.RowKit

/-- The slice value v reads in w as the pixels ps; its cells lie in blocks below B. -/
def Pixs (w : World) (B : Nat) (v : Value) (ps : List Px) : Prop :=
  ∃ A c, v = .slice A ps.length c ∧ ps.length ≤ 9223372036854775807 ∧ ∀ i, i < ps.length → ∃ b o, A = some ⟨b, o, none⟩ ∧ b < B ∧
    w.cell? ⟨b, o + i * 4, none⟩ = some (.int .i64 (pat ps i).r) ∧ w.cell? ⟨b, o + i * 4 + 1, none⟩ = some (.int .i64 (pat ps i).g) ∧
    w.cell? ⟨b, o + i * 4 + 2, none⟩ = some (.int .i64 (pat ps i).b) ∧ w.cell? ⟨b, o + i * 4 + 3, none⟩ = some (.int .i64 (pat ps i).a)
section
variable {w w' : World} {B B' : Nat} {v : Value} {ps : List Px}
theorem Pixs.keep (h : Pixs w B v ps) (hk : ∀ b o, b < B → w'.cell? ⟨b, o, none⟩ = w.cell? ⟨b, o, none⟩) : Pixs w' B v ps := by
  obtain ⟨A, c, e, hl, hc⟩ := h
  refine ⟨A, c, e, hl, fun i hi => ?_⟩
  obtain ⟨b, o, ea, hb, h1, h2, h3, h4⟩ := hc i hi
  exact ⟨b, o, ea, hb, (hk b _ hb).trans h1, (hk b _ hb).trans h2, (hk b _ hb).trans h3, (hk b _ hb).trans h4⟩
theorem Pixs.below (h : Pixs w B v ps) (hb : Below B w w') : Pixs w' B v ps := h.keep fun b o hlt => hb.cell (p := ⟨b, o, none⟩) hlt
theorem Pixs.drewN (h : Pixs w B v ps) (n : Nat) : Pixs (w.drewN n) B v ps := h
theorem Pixs.drew (h : Pixs w B v ps) : Pixs w.drew B v ps := h
theorem Pixs.more (h : Pixs w B v ps) (hB : B ≤ B') : Pixs w B' v ps := by
  obtain ⟨A, c, e, hl, hc⟩ := h
  refine ⟨A, c, e, hl, fun i hi => ?_⟩
  obtain ⟨b, o, ea, hb, hx⟩ := hc i hi
  exact ⟨b, o, ea, by omega, hx⟩
theorem Pixs.on (h : Pixs w w.heap.size v ps) (hb : Below w.heap.size w w') : Pixs w' w'.heap.size v ps := (h.below hb).more hb.size
theorem Pixs.alloc (h : Pixs w w.heap.size v ps) (o : Obj) : Pixs (w.alloc o) (w.alloc o).heap.size v ps := h.on (bel_alloc (Below.refl _ _) o)
theorem Pixs.nil (w : World) (B : Nat) : Pixs w B (.slice none 0 0) [] := ⟨none, 0, rfl, by simp, fun i hi => absurd hi (by simp)⟩
theorem Pixs.len {A : Option Addr} {n c : Nat} (h : Pixs w B (.slice A n c) ps) : ps.length = n := by
  obtain ⟨A', c', e, _, _⟩ := h
  injection e with _ e _
  exact e.symm
theorem Pixs.max (h : Pixs w B v ps) : ps.length ≤ 9223372036854775807 := by obtain ⟨_, _, _, hl, _⟩ := h; exact hl
end
end Go.Proofs.YtmbglkholoblaaaDoor
