/- Words for slices of knots (two ints each): a slice that reads as a list of pairs. -/
import Derived.Test.YtmbglkholoblaaaDoorMem
import Derived.Test.YtmbglkholoblaaaDoorCurveMath
namespace Go.Proofs.YtmbglkholoblaaaDoor
open Go.RowKit

/-- The slice value v reads in w as the knots ks; its cells lie in blocks below B. -/
def Knots (w : World) (B : Nat) (v : Value) (ks : List (Int × Int)) : Prop :=
  ∃ A c, v = .slice A ks.length c ∧ ks.length ≤ 9223372036854775807 ∧ ∀ i, i < ks.length → ∃ b o, A = some ⟨b, o, none⟩ ∧ b < B ∧
    w.cell? ⟨b, o + i * 2, none⟩ = some (.int .i64 (kx ks i)) ∧ w.cell? ⟨b, o + i * 2 + 1, none⟩ = some (.int .i64 (ky ks i))
theorem Knots.keep {w w' : World} {B : Nat} {v : Value} {ks : List (Int × Int)} (h : Knots w B v ks) (hk : ∀ b o, b < B → w'.cell? ⟨b, o, none⟩ = w.cell? ⟨b, o, none⟩) : Knots w' B v ks := by
  obtain ⟨A, c, e, hl, hc⟩ := h
  refine ⟨A, c, e, hl, fun i hi => ?_⟩
  obtain ⟨b, o, ea, hb, hx, hy⟩ := hc i hi
  exact ⟨b, o, ea, hb, (hk b _ hb).trans hx, (hk b _ hb).trans hy⟩
theorem Knots.below {w w' : World} {B : Nat} {v : Value} {ks : List (Int × Int)} (h : Knots w B v ks) (hb : Below B w w') : Knots w' B v ks :=
  h.keep fun b o hlt => hb.cell (p := ⟨b, o, none⟩) hlt
theorem Knots.drewN {w : World} {B : Nat} {v : Value} {ks : List (Int × Int)} (h : Knots w B v ks) (n : Nat) : Knots (w.drewN n) B v ks := h
theorem Knots.more {w : World} {B B' : Nat} {v : Value} {ks : List (Int × Int)} (h : Knots w B v ks) (hB : B ≤ B') : Knots w B' v ks := by
  obtain ⟨A, c, e, hl, hc⟩ := h
  refine ⟨A, c, e, hl, fun i hi => ?_⟩
  obtain ⟨b, o, ea, hb, hx⟩ := hc i hi
  exact ⟨b, o, ea, by omega, hx⟩
/-- Behind a call that wrote nothing that was there. -/
theorem Knots.on {w w' : World} {v : Value} {ks : List (Int × Int)} (h : Knots w w.heap.size v ks) (hb : Below w.heap.size w w') : Knots w' w'.heap.size v ks :=
  (h.below hb).more hb.size
theorem Knots.nil (w : World) (B : Nat) : Knots w B (.slice none 0 0) [] := ⟨none, 0, rfl, by simp, fun i hi => absurd hi (by simp)⟩

/-- A slice that holds something: its address. -/
theorem Knots.form {w : World} {B : Nat} {v : Value} {ks : List (Int × Int)} (h : Knots w B v ks) (hn : 0 < ks.length) : ∃ b o c, v = .slice (some ⟨b, o, none⟩) ks.length c ∧ b < B ∧
    ∀ i, i < ks.length → w.cell? ⟨b, o + i * 2, none⟩ = some (.int .i64 (kx ks i)) ∧ w.cell? ⟨b, o + i * 2 + 1, none⟩ = some (.int .i64 (ky ks i)) := by
  obtain ⟨A, c, rfl, hl, hc⟩ := h
  obtain ⟨b, o, rfl, hb, _⟩ := hc 0 hn
  refine ⟨b, o, c, rfl, hb, fun i hi => ?_⟩
  obtain ⟨b', o', e, _, hx⟩ := hc i hi
  injection e with e
  injection e with e1 e2
  subst e1 e2
  exact hx
end Go.Proofs.YtmbglkholoblaaaDoor
