/- All blocks but one are kept; a push that says where the slice lies. -/
import Derived.Test.YtllmckapiplpcaaRow
import Derived.Maps.AppendAt
import Derived.WalkSmall
namespace Go.Proofs.Ytllmckapiplpcaa
open Go.RowKit

/-- Below block B all blocks but g are as they were. -/
structure KB (B g : Nat) (a w : World) : Prop where
  os : w.os = a.os
  tape : w.tape = a.tape
  output : w.output = a.output
  size : a.heap.size ≤ w.heap.size
  block : ∀ k, k < B → k ≠ g → w.heap[k]? = a.heap[k]?
section
variable {B g : Nat} {a w w' : World}
theorem KB.refl (B g : Nat) (w : World) : KB B g w w := ⟨rfl, rfl, rfl, Nat.le_refl _, fun _ _ _ => rfl⟩
theorem KB.trans {c : World} (h : KB B g a w) (k : KB B g w c) : KB B g a c :=
  ⟨k.os.trans h.os, k.tape.trans h.tape, k.output.trans h.output, Nat.le_trans h.size k.size, fun i hi hn => (k.block i hi hn).trans (h.block i hi hn)⟩
theorem KB.below (h : KB B g a w) (hb : Below w.heap.size w w') (hB : B ≤ w.heap.size) : KB B g a w' :=
  h.trans ⟨hb.os, hb.tape, hb.output, hb.size, fun k hk _ => hb.block k (by omega)⟩
theorem KB.drew (h : KB B g a w) : KB B g a w.drew := ⟨h.os, h.tape, h.output, h.size, h.block⟩
theorem KB.drewN (h : KB B g a w) (n : Nat) : KB B g a (w.drewN n) := ⟨h.os, h.tape, h.output, h.size, h.block⟩
theorem KB.alloc (h : KB B g a w) (o : Obj) (hB : B ≤ w.heap.size) : KB B g a (w.alloc o) := h.below (bel_alloc (Below.refl _ _) o) hB
theorem KB.set (h : KB B g a w) (k : Nat) (v : Value) : KB B g a (w.setCell ⟨g, k, none⟩ v) :=
  h.trans ⟨rfl, rfl, rfl, by simp [World.setCell], fun i _ hn => Below.heap_setCell _ _ _ _ hn⟩
theorem KB.grown {row : Option Nat} (h : KB B g a w) (hg : w.grownBy w' row) (hB : B ≤ w.heap.size) (hr : ∀ k, row = some k → B ≤ k) : KB B g a w' :=
  h.trans ⟨hg.os, hg.tape, hg.output, hg.size, fun k hk _ => hg.block k (by omega) (fun e => by have := hr k e.symm; omega)⟩
theorem KB.cell (h : KB B g a w) {k o : Nat} (hk : k < B) (hn : k ≠ g) : w.cell? ⟨k, o, none⟩ = a.cell? ⟨k, o, none⟩ := World.cell?_of_block (a := ⟨k, o, none⟩) (h.block k hk hn)
theorem KB.frozen (h : KB B g a w) {k o : Nat} (hk : k < B) (hn : k ≠ g) : w.frozen? ⟨k, o, none⟩ = a.frozen? ⟨k, o, none⟩ := World.frozen?_of_block (a := ⟨k, o, none⟩) (h.block k hk hn)
theorem KB.toBelow {w0 : World} (h : KB B g a w) (hb : Below w0.heap.size w0 a) (hg : w0.heap.size ≤ g) (hB : w0.heap.size ≤ B) : Below w0.heap.size w0 w :=
  hb.trans ⟨h.os, h.tape, h.output, h.size, fun k hk => h.block k (by omega) (by omega)⟩
end
theorem irow_kept {w w' : World} {B : Nat} {v : Value} {l : List Int} {row : Option Nat} (h : IRow w B v l) (hg : w.grownBy w' row) (hne : ∀ k, v.ownBlock = some k → row ≠ some k) : IRow w' B v l := by
  refine World.ownsRow.kept h hg ?_
  cases e : v.ownBlock with
  | none => exact .inl rfl
  | some k => exact .inr (fun e' => hne k e e'.symm)
theorem irow_lt {w : World} {B : Nat} {v : Value} {l : List Int} (h : IRow w B v l) {k : Nat} (hk : v.ownBlock = some k) : B ≤ k ∧ k < w.heap.size := World.ownsRow.lt h k hk
end Go.Proofs.Ytllmckapiplpcaa
