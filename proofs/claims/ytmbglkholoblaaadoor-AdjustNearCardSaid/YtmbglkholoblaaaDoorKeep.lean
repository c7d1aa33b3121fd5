/- All blocks but one are kept; a push that says where the slice lies. -/
import Derived.Test.YtmbglkholoblaaaDoorRow
import Derived.Maps.AppendAt
import Derived.WalkSmall
namespace Go.Proofs.YtmbglkholoblaaaDoor
open Go.RowKit

/-- Below block B all blocks but g are as they were. -/
structure KB (B g : Nat) (a w : World) : Prop where
  os : w.os = a.os
  tape : w.tape = a.tape
  output : w.output = a.output
  size : a.heap.size ≤ w.heap.size
  block : ∀ k, k < B → k ≠ g → w.heap[k]? = a.heap[k]?
section
variable {B g : Nat} {a w w' : World}
theorem KB.refl (B g : Nat) (w : World) : KB B g w w := ⟨rfl, rfl, rfl, Nat.le_refl _, fun _ _ _ => rfl⟩
theorem KB.trans {c : World} (h : KB B g a w) (k : KB B g w c) : KB B g a c :=
  ⟨k.os.trans h.os, k.tape.trans h.tape, k.output.trans h.output, Nat.le_trans h.size k.size, fun i hi hn => (k.block i hi hn).trans (h.block i hi hn)⟩
theorem KB.below (h : KB B g a w) (hb : Below w.heap.size w w') (hB : B ≤ w.heap.size) : KB B g a w' :=
  h.trans ⟨hb.os, hb.tape, hb.output, hb.size, fun k hk _ => hb.block k (by omega)⟩
theorem KB.drew (h : KB B g a w) : KB B g a w.drew := ⟨h.os, h.tape, h.output, h.size, h.block⟩
theorem KB.drewN (h : KB B g a w) (n : Nat) : KB B g a (w.drewN n) := ⟨h.os, h.tape, h.output, h.size, h.block⟩
theorem KB.alloc (h : KB B g a w) (o : Obj) (hB : B ≤ w.heap.size) : KB B g a (w.alloc o) := h.below (bel_alloc (Below.refl _ _) o) hB
theorem KB.set (h : KB B g a w) (k : Nat) (v : Value) : KB B g a (w.setCell ⟨g, k, none⟩ v) :=
  h.trans ⟨rfl, rfl, rfl, by simp [World.setCell], fun i _ hn => Below.heap_setCell _ _ _ _ hn⟩
theorem KB.grown {row : Option Nat} (h : KB B g a w) (hg : w.grownBy w' row) (hB : B ≤ w.heap.size) (hr : ∀ k, row = some k → B ≤ k) : KB B g a w' :=
  h.trans ⟨hg.os, hg.tape, hg.output, hg.size, fun k hk _ => hg.block k (by omega) (fun e => by have := hr k e.symm; omega)⟩
theorem KB.cell (h : KB B g a w) {k o : Nat} (hk : k < B) (hn : k ≠ g) : w.cell? ⟨k, o, none⟩ = a.cell? ⟨k, o, none⟩ := World.cell?_of_block (a := ⟨k, o, none⟩) (h.block k hk hn)
theorem KB.frozen (h : KB B g a w) {k o : Nat} (hk : k < B) (hn : k ≠ g) : w.frozen? ⟨k, o, none⟩ = a.frozen? ⟨k, o, none⟩ := World.frozen?_of_block (a := ⟨k, o, none⟩) (h.block k hk hn)
theorem KB.toBelow {w0 : World} (h : KB B g a w) (hb : Below w0.heap.size w0 a) (hg : w0.heap.size ≤ g) (hB : w0.heap.size ≤ B) : Below w0.heap.size w0 w :=
  hb.trans ⟨h.os, h.tape, h.output, h.size, fun k hk => h.block k (by omega) (by omega)⟩
end
theorem irow_kept {w w' : World} {B : Nat} {v : Value} {l : List Int} {row : Option Nat} (h : IRow w B v l) (hg : w.grownBy w' row) (hne : ∀ k, v.ownBlock = some k → row ≠ some k) : IRow w' B v l := by
  refine World.ownsRow.kept h hg ?_
  cases e : v.ownBlock with
  | none => exact .inl rfl
  | some k => exact .inr (fun e' => hne k e e'.symm)
theorem irow_lt {w : World} {B : Nat} {v : Value} {l : List Int} (h : IRow w B v l) {k : Nat} (hk : v.ownBlock = some k) : B ≤ k ∧ k < w.heap.size := World.ownsRow.lt h k hk
/-- append(s, y) on a slice of the call's own, behind the block of the one element: where the new slice lies. -/
theorem push_at (w : World) {ops : Array Oper} {rest : List Oper} {o : Oper} {a : Act} {Q : Exit → Act → World → Prop} (hgd : o.guard = none) (s x : Operand)
    (ho : o.op = .call { callee := .builtin .append, args := #[s, x], argTypes := #[22, 22] }) (B : Nat) (v : Value) (xs : List Int) (hs : a.eval s = v) (hown : IRow w B v xs)
    (y : Int) (gx : Nat) (hx : a.eval x = .slice (some ⟨gx, 0, none⟩) 1 1) (hgx : gx = w.heap.size) (hl : xs.length ≤ 1000000000000) (hB : B ≤ w.heap.size)
    (h : ∀ v' w', IRow w' B v' (xs ++ [y]) → w.grownBy w' v.ownBlock → (∀ k, v'.ownBlock = some k → v.ownBlock = some k ∨ w.heap.size ≤ k) → wpList Tryd.prog ops Q rest (a.put o.dst v') w') :
    wpList Tryd.prog ops Q (o :: rest) a (w.alloc (.cells #[.int .i64 y] 3)) := by
  subst hgx
  obtain ⟨i0, hi0, hz0, hz1, hz2⟩ := info_parts Tryd.infoInt
  refine wpList_append_own_at _ hgd s x 22 ho B 3 i0 (.int .i64 0) 1 8 Tryd.underlying22 hi0 hz0 hz1 hz2 rfl (by decide) v _ _ hs (hown.alloc _) ⟨w.heap.size, 0, none⟩ 1 1 [.int .i64 y] hx rfl ?_ ?_ ?_ ?_ (Nat.le_trans hB (by simp)) ?_
  · intro j u hj
    match j, hj with
    | 0, hj => simp at hj; subst hj; simp [Addr.add]
  · intro u hu; simp at hu; subst hu; rfl
  · unfold maxLen; omega
  · omega
  · intro v' w' hown' hg _ hat
    refine h v' w' ?_ ?_ ?_
    · unfold IRow
      simpa using hown'
    · have h0 := World.grownBy_alloc w (.cells #[.int .i64 y] 3) v.ownBlock
      exact ⟨hg.os.trans h0.os, hg.tape.trans h0.tape, hg.output.trans h0.output, Nat.le_trans h0.size hg.size, fun k hk hn => (hg.block k (Nat.lt_of_lt_of_le hk h0.size) hn).trans (h0.block k hk hn)⟩
    · intro k hk
      rcases hat with e | e
      · left; rw [← e, hk]
      · right; rw [hk] at e; injection e with e; rw [e]; simp
/-- The last element is taken off. -/
theorem irow_pop {w : World} {B g cap : Nat} {xs : List Int} {q : Int} (h : IRow w B (.slice (some ⟨g, 0, none⟩) (xs.length + 1) cap) (xs ++ [q])) : IRow w B (.slice (some ⟨g, 0, none⟩) xs.length cap) xs := by
  unfold IRow at h ⊢
  rw [List.length_append, List.length_singleton, List.map_append] at h
  exact ownsRow_pop (by simp) h
theorem irow_shape1 {w : World} {B : Nat} {xs : List Int} {q : Int} {v : Value} (h : IRow w B v (xs ++ [q])) : ∃ g cap, v = .slice (some ⟨g, 0, none⟩) (xs.length + 1) cap ∧ B ≤ g ∧ g < w.heap.size := by
  obtain ⟨g, cap, e, h1, h2⟩ := h.form (by simp)
  rw [List.length_append, List.length_singleton] at e
  exact ⟨g, cap, e, h1, h2⟩
theorem irow_cap {w : World} {B g n cap : Nat} {xs : List Int} (h : IRow w B (.slice (some ⟨g, 0, none⟩) n cap) xs) : n ≤ cap := by
  rcases h with ⟨_, ⟨h, _⟩ | ⟨g', cap', cur, h, _, _, hnc, _⟩⟩
  · cases h
  · injection h with _ h1 h2
    omega
end Go.Proofs.YtmbglkholoblaaaDoor
