/- Words for slices of ints: a slice that reads as a list; a slice of the call's own; a push and a store on it. -/
import Derived.Test.YtanlnigebbcajaaDoorNum
import Derived.Deep.Draws
import Derived.Laws.OwnMore
namespace Go.Proofs.YtanlnigebbcajaaDoor
open Go.RowKit

theorem Below.drewN' {B : Nat} {a w : World} (h : Below B a w) (n : Nat) : Below B a (w.drewN n) := ⟨h.os, h.tape, h.output, h.size, h.block⟩

/-- Behind a call that wrote nothing that was there: old cells and old marks, as rules. -/
theorem below_rules {W w1 : World} (hb : Below W.heap.size W w1) : (∀ b o, b < W.heap.size → w1.cell? ⟨b, o, none⟩ = W.cell? ⟨b, o, none⟩) ∧ (∀ b o, b < W.heap.size → w1.frozen? ⟨b, o, none⟩ = W.frozen? ⟨b, o, none⟩) :=
  ⟨fun b o h => hb.cell (p := ⟨b, o, none⟩) h, fun b o h => hb.frozen (p := ⟨b, o, none⟩) h⟩
/-- A callee that leaves the world alone, at a call inside a region that draws its order. -/
theorem quiet_tol {P : Program} {f : FuncId} {args : Array Value} {W : World} {v : Value} {F : Nat → World} (h : Calls P f args W fun e w' => e = .returned v ∧ W = w') (hF : ∃ m, W = F m) :
    Calls P f args W fun e w'' => e = .returned v ∧ ∃ m, w'' = F m := h.mono fun _ _ ⟨he, hw⟩ => ⟨he, by subst hw; exact hF⟩
theorem quiet_tolN {P : Program} {f : FuncId} {args : Array Value} {W : World} {v : Value} {F : Nat → World} (h : Calls P f args W fun e w' => e = .returned v ∧ ∃ n, w' = W.drewN n) (hF : ∀ n, ∃ m, W.drewN n = F m) :
    Calls P f args W fun e w'' => e = .returned v ∧ ∃ m, w'' = F m := h.mono fun _ _ ⟨he, n, hw⟩ => ⟨he, by subst hw; exact hF n⟩
theorem bel_alloc {w w1 : World} (h : Below w.heap.size w w1) (o : Obj) : Below w.heap.size w (w1.alloc o) := h.alloc h.size o
theorem bel_trans {w w1 w2 : World} (h : Below w.heap.size w w1) (h2 : Below w1.heap.size w1 w2) : Below w.heap.size w w2 := h.trans (h2.mono h.size)

/-- The slice value v reads in w as the integers xs; its cells lie in blocks below B. -/
def Ints (w : World) (B : Nat) (v : Value) (xs : List Int) : Prop :=
  ∃ A c, v = .slice A xs.length c ∧ xs.length ≤ 9223372036854775807 ∧ ∀ i, i < xs.length → ∃ b o, A = some ⟨b, o, none⟩ ∧ b < B ∧ w.cell? ⟨b, o + i, none⟩ = some (.int .i64 (xs.getD i 0))

theorem Ints.keep {w w' : World} {B : Nat} {v : Value} {xs : List Int} (h : Ints w B v xs) (hk : ∀ b o, b < B → w'.cell? ⟨b, o, none⟩ = w.cell? ⟨b, o, none⟩) : Ints w' B v xs := by
  obtain ⟨A, c, e, hl, hc⟩ := h
  refine ⟨A, c, e, hl, fun i hi => ?_⟩
  obtain ⟨b, o, ea, hb, hx⟩ := hc i hi
  exact ⟨b, o, ea, hb, (hk b _ hb).trans hx⟩
theorem Ints.below {w w' : World} {B : Nat} {v : Value} {xs : List Int} (h : Ints w B v xs) (hb : Below B w w') : Ints w' B v xs :=
  h.keep fun b o hlt => hb.cell (p := ⟨b, o, none⟩) hlt
theorem Ints.drewN {w : World} {B : Nat} {v : Value} {xs : List Int} (h : Ints w B v xs) (n : Nat) : Ints (w.drewN n) B v xs := h
theorem Ints.more {w : World} {B B' : Nat} {v : Value} {xs : List Int} (h : Ints w B v xs) (hB : B ≤ B') : Ints w B' v xs := by
  obtain ⟨A, c, e, hl, hc⟩ := h
  refine ⟨A, c, e, hl, fun i hi => ?_⟩
  obtain ⟨b, o, ea, hb, hx⟩ := hc i hi
  exact ⟨b, o, ea, by omega, hx⟩
theorem Ints.nil (w : World) (B : Nat) : Ints w B (.slice none 0 0) [] := ⟨none, 0, rfl, by simp, fun i hi => absurd hi (by simp)⟩

/-- The slice value v is the call's own (its block is at least B) and holds the integers xs. -/
def IRow (w : World) (B : Nat) (v : Value) (xs : List Int) : Prop := w.ownsRow B 3 1 v xs.length (xs.map (Value.int .i64))

theorem IRow.nil (w : World) (B : Nat) : IRow w B (.slice none 0 0) [] := World.ownsRow_nil _ _ _ _
theorem IRow.drewN {w : World} {B : Nat} {v : Value} {xs : List Int} (h : IRow w B v xs) (n : Nat) : IRow (w.drewN n) B v xs := h
theorem IRow.alloc {w : World} {B : Nat} {v : Value} {xs : List Int} (h : IRow w B v xs) (o : Obj) : IRow (w.alloc o) B v xs := World.ownsRow.alloc h o
theorem IRow.below {w w' : World} {B : Nat} {v : Value} {xs : List Int} (h : IRow w B v xs) (hb : Below w.heap.size w w') : IRow w' B v xs := by
  refine World.ownsRow.kept (row := none) h ⟨hb.os, hb.tape, hb.output, hb.size, fun k hk _ => hb.block k hk⟩ ?_
  cases h : v.ownBlock
  · exact .inl rfl
  · exact .inr (by simp)
theorem IRow.ints {w : World} {B : Nat} {v : Value} {xs : List Int} (h : IRow w B v xs) : Ints w w.heap.size v xs := by
  have h0 := h
  rcases h with ⟨hl, ⟨rfl, hn⟩ | ⟨g, cap, cur, rfl, hB, hg, hnc, hcm, hcs, ht⟩⟩
  · have : xs = [] := List.eq_nil_of_length_eq_zero hn
    subst this
    exact Ints.nil _ _
  · refine ⟨_, _, rfl, by unfold maxLen at hcm; omega, fun i hi => ⟨g, 0, rfl, ?_, ?_⟩⟩
    · exact (World.ownsRow.lt h0 g rfl).2
    · rw [Nat.zero_add, World.ownsRow.cellAt h0 i (by simpa using hi)]
      simp [hi]
/-- What a slice of the call's own looks like, if it holds something. -/
theorem IRow.form {w : World} {B : Nat} {v : Value} {xs : List Int} (h : IRow w B v xs) (hn : 0 < xs.length) : ∃ g cap, v = .slice (some ⟨g, 0, none⟩) xs.length cap ∧ B ≤ g ∧ g < w.heap.size := by
  have h0 := h
  rcases h with ⟨hl, ⟨rfl, hn'⟩ | ⟨g, cap, cur, rfl, hB, hg, hnc, hcm, hcs, ht⟩⟩
  · omega
  · exact ⟨g, cap, rfl, hB, (World.ownsRow.lt h0 g rfl).2⟩
theorem IRow.form' {w : World} {B n : Nat} {v : Value} {xs : List Int} (h : IRow w B v xs) (hn : xs.length = n) (h0 : 0 < n) : ∃ g cap, v = .slice (some ⟨g, 0, none⟩) n cap ∧ B ≤ g ∧ g < w.heap.size := by
  subst hn
  exact h.form h0
theorem IRow.len {w : World} {B n g cap : Nat} {xs : List Int} (h : IRow w B (.slice (some ⟨g, 0, none⟩) n cap) xs) : xs.length = n := by
  rcases h with ⟨hl, ⟨h, hn'⟩ | ⟨g, cap, cur, h, hB, hg, hnc, hcm, hcs, ht⟩⟩
  · cases h
  · injection h with _ h _
    exact h.symm
theorem IRow.cell {w : World} {B n g cap : Nat} {xs : List Int} (h : IRow w B (.slice (some ⟨g, 0, none⟩) n cap) xs) {i : Nat} {x : Int} (hx : xs[i]? = some x) : w.cell? ⟨g, i, none⟩ = some (.int .i64 x) := by
  obtain rfl := h.len
  have hi : i < xs.length := by
    rcases Nat.lt_or_ge i xs.length with c | c
    · exact c
    · rw [List.getElem?_eq_none c] at hx; cases hx
  rw [World.ownsRow.cellAt h i (by simpa using hi), List.getElem?_map, hx]; rfl
theorem IRow.frozen {w : World} {B n g cap : Nat} {xs : List Int} (h : IRow w B (.slice (some ⟨g, 0, none⟩) n cap) xs) (i : Nat) : w.frozen? ⟨g, i, none⟩ = false := by
  obtain rfl := h.len
  exact World.ownsRow.frozenAt h i
theorem IRow.stored {w : World} {B n g cap : Nat} {xs : List Int} (h : IRow w B (.slice (some ⟨g, 0, none⟩) n cap) xs) (j : Nat) (u : Int) :
    IRow (w.setCell ⟨g, j, none⟩ (.int .i64 u)) B (.slice (some ⟨g, 0, none⟩) n cap) (xs.set j u) ∧ w.grownBy (w.setCell ⟨g, j, none⟩ (.int .i64 u)) (some g) := by
  obtain rfl := h.len
  have := World.ownsRow.stored h j (.int .i64 u)
  unfold IRow
  rw [List.length_set, List.map_set]
  exact this
theorem IRow.lo {w : World} {B n g cap : Nat} {xs : List Int} (h : IRow w B (.slice (some ⟨g, 0, none⟩) n cap) xs) : B ≤ g ∧ g < w.heap.size := World.ownsRow.lt h g rfl
/-- A new slice of literals. -/
theorem IRow.made (w : World) (B : Nat) (xs : List Int) (hB : B ≤ w.heap.size) (hl : xs.length ≤ 1000000) : IRow (w.alloc (.cells (xs.map (Value.int .i64)).toArray 3)) B (.slice (some ⟨w.heap.size, 0, none⟩) xs.length xs.length) xs := by
  have := World.ownsRow_lit (e := 3) (size := 1) (base := B) w (xs.map (Value.int .i64)).toArray xs.length hB (by unfold maxLen; omega) (by simp)
  simpa [IRow] using this

theorem Tryd.infoInt : (Tryd.prog.info? 3).map (fun i => (i.zero, i.size, i.bytes)) = some (some (.int .i64 0), 1, 8) := by kernel_rfl

/-- append(s, y) on a slice of ints of the call's own. -/
theorem push_law (w : World) {ops : Array Oper} {rest : List Oper} {o : Oper} {a : Act} {Q : Exit → Act → World → Prop} (hgd : o.guard = none) (s x : Operand)
    (ho : o.op = .call { callee := .builtin .append, args := #[s, x], argTypes := #[59, 59] }) (B : Nat) (v : Value) (xs : List Int) (hs : a.eval s = v) (hown : IRow w B v xs)
    (g : Nat) (y : Int) (hx : a.eval x = .slice (some ⟨g, 0, none⟩) 1 1) (hc : w.cell? ⟨g, 0, none⟩ = some (.int .i64 y)) (hl : xs.length ≤ 1000000000000) (hB : B ≤ w.heap.size)
    (h : ∀ v' w', IRow w' B v' (xs ++ [y]) → Below B w w' → wpList Tryd.prog ops Q rest (a.put o.dst v') w') : wpList Tryd.prog ops Q (o :: rest) a w := by
  obtain ⟨i0, hi0, hz0, hz1, hz2⟩ := info_parts Tryd.infoInt
  refine wpList_append_own w hgd s x 59 ho B 3 i0 (.int .i64 0) 1 8 Tryd.underlying59 hi0 hz0 hz1 hz2 rfl (by decide) v _ _ hs hown ⟨g, 0, none⟩ 1 1 [.int .i64 y] hx rfl ?_ ?_ ?_ ?_ hB ?_
  · intro j u hj
    match j, hj with
    | 0, hj => simp at hj; subst hj; simpa [Addr.add] using hc
  · intro u hu; simp at hu; subst hu; rfl
  · unfold maxLen; omega
  · omega
  · intro v' w' hown' hg _
    refine h v' w' ?_ ((Below.refl _ _).grown hg hB fun k hk => (World.ownsRow.lt hown k hk).1)
    unfold IRow
    simpa using hown'
theorem cell_new1 (w : World) (v : Value) (e : TypeId) : (w.alloc (.cells #[v] e)).cell? ⟨w.heap.size, 0, none⟩ = some v := by simp
/-- The same, behind the new block that holds the one element. -/
theorem push_new (w : World) {ops : Array Oper} {rest : List Oper} {o : Oper} {a : Act} {Q : Exit → Act → World → Prop} (hgd : o.guard = none) (s x : Operand)
    (ho : o.op = .call { callee := .builtin .append, args := #[s, x], argTypes := #[59, 59] }) (B : Nat) (v : Value) (xs : List Int) (hs : a.eval s = v) (hown : IRow w B v xs)
    (y : Int) (hx : a.eval x = .slice (some ⟨w.heap.size, 0, none⟩) 1 1) (hl : xs.length ≤ 1000000000000) (hB : B ≤ w.heap.size)
    (h : ∀ v' w', IRow w' B v' (xs ++ [y]) → Below B w w' → wpList Tryd.prog ops Q rest (a.put o.dst v') w') : wpList Tryd.prog ops Q (o :: rest) a (w.alloc (.cells #[.int .i64 y] 3)) :=
  push_law _ hgd s x ho B v xs hs (hown.alloc _) w.heap.size y hx (cell_new1 _ _ _) hl (Nat.le_trans hB (by simp)) fun v' w' h1 h2 => h v' w' h1 (((Below.refl _ _).alloc hB _).trans h2)
theorem push_newN (w : World) (n : Nat) {ops : Array Oper} {rest : List Oper} {o : Oper} {a : Act} {Q : Exit → Act → World → Prop} (hgd : o.guard = none) (s x : Operand)
    (ho : o.op = .call { callee := .builtin .append, args := #[s, x], argTypes := #[59, 59] }) (B : Nat) (v : Value) (xs : List Int) (hs : a.eval s = v) (hown : IRow w B v xs)
    (y : Int) (hx : a.eval x = .slice (some ⟨w.heap.size, 0, none⟩) 1 1) (hl : xs.length ≤ 1000000000000) (hB : B ≤ w.heap.size)
    (h : ∀ v' w', IRow w' B v' (xs ++ [y]) → Below B w w' → wpList Tryd.prog ops Q rest (a.put o.dst v') w') : wpList Tryd.prog ops Q (o :: rest) a ((w.alloc (.cells #[.int .i64 y] 3)).drewN n) :=
  push_law _ hgd s x ho B v xs hs ((hown.alloc _).drewN n) w.heap.size y hx (cell_new1 _ _ _) hl (Nat.le_trans hB (by show w.heap.size ≤ (w.alloc _).heap.size; simp)) fun v' w' h1 h2 => h v' w' h1 ((Below.drewN' ((Below.refl _ _).alloc hB _) n).trans h2)
end Go.Proofs.YtanlnigebbcajaaDoor
