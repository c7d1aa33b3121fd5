/- Words for slices of structs of ints that the call itself made: their cells as one list of integers. -/
import Derived.Test.YtmbglkholoblaaaDoorMem
namespace Go.Proofs.YtmbglkholoblaaaDoor
open Go.RowKit

/-- The slice value v, of n elements of type E with s int cells each, is the call's own (its block is at least B); f: all its cells. -/
def FRow (E s : Nat) (w : World) (B : Nat) (v : Value) (n : Nat) (f : List Int) : Prop := w.ownsRow B E s v n (f.map (Value.int .i64))

section
variable {E s : Nat} {w w' : World} {B : Nat} {v : Value} {n : Nat} {f : List Int}
theorem FRow.nil (E s : Nat) (w : World) (B : Nat) : FRow E s w B (.slice none 0 0) 0 [] := World.ownsRow_nil _ _ _ _
theorem FRow.flen (h : FRow E s w B v n f) : f.length = n * s := by have := h.1; simpa using this
theorem FRow.drewN (h : FRow E s w B v n f) (k : Nat) : FRow E s (w.drewN k) B v n f := h
theorem FRow.drew (h : FRow E s w B v n f) : FRow E s w.drew B v n f := h
theorem FRow.alloc (h : FRow E s w B v n f) (o : Obj) : FRow E s (w.alloc o) B v n f := World.ownsRow.alloc h o
theorem FRow.below (h : FRow E s w B v n f) (hb : Below w.heap.size w w') : FRow E s w' B v n f := by
  refine World.ownsRow.kept (row := none) h ⟨hb.os, hb.tape, hb.output, hb.size, fun k hk _ => hb.block k hk⟩ ?_
  cases h : v.ownBlock
  · exact .inl rfl
  · exact .inr (by simp)
theorem FRow.form (h : FRow E s w B v n f) (hn : 0 < n) : ∃ g cap, v = .slice (some ⟨g, 0, none⟩) n cap ∧ B ≤ g ∧ g < w.heap.size := by
  have h0 := h
  rcases h with ⟨hl, ⟨rfl, hn'⟩ | ⟨g, cap, cur, rfl, hB, hg, hnc, hcm, hcs, ht⟩⟩
  · omega
  · exact ⟨g, cap, rfl, hB, (World.ownsRow.lt h0 g rfl).2⟩
/-- The shape of the value, whatever its length. -/
theorem FRow.shape (h : FRow E s w B v n f) : ∃ A cap, v = .slice A n cap := by
  rcases h with ⟨hl, ⟨rfl, rfl⟩ | ⟨g, cap, cur, rfl, hB, hg, hnc, hcm, hcs, ht⟩⟩
  · exact ⟨_, _, rfl⟩
  · exact ⟨_, _, rfl⟩
variable {g cap : Nat}
theorem FRow.cell (h : FRow E s w B (.slice (some ⟨g, 0, none⟩) n cap) n f) {i : Nat} {x : Int} (hx : f[i]? = some x) : w.cell? ⟨g, i, none⟩ = some (.int .i64 x) := by
  have hi : i < f.length := by
    rcases Nat.lt_or_ge i f.length with c | c
    · exact c
    · rw [List.getElem?_eq_none c] at hx; cases hx
  have := h.flen
  rw [World.ownsRow.cellAt h i (by omega), List.getElem?_map, hx]; rfl
theorem FRow.frozen (h : FRow E s w B (.slice (some ⟨g, 0, none⟩) n cap) n f) (i : Nat) : w.frozen? ⟨g, i, none⟩ = false := World.ownsRow.frozenAt h i
theorem FRow.stored (h : FRow E s w B (.slice (some ⟨g, 0, none⟩) n cap) n f) (j : Nat) (u : Int) :
    FRow E s (w.setCell ⟨g, j, none⟩ (.int .i64 u)) B (.slice (some ⟨g, 0, none⟩) n cap) n (f.set j u) := by
  have := (World.ownsRow.stored h j (.int .i64 u)).1
  unfold FRow
  rw [List.map_set]
  exact this
theorem FRow.lo (h : FRow E s w B (.slice (some ⟨g, 0, none⟩) n cap) n f) : B ≤ g ∧ g < w.heap.size := World.ownsRow.lt h g rfl
end

/-- A new slice of literals. -/
theorem FRow.made (E s : Nat) (w : World) (B : Nat) (n : Nat) (f : List Int) (hB : B ≤ w.heap.size) (hn : n ≤ 1000000) (hf : f.length = n * s) :
    FRow E s (w.alloc (.cells (f.map (Value.int .i64)).toArray E)) B (.slice (some ⟨w.heap.size, 0, none⟩) n n) n f := by
  have := World.ownsRow_lit (e := E) (size := s) (base := B) w (f.map (Value.int .i64)).toArray n hB (by unfold maxLen; omega) (by simpa using hf)
  simpa [FRow] using this

/-- append(v, x), x one struct, laid in a new block of its own. -/
theorem fpush_wp {P : Program} (E s T bytes : Nat) (i : TypeInfo) (z : Value) (ht : P.underlying T = some (.slice E)) (hi : P.info? E = some i) (hz : i.zero = some z) (hs : i.size = s) (hby : i.bytes = bytes) (hzs : z.cells.size = s) (hsz : 0 < s) (hb8 : bytes ≤ 100)
    (w : World) {o : Oper} {a : Act} {K : Act → World → Prop} {Q : Exit → Act → World → Prop} (so x : Operand)
    (ho : o.op = .call { callee := .builtin .append, args := #[so, x], argTypes := #[T, T] }) (B : Nat) (v : Value) (n : Nat) (f : List Int) (hv : a.eval so = v) (hown : FRow E s w B v n f)
    (g : Nat) (y : List Int) (hx : a.eval x = .slice (some ⟨g, 0, none⟩) 1 1) (hy : y.length = s) (hc : ∀ j u, y[j]? = some u → w.cell? ⟨g, j, none⟩ = some (.int .i64 u)) (hl : n ≤ 1000000000000) (hB : B ≤ w.heap.size)
    (h : ∀ v' w', FRow E s w' B v' (n + 1) (f ++ y) → Below B w w' → K (a.put o.dst v') w') : o.wp P a w K Q := by
  refine wp_append_own w so x T ho B E i z s bytes ht hi hz hs hby hzs hsz v _ _ hv hown ⟨g, 0, none⟩ 1 1 (y.map (Value.int .i64)) hx (by simpa using hy) ?_ ?_ ?_ ?_ hB ?_
  · intro j u hj
    rw [List.getElem?_map] at hj
    cases hyj : y[j]? with
    | none => rw [hyj] at hj; cases hj
    | some q =>
      rw [hyj] at hj
      have hj : Value.int .i64 q = u := by simpa using hj
      subst hj
      have := hc j q hyj
      unfold Addr.add
      by_cases h0 : j = 0
      · subst h0; simpa using this
      · rw [if_neg h0]; simpa using this
  · intro u hu
    rw [List.mem_map] at hu
    obtain ⟨q, _, rfl⟩ := hu
    rfl
  · unfold maxLen; omega
  · have : (n + 1) * bytes ≤ (1000000000000 + 1) * 100 := Nat.mul_le_mul (by omega) hb8
    omega
  · intro v' w' hown' hg _
    refine h v' w' ?_ ((Below.refl _ _).grown hg hB fun k hk => (World.ownsRow.lt hown k hk).1)
    unfold FRow
    rw [List.map_append]
    exact hown'
/-- In a plain region. -/
theorem fpush {P : Program} (E s T bytes : Nat) (i : TypeInfo) (z : Value) (ht : P.underlying T = some (.slice E)) (hi : P.info? E = some i) (hz : i.zero = some z) (hs : i.size = s) (hby : i.bytes = bytes) (hzs : z.cells.size = s) (hsz : 0 < s) (hb8 : bytes ≤ 100)
    (w : World) {ops : Array Oper} {rest : List Oper} {o : Oper} {a : Act} {Q : Exit → Act → World → Prop} (hgd : o.guard = none) (so x : Operand)
    (ho : o.op = .call { callee := .builtin .append, args := #[so, x], argTypes := #[T, T] }) (B : Nat) (v : Value) (n : Nat) (f : List Int) (hv : a.eval so = v) (hown : FRow E s w B v n f)
    (g : Nat) (y : List Int) (hx : a.eval x = .slice (some ⟨g, 0, none⟩) 1 1) (hy : y.length = s) (hc : ∀ j u, y[j]? = some u → w.cell? ⟨g, j, none⟩ = some (.int .i64 u)) (hl : n ≤ 1000000000000) (hB : B ≤ w.heap.size)
    (h : ∀ v' w', FRow E s w' B v' (n + 1) (f ++ y) → Below B w w' → wpList P ops Q rest (a.put o.dst v') w') : wpList P ops Q (o :: rest) a w :=
  wpList_plain hgd fun _ hK => fpush_wp E s T bytes i z ht hi hz hs hby hzs hsz hb8 w so x ho B v n f hv hown g y hx hy hc hl hB fun v' w' h2 h3 => hK _ _ (h v' w' h2 h3)
/-- The same inside a region that draws its order. -/
theorem fpush_step {P : Program} (E s T bytes : Nat) (i : TypeInfo) (z : Value) (ht : P.underlying T = some (.slice E)) (hi : P.info? E = some i) (hz : i.zero = some z) (hs : i.size = s) (hby : i.bytes = bytes) (hzs : z.cells.size = s) (hsz : 0 < s) (hb8 : bytes ≤ 100)
    (w : World) {ops : Array Oper} {o : Oper} {a : Act} {K : Act → World → Prop} {Q : Exit → Act → World → Prop} {F : Prop} (hgd : o.guard = none) (so x : Operand)
    (ho : o.op = .call { callee := .builtin .append, args := #[so, x], argTypes := #[T, T] }) (B : Nat) (v : Value) (n : Nat) (f : List Int) (hv : a.eval so = v) (hown : FRow E s w B v n f)
    (g : Nat) (y : List Int) (hx : a.eval x = .slice (some ⟨g, 0, none⟩) 1 1) (hy : y.length = s) (hc : ∀ j u, y[j]? = some u → w.cell? ⟨g, j, none⟩ = some (.int .i64 u)) (hl : n ≤ 1000000000000) (hB : B ≤ w.heap.size)
    (h : ∀ v' w', FRow E s w' B v' (n + 1) (f ++ y) → Below B w w' → K (a.put o.dst v') w') : if Region.wanted o (yielded ops a.tmps) = true then Oper.wp P o a w K Q else F := by
  have hw : Region.wanted o (yielded ops a.tmps) = true := by simp [Region.wanted, hgd]
  rw [if_pos hw]
  exact fpush_wp E s T bytes i z ht hi hz hs hby hzs hsz hb8 w so x ho B v n f hv hown g y hx hy hc hl hB h
theorem cells_new (w : World) (E : TypeId) (f : List Int) (j : Nat) (u : Int) (h : f[j]? = some u) : (w.alloc (.cells (f.map (Value.int .i64)).toArray E)).cell? ⟨w.heap.size, j, none⟩ = some (.int .i64 u) := by
  rw [cell_of_row _ _ _ _ _ _ (heap_alloc_new w _)]
  simp [h]
theorem toList_made (z : Value) (s n : Nat) (hz : z.cells.toList = List.replicate s (.int .i64 0)) (hs : 0 < s) : (madeCells z.cells (n * s)).toList = (List.replicate (n * s) (0 : Int)).map (Value.int .i64) := by
  have hsz : z.cells.size = s := by rw [← Array.length_toList, hz]; simp
  apply List.ext_getElem?
  intro j
  by_cases hj : j < n * s
  · have hm : j % s < s := Nat.mod_lt _ hs
    have : z.cells[j % s]? = some (.int .i64 0) := by
      rw [← Array.getElem?_toList, hz]; simp [hm]
    simp [madeCells, hj, hsz]
    rw [getElem!_def, this]
  · simp [madeCells, hj]
/-- make([]T, n). -/
theorem fmake {P : Program} (E s T bytes : Nat) (i : TypeInfo) (z : Value) (ht : P.underlying T = some (.slice E)) (hi : P.info? E = some i) (hz : i.zero = some z) (hs : i.size = s) (hby : i.bytes = bytes) (hzs : z.cells.toList = List.replicate s (.int .i64 0)) (hsz : 0 < s) (hb8 : bytes ≤ 100)
    (w : World) {ops : Array Oper} {rest : List Oper} {o : Oper} {a : Act} {Q : Exit → Act → World → Prop} (hgd : o.guard = none) (l c : Operand)
    (ho : o.op = .makeSlice T l c) (B : Nat) (L C : Int) (n : Nat) (hl : a.eval l = .int .i64 L) (hc : a.eval c = .int .i64 C) (hL : L = n) (hC : C = n) (hn : n ≤ 1000000000) (hB : B ≤ w.heap.size)
    (h : ∀ w', FRow E s w' B (.slice (some ⟨w.heap.size, 0, none⟩) n n) n (List.replicate (n * s) 0) → Below w.heap.size w w' → wpList P ops Q rest (a.put o.dst (.slice (some ⟨w.heap.size, 0, none⟩) n n)) w') : wpList P ops Q (o :: rest) a w := by
  refine wpList_make_full w hgd l c T ho B E i z s ht hi hz hs .i64 .i64 L C n hl hc hL hC ?_ (by unfold maxLen; omega) hB ?_
  · rw [hby]
    have : bytes * n ≤ 100 * 1000000000 := Nat.mul_le_mul hb8 hn
    omega
  · intro w' hown hg
    refine h w' ?_ ⟨hg.os, hg.tape, hg.output, hg.size, fun k hk => hg.block k hk (by simp)⟩
    unfold FRow
    rw [← toList_made z s n hzs hsz]
    exact hown
/-- What lies in a made slice after k rounds. -/
def partD {α : Type} (d : α) (l : List α) (k : Nat) : List α := l.take k ++ List.replicate (l.length - k) d
section
variable {α : Type} (d : α) (l : List α) (k : Nat)
theorem partD_length (h : k ≤ l.length) : (partD d l k).length = l.length := by simp [partD]; omega
theorem partD_zero : partD d l 0 = List.replicate l.length d := by simp [partD]
theorem partD_all : partD d l l.length = l := by simp [partD]
theorem partD_set (h : k < l.length) : (partD d l k).set k (l.getD k d) = partD d l (k + 1) := by
  have hl : (l.take k).length = k := by rw [List.length_take]; omega
  unfold partD
  rw [List.set_append_right _ _ (by omega), hl, Nat.sub_self, List.take_succ_eq_append_getElem h]
  obtain ⟨m, hm⟩ : ∃ m, l.length - k = m + 1 := ⟨l.length - k - 1, by omega⟩
  have e : l.getD k d = l[k] := by simp [h]
  rw [hm, List.replicate_succ, List.set_cons_zero, show l.length - (k + 1) = m by omega, e, List.append_assoc]
  rfl
theorem partD_at (h : k < l.length) : (partD d l k)[k]? = some d := by
  have hl : (l.take k).length = k := by rw [List.length_take]; omega
  unfold partD
  rw [List.getElem?_append_right (by omega), hl, Nat.sub_self]
  obtain ⟨m, hm⟩ : ∃ m, l.length - k = m + 1 := ⟨l.length - k - 1, by omega⟩
  rw [hm, List.replicate_succ]; rfl
end
/-- make([]int, n). -/
theorem imake (w : World) {ops : Array Oper} {rest : List Oper} {o : Oper} {a : Act} {Q : Exit → Act → World → Prop} (hgd : o.guard = none) (l c : Operand)
    (ho : o.op = .makeSlice 22 l c) (B : Nat) (L C : Int) (n : Nat) (hl : a.eval l = .int .i64 L) (hc : a.eval c = .int .i64 C) (hL : L = n) (hC : C = n) (hn : n ≤ 1000000000) (hB : B ≤ w.heap.size)
    (h : ∀ w', IRow w' B (.slice (some ⟨w.heap.size, 0, none⟩) n n) (List.replicate n 0) → Below w.heap.size w w' → wpList Tryd.prog ops Q rest (a.put o.dst (.slice (some ⟨w.heap.size, 0, none⟩) n n)) w') : wpList Tryd.prog ops Q (o :: rest) a w := by
  obtain ⟨i0, hi0, hz0, hz1, hz2⟩ := info_parts Tryd.infoInt
  refine fmake 3 1 22 8 i0 _ Tryd.underlying22 hi0 hz0 hz1 hz2 rfl (by omega) (by omega) w hgd l c ho B L C n hl hc hL hC hn hB fun w' h1 h2 => h w' ?_ h2
  unfold IRow
  rw [List.length_replicate]
  rw [Nat.mul_one] at h1
  exact h1
end Go.Proofs.YtmbglkholoblaaaDoor
