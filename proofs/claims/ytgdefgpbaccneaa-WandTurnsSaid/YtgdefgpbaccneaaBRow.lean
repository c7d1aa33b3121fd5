/- Slices of bools: read, and of the call's own. -/
import Derived.Test.YtgdefgpbaccneaaKeep
import Derived.Test.YtgdefgpbaccneaaWandMe
namespace Go.Proofs.Ytgdefgpbaccneaa
open Go.RowKit

/-- The slice value v reads in w as the bools xs; its cells lie in blocks below B. -/
def Bools (w : World) (B : Nat) (v : Value) (xs : List Bool) : Prop :=
  ∃ A c, v = .slice A xs.length c ∧ ∀ i, i < xs.length → ∃ b o, A = some ⟨b, o, none⟩ ∧ b < B ∧ w.cell? ⟨b, o + i, none⟩ = some (.bool (xs.getD i false))
def BRow (w : World) (B : Nat) (v : Value) (xs : List Bool) : Prop := w.ownsRow B 4 1 v xs.length (xs.map Value.bool)
theorem Try.infoBool : (Try.prog.info? 4).map (fun i => (i.zero, i.size, i.bytes)) = some (some (.bool false), 1, 1) := by kernel_rfl
section
variable {w w' : World} {B B' : Nat} {v : Value} {xs : List Bool}
theorem Bools.keep (h : Bools w B v xs) (hk : ∀ b o, b < B → w'.cell? ⟨b, o, none⟩ = w.cell? ⟨b, o, none⟩) : Bools w' B v xs := by
  obtain ⟨A, c, e, hc⟩ := h
  refine ⟨A, c, e, fun i hi => ?_⟩
  obtain ⟨b, o, ea, hb, hx⟩ := hc i hi
  exact ⟨b, o, ea, hb, (hk b _ hb).trans hx⟩
theorem Bools.below (h : Bools w B v xs) (hb : Below B w w') : Bools w' B v xs := h.keep fun b o hlt => hb.cell (p := ⟨b, o, none⟩) hlt
theorem BRow.nil (w : World) (B : Nat) : BRow w B (.slice none 0 0) [] := World.ownsRow_nil _ _ _ _
theorem BRow.drewN (h : BRow w B v xs) (n : Nat) : BRow (w.drewN n) B v xs := h
theorem BRow.alloc (h : BRow w B v xs) (o : Obj) : BRow (w.alloc o) B v xs := World.ownsRow.alloc h o
theorem BRow.below (h : BRow w B v xs) (hb : Below w.heap.size w w') : BRow w' B v xs := by
  refine World.ownsRow.kept (row := none) h ⟨hb.os, hb.tape, hb.output, hb.size, fun k hk _ => hb.block k hk⟩ ?_
  cases h : v.ownBlock
  · exact .inl rfl
  · exact .inr (by simp)
theorem BRow.kept {row : Option Nat} (h : BRow w B v xs) (hg : w.grownBy w' row) (hne : ∀ k, v.ownBlock = some k → row ≠ some k) : BRow w' B v xs := by
  refine World.ownsRow.kept h hg ?_
  cases e : v.ownBlock with
  | none => exact .inl rfl
  | some k => exact .inr (fun e' => hne k e e'.symm)
theorem BRow.shape (h : BRow w B v xs) : ∃ A cap, v = .slice A xs.length cap := by
  rcases h with ⟨hl, ⟨rfl, hn⟩ | ⟨g, cap, cur, rfl, _⟩⟩
  · exact ⟨_, _, by rw [hn]⟩
  · exact ⟨_, _, rfl⟩
theorem BRow.bools (h : BRow w B v xs) : Bools w w.heap.size v xs := by
  have h0 := h
  rcases h with ⟨hl, ⟨rfl, hn⟩ | ⟨g, cap, cur, rfl, hB, hg, hnc, hcm, hcs, ht⟩⟩
  · have : xs = [] := List.eq_nil_of_length_eq_zero hn
    subst this
    exact ⟨none, 0, rfl, fun i hi => absurd hi (by simp)⟩
  · refine ⟨_, _, rfl, fun i hi => ⟨g, 0, rfl, (World.ownsRow.lt h0 g rfl).2, ?_⟩⟩
    rw [Nat.zero_add, World.ownsRow.cellAt h0 i (by simpa using hi)]
    simp [hi]
variable {g n cap : Nat}
theorem BRow.len (h : BRow w B (.slice (some ⟨g, 0, none⟩) n cap) xs) : xs.length = n := by
  rcases h with ⟨hl, ⟨h, hn'⟩ | ⟨g, cap, cur, h, hB, hg, hnc, hcm, hcs, ht⟩⟩
  · cases h
  · injection h with _ h _
    exact h.symm
theorem BRow.cell (h : BRow w B (.slice (some ⟨g, 0, none⟩) n cap) xs) {i : Nat} (hi : i < xs.length) : w.cell? ⟨g, i, none⟩ = some (.bool (xs.getD i false)) := by
  obtain rfl := h.len
  rw [World.ownsRow.cellAt h i (by simpa using hi), List.getElem?_map, List.getElem?_eq_getElem hi]
  simp [hi]
theorem BRow.frozen (h : BRow w B (.slice (some ⟨g, 0, none⟩) n cap) xs) (i : Nat) : w.frozen? ⟨g, i, none⟩ = false := by
  obtain rfl := h.len
  exact World.ownsRow.frozenAt h i
theorem BRow.stored (h : BRow w B (.slice (some ⟨g, 0, none⟩) n cap) xs) (j : Nat) (u : Bool) : BRow (w.setCell ⟨g, j, none⟩ (.bool u)) B (.slice (some ⟨g, 0, none⟩) n cap) (xs.set j u) := by
  obtain rfl := h.len
  have := (World.ownsRow.stored h j (.bool u)).1
  unfold BRow
  rw [List.length_set, List.map_set]
  exact this
theorem BRow.lo (h : BRow w B (.slice (some ⟨g, 0, none⟩) n cap) xs) : B ≤ g ∧ g < w.heap.size := World.ownsRow.lt h g rfl
end
theorem brow_made (w : World) (B n : Nat) (hB : B ≤ w.heap.size) (hl : n ≤ 1000000) : BRow (w.alloc (.cells (madeCells #[.bool false] n) 4)) B (.slice (some ⟨w.heap.size, 0, none⟩) n n) (List.replicate n false) := by
  have e : (madeCells #[Value.bool false] n).toList = (List.replicate n false).map Value.bool := by
    apply List.ext_getElem?
    intro j
    by_cases hj : j < n
    · simp [madeCells, hj, Nat.mod_one]
    · simp [madeCells, hj]
  have h := World.ownsRow_lit (e := 4) (size := 1) (base := B) w (madeCells #[Value.bool false] n) n hB (by unfold maxLen; omega) (by rw [← Array.length_toList, e]; simp)
  unfold BRow
  rw [List.length_replicate, ← e]
  exact h
/-- append(v, y) inside a region that draws its order. -/
theorem bpush_step (w : World) {ops : Array Oper} {o : Oper} {a : Act} {K : Act → World → Prop} {Q : Exit → Act → World → Prop} {F : Prop} (hgd : o.guard = none) (so x : Operand)
    (ho : o.op = .call { callee := .builtin .append, args := #[so, x], argTypes := #[49, 49] }) (B : Nat) (v : Value) (xs : List Bool) (hv : a.eval so = v) (hown : BRow w B v xs)
    (g : Nat) (y : Bool) (hx : a.eval x = .slice (some ⟨g, 0, none⟩) 1 1) (hc : w.cell? ⟨g, 0, none⟩ = some (.bool y)) (hl : xs.length ≤ 1000000000000) (hB : B ≤ w.heap.size)
    (h : ∀ v' w', BRow w' B v' (xs ++ [y]) → Below B w w' → K (a.put o.dst v') w') : if Region.wanted o (yielded ops a.tmps) = true then Oper.wp Try.prog o a w K Q else F := by
  have hw : Region.wanted o (yielded ops a.tmps) = true := by simp [Region.wanted, hgd]
  rw [if_pos hw]
  obtain ⟨i0, hi0, hz0, hz1, hz2⟩ := info_parts Try.infoBool
  refine wp_append_own w so x 49 ho B 4 i0 (.bool false) 1 1 Try.underlying49 hi0 hz0 hz1 hz2 rfl (by decide) v _ _ hv hown ⟨g, 0, none⟩ 1 1 [.bool y] hx rfl ?_ ?_ ?_ ?_ hB ?_
  · intro j u hj
    match j, hj with
    | 0, hj => simp at hj; subst hj; simpa [Addr.add] using hc
  · intro u hu; simp at hu; subst hu; rfl
  · unfold maxLen; omega
  · omega
  · intro v' w' hown' hg _
    refine h v' w' ?_ ((Below.refl _ _).grown hg hB fun k hk => (World.ownsRow.lt hown k hk).1)
    unfold BRow
    simpa using hown'
/-- Marks as numbers. -/
def mk1 (b : Bool) : Int := if b then 65535 else 0
def mkL (l : List Bool) : List Int := l.map mk1
theorem mkL_len (l : List Bool) : (mkL l).length = l.length := by simp [mkL]
theorem mkL_getD (l : List Bool) (k : Nat) : (mkL l).getD k 0 = mk1 (l.getD k false) := by
  simp only [mkL, List.getD_eq_getElem?_getD, List.getElem?_map]
  cases l[k]? <;> rfl
theorem mkL_set (l : List Bool) (k : Nat) : mkL (l.set k true) = (mkL l).set k 65535 := by simp [mkL, List.map_set, mk1]
theorem mkL_rep (n : Nat) : mkL (List.replicate n false) = List.replicate n 0 := by simp [mkL, mk1]
theorem mk1_ne (b : Bool) : mk1 b ≠ 0 ↔ b = true := by cases b <;> simp [mk1]
end Go.Proofs.Ytgdefgpbaccneaa
