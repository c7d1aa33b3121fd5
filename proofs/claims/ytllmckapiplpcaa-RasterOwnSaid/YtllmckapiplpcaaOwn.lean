/- RasterOwn: append([]Pixel(nil), i.Pix...), and rows that are overwritten. -/
import Derived.Test.YtllmckapiplpcaaRasW1
import Derived.Laws.AppendOwnNone
import Derived.SizedLaws
namespace Go.Proofs.Ytllmckapiplpcaa
open Go.RowKit

/-- append(nil, x...), x any slice of pixels that the world can hold. -/
theorem pappend (w : World) {ops : Array Oper} {rest : List Oper} {o : Oper} {a : Act} {Q : Exit → Act → World → Prop} (hgd : o.guard = none) (s x : Operand)
    (ho : o.op = .call { callee := .builtin .append, args := #[s, x], argTypes := #[22, 22] }) (hs : a.eval s = .slice none 0 0)
    (A : Option Addr) (n c : Nat) (ps : List Px) (hx : a.eval x = .slice A n c) (hn : ps.length = n) (hpix : Pixs w w.heap.size (.slice A n c) ps) (hnil : A = none → c = 0) (hb : n * 32 ≤ 140737488355328)
    (h : ∀ v' w', PRow w' w.heap.size v' ps → Below w.heap.size w w' → wpList Try.prog ops Q rest (a.put o.dst v') w') : wpList Try.prog ops Q (o :: rest) a w := by
  obtain ⟨i0, hi0, hz0, hz1, hz2⟩ := info_parts Try.infoPx
  subst hn
  obtain ⟨A', c', ev, hmx, hc⟩ := hpix
  injection ev with ev1 _ ev3
  subst ev1 ev3
  cases A with
  | none =>
    have hl : ps = [] := by
      rcases Nat.eq_zero_or_pos ps.length with d | d
      · exact List.eq_nil_of_length_eq_zero d
      · obtain ⟨b, o', e, _⟩ := hc 0 d
        cases e
    subst hl
    obtain rfl := hnil rfl
    exact wpList_append_own_none hgd s x 22 ho w.heap.size 26 i0 4 Try.underlying22 hi0 _ 0 [] hs (World.ownsRow_nil _ _ _ _) hx (h _ w (PRow.nil _ _) (Below.refl _ _))
  | some ad =>
    refine wpList_append_own _ hgd s x 22 ho w.heap.size 26 i0 _ 4 32 Try.underlying22 hi0 hz0 hz1 hz2 rfl (by decide) (.slice none 0 0) 0 [] hs (World.ownsRow_nil _ _ _ _) ad ps.length c ((flat4 ps).map (Value.int .i64)) hx (by rw [List.length_map, flat4_length]) ?_ ?_ ?_ ?_ (Nat.le_refl _) ?_
    · intro j u hj
      have hj2 : j < ps.length * 4 := by
        have := (List.getElem?_eq_some_iff.1 hj).1
        rw [List.length_map, flat4_length] at this; exact this
      obtain ⟨b, o', e, _, c1, c2, c3, c4⟩ := hc (j / 4) (by omega)
      injection e with e
      subst e
      rw [add_none]
      obtain ⟨f1, f2, f3, f4⟩ := flat4_get ps (j / 4) (by omega)
      rw [List.getElem?_map] at hj
      rcases (show j = j / 4 * 4 ∨ j = j / 4 * 4 + 1 ∨ j = j / 4 * 4 + 2 ∨ j = j / 4 * 4 + 3 by omega) with e | e | e | e
      · rw [e, f1] at hj; rw [e]; exact c1.trans hj
      · rw [e, f2] at hj; rw [e]; exact c2.trans hj
      · rw [e, f3] at hj; rw [e]; exact c3.trans hj
      · rw [e, f4] at hj; rw [e]; exact c4.trans hj
    · intro u hu
      obtain ⟨y, _, rfl⟩ := List.mem_map.1 hu
      rfl
    · unfold maxLen; omega
    · omega
    · intro v' w' hown hg _
      refine h v' w' ?_ ((Below.refl _ _).grown hg (Nat.le_refl _) fun k hk => by cases hk)
      unfold PRow FRow
      simpa using hown
/-- Only the row's own block is other than before. -/
theorem grown_set {w0 w : World} {g k : Nat} {v : Value} (h : w0.grownBy w (some g)) : w0.grownBy (w.setCell ⟨g, k, none⟩ v) (some g) :=
  ⟨h.os, h.tape, h.output, by simp [World.setCell]; exact h.size, fun j hj hn => (heap_setCell_other w ⟨g, k, none⟩ j v (fun e => hn (by rw [e]))).trans (h.block j hj hn)⟩
theorem grown_refl (w : World) (r : Option Nat) : w.grownBy w r := ⟨rfl, rfl, rfl, Nat.le_refl _, fun _ _ _ => rfl⟩
theorem grown_bx {w w' : World} {r : Option Nat} {g : Nat} {t : TypeId} {vs : Array Value} (h : w.grownBy w' r) (hb : Bx w g t vs) (hn : some g ≠ r) : Bx w' g t vs := (h.block g hb.lt hn).trans hb
theorem grown_row {w w' : World} {r : Option Nat} {B : Nat} {v : Value} {ps : List Px} (h : w.grownBy w' r) (hp : PRow w B v ps) (hn : ∀ k, v.ownBlock = some k → some k ≠ r) : PRow w' B v ps := by
  refine World.ownsRow.kept hp h ?_
  cases e : v.ownBlock with
  | none => exact .inl rfl
  | some k => exact .inr (hn k e)
theorem grown_below {w0 w w' : World} {r : Option Nat} {B : Nat} (hb : Below B w0 w) (h : w.grownBy w' r) (hB : B ≤ w.heap.size) (hr : ∀ k, r = some k → B ≤ k) : Below B w0 w' :=
  hb.trans ⟨h.os, h.tape, h.output, h.size, fun k hk => h.block k (by omega) (fun e => by have := hr k e.symm; omega)⟩
theorem row_lt {w : World} {B : Nat} {v : Value} {ps : List Px} (h : PRow w B v ps) {k : Nat} (hk : v.ownBlock = some k) : B ≤ k ∧ k < w.heap.size := World.ownsRow.lt h k hk
/-- The pixels of a row of the call's own are overwritten. -/
def OwnRel (v : Value) (n B : Nat) (w0 : World) (gh : Nat) (i : Value) (wr : World) : Prop :=
  ∃ k : Nat, k ≤ n ∧ gh = n - k ∧ i = .int .i64 k ∧ w0.grownBy wr v.ownBlock ∧ ∃ l : List Px, l.length = n ∧ PRow wr B v l
theorem OwnRel.start {v : Value} {n B : Nat} {w0 : World} {l : List Px} (hl : l.length = n) (h : PRow w0 B v l) : OwnRel v n B w0 n (.int .i64 0) w0 := ⟨0, Nat.zero_le _, rfl, rfl, grown_refl _ _, l, hl, h⟩
end Go.Proofs.Ytllmckapiplpcaa
