/- A row of images of the call's own: append, and how it reads. -/
import Derived.Test.YtllmckapiplpcaaJoinDef
import Derived.Maps.AppendAt
namespace Go.Proofs.Ytllmckapiplpcaa
open Go.RowKit

def tcells (ts : List Til) : List Value := ts.flatMap fun t => [.int .i64 t.W, .int .i64 t.H, .slice t.A t.ps.length t.c]
theorem tcells_cons (t : Til) (ts : List Til) : tcells (t :: ts) = .int .i64 t.W :: .int .i64 t.H :: .slice t.A t.ps.length t.c :: tcells ts := rfl
theorem tcells_append (ts us : List Til) : tcells (ts ++ us) = tcells ts ++ tcells us := by simp [tcells]
theorem tcells_length (ts : List Til) : (tcells ts).length = ts.length * 3 := by
  induction ts with
  | nil => rfl
  | cons t ts ih => rw [tcells_cons]; simp only [List.length_cons, ih]; omega
theorem tcells_get : ∀ (ts : List Til) (i : Nat), i < ts.length → (tcells ts)[i * 3]? = some (.int .i64 (tget ts i).W) ∧ (tcells ts)[i * 3 + 1]? = some (.int .i64 (tget ts i).H) ∧ (tcells ts)[i * 3 + 2]? = some (.slice (tget ts i).A (tget ts i).ps.length (tget ts i).c)
  | [], i, h => absurd h (by simp)
  | t :: ts, 0, _ => ⟨rfl, rfl, rfl⟩
  | t :: ts, i + 1, h => by
    have ih := tcells_get ts i (by simpa using h)
    rw [tcells_cons, show (i + 1) * 3 = i * 3 + 1 + 1 + 1 by omega]
    have e : tget (t :: ts) (i + 1) = tget ts i := rfl
    rw [e]
    exact ⟨ih.1, ih.2.1, ih.2.2⟩
/-- The slice v is a row of images, in a block of the call's own. -/
def TRow (w : World) (B : Nat) (v : Value) (ts : List Til) : Prop := w.ownsRow B 24 3 v ts.length (tcells ts)
theorem TRow.nil (w : World) (B : Nat) : TRow w B (.slice none 0 0) [] := World.ownsRow_nil _ _ _ _
theorem TRow.alloc {w : World} {B : Nat} {v : Value} {ts : List Til} (h : TRow w B v ts) (o : Obj) : TRow (w.alloc o) B v ts := World.ownsRow.alloc h o
theorem TRow.lt {w : World} {B : Nat} {v : Value} {ts : List Til} (h : TRow w B v ts) {k : Nat} (hk : v.ownBlock = some k) : B ≤ k ∧ k < w.heap.size := World.ownsRow.lt h k hk
theorem TRow.below {w w' : World} {B : Nat} {v : Value} {ts : List Til} (h : TRow w B v ts) (hb : Below w.heap.size w w') : TRow w' B v ts := by
  refine World.ownsRow.kept (row := none) h ⟨hb.os, hb.tape, hb.output, hb.size, fun k hk _ => hb.block k hk⟩ ?_
  cases e : v.ownBlock with
  | none => exact .inl rfl
  | some k => exact .inr (fun e' => by cases e')
theorem TRow.shape {w : World} {B : Nat} {v : Value} {ts : List Til} (h : TRow w B v ts) : ∃ A cap, v = .slice A ts.length cap := by
  rcases h with ⟨_, ⟨rfl, hn⟩ | ⟨g, cap, cur, rfl, _⟩⟩
  · exact ⟨none, 0, by rw [hn]⟩
  · exact ⟨_, _, rfl⟩
/-- The pixels of a tile lie in a block of the call's own that is not the row's. -/
def TilOk (w : World) (r : Option Nat) (t : Til) : Prop := PRow w 0 (.slice t.A t.ps.length t.c) t.ps ∧ ∀ k, (Value.slice t.A t.ps.length t.c).ownBlock = some k → some k ≠ r
theorem TilOk.below {w w' : World} {r : Option Nat} {t : Til} (h : TilOk w r t) (hb : Below w.heap.size w w') : TilOk w' r t := ⟨h.1.below hb, h.2⟩
theorem TilOk.grown {w w' : World} {r r' : Option Nat} {t : Til} (h : TilOk w r t) (hg : w.grownBy w' r) (hr : ∀ k, r' = some k → r = some k ∨ w.heap.size ≤ k) : TilOk w' r' t := by
  refine ⟨?_, fun k hk e => ?_⟩
  · refine World.ownsRow.kept h.1 hg ?_
    cases e : (Value.slice t.A t.ps.length t.c).ownBlock with
    | none => exact .inl rfl
    | some k => exact .inr (h.2 k e)
  · rcases hr k e.symm with d | d
    · exact h.2 k hk d.symm
    · have := World.ownsRow.lt h.1 k hk
      omega
theorem TRow.imgs {w : World} {B : Nat} {v : Value} {ts : List Til} {r : Option Nat} (h : TRow w B v ts) (hl : ts.length ≤ 1000) (ht : ∀ i, i < ts.length → TilOk w r (tget ts i)) : Imgs w w.heap.size v ts := by
  have h0 := h
  rcases h with ⟨hl', ⟨rfl, hn⟩ | ⟨g, cap, cur, rfl, hB, hg, hnc, hcm, hcs, hta⟩⟩
  · have : ts = [] := List.eq_nil_of_length_eq_zero hn
    subst this
    exact ⟨none, 0, rfl, by simp, fun i hi => absurd hi (by simp)⟩
  · refine ⟨_, _, rfl, by omega, fun i hi => ⟨g, 0, rfl, (World.ownsRow.lt h0 g rfl).2, ?_⟩⟩
    obtain ⟨c1, c2, c3⟩ := tcells_get ts i hi
    have cc : ∀ j v, (tcells ts)[j]? = some v → w.cell? ⟨g, j, none⟩ = some v := by
      intro j v hj
      have hlt := (List.getElem?_eq_some_iff.1 hj).1
      rw [tcells_length] at hlt
      rw [← hta, List.getElem?_take_of_lt hlt] at hj
      simp [World.cell?, hg]
      simpa using hj
    simp only [Nat.zero_add]
    exact ⟨cc _ _ c1, cc _ _ c2, cc _ _ c3, (ht i hi).1.pixs⟩
theorem Try.infoIm : (Try.prog.info? 24).map (fun i => (i.zero, i.size, i.bytes)) = some (some (.agg #[.int .i64 0, .int .i64 0, .slice none 0 0]), 3, 40) := by kernel_rfl
theorem add_none3 (g j : Nat) : (⟨g, 0, none⟩ : Addr).add j = ⟨g, j, none⟩ := by unfold Addr.add; split <;> simp_all
/-- append(v, t), t in a new block. -/
theorem tpush (w : World) {ops : Array Oper} {rest : List Oper} {o : Oper} {a : Act} {Q : Exit → Act → World → Prop} (hgd : o.guard = none) (s x : Operand)
    (ho : o.op = .call { callee := .builtin .append, args := #[s, x], argTypes := #[47, 47] }) (B : Nat) (v : Value) (ts : List Til) (hs : a.eval s = v) (hown : TRow w B v ts)
    (t : Til) (gx : Nat) (hx : a.eval x = .slice (some ⟨gx, 0, none⟩) 1 1) (hgx : gx = w.heap.size) (hl : ts.length ≤ 1000) (hB : B ≤ w.heap.size)
    (h : ∀ v' w', TRow w' B v' (ts ++ [t]) → Below B w w' → (∀ u, TilOk w v.ownBlock u → TilOk w' v'.ownBlock u) → wpList Try.prog ops Q rest (a.put o.dst v') w') :
    wpList Try.prog ops Q (o :: rest) a (w.alloc (.cells #[.int .i64 t.W, .int .i64 t.H, .slice t.A t.ps.length t.c] 24)) := by
  subst hgx
  obtain ⟨i0, hi0, hz0, hz1, hz2⟩ := info_parts Try.infoIm
  refine wpList_append_own_at _ hgd s x 47 ho B 24 i0 _ 3 40 Try.underlying47 hi0 hz0 hz1 hz2 rfl (by decide) v _ _ hs (hown.alloc _) ⟨w.heap.size, 0, none⟩ 1 1 (tcells [t]) hx rfl ?_ ?_ ?_ ?_ (Nat.le_trans hB (by simp)) ?_
  · intro j u hj
    have hlt := (List.getElem?_eq_some_iff.1 hj).1
    have hlt : j < 3 := hlt
    have hb := Bx.new w 24 #[.int .i64 t.W, .int .i64 t.H, .slice t.A t.ps.length t.c]
    rw [add_none3]
    rcases (show j = 0 ∨ j = 1 ∨ j = 2 by omega) with rfl | rfl | rfl
    · exact hb.cell hj
    · exact hb.cell hj
    · exact hb.cell hj
  · intro u hu
    simp [tcells] at hu
    rcases hu with rfl | rfl | rfl <;> rfl
  · unfold maxLen; omega
  · omega
  · intro v' w' hown' hg _ hat
    have hgB := (((Below.refl B w).alloc hB _).grown hg (Nat.le_trans hB (by simp)) fun k hk => (World.ownsRow.lt hown k hk).1)
    refine h v' w' ?_ hgB fun u hu => TilOk.grown (TilOk.below hu (bel_alloc (Below.refl _ _) _)) hg fun k hk => ?_
    · unfold TRow
      rw [List.length_append, tcells_append]
      exact hown'
    · rcases hat with e | e
      · left; rw [← e, hk]
      · right; rw [hk] at e; injection e with e; rw [e]; exact Nat.le_refl _
end Go.Proofs.Ytllmckapiplpcaa
