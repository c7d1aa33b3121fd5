/- copy(out.Pix, i.Pix) onto a row of pixels of the call's own, of the same length. -/
import Derived.Test.YtllmckapiplpcaaRefGrid
import Derived.Laws.CopyRow
import Derived.Laws.CopyOwn
namespace Go.Proofs.Ytllmckapiplpcaa
open Go.RowKit

theorem add_none (g o j : Nat) : (⟨g, o, none⟩ : Addr).add j = ⟨g, o + j, none⟩ := by unfold Addr.add; split <;> simp_all
theorem run_copy4 {P : Program} (w : World) (dT sT ty elem : TypeId) (g n dCap : Nat) (a : Option Addr) (sCap : Nat) (cur : Array Value) (t : TypeId) (cs : List Value)
    (hu : P.underlying dT = some (.slice elem)) (hs : (P.info? elem).map (·.size) = some 4)
    (hg : w.heap[g]? = some (.cells cur t (0, 0))) (hn : cs.length = n * 4)
    (hsrc : 0 < n → ∃ ad, a = some ad ∧ ∀ j v, cs[j]? = some v → w.cell? (ad.add j) = some v) (hfit : cs.length ≤ cur.size) (h1 : ∀ v ∈ cs, v.oneCell' = true) :
    (Builtin.copy_ #[dT, sT] ty #[.slice (some ⟨g, 0, none⟩) n dCap, .slice a n sCap]).run P w = .ok (goInt n) (w.setRow g (cs ++ cur.toList.drop cs.length).toArray) := by
  cases hq : P.info? elem with
  | none => simp [hq] at hs
  | some i =>
    have hi : i.size = 4 := by simpa [hq] using hs
    have hmin : Nat.min n n = n := Nat.min_self n
    rcases Nat.eq_zero_or_pos n with h0 | h0
    · subst h0
      have hc : cs = [] := List.eq_nil_of_length_eq_zero (by omega)
      subst hc
      have hl : ∀ (x : Addr), (loadCells x 0).run P w = .ok #[] w := fun x => by simpa using run_loadCells_list (P := P) w x [] (by simp)
      have hw : w.setRow g cur = w := setRow_self w g cur t (0, 0) hg
      cases a <;> simp [Builtin.copy_, run_underlying hu, Builtin.lenOf, Builtin.firstCells, sizeOf, typeInfo, hq, storeCells, hl, hw]
    · obtain ⟨ad, rfl, hsr⟩ := hsrc h0
      have hl := run_loadCells_list (P := P) w ad cs hsr
      have hst := run_storeCells_at P g 0 t cs 0 cur w hg (by simpa using hfit) h1
      rw [hn] at hl
      simp [Builtin.copy_, run_underlying hu, Builtin.lenOf, Builtin.firstCells, sizeOf, typeInfo, hq, hi, hl, hst]
/-- copy onto zero pixels. -/
theorem pcopy (w : World) {ops : Array Oper} {rest : List Oper} {o : Oper} {a : Act} {Q : Exit → Act → World → Prop} (hgd : o.guard = none) (d s : Operand)
    (ho : o.op = .call { callee := .builtin .copy, args := #[d, s], argTypes := #[22, 22] }) (B g n : Nat) (A : Option Addr) (c : Nat) (ps qs : List Px)
    (hd : a.eval d = .slice (some ⟨g, 0, none⟩) n n) (hs : a.eval s = .slice A n c) (hp : ps.length = n) (hown : PRow w B (.slice (some ⟨g, 0, none⟩) n n) qs) (hpix : Pixs w w.heap.size (.slice A n c) ps)
    (h : ∀ v w', PRow w' B (.slice (some ⟨g, 0, none⟩) n n) ps → KB w.heap.size g w w' → w'.heap.size = w.heap.size → wpList Try.prog ops Q rest (a.put o.dst v) w') : wpList Try.prog ops Q (o :: rest) a w := by
  have hown0 := hown
  obtain ⟨hl, hcase⟩ := hown
  rcases hcase with ⟨hv, _⟩ | ⟨g', cap, cur, hv, hB, hg, hnc, hcm, hcs, ht⟩
  · injection hv with hv _ _; cases hv
  · injection hv with hv1 hv2 hv3
    injection hv1 with hv1
    injection hv1 with hv1 _
    subst hv1
    subst hv3
    have hfl : ((flat4 ps).map (Value.int .i64)).length = n * 4 := by rw [List.length_map, flat4_length, hp]
    have hsrc : 0 < n → ∃ ad, A = some ad ∧ ∀ j v, ((flat4 ps).map (Value.int .i64))[j]? = some v → w.cell? (ad.add j) = some v := by
      intro h0
      obtain ⟨A', c', ev, _, hc⟩ := hpix
      injection ev with ev1 _ ev3
      subst ev1
      obtain ⟨b, o', rfl, _, _⟩ := hc 0 (by omega)
      refine ⟨_, rfl, fun j v hj => ?_⟩
      have hj2 : j < ps.length * 4 := by
        have := (List.getElem?_eq_some_iff.1 hj).1
        rw [hfl] at this; omega
      obtain ⟨b2, o2, e2, _, c1, c2, c3, c4⟩ := hc (j / 4) (by omega)
      injection e2 with e2
      injection e2 with e2 e3
      subst e2; subst e3
      rw [add_none]
      obtain ⟨f1, f2, f3, f4⟩ := flat4_get ps (j / 4) (by omega)
      rw [List.getElem?_map] at hj
      rcases (show j = j / 4 * 4 ∨ j = j / 4 * 4 + 1 ∨ j = j / 4 * 4 + 2 ∨ j = j / 4 * 4 + 3 by omega) with e | e | e | e
      · rw [e, f1] at hj; rw [e]; exact c1.trans hj
      · rw [e, f2] at hj; rw [e]; exact c2.trans hj
      · rw [e, f3] at hj; rw [e]; exact c3.trans hj
      · rw [e, f4] at hj; rw [e]; exact c4.trans hj
    obtain ⟨i0, hi0, hz0, hz1, hz2⟩ := info_parts Try.infoPx
    have hsz : (Try.prog.info? 26).map (·.size) = some 4 := by rw [hi0]; simp [hz1]
    have hone : ∀ v ∈ (flat4 ps).map (Value.int .i64), v.oneCell' = true := by
      intro v hv
      obtain ⟨x, _, rfl⟩ := List.mem_map.1 hv
      rfl
    have hrun := run_copy4 (P := Try.prog) w 22 22 o.type 26 g n n A c cur 26 _ Try.underlying22 hsz hg hfl hsrc (by rw [hfl, hcs]; omega) hone
    refine wpList_plain hgd fun K hK => ?_
    unfold Oper.wp
    simp [execOp, ho, resolve, invoke, builtin, hd, hs, hrun, Result.andThen]
    refine hK _ _ (h _ _ ?_ ?_ ?_)
    · refine ⟨by rw [hfl, hp], .inr ⟨g, n, _, by rw [hp], hB, setRow_heap w g cur _ _ _ hg, Nat.le_of_eq hp, hcm, ?_, ?_⟩⟩
      · simp [flat4_length, hp, hcs]
      · simp [flat4_length, hp]
    · exact ⟨rfl, rfl, rfl, by simp [World.setRow], fun k hk hne => setRow_other w g k _ hne⟩
    · simp [World.setRow]
end Go.Proofs.Ytllmckapiplpcaa
