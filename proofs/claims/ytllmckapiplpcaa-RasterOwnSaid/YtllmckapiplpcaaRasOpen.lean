/- Arguments of the types Rect and []Image, opened. -/
import Derived.Test.YtllmckapiplpcaaImgOpen
import Derived.Test.YtllmckapiplpcaaJoinDef
namespace Go.Proofs.Ytllmckapiplpcaa
open Go.ChangeShapes Go.WideShapes Go.RowKit Go.Deep

def RcV (v : Value) (x : Int × Int × Int × Int) : Prop := v = .agg #[.int .i64 x.1, .int .i64 x.2.1, .int .i64 x.2.2.1, .int .i64 x.2.2.2] ∧ in64 x.1 ∧ in64 x.2.1 ∧ in64 x.2.2.1 ∧ in64 x.2.2.2
def ImsV (w : World) (v : Value) (ts : List Til) : Prop := ∃ A n c, v = .slice A n c ∧ Imgs w w.heap.size (.slice A n c) ts
section
variable {H : Type} {enc : TypeId × Value → H} {W : World} {base b0 : Nat} {r : Reach} {v : Value} {d : DataW H} {p : List MemPlace}
theorem open_rc (hv : Value.okWide Try.prog W r b0 37 v) (h : DataW.Trod enc Try.prog W base (fun _ => true) true 37 v d p) : ∃ x, RcV v x := by
  obtain ⟨v0, v1, v2, v3, y0, y1, y2, y3, n, rfl, _, _, t0, t1, t2, t3⟩ := Joins.open_agg4 Try.underlying37 (by kernel_rfl) (by kernel_rfl) hv h
  obtain ⟨a, ha, _, wa⟩ := DataW.trod_int Try.underlying3 t0
  obtain ⟨b, hb, _, wb⟩ := DataW.trod_int Try.underlying3 t1
  obtain ⟨c, hc, _, wc⟩ := DataW.trod_int Try.underlying3 t2
  obtain ⟨e, he, _, we⟩ := DataW.trod_int Try.underlying3 t3
  injection ha with ha _
  injection hb with hb _
  injection hc with hc _
  injection he with he _
  subst ha hb hc he
  exact ⟨(a, b, c, e), rfl, in64_of wa, in64_of wb, in64_of wc, in64_of we⟩
end
/-- A slice of images, opened. -/
theorem open_imgs0 {H : Type} {enc : TypeId × Value → H} {W : World} {base n0 : Nat} {v : Value} {x : DataW H × List MemPlace}
    (h : DataW.trod enc Try.prog W base (fun _ => true) true n0 47 [v] = some x) : ∃ ts, ImsV W v ts := by
  rcases open_slice Try.underlying47 h with ⟨hcs, _⟩ | ⟨a, len, cap, m, n, D, Pl, hcs, hb, hl, hm, hmm, hx, hi⟩
  · simp at hcs
    subst hcs
    exact ⟨[], none, 0, 0, rfl, none, 0, rfl, by simp, fun i hi => absurd hi (by simp)⟩
  · simp at hcs
    subst hcs
    have hC : Try.prog.cellsOf 24 = 3 := by kernel_rfl
    have hcell : ∀ i, i < len → ∃ t : Til, W.cell? ((a.add (i * 3)).add 0) = some (.int .i64 t.W) ∧ W.cell? ((a.add (i * 3)).add 1) = some (.int .i64 t.H) ∧ W.cell? ((a.add (i * 3)).add 2) = some (.slice t.A t.ps.length t.c) ∧ Pixs W W.heap.size (.slice t.A t.ps.length t.c) t.ps := by
      intro i hil
      obtain ⟨cs, hc, ht⟩ := hi i (by rw [hmm]; split <;> omega)
      rw [hC] at hc
      obtain ⟨_, hcl, hat⟩ := World.cells?_some hc
      obtain ⟨ys, n', _, _, _, hyl, hg⟩ := DataW.trod_struct Try.underlying24 ht
      have hyl : ys.length = 3 := hyl
      have g0 := hg 0 _ rfl
      have g1 := hg 1 _ rfl
      have g2 := hg 2 _ rfl
      obtain ⟨x, hx⟩ := cell_of_trod_int (i := 0) (by omega) hcl g0 (by rw [List.getElem?_eq_getElem (by omega)]; simp)
      obtain ⟨y, hy⟩ := cell_of_trod_int (i := 1) (by omega) hcl g1 (by rw [List.getElem?_eq_getElem (by omega)]; simp)
      rw [List.getElem?_eq_getElem (by omega)] at g2
      have e2 : (cs.drop 2).take 1 = [cs[2]] := by
        rw [List.drop_eq_getElem_cons (by omega)]
        rfl
      have g3 : DataW.trod enc Try.prog W base (fun _ => true) true n' 22 ((cs.drop 2).take 1) = some ys[2] := g2
      rw [e2] at g3
      obtain ⟨A, k, c, ps, ev, hp⟩ := open_pixs g3
      obtain rfl := hp.len
      refine ⟨⟨x, y, A, c, ps⟩, (hat 0 (by omega)).trans hx, (hat 1 (by omega)).trans hy, (hat 2 (by omega)).trans ?_, hp⟩
      rw [List.getElem?_eq_getElem (by omega), ev]
    by_cases h0 : len = 0
    · subst h0
      exact ⟨[], some a, 0, cap, rfl, some a, cap, rfl, by simp, fun i hi => absurd hi (by simp)⟩
    · obtain ⟨t0, hx0, _⟩ := hcell 0 (by omega)
      obtain ⟨b, o, sp⟩ := a
      have hsp : sp = none := by
        have := spot_none hx0
        simpa [Addr.add] using this
      subst hsp
      simp only [add_eq] at hcell hx0
      have hex : ∀ n, n ≤ len → ∃ ts : List Til, ts.length = n ∧ ∀ i, i < n → W.cell? ⟨b, o + i * 3 + 0, none⟩ = some (.int .i64 (tget ts i).W) ∧ W.cell? ⟨b, o + i * 3 + 1, none⟩ = some (.int .i64 (tget ts i).H) ∧ W.cell? ⟨b, o + i * 3 + 2, none⟩ = some (.slice (tget ts i).A (tget ts i).ps.length (tget ts i).c) ∧ Pixs W W.heap.size (.slice (tget ts i).A (tget ts i).ps.length (tget ts i).c) (tget ts i).ps := by
        intro n
        induction n with
        | zero => intro _; exact ⟨[], rfl, fun i hi => absurd hi (by omega)⟩
        | succ n ih =>
          intro hn
          obtain ⟨ts, hl', hts⟩ := ih (by omega)
          obtain ⟨t, ht⟩ := hcell n (by omega)
          refine ⟨ts ++ [t], by simp [hl'], fun i hi' => ?_⟩
          rcases Nat.lt_or_ge i n with c | c
          · have : tget (ts ++ [t]) i = tget ts i := by unfold tget; simp [List.getElem?_append_left (show i < ts.length by omega)]
            rw [this]; exact hts i c
          · obtain rfl : i = n := by omega
            have : tget (ts ++ [t]) i = t := by unfold tget; rw [← hl']; simp
            rw [this]; exact ht
      obtain ⟨ts, hl', hts⟩ := hex len (Nat.le_refl _)
      subst hl'
      refine ⟨ts, some ⟨b, o, none⟩, ts.length, cap, rfl, some ⟨b, o, none⟩, cap, rfl, by unfold maxLen at hm; omega, fun i hi => ⟨b, o, rfl, World.block_lt_of_cell? W _ hx0, ?_⟩⟩
      exact hts i hi
theorem open_imgs {H : Type} {enc : TypeId × Value → H} {W : World} {base b0 : Nat} {r : Reach} {v : Value} {d : DataW H} {p : List MemPlace} (hv : Value.okWide Try.prog W r b0 47 v) (h : DataW.Trod enc Try.prog W base (fun _ => true) true 47 v d p) : ∃ ts, ImsV W v ts := by
  obtain ⟨A, len, cap, rfl⟩ := okWide_slice Try.underlying47 hv
  obtain ⟨n, hn⟩ := h
  exact open_imgs0 hn
end Go.Proofs.Ytllmckapiplpcaa
