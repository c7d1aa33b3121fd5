/- Arguments of the types Image, Point and Pixel, opened. -/
import Derived.Test.YtmbglkholoblaaaDoorMA
import Derived.ProofKit
import Derived.Deep.Slices
import Derived.Deep.Fields
import Derived.Lib.SmallJoins
import Derived.Below
import Derived.Test.YtmbglkholoblaaaDoorMN
import Derived.Test.YtmbglkholoblaaaDoorCards
import Derived.Test.YtmbglkholoblaaaDoorTie
import Derived.OpenShut
import Derived.ChangeOld
import Derived.Deep.DeepHandedRow
import Derived.Lib.LaidTab
import Derived.Test.YtmbglkholoblaaaDoorMJ
namespace Go.Proofs.YtmbglkholoblaaaDoor
open Go.ChangeShapes Go.WideShapes Go.RowKit Go.Deep

theorem spot_none {w : World} {a : Addr} {v : Value} (h : w.cell? a = some v) : a.spot = none := World.cell?_spot h
theorem add_eq {b o : Nat} (j : Nat) : (⟨b, o, none⟩ : Addr).add j = ⟨b, o + j, none⟩ := by
  unfold Addr.add
  by_cases h : j = 0
  · subst h; rfl
  · rw [if_neg h]
theorem cell_of_trod_int {H : Type} {enc : TypeId × Value → H} {w : World} {base : Nat} {spare : Nat → Bool} {held : Bool} {n : Nat} {cs : List Value} {y : Option (DataW H × List MemPlace)} {i k : Nat} (hi : i < k) (hl : cs.length = k)
    (h : DataW.trod enc Tryd.prog w base spare held n 3 ((cs.drop i).take 1) = y) (hy : y ≠ none) : ∃ x : Int, cs[i]? = some (.int .i64 x) := by
  cases hyy : y with
  | none => exact absurd hyy hy
  | some q =>
    rw [hyy] at h
    obtain ⟨x, hx, _, _⟩ := DataW.trod_int Tryd.underlying3 h
    rw [List.drop_eq_getElem_cons (by omega)] at hx
    refine ⟨x, ?_⟩
    rw [List.getElem?_eq_getElem (by omega)]
    simp only [List.take_succ_cons, List.take_zero, List.cons.injEq, and_true] at hx
    rw [hx]
/-- A number of type int. -/
def in64 (x : Int) : Prop := -9223372036854775808 ≤ x ∧ x ≤ 9223372036854775807
theorem in64_of {x : Int} (h : (Lit.int .i64 x).wf = true) : in64 x := by
  simp [Lit.wf, IntKind.min, IntKind.max, IntKind.signed, IntKind.bits] at h
  exact ⟨by omega, by omega⟩
/-- A slice of pixels, opened. -/
theorem open_pixs {H : Type} {enc : TypeId × Value → H} {W : World} {base n0 : Nat} {v : Value} {x : DataW H × List MemPlace}
    (h : DataW.trod enc Tryd.prog W base (fun _ => true) true n0 43 [v] = some x) : ∃ A n c ps, v = .slice A n c ∧ Pixs W W.heap.size (.slice A n c) ps := by
  rcases open_slice Tryd.underlying43 h with ⟨hcs, _⟩ | ⟨a, len, cap, m, n, D, Pl, hcs, hb, hl, hm, hmm, hx, hi⟩
  · simp at hcs
    subst hcs
    exact ⟨none, 0, 0, [], rfl, Pixs.nil _ _⟩
  · simp at hcs
    subst hcs
    refine ⟨some a, len, cap, ?_⟩
    have hC : Tryd.prog.cellsOf 25 = 4 := by kernel_rfl
    have hcell : ∀ i, i < len → ∃ x y z t : Int, W.cell? ((a.add (i * 4)).add 0) = some (.int .i64 x) ∧ W.cell? ((a.add (i * 4)).add 1) = some (.int .i64 y) ∧ W.cell? ((a.add (i * 4)).add 2) = some (.int .i64 z) ∧ W.cell? ((a.add (i * 4)).add 3) = some (.int .i64 t) := by
      intro i hil
      obtain ⟨cs, hc, ht⟩ := hi i (by rw [hmm]; split <;> omega)
      rw [hC] at hc
      obtain ⟨_, hcl, hat⟩ := World.cells?_some hc
      obtain ⟨ys, n', _, _, _, hyl, hg⟩ := DataW.trod_struct Tryd.underlying25 ht
      have hyl : ys.length = 4 := hyl
      have g0 := hg 0 _ rfl
      have g1 := hg 1 _ rfl
      have g2 := hg 2 _ rfl
      have g3 := hg 3 _ rfl
      obtain ⟨x, hx⟩ := cell_of_trod_int (i := 0) (by omega) hcl g0 (by rw [List.getElem?_eq_getElem (by omega)]; simp)
      obtain ⟨y, hy⟩ := cell_of_trod_int (i := 1) (by omega) hcl g1 (by rw [List.getElem?_eq_getElem (by omega)]; simp)
      obtain ⟨z, hz⟩ := cell_of_trod_int (i := 2) (by omega) hcl g2 (by rw [List.getElem?_eq_getElem (by omega)]; simp)
      obtain ⟨t, ht⟩ := cell_of_trod_int (i := 3) (by omega) hcl g3 (by rw [List.getElem?_eq_getElem (by omega)]; simp)
      exact ⟨x, y, z, t, (hat 0 (by omega)).trans hx, (hat 1 (by omega)).trans hy, (hat 2 (by omega)).trans hz, (hat 3 (by omega)).trans ht⟩
    by_cases h0 : len = 0
    · subst h0
      exact ⟨[], rfl, some a, cap, rfl, by simp, fun i hi => absurd hi (by simp)⟩
    · obtain ⟨x0, _, _, _, hx0, _⟩ := hcell 0 (by omega)
      obtain ⟨b, o, sp⟩ := a
      have hsp : sp = none := by
        have := spot_none hx0
        simpa [Addr.add] using this
      subst hsp
      simp only [add_eq] at hcell hx0
      refine ⟨(List.range len).map fun i => ⟨intOf ((W.cell? ⟨b, o + i * 4, none⟩).getD undef), intOf ((W.cell? ⟨b, o + i * 4 + 1, none⟩).getD undef), intOf ((W.cell? ⟨b, o + i * 4 + 2, none⟩).getD undef), intOf ((W.cell? ⟨b, o + i * 4 + 3, none⟩).getD undef)⟩, rfl, some ⟨b, o, none⟩, cap, by simp, by unfold maxLen at hm; simp; omega, fun i hi => ⟨b, o, rfl, ?_, ?_⟩⟩
      · exact World.block_lt_of_cell? W _ hx0
      · have hil : i < len := by simpa using hi
        obtain ⟨x, y, z, t, h1, h2, h3, h4⟩ := hcell i hil
        simp only [Nat.add_zero] at h1
        rw [h1, h2, h3, h4]
        simp [pat, hil, h1, h2, h3, h4, intOf]
/-- An image, a point, a pixel as values. -/
def ImgV (w : World) (v : Value) (x : Int × Int × List Px) : Prop := (∃ A n c, v = .agg #[.int .i64 x.1, .int .i64 x.2.1, .slice A n c] ∧ Pixs w w.heap.size (.slice A n c) x.2.2) ∧ in64 x.1 ∧ in64 x.2.1
def PxV (v : Value) (p : Px) : Prop := v = .agg #[.int .i64 p.r, .int .i64 p.g, .int .i64 p.b, .int .i64 p.a] ∧ in64 p.r ∧ in64 p.g ∧ in64 p.b ∧ in64 p.a
section
variable {H : Type} {enc : TypeId × Value → H} {W : World} {base b0 : Nat} {r : Reach} {v : Value} {d : DataW H} {p : List MemPlace}
theorem open_img (hv : Value.okWide Tryd.prog W r b0 45 v) (h : DataW.Trod enc Tryd.prog W base (fun _ => true) true 45 v d p) : ∃ x, ImgV W v x := by
  obtain ⟨v0, v1, v2, y0, y1, y2, n, rfl, _, _, t0, t1, t2⟩ := Joins.open_agg3 Tryd.underlying45 (by kernel_rfl) (by kernel_rfl) hv h
  obtain ⟨a, ha, _, wa⟩ := DataW.trod_int Tryd.underlying3 t0
  obtain ⟨b, hb, _, wb⟩ := DataW.trod_int Tryd.underlying3 t1
  obtain ⟨A, n, c, ps, rfl, hp⟩ := open_pixs t2
  injection ha with ha _
  injection hb with hb _
  subst ha hb
  exact ⟨(a, b, ps), ⟨A, n, c, rfl, hp⟩, in64_of wa, in64_of wb⟩
theorem open_px (hv : Value.okWide Tryd.prog W r b0 25 v) (h : DataW.Trod enc Tryd.prog W base (fun _ => true) true 25 v d p) : ∃ x, PxV v x := by
  obtain ⟨v0, v1, v2, v3, y0, y1, y2, y3, n, rfl, _, _, t0, t1, t2, t3⟩ := Joins.open_agg4 Tryd.underlying25 (by kernel_rfl) (by kernel_rfl) hv h
  obtain ⟨a, ha, _, wa⟩ := DataW.trod_int Tryd.underlying3 t0
  obtain ⟨b, hb, _, wb⟩ := DataW.trod_int Tryd.underlying3 t1
  obtain ⟨c, hc, _, wc⟩ := DataW.trod_int Tryd.underlying3 t2
  obtain ⟨e, he, _, we⟩ := DataW.trod_int Tryd.underlying3 t3
  injection ha with ha _
  injection hb with hb _
  injection hc with hc _
  injection he with he _
  subst ha hb hc he
  exact ⟨⟨a, b, c, e⟩, rfl, in64_of wa, in64_of wb, in64_of wc, in64_of we⟩
end
end Go.Proofs.YtmbglkholoblaaaDoor
namespace Go.Proofs.YtmbglkholoblaaaDoor
open Go.ChangeShapes Go.WideShapes Go.ChangeAt Go.RowKit Go.Deep

theorem own : ownKnob Tryd.prog.godebug = none := by kernel_rfl
theorem laidOut : laidOutB Tryd.prog = true := by kernel_rfl
theorem gTab : Tryd.prog.globalNamed "imageeditor/adjust.factors" = some 0 := by kernel_rfl
theorem gTabType : (Tryd.prog.globals[0]?).map (·.type) = some 80 := by kernel_rfl
theorem cellsTab : Tryd.prog.cellsOf 80 = 16 := by kernel_rfl
theorem cellsInt : Tryd.prog.cellsOf 3 = 1 := by kernel_rfl
theorem tab_of {W : World} (h : laidMetH Tryd.prog [("imageeditor/adjust.factors", Rows.laid_imageeditor_adjust_factors)] W) : Tab W := by
  have t : Lib.TabIs Tryd.prog W "imageeditor/adjust.factors" .i64 facs := Lib.tabIs_of_head (rest := []) gTab gTabType Tryd.underlying80 Tryd.underlying3 cellsInt cellsTab h
  have hc : ∀ i : Nat, i < 16 → W.cell? ⟨0, i, none⟩ = some (.int .i64 (facs.getD i 0)) := fun i hi => by
    have := t.cell gTab i (show i < facs.length from hi)
    simpa [List.getD, List.getElem?_eq_getElem (show i < facs.length from hi)] using this
  exact ⟨World.block_lt_of_cell? W _ (hc 0 (by omega)), hc⟩
/-- A world for the witness: the settled one, the table holding what its initialiser lays. -/
noncomputable def laidWorld (os : Os) : World :=
  { World.holding Tryd.prog os ⟨#[], #[], []⟩ with heap := (World.holding Tryd.prog os ⟨#[], #[], []⟩).heap.modify 0 fun
      | .cells _ t frozen => .cells (facs.map (Value.int .i64)).toArray t frozen
      | o => o }
def ArV (v : Value) (x : Int × Int × Int) : Prop := v = .agg #[.int .i64 x.1, .int .i64 x.2.1, .int .i64 x.2.2]
theorem okWide_array3 {P : Program} {w : World} {r : Reach} {b0 : Nat} {t e : TypeId} {n : Nat} {v : Value} (ht : P.underlying t = some (.array n e)) (h : Value.okWide P w r b0 t v) : ∃ cs, v = .agg cs ∧ cs.size = P.cellsOf t := by
  simp only [Value.okWide, ht] at h
  obtain ⟨cs, h1, h2, _⟩ := h
  exact ⟨cs, h1, h2⟩
theorem arr3 {cs : Array Value} (h : cs.size = 3) : ∃ a b c, cs = #[a, b, c] := by
  rcases cs with ⟨l⟩
  match l, h with
  | [a, b, c], _ => exact ⟨a, b, c, rfl⟩
section
variable {H : Type} {enc : TypeId × Value → H} {W : World} {base b0 : Nat} {r : Reach} {v : Value} {d : DataW H} {p : List MemPlace}
theorem open_arr (hv : Value.okWide Tryd.prog W r b0 31 v) (h : DataW.Trod enc Tryd.prog W base (fun _ => true) true 31 v d p) : ∃ x, ArV v x := by
  obtain ⟨cs, rfl, hsz⟩ := okWide_array3 Tryd.underlying31 hv
  obtain ⟨fuel, hf⟩ := h
  obtain ⟨c0, c1, c2, rfl⟩ := arr3 (hsz.trans (by kernel_rfl))
  have hl : [c0, c1, c2].length = 3 := rfl
  obtain ⟨xs, m, _, _, _, hyl, hg⟩ := DataW.trod_array Tryd.underlying31 hf
  have g0 := hg 0 (by omega); have g1 := hg 1 (by omega); have g2 := hg 2 (by omega)
  rw [cellsInt] at g0 g1 g2
  obtain ⟨x0, e0⟩ := cell_of_trod_int (i := 0) (by omega) hl g0 (by rw [List.getElem?_eq_getElem (by omega)]; simp)
  obtain ⟨x1, e1⟩ := cell_of_trod_int (i := 1) (by omega) hl g1 (by rw [List.getElem?_eq_getElem (by omega)]; simp)
  obtain ⟨x2, e2⟩ := cell_of_trod_int (i := 2) (by omega) hl g2 (by rw [List.getElem?_eq_getElem (by omega)]; simp)
  injection e0 with e0; injection e1 with e1; injection e2 with e2
  subst e0 e1 e2
  exact ⟨⟨x0, x1, x2⟩, rfl⟩
end
end Go.Proofs.YtmbglkholoblaaaDoor
namespace Go.Proofs.YtmbglkholoblaaaDoor
open Go.ChangeShapes Go.WideShapes Go.RowKit Go.Deep

def IntsV (w : World) (v : Value) (l : List Int) : Prop := ∃ A c, v = .slice A l.length c ∧ Ints w w.heap.size (.slice A l.length c) l
def StpsV (w : World) (v : Value) (ss : List (Int × Px)) : Prop := ∃ A c, v = .slice A ss.length c ∧ Stps w w.heap.size (.slice A ss.length c) ss
section
variable {H : Type} {enc : TypeId × Value → H} {W : World} {base b0 : Nat} {r : Reach} {v : Value} {d : DataW H} {p : List MemPlace}
theorem open_ints (hv : Value.okWide Tryd.prog W r b0 22 v) (h : DataW.Trod enc Tryd.prog W base (fun _ => true) true 22 v d p) : ∃ l, IntsV W v l := by
  obtain ⟨A, len, cap, rfl⟩ := okWide_slice Tryd.underlying22 hv
  obtain ⟨fuel, hf⟩ := h
  rcases open_slice Tryd.underlying22 hf with ⟨hcs, _⟩ | ⟨a, len', cap', m, n, D, Pl, hcs, hb, hl, hm, hmm, hx, hi⟩
  · simp [Value.cells] at hcs
    obtain ⟨rfl, rfl, rfl⟩ := hcs
    exact ⟨[], none, 0, rfl, Ints.nil _ _⟩
  · simp [Value.cells] at hcs
    obtain ⟨rfl, rfl, rfl⟩ := hcs
    have hC : Tryd.prog.cellsOf 3 = 1 := by kernel_rfl
    have hcell : ∀ i, i < len → ∃ x : Int, W.cell? ((a.add (i * 1)).add 0) = some (.int .i64 x) := by
      intro i hil
      obtain ⟨cs, hc, ht⟩ := hi i (by rw [hmm]; split <;> omega)
      rw [hC] at hc
      obtain ⟨_, hcl, hat⟩ := World.cells?_some hc
      obtain ⟨x, hx, _, _⟩ := DataW.trod_int Tryd.underlying3 ht
      refine ⟨x, (hat 0 (by omega)).trans ?_⟩
      rw [hx]; rfl
    by_cases h0 : len = 0
    · subst h0
      exact ⟨[], some a, cap, rfl, some a, cap, rfl, by simp, fun i hi => absurd hi (by simp)⟩
    · obtain ⟨x0, hx0⟩ := hcell 0 (by omega)
      obtain ⟨b, o, sp⟩ := a
      have hsp : sp = none := by
        have := spot_none hx0
        simpa [Addr.add] using this
      subst hsp
      simp only [add_eq] at hcell hx0
      have hlen : ((List.range len).map fun i => intOf ((W.cell? ⟨b, o + i, none⟩).getD undef)).length = len := by simp
      refine ⟨(List.range len).map fun i => intOf ((W.cell? ⟨b, o + i, none⟩).getD undef), some ⟨b, o, none⟩, cap, by rw [hlen], some ⟨b, o, none⟩, cap, rfl, by unfold maxLen at hm; simp; omega, fun i hi => ⟨b, o, rfl, ?_, ?_⟩⟩
      · exact World.block_lt_of_cell? W _ hx0
      · have hil : i < len := by simpa using hi
        obtain ⟨x, h1⟩ := hcell i hil
        simp only [Nat.add_zero, Nat.mul_one] at h1
        rw [h1]
        simp [hil, h1, intOf]
theorem open_stps (hv : Value.okWide Tryd.prog W r b0 23 v) (h : DataW.Trod enc Tryd.prog W base (fun _ => true) true 23 v d p) : ∃ l, StpsV W v l := by
  obtain ⟨A, len, cap, rfl⟩ := okWide_slice Tryd.underlying23 hv
  obtain ⟨fuel, hf⟩ := h
  rcases open_slice Tryd.underlying23 hf with ⟨hcs, _⟩ | ⟨a, len', cap', m, n, D, Pl, hcs, hb, hl, hm, hmm, hx, hi⟩
  · simp [Value.cells] at hcs
    obtain ⟨rfl, rfl, rfl⟩ := hcs
    exact ⟨[], none, 0, rfl, none, 0, rfl, by simp, fun i hi => absurd hi (by simp)⟩
  · simp [Value.cells] at hcs
    obtain ⟨rfl, rfl, rfl⟩ := hcs
    have hC : Tryd.prog.cellsOf 63 = 5 := by kernel_rfl
    have hcell : ∀ i, i < len → ∃ s x y z t : Int, W.cell? ((a.add (i * 5)).add 0) = some (.int .i64 s) ∧ W.cell? ((a.add (i * 5)).add 1) = some (.int .i64 x) ∧ W.cell? ((a.add (i * 5)).add 2) = some (.int .i64 y) ∧ W.cell? ((a.add (i * 5)).add 3) = some (.int .i64 z) ∧ W.cell? ((a.add (i * 5)).add 4) = some (.int .i64 t) := by
      intro i hil
      obtain ⟨cs, hc, ht⟩ := hi i (by rw [hmm]; split <;> omega)
      rw [hC] at hc
      obtain ⟨_, hcl, hat⟩ := World.cells?_some hc
      obtain ⟨ys, n', _, _, _, hyl, hg⟩ := DataW.trod_struct Tryd.underlying63 ht
      have hyl : ys.length = 2 := hyl
      have g0 := hg 0 _ rfl
      have g1 := hg 1 _ rfl
      obtain ⟨s, hs⟩ := cell_of_trod_int (i := 0) (by omega) hcl g0 (by rw [List.getElem?_eq_getElem (by omega)]; simp)
      rw [List.getElem?_eq_getElem (by omega)] at g1
      have g2 : DataW.trod enc Tryd.prog W base (fun _ => true) true n' 25 ((cs.drop 1).take 4) = some ys[1] := g1
      have hl4 : ((cs.drop 1).take 4).length = 4 := by simp; omega
      have hat4 : ∀ j, j < 4 → ((cs.drop 1).take 4)[j]? = cs[1 + j]? := fun j hj => by rw [List.getElem?_take_of_lt hj, List.getElem?_drop]
      generalize (cs.drop 1).take 4 = cs4 at *
      obtain ⟨zs, n2, _, _, _, hzl, hg2⟩ := DataW.trod_struct Tryd.underlying25 g2
      have hzl : zs.length = 4 := hzl
      have e0 := hg2 0 _ rfl
      have e1 := hg2 1 _ rfl
      have e2 := hg2 2 _ rfl
      have e3 := hg2 3 _ rfl
      obtain ⟨x, hx⟩ := cell_of_trod_int (i := 0) (by omega) hl4 e0 (by rw [List.getElem?_eq_getElem (by omega)]; simp)
      obtain ⟨y, hy⟩ := cell_of_trod_int (i := 1) (by omega) hl4 e1 (by rw [List.getElem?_eq_getElem (by omega)]; simp)
      obtain ⟨z, hz⟩ := cell_of_trod_int (i := 2) (by omega) hl4 e2 (by rw [List.getElem?_eq_getElem (by omega)]; simp)
      obtain ⟨t, ht⟩ := cell_of_trod_int (i := 3) (by omega) hl4 e3 (by rw [List.getElem?_eq_getElem (by omega)]; simp)
      exact ⟨s, x, y, z, t, (hat 0 (by omega)).trans hs, (hat 1 (by omega)).trans ((hat4 0 (by omega)).symm.trans hx), (hat 2 (by omega)).trans ((hat4 1 (by omega)).symm.trans hy), (hat 3 (by omega)).trans ((hat4 2 (by omega)).symm.trans hz), (hat 4 (by omega)).trans ((hat4 3 (by omega)).symm.trans ht)⟩
    by_cases h0 : len = 0
    · subst h0
      exact ⟨[], some a, cap, rfl, some a, cap, rfl, by simp, fun i hi => absurd hi (by simp)⟩
    · obtain ⟨x0, _, _, _, _, hx0, _⟩ := hcell 0 (by omega)
      obtain ⟨b, o, sp⟩ := a
      have hsp : sp = none := by
        have := spot_none hx0
        simpa [Addr.add] using this
      subst hsp
      simp only [add_eq] at hcell hx0
      have hlen : ((List.range len).map fun i => (intOf ((W.cell? ⟨b, o + i * 5, none⟩).getD undef), (⟨intOf ((W.cell? ⟨b, o + i * 5 + 1, none⟩).getD undef), intOf ((W.cell? ⟨b, o + i * 5 + 2, none⟩).getD undef), intOf ((W.cell? ⟨b, o + i * 5 + 3, none⟩).getD undef), intOf ((W.cell? ⟨b, o + i * 5 + 4, none⟩).getD undef)⟩ : Px))).length = len := by simp
      refine ⟨(List.range len).map fun i => (intOf ((W.cell? ⟨b, o + i * 5, none⟩).getD undef), (⟨intOf ((W.cell? ⟨b, o + i * 5 + 1, none⟩).getD undef), intOf ((W.cell? ⟨b, o + i * 5 + 2, none⟩).getD undef), intOf ((W.cell? ⟨b, o + i * 5 + 3, none⟩).getD undef), intOf ((W.cell? ⟨b, o + i * 5 + 4, none⟩).getD undef)⟩ : Px)), some ⟨b, o, none⟩, cap, by rw [hlen], some ⟨b, o, none⟩, cap, rfl, by unfold maxLen at hm; simp; omega, fun i hi => ⟨b, o, rfl, ?_, ?_⟩⟩
      · exact World.block_lt_of_cell? W _ hx0
      · have hil : i < len := by simpa using hi
        obtain ⟨s, x, y, z, t, h1, h2, h3, h4, h5⟩ := hcell i hil
        simp only [Nat.add_zero] at h1
        unfold StpAt
        rw [h1, h2, h3, h4, h5]
        simp [sat, sco, hil, h1, h2, h3, h4, h5, intOf]
end
end Go.Proofs.YtmbglkholoblaaaDoor
