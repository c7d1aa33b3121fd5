/- Arguments of the types Image, Point and Pixel, opened. -/
import Derived.Test.YtineinmghajmnaaMA
import Derived.ProofKit
import Derived.Deep.Slices
import Derived.Deep.Fields
import Derived.Lib.SmallJoins
import Derived.Below
import Derived.Test.YtineinmghajmnaaMD
import Derived.Test.YtineinmghajmnaaMH
import Derived.Test.YtineinmghajmnaaMT
import Derived.Test.YtineinmghajmnaaMAC
namespace Go.Proofs.Ytineinmghajmnaa
open Go.ChangeShapes Go.WideShapes Go.RowKit Go.Deep

theorem spot_none {w : World} {a : Addr} {v : Value} (h : w.cell? a = some v) : a.spot = none := World.cell?_spot h
theorem add_eq {b o : Nat} (j : Nat) : (⟨b, o, none⟩ : Addr).add j = ⟨b, o + j, none⟩ := by
  unfold Addr.add
  by_cases h : j = 0
  · subst h; rfl
  · rw [if_neg h]
theorem cell_of_trod_int {H : Type} {enc : TypeId × Value → H} {w : World} {base : Nat} {spare : Nat → Bool} {held : Bool} {n : Nat} {cs : List Value} {y : Option (DataW H × List MemPlace)} {i k : Nat} (hi : i < k) (hl : cs.length = k)
    (h : DataW.trod enc Try.prog w base spare held n 3 ((cs.drop i).take 1) = y) (hy : y ≠ none) : ∃ x : Int, cs[i]? = some (.int .i64 x) := by
  cases hyy : y with
  | none => exact absurd hyy hy
  | some q =>
    rw [hyy] at h
    obtain ⟨x, hx, _, _⟩ := DataW.trod_int Try.underlying3 h
    rw [List.drop_eq_getElem_cons (by omega)] at hx
    refine ⟨x, ?_⟩
    rw [List.getElem?_eq_getElem (by omega)]
    simp only [List.take_succ_cons, List.take_zero, List.cons.injEq, and_true] at hx
    rw [hx]
/-- A number of type int. -/
def in64 (x : Int) : Prop := -9223372036854775808 ≤ x ∧ x ≤ 9223372036854775807
theorem in64_of {x : Int} (h : (Lit.int .i64 x).wf = true) : in64 x := by
  simp [Lit.wf, IntKind.min, IntKind.max, IntKind.signed, IntKind.bits] at h
  exact ⟨by omega, by omega⟩
set_option maxRecDepth 100000 in
/-- A slice of pixels, opened. -/
theorem open_pixs {H : Type} {enc : TypeId × Value → H} {W : World} {base n0 : Nat} {v : Value} {x : DataW H × List MemPlace}
    (h : DataW.trod enc Try.prog W base (fun _ => true) true n0 22 [v] = some x) : ∃ A n c ps, v = .slice A n c ∧ Pixs W W.heap.size (.slice A n c) ps := by
  rcases open_slice Try.underlying22 h with ⟨hcs, _⟩ | ⟨a, len, cap, m, n, D, Pl, hcs, hb, hl, hm, hmm, hx, hi⟩
  · simp at hcs
    subst hcs
    exact ⟨none, 0, 0, [], rfl, Pixs.nil _ _⟩
  · simp at hcs
    subst hcs
    refine ⟨some a, len, cap, ?_⟩
    have hC : Try.prog.cellsOf 27 = 4 := by kernel_rfl
    have hcell : ∀ i, i < len → ∃ x y z t : Int, W.cell? ((a.add (i * 4)).add 0) = some (.int .i64 x) ∧ W.cell? ((a.add (i * 4)).add 1) = some (.int .i64 y) ∧ W.cell? ((a.add (i * 4)).add 2) = some (.int .i64 z) ∧ W.cell? ((a.add (i * 4)).add 3) = some (.int .i64 t) := by
      intro i hil
      obtain ⟨cs, hc, ht⟩ := hi i (by rw [hmm]; split <;> omega)
      rw [hC] at hc
      obtain ⟨_, hcl, hat⟩ := World.cells?_some hc
      obtain ⟨ys, n', _, _, _, hyl, hg⟩ := DataW.trod_struct Try.underlying27 ht
      have hyl : ys.length = 4 := hyl
      have g0 := hg 0 _ rfl
      have g1 := hg 1 _ rfl
      have g2 := hg 2 _ rfl
      have g3 := hg 3 _ rfl
      obtain ⟨x, hx⟩ := cell_of_trod_int (i := 0) (by omega) hcl g0 (by rw [List.getElem?_eq_getElem (by omega)]; simp)
      obtain ⟨y, hy⟩ := cell_of_trod_int (i := 1) (by omega) hcl g1 (by rw [List.getElem?_eq_getElem (by omega)]; simp)
      obtain ⟨z, hz⟩ := cell_of_trod_int (i := 2) (by omega) hcl g2 (by rw [List.getElem?_eq_getElem (by omega)]; simp)
      obtain ⟨t, ht⟩ := cell_of_trod_int (i := 3) (by omega) hcl g3 (by rw [List.getElem?_eq_getElem (by omega)]; simp)
      exact ⟨x, y, z, t, (hat 0 (by omega)).trans hx, (hat 1 (by omega)).trans hy, (hat 2 (by omega)).trans hz, (hat 3 (by omega)).trans ht⟩
    by_cases h0 : len = 0
    · subst h0
      exact ⟨[], rfl, some a, cap, rfl, by simp, fun i hi => absurd hi (by simp)⟩
    · obtain ⟨x0, _, _, _, hx0, _⟩ := hcell 0 (by omega)
      obtain ⟨b, o, sp⟩ := a
      have hsp : sp = none := by
        have := spot_none hx0
        simpa [Addr.add] using this
      subst hsp
      simp only [add_eq] at hcell hx0
      refine ⟨(List.range len).map fun i => ⟨intOf ((W.cell? ⟨b, o + i * 4, none⟩).getD undef), intOf ((W.cell? ⟨b, o + i * 4 + 1, none⟩).getD undef), intOf ((W.cell? ⟨b, o + i * 4 + 2, none⟩).getD undef), intOf ((W.cell? ⟨b, o + i * 4 + 3, none⟩).getD undef)⟩, rfl, some ⟨b, o, none⟩, cap, by simp, by unfold maxLen at hm; simp; omega, fun i hi => ⟨b, o, rfl, ?_, ?_⟩⟩
      · exact World.block_lt_of_cell? W _ hx0
      · have hil : i < len := by simpa using hi
        obtain ⟨x, y, z, t, h1, h2, h3, h4⟩ := hcell i hil
        simp only [Nat.add_zero] at h1
        rw [h1, h2, h3, h4]
        simp [pat, hil, h1, h2, h3, h4, intOf]
/-- An image, a point, a pixel as values. -/
def ImgV (w : World) (v : Value) (x : Int × Int × List Px) : Prop := (∃ A n c, v = .agg #[.int .i64 x.1, .int .i64 x.2.1, .slice A n c] ∧ Pixs w w.heap.size (.slice A n c) x.2.2) ∧ in64 x.1 ∧ in64 x.2.1
def PxV (v : Value) (p : Px) : Prop := v = .agg #[.int .i64 p.r, .int .i64 p.g, .int .i64 p.b, .int .i64 p.a] ∧ in64 p.r ∧ in64 p.g ∧ in64 p.b ∧ in64 p.a
section
variable {H : Type} {enc : TypeId × Value → H} {W : World} {base b0 : Nat} {r : Reach} {v : Value} {d : DataW H} {p : List MemPlace}
set_option maxRecDepth 100000 in
theorem open_img (hv : Value.okWide Try.prog W r b0 24 v) (h : DataW.Trod enc Try.prog W base (fun _ => true) true 24 v d p) : ∃ x, ImgV W v x := by
  obtain ⟨v0, v1, v2, y0, y1, y2, n, rfl, _, _, t0, t1, t2⟩ := Joins.open_agg3 Try.underlying24 (by kernel_rfl) (by kernel_rfl) hv h
  obtain ⟨a, ha, _, wa⟩ := DataW.trod_int Try.underlying3 t0
  obtain ⟨b, hb, _, wb⟩ := DataW.trod_int Try.underlying3 t1
  obtain ⟨A, n, c, ps, rfl, hp⟩ := open_pixs t2
  injection ha with ha _
  injection hb with hb _
  subst ha hb
  exact ⟨(a, b, ps), ⟨A, n, c, rfl, hp⟩, in64_of wa, in64_of wb⟩
set_option maxRecDepth 100000 in
theorem open_px (hv : Value.okWide Try.prog W r b0 27 v) (h : DataW.Trod enc Try.prog W base (fun _ => true) true 27 v d p) : ∃ x, PxV v x := by
  obtain ⟨v0, v1, v2, v3, y0, y1, y2, y3, n, rfl, _, _, t0, t1, t2, t3⟩ := Joins.open_agg4 Try.underlying27 (by kernel_rfl) (by kernel_rfl) hv h
  obtain ⟨a, ha, _, wa⟩ := DataW.trod_int Try.underlying3 t0
  obtain ⟨b, hb, _, wb⟩ := DataW.trod_int Try.underlying3 t1
  obtain ⟨c, hc, _, wc⟩ := DataW.trod_int Try.underlying3 t2
  obtain ⟨e, he, _, we⟩ := DataW.trod_int Try.underlying3 t3
  injection ha with ha _
  injection hb with hb _
  injection hc with hc _
  injection he with he _
  subst ha hb hc he
  exact ⟨⟨a, b, c, e⟩, rfl, in64_of wa, in64_of wb, in64_of wc, in64_of we⟩
end
end Go.Proofs.Ytineinmghajmnaa
namespace Go.Proofs.Ytineinmghajmnaa
open Go.ChangeShapes Go.WideShapes Go.RowKit Go.Deep
def RkV (v : Value) (r : Rk) : Prop := v = .agg #[.int .i64 r.x, .int .i64 r.y, .int .i64 r.w, .int .i64 r.h] ∧ in64 r.x ∧ in64 r.y ∧ in64 r.w ∧ in64 r.h
def AfV (v : Value) (x : Af) : Prop := v = .agg #[.int .i64 x.a, .int .i64 x.b, .int .i64 x.c, .int .i64 x.d, .int .i64 x.e, .int .i64 x.f]
theorem arr6 {cs : Array Value} (h : cs.size = 6) : ∃ a b c d e f, cs = #[a, b, c, d, e, f] := by
  rcases cs with ⟨l⟩
  match l, h with
  | [a, b, c, d, e, f], _ => exact ⟨a, b, c, d, e, f, rfl⟩
section
variable {H : Type} {enc : TypeId × Value → H} {W : World} {base b0 : Nat} {r : Reach} {v : Value} {d : DataW H} {p : List MemPlace}
set_option maxRecDepth 100000 in
theorem open_rk (hv : Value.okWide Try.prog W r b0 33 v) (h : DataW.Trod enc Try.prog W base (fun _ => true) true 33 v d p) : ∃ x, RkV v x := by
  obtain ⟨v0, v1, v2, v3, y0, y1, y2, y3, n, rfl, _, _, t0, t1, t2, t3⟩ := Joins.open_agg4 Try.underlying33 (by kernel_rfl) (by kernel_rfl) hv h
  obtain ⟨a, ha, _, wa⟩ := DataW.trod_int Try.underlying3 t0
  obtain ⟨b, hb, _, wb⟩ := DataW.trod_int Try.underlying3 t1
  obtain ⟨c, hc, _, wc⟩ := DataW.trod_int Try.underlying3 t2
  obtain ⟨e, he, _, we⟩ := DataW.trod_int Try.underlying3 t3
  injection ha with ha _
  injection hb with hb _
  injection hc with hc _
  injection he with he _
  subst ha hb hc he
  exact ⟨⟨a, b, c, e⟩, rfl, in64_of wa, in64_of wb, in64_of wc, in64_of we⟩
set_option maxRecDepth 100000 in
theorem open_af (hv : Value.okWide Try.prog W r b0 31 v) (h : DataW.Trod enc Try.prog W base (fun _ => true) true 31 v d p) : ∃ x, AfV v x := by
  obtain ⟨cs, rfl, hsz⟩ := okWide_struct Try.underlying31 hv
  obtain ⟨fuel, hf⟩ := h
  obtain ⟨c0, c1, c2, c3, c4, c5, rfl⟩ := arr6 (hsz.trans (by kernel_rfl))
  have hl : [c0, c1, c2, c3, c4, c5].length = 6 := rfl
  obtain ⟨ys, n', _, _, _, hyl, hg⟩ := DataW.trod_struct Try.underlying31 hf
  have hyl : ys.length = 6 := hyl
  have g0 := hg 0 _ rfl
  have g1 := hg 1 _ rfl
  have g2 := hg 2 _ rfl
  have g3 := hg 3 _ rfl
  have g4 := hg 4 _ rfl
  have g5 := hg 5 _ rfl
  obtain ⟨x0, e0⟩ := cell_of_trod_int (i := 0) (by omega) hl g0 (by rw [List.getElem?_eq_getElem (by omega)]; simp)
  obtain ⟨x1, e1⟩ := cell_of_trod_int (i := 1) (by omega) hl g1 (by rw [List.getElem?_eq_getElem (by omega)]; simp)
  obtain ⟨x2, e2⟩ := cell_of_trod_int (i := 2) (by omega) hl g2 (by rw [List.getElem?_eq_getElem (by omega)]; simp)
  obtain ⟨x3, e3⟩ := cell_of_trod_int (i := 3) (by omega) hl g3 (by rw [List.getElem?_eq_getElem (by omega)]; simp)
  obtain ⟨x4, e4⟩ := cell_of_trod_int (i := 4) (by omega) hl g4 (by rw [List.getElem?_eq_getElem (by omega)]; simp)
  obtain ⟨x5, e5⟩ := cell_of_trod_int (i := 5) (by omega) hl g5 (by rw [List.getElem?_eq_getElem (by omega)]; simp)
  injection e0 with e0; injection e1 with e1; injection e2 with e2; injection e3 with e3; injection e4 with e4; injection e5 with e5
  subst e0 e1 e2 e3 e4 e5
  exact ⟨⟨x0, x1, x2, x3, x4, x5⟩, rfl⟩
end
end Go.Proofs.Ytineinmghajmnaa
namespace Go.Proofs.Ytineinmghajmnaa
open Go.RowKit
theorem walk_sats (v0 : Value) (x0 : Int × Int × List Px) (kind x y : Int) (w : World) (h0 : ImgV w v0 x0) :
    Calls Try.prog 3 #[v0, .int .i64 kind, .int .i64 x, .int .i64 y] w fun e w' => e = .returned (.bool true) ∧ Below w.heap.size w w' := by
  obtain ⟨W, H, ps⟩ := x0
  obtain ⟨⟨A0, n0, c0, rfl, hp⟩, -⟩ := h0
  obtain rfl := hp.len
  exact sats_core W H kind x y _ _ w (fun w' hb => psat_any W H A0 c0 ps kind x y w' (hp.on hb)) (fun w' hb => rsat_any W H A0 c0 ps kind x y w' (hp.on hb)) awake_any
theorem walk_sneeds (v0 : Value) (a : Af) (kind : Int) (v2 : Value) (o : Rk) (w : World) (h0 : AfV v0 a) (h2 : RkV v2 o) :
    Calls Try.prog 5 #[v0, .int .i64 kind, v2] w fun e w' => e = .returned (.bool true) ∧ Below w.heap.size w w' := by
  obtain rfl := h0
  obtain ⟨rfl, -⟩ := h2
  exact sneeds_core kind _ a o _ w (fun w' => needs_any a kind o w') (fun w' => rneeds_any a kind o w') awake_any
theorem walk_sdraws (v0 : Value) (x0 : Int × Int × List Px) (v1 : Value) (a : Af) (kind : Int) (v3 : Value) (o : Rk) (w : World) (h0 : ImgV w v0 x0) (h1 : AfV v1 a) (h3 : RkV v3 o) :
    Calls Try.prog 4 #[v0, v1, .int .i64 kind, v3] w fun e w' => e = .returned (.bool true) ∧ Below w.heap.size w w' := by
  obtain ⟨W, H, ps⟩ := x0
  obtain ⟨⟨A0, n0, c0, rfl, hp⟩, -⟩ := h0
  obtain rfl := hp.len
  obtain rfl := h1
  obtain ⟨rfl, -⟩ := h3
  exact sdraws_core W H kind _ _ _ a o _ _ w (fun w' hb => sdraw_any W H A0 c0 ps a kind o w' (hp.on hb)) (fun w' hb => rsdraw_any W H A0 c0 ps a kind o w' (hp.on hb)) awake_any
end Go.Proofs.Ytineinmghajmnaa
