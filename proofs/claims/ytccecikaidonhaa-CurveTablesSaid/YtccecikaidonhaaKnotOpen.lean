/- An argument of type []Knot, opened: it reads as a list of pairs of integers. -/
import Derived.Test.YtccecikaidonhaaKnotMem
import Derived.ProofKit
import Derived.Deep.Slices
import Derived.Deep.Fields
import Derived.Below
namespace Go.Proofs.Ytccecikaidonhaa
open Go.ChangeShapes Go.WideShapes Go.RowKit Go.Deep

theorem spot_none {w : World} {a : Addr} {v : Value} (h : w.cell? a = some v) : a.spot = none := World.cell?_spot h
theorem add_eq {b o : Nat} (j : Nat) : (⟨b, o, none⟩ : Addr).add j = ⟨b, o + j, none⟩ := by
  unfold Addr.add
  by_cases h : j = 0
  · subst h; rfl
  · rw [if_neg h]
theorem cell_of_trod_int {H : Type} {enc : TypeId × Value → H} {w : World} {base : Nat} {spare : Nat → Bool} {held : Bool} {n : Nat} {cs : List Value} {y : Option (DataW H × List MemPlace)} {i k : Nat} (hi : i < k) (hl : cs.length = k)
    (h : DataW.trod enc Try.prog w base spare held n 3 ((cs.drop i).take 1) = y) (hy : y ≠ none) : ∃ x : Int, cs[i]? = some (.int .i64 x) := by
  cases hyy : y with
  | none => exact absurd hyy hy
  | some q =>
    rw [hyy] at h
    obtain ⟨x, hx, _, _⟩ := DataW.trod_int Try.underlying3 h
    rw [List.drop_eq_getElem_cons (by omega)] at hx
    refine ⟨x, ?_⟩
    rw [List.getElem?_eq_getElem (by omega)]
    simp only [List.take_succ_cons, List.take_zero, List.cons.injEq, and_true] at hx
    rw [hx]

theorem open_knots {H : Type} {enc : TypeId × Value → H} {W : World} {base b0 : Nat} {r : Reach} {v : Value} {d : DataW H} {p : List MemPlace} (hv : Value.okWide Try.prog W r b0 22 v)
    (h : DataW.Trod enc Try.prog W base (fun _ => true) true 22 v d p) : ∃ ks, Knots W W.heap.size v ks := by
  obtain ⟨A, len, cap, rfl⟩ := okWide_slice Try.underlying22 hv
  obtain ⟨fuel, hf⟩ := h
  rcases open_slice Try.underlying22 hf with ⟨hcs, _⟩ | ⟨a, len', cap', m, n, D, Pl, hcs, hb, hl, hm, hmm, hx, hi⟩
  · simp [Value.cells] at hcs
    obtain ⟨rfl, rfl, rfl⟩ := hcs
    exact ⟨[], Knots.nil _ _⟩
  · simp [Value.cells] at hcs
    obtain ⟨rfl, rfl, rfl⟩ := hcs
    have hC : Try.prog.cellsOf 33 = 2 := by kernel_rfl
    have hcell : ∀ i, i < len → ∃ x y : Int, W.cell? ((a.add (i * 2)).add 0) = some (.int .i64 x) ∧ W.cell? ((a.add (i * 2)).add 1) = some (.int .i64 y) := by
      intro i hil
      obtain ⟨cs, hc, ht⟩ := hi i (by rw [hmm]; split <;> omega)
      rw [hC] at hc
      obtain ⟨_, hcl, hat⟩ := World.cells?_some hc
      obtain ⟨ys, n', _, _, _, hyl, hg⟩ := DataW.trod_struct Try.underlying33 ht
      have hyl : ys.length = 2 := hyl
      have g0 := hg 0 _ rfl
      have g1 := hg 1 _ rfl
      obtain ⟨x, hx⟩ := cell_of_trod_int (i := 0) (by omega) hcl g0 (by rw [List.getElem?_eq_getElem (by omega)]; simp)
      obtain ⟨y, hy⟩ := cell_of_trod_int (i := 1) (by omega) hcl g1 (by rw [List.getElem?_eq_getElem (by omega)]; simp)
      exact ⟨x, y, (hat 0 (by omega)).trans hx, (hat 1 (by omega)).trans hy⟩
    by_cases h0 : len = 0
    · subst h0
      exact ⟨[], some a, cap, rfl, by simp, fun i hi => absurd hi (by simp)⟩
    · obtain ⟨x0, _, hx0, _⟩ := hcell 0 (by omega)
      obtain ⟨b, o, sp⟩ := a
      have hsp : sp = none := by
        have := spot_none hx0
        simpa [Addr.add] using this
      subst hsp
      simp only [add_eq] at hcell hx0
      refine ⟨(List.range len).map fun i => (intOf ((W.cell? ⟨b, o + i * 2, none⟩).getD undef), intOf ((W.cell? ⟨b, o + i * 2 + 1, none⟩).getD undef)), some ⟨b, o, none⟩, cap, by simp, by unfold maxLen at hm; simp; omega, fun i hi => ⟨b, o, rfl, ?_, ?_, ?_⟩⟩
      · exact World.block_lt_of_cell? W _ hx0
      · have hil : i < len := by simpa using hi
        obtain ⟨x, y, h1, h2⟩ := hcell i hil
        simp only [Nat.add_zero] at h1
        rw [h1]
        simp [kx, hil, h1, intOf]
      · have hil : i < len := by simpa using hi
        obtain ⟨x, y, h1, h2⟩ := hcell i hil
        rw [h2]
        simp [ky, hil, h2, intOf]
end Go.Proofs.Ytccecikaidonhaa
