/- The table of sines as the rows list it, and arguments of the types Affine, Point and Rect, opened. -/
import Derived.Test.YtanlnigebbcajaaDoorAff14
import Derived.Test.YtanlnigebbcajaaDoorCards
import Derived.Test.YtanlnigebbcajaaDoorTie
import Derived.ProofKit
import Derived.OpenShut
import Derived.ChangeOld
import Derived.Below
import Derived.Deep.DeepHandedRow
import Derived.Deep.Slices
import Derived.Deep.Fields
import Derived.Lib.SmallJoins
import Derived.Lib.LaidTab
namespace Go.Proofs.YtanlnigebbcajaaDoor
open Go.ChangeShapes Go.WideShapes Go.ChangeAt Go.RowKit Go.Deep

theorem own : ownKnob Tryd.prog.godebug = none := by kernel_rfl
theorem laidOut : laidOutB Tryd.prog = true := by kernel_rfl
theorem gTab : Tryd.prog.globalNamed "imageeditor/num.sines" = some 0 := by kernel_rfl
theorem gTabType : (Tryd.prog.globals[0]?).map (·.type) = some 63 := by kernel_rfl
theorem cellsTab : Tryd.prog.cellsOf 63 = 65 := by kernel_rfl
theorem cellsInt : Tryd.prog.cellsOf 3 = 1 := by kernel_rfl
def sinesL : List Int := [0, 1608, 3216, 4821, 6424, 8022, 9616, 11204, 12785, 14359, 15924, 17479, 19024, 20557, 22078, 23586, 25080, 26558, 28020, 29466, 30893, 32303, 33692, 35062, 36410, 37736, 39040, 40320, 41576, 42806, 44011, 45190, 46341, 47464, 48559, 49624, 50660, 51665, 52639, 53581, 54491, 55368, 56212, 57022, 57798, 58538, 59244, 59914, 60547, 61145, 61705, 62228, 62714, 63162, 63572, 63944, 64277, 64571, 64827, 65043, 65220, 65358, 65457, 65516, 65536]
theorem tab_of {W : World} (h : laidMetH Tryd.prog [("imageeditor/num.sines", Rows.laid_imageeditor_num_sines)] W) : Tab W := by
  have t : Lib.TabIs Tryd.prog W "imageeditor/num.sines" .i64 sinesL := Lib.tabIs_of_head (rest := []) gTab gTabType Tryd.underlying63 Tryd.underlying3 cellsInt cellsTab h
  exact ⟨t.cell gTab 32 (by decide), t.cell gTab 33 (by decide)⟩
/-- A world for the witness: the settled one, the table holding what its initialiser lays. -/
noncomputable def laidWorld (os : Os) : World :=
  { World.holding Tryd.prog os ⟨#[], #[], []⟩ with heap := (World.holding Tryd.prog os ⟨#[], #[], []⟩).heap.modify 0 fun
      | .cells _ t frozen => .cells (sinesL.map (Value.int .i64)).toArray t frozen
      | o => o }

theorem in64_of {x : Int} (h : (Lit.int .i64 x).wf = true) : -9223372036854775808 ≤ x ∧ x ≤ 9223372036854775807 := by
  simp [Lit.wf, IntKind.min, IntKind.max, IntKind.signed, IntKind.bits] at h
  omega
theorem arr6 {cs : Array Value} (h : cs.size = 6) : ∃ a b c d e f, cs = #[a, b, c, d, e, f] := by
  rcases cs with ⟨l⟩
  match l, h with
  | [a, b, c, d, e, f], _ => exact ⟨a, b, c, d, e, f, rfl⟩
theorem cell_of_trod_int {H : Type} {enc : TypeId × Value → H} {w : World} {base : Nat} {spare : Nat → Bool} {held : Bool} {n : Nat} {cs : List Value} {y : Option (DataW H × List MemPlace)} {i k : Nat} (hi : i < k) (hl : cs.length = k)
    (h : DataW.trod enc Tryd.prog w base spare held n 3 ((cs.drop i).take 1) = y) (hy : y ≠ none) : ∃ x : Int, cs[i]? = some (.int .i64 x) := by
  cases hyy : y with
  | none => exact absurd hyy hy
  | some q =>
    rw [hyy] at h
    obtain ⟨x, hx, _, _⟩ := DataW.trod_int Tryd.underlying3 h
    rw [List.drop_eq_getElem_cons (by omega)] at hx
    refine ⟨x, ?_⟩
    rw [List.getElem?_eq_getElem (by omega)]
    simp only [List.take_succ_cons, List.take_zero, List.cons.injEq, and_true] at hx
    rw [hx]
section
variable {H : Type} {enc : TypeId × Value → H} {W : World} {base b0 : Nat} {r : Reach} {v : Value} {d : DataW H} {p : List MemPlace}
theorem open_af (hv : Value.okWide Tryd.prog W r b0 23 v) (h : DataW.Trod enc Tryd.prog W base (fun _ => true) true 23 v d p) : ∃ x, AfV v x := by
  obtain ⟨cs, rfl, hsz⟩ := okWide_struct Tryd.underlying23 hv
  obtain ⟨fuel, hf⟩ := h
  obtain ⟨c0, c1, c2, c3, c4, c5, rfl⟩ := arr6 (hsz.trans (by kernel_rfl))
  have hl : [c0, c1, c2, c3, c4, c5].length = 6 := rfl
  obtain ⟨ys, n', _, _, _, hyl, hg⟩ := DataW.trod_struct Tryd.underlying23 hf
  have hyl : ys.length = 6 := hyl
  have g0 := hg 0 _ rfl
  have g1 := hg 1 _ rfl
  have g2 := hg 2 _ rfl
  have g3 := hg 3 _ rfl
  have g4 := hg 4 _ rfl
  have g5 := hg 5 _ rfl
  obtain ⟨x0, e0⟩ := cell_of_trod_int (i := 0) (by omega) hl g0 (by rw [List.getElem?_eq_getElem (by omega)]; simp)
  obtain ⟨x1, e1⟩ := cell_of_trod_int (i := 1) (by omega) hl g1 (by rw [List.getElem?_eq_getElem (by omega)]; simp)
  obtain ⟨x2, e2⟩ := cell_of_trod_int (i := 2) (by omega) hl g2 (by rw [List.getElem?_eq_getElem (by omega)]; simp)
  obtain ⟨x3, e3⟩ := cell_of_trod_int (i := 3) (by omega) hl g3 (by rw [List.getElem?_eq_getElem (by omega)]; simp)
  obtain ⟨x4, e4⟩ := cell_of_trod_int (i := 4) (by omega) hl g4 (by rw [List.getElem?_eq_getElem (by omega)]; simp)
  obtain ⟨x5, e5⟩ := cell_of_trod_int (i := 5) (by omega) hl g5 (by rw [List.getElem?_eq_getElem (by omega)]; simp)
  injection e0 with e0; injection e1 with e1; injection e2 with e2; injection e3 with e3; injection e4 with e4; injection e5 with e5
  subst e0 e1 e2 e3 e4 e5
  exact ⟨⟨x0, x1, x2, x3, x4, x5⟩, rfl⟩
theorem open_pt (hv : Value.okWide Tryd.prog W r b0 25 v) (h : DataW.Trod enc Tryd.prog W base (fun _ => true) true 25 v d p) : ∃ x, PtV v x := by
  obtain ⟨v0, v1, y0, y1, n, rfl, _, _, t0, t1⟩ := Joins.open_agg2 Tryd.underlying25 (by kernel_rfl) (by kernel_rfl) hv h
  obtain ⟨a, ha, _, wa⟩ := DataW.trod_int Tryd.underlying3 t0
  obtain ⟨b, hb, _, wb⟩ := DataW.trod_int Tryd.underlying3 t1
  injection ha with ha _
  injection hb with hb _
  subst ha hb
  exact ⟨(a, b), rfl⟩
end
end Go.Proofs.YtanlnigebbcajaaDoor
