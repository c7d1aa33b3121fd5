/- The table of factors as the rows list it. -/
import Derived.Test.YtmbglkholoblaaaDoorAdjV
import Derived.Test.YtmbglkholoblaaaDoorImgOpen
import Derived.Test.YtmbglkholoblaaaDoorCards
import Derived.Test.YtmbglkholoblaaaDoorTie
import Derived.ProofKit
import Derived.OpenShut
import Derived.ChangeOld
import Derived.Below
import Derived.Deep.DeepHandedRow
import Derived.Deep.Slices
import Derived.Deep.Fields
import Derived.Lib.SmallJoins
import Derived.Lib.LaidTab
namespace Go.Proofs.YtmbglkholoblaaaDoor
open Go.ChangeShapes Go.WideShapes Go.ChangeAt Go.RowKit Go.Deep

theorem own : ownKnob Tryd.prog.godebug = none := by kernel_rfl
theorem laidOut : laidOutB Tryd.prog = true := by kernel_rfl
theorem gTab : Tryd.prog.globalNamed "imageeditor/adjust.factors" = some 0 := by kernel_rfl
theorem gTabType : (Tryd.prog.globals[0]?).map (·.type) = some 80 := by kernel_rfl
theorem cellsTab : Tryd.prog.cellsOf 80 = 16 := by kernel_rfl
theorem cellsInt : Tryd.prog.cellsOf 3 = 1 := by kernel_rfl
theorem tab_of {W : World} (h : laidMetH Tryd.prog [("imageeditor/adjust.factors", Rows.laid_imageeditor_adjust_factors)] W) : Tab W := by
  have t : Lib.TabIs Tryd.prog W "imageeditor/adjust.factors" .i64 facs := Lib.tabIs_of_head (rest := []) gTab gTabType Tryd.underlying80 Tryd.underlying3 cellsInt cellsTab h
  have hc : ∀ i : Nat, i < 16 → W.cell? ⟨0, i, none⟩ = some (.int .i64 (facs.getD i 0)) := fun i hi => by
    have := t.cell gTab i (show i < facs.length from hi)
    simpa [List.getD, List.getElem?_eq_getElem (show i < facs.length from hi)] using this
  exact ⟨World.block_lt_of_cell? W _ (hc 0 (by omega)), hc⟩
/-- A world for the witness: the settled one, the table holding what its initialiser lays. -/
noncomputable def laidWorld (os : Os) : World :=
  { World.holding Tryd.prog os ⟨#[], #[], []⟩ with heap := (World.holding Tryd.prog os ⟨#[], #[], []⟩).heap.modify 0 fun
      | .cells _ t frozen => .cells (facs.map (Value.int .i64)).toArray t frozen
      | o => o }
def ArV (v : Value) (x : Int × Int × Int) : Prop := v = .agg #[.int .i64 x.1, .int .i64 x.2.1, .int .i64 x.2.2]
theorem okWide_array3 {P : Program} {w : World} {r : Reach} {b0 : Nat} {t e : TypeId} {n : Nat} {v : Value} (ht : P.underlying t = some (.array n e)) (h : Value.okWide P w r b0 t v) : ∃ cs, v = .agg cs ∧ cs.size = P.cellsOf t := by
  simp only [Value.okWide, ht] at h
  obtain ⟨cs, h1, h2, _⟩ := h
  exact ⟨cs, h1, h2⟩
theorem arr3 {cs : Array Value} (h : cs.size = 3) : ∃ a b c, cs = #[a, b, c] := by
  rcases cs with ⟨l⟩
  match l, h with
  | [a, b, c], _ => exact ⟨a, b, c, rfl⟩
section
variable {H : Type} {enc : TypeId × Value → H} {W : World} {base b0 : Nat} {r : Reach} {v : Value} {d : DataW H} {p : List MemPlace}
theorem open_arr (hv : Value.okWide Tryd.prog W r b0 31 v) (h : DataW.Trod enc Tryd.prog W base (fun _ => true) true 31 v d p) : ∃ x, ArV v x := by
  obtain ⟨cs, rfl, hsz⟩ := okWide_array3 Tryd.underlying31 hv
  obtain ⟨fuel, hf⟩ := h
  obtain ⟨c0, c1, c2, rfl⟩ := arr3 (hsz.trans (by kernel_rfl))
  have hl : [c0, c1, c2].length = 3 := rfl
  obtain ⟨xs, m, _, _, _, hyl, hg⟩ := DataW.trod_array Tryd.underlying31 hf
  have g0 := hg 0 (by omega); have g1 := hg 1 (by omega); have g2 := hg 2 (by omega)
  rw [cellsInt] at g0 g1 g2
  obtain ⟨x0, e0⟩ := cell_of_trod_int (i := 0) (by omega) hl g0 (by rw [List.getElem?_eq_getElem (by omega)]; simp)
  obtain ⟨x1, e1⟩ := cell_of_trod_int (i := 1) (by omega) hl g1 (by rw [List.getElem?_eq_getElem (by omega)]; simp)
  obtain ⟨x2, e2⟩ := cell_of_trod_int (i := 2) (by omega) hl g2 (by rw [List.getElem?_eq_getElem (by omega)]; simp)
  injection e0 with e0; injection e1 with e1; injection e2 with e2
  subst e0 e1 e2
  exact ⟨⟨x0, x1, x2⟩, rfl⟩
end
end Go.Proofs.YtmbglkholoblaaaDoor
