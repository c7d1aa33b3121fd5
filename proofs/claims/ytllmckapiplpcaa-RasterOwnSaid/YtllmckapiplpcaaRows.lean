/-
  No cell of these rows narrows 'for every input' (looked for: loops, veiled, ifaces, maps, wideKeys, modest, calm, conditions, laid).
  DERIVED. THE GIVEN ROWS OF THIS SEAT. 12 by the template 'for every input the law returns true; each argument reads behind the call as it read before'; 0 by the template 'total and deterministic' (their statements: YtllmckapiplpcaaTotals.lean).
  GIVEN WITH THE SEED: the statements are not yours to turn. If you find one false, say at which input.
  Laid BY PROGRAM, IN A SANDBOX (cutbox-rows.mjs): the forced cells as the released guide's own fill.sh prints them over the translation 4ff6e68c42d6128b… (all of the seat's roots in one cut). By AI agents, Wed Nov 11 2026. No macro, syntax, notation, axiom, sorry.
-/
import Derived.Test.YtllmckapiplpcaaChecked
import GoSem.Claim
import GoSem.ClaimJoined
import GoSem.ClaimMapViews
import Derived.JoinedTies
import Derived.KernelRfl
namespace Go.Proofs.Ytllmckapiplpcaa
/- THE CELL 'sum', in the pinned program and in every row, IS THE sha256 OF THE DUMP (.gsa) THAT YtllmckapiplpcaaProg.lean LOADS. Nothing in Lean hashes anything: it is a label: what it is worth is what the hold of that sum in a sandbox is worth. -/
noncomputable def Try.pinned : Pinned := { name := "ytllmckapiplpcaa", sum := "4ff6e68c42d6128b906cee8ee1931680e05f71625651ba084f2bb278992b143e", checked := Try.checked }
namespace Rows
def none {H : Type} : Left H := { results := [], args := [] }

/-- 'imageeditorlaw11.RasterChecks': WHATEVER THE INPUT: true; the input reads as it did. -/
def rasterChecksSpec : ChangeSpec := { name := "rasterChecks", fn := fun _ => fun
  | [d1, d2, d3, d4] => { results := [.lit (.bool true)], args := [d1, d2, d3, d4] }
  | _ => none }
def rasterChecksRow : OpenClaim := { program := "ytllmckapiplpcaa", sum := "4ff6e68c42d6128b906cee8ee1931680e05f71625651ba084f2bb278992b143e", func := "imageeditor/imageeditorlaw11.RasterChecks", spec := "rasterChecks", apart := false }
def RasterChecksSaid : Prop := rasterChecksRow.holds Try.pinned (OpenSpec.ofChange rasterChecksSpec)

/-- ITS FALSE NEIGHBOUR: 'it returns false'. Refute it at one input. -/
def rasterChecksWrong : ChangeSpec := { name := "rasterChecks", fn := fun _ => fun
  | [d1, d2, d3, d4] => { results := [.lit (.bool false)], args := [d1, d2, d3, d4] }
  | _ => none }
def RasterChecksWrongFalsely : Prop := rasterChecksRow.holds Try.pinned (OpenSpec.ofChange rasterChecksWrong)

/-- 'imageeditorlaw11.RasterReads': WHATEVER THE INPUT: true; the input reads as it did. -/
def rasterReadsSpec : ChangeSpec := { name := "rasterReads", fn := fun _ => fun
  | [d1, d2, d3] => { results := [.lit (.bool true)], args := [d1, d2, d3] }
  | _ => none }
def rasterReadsRow : OpenClaim := { program := "ytllmckapiplpcaa", sum := "4ff6e68c42d6128b906cee8ee1931680e05f71625651ba084f2bb278992b143e", func := "imageeditor/imageeditorlaw11.RasterReads", spec := "rasterReads", apart := false }
def RasterReadsSaid : Prop := rasterReadsRow.holds Try.pinned (OpenSpec.ofChange rasterReadsSpec)

/-- ITS FALSE NEIGHBOUR: 'it returns false'. Refute it at one input. -/
def rasterReadsWrong : ChangeSpec := { name := "rasterReads", fn := fun _ => fun
  | [d1, d2, d3] => { results := [.lit (.bool false)], args := [d1, d2, d3] }
  | _ => none }
def RasterReadsWrongFalsely : Prop := rasterReadsRow.holds Try.pinned (OpenSpec.ofChange rasterReadsWrong)

/-- 'imageeditorlaw11.RasterSames': WHATEVER THE INPUT: true; the input reads as it did. -/
def rasterSamesSpec : ChangeSpec := { name := "rasterSames", fn := fun _ => fun
  | [d1, d2] => { results := [.lit (.bool true)], args := [d1, d2] }
  | _ => none }
def rasterSamesRow : OpenClaim := { program := "ytllmckapiplpcaa", sum := "4ff6e68c42d6128b906cee8ee1931680e05f71625651ba084f2bb278992b143e", func := "imageeditor/imageeditorlaw11.RasterSames", spec := "rasterSames", apart := false }
def RasterSamesSaid : Prop := rasterSamesRow.holds Try.pinned (OpenSpec.ofChange rasterSamesSpec)

/-- ITS FALSE NEIGHBOUR: 'it returns false'. Refute it at one input. -/
def rasterSamesWrong : ChangeSpec := { name := "rasterSames", fn := fun _ => fun
  | [d1, d2] => { results := [.lit (.bool false)], args := [d1, d2] }
  | _ => none }
def RasterSamesWrongFalsely : Prop := rasterSamesRow.holds Try.pinned (OpenSpec.ofChange rasterSamesWrong)

/-- 'imageeditorlaw11.RasterCrops': WHATEVER THE INPUT: true; the input reads as it did. -/
def rasterCropsSpec : ChangeSpec := { name := "rasterCrops", fn := fun _ => fun
  | [d1, d2] => { results := [.lit (.bool true)], args := [d1, d2] }
  | _ => none }
def rasterCropsRow : OpenClaim := { program := "ytllmckapiplpcaa", sum := "4ff6e68c42d6128b906cee8ee1931680e05f71625651ba084f2bb278992b143e", func := "imageeditor/imageeditorlaw11.RasterCrops", spec := "rasterCrops", apart := false }
def RasterCropsSaid : Prop := rasterCropsRow.holds Try.pinned (OpenSpec.ofChange rasterCropsSpec)

/-- ITS FALSE NEIGHBOUR: 'it returns false'. Refute it at one input. -/
def rasterCropsWrong : ChangeSpec := { name := "rasterCrops", fn := fun _ => fun
  | [d1, d2] => { results := [.lit (.bool false)], args := [d1, d2] }
  | _ => none }
def RasterCropsWrongFalsely : Prop := rasterCropsRow.holds Try.pinned (OpenSpec.ofChange rasterCropsWrong)

/-- 'imageeditorlaw11.RasterPuts': WHATEVER THE INPUT: true; the input reads as it did. -/
def rasterPutsSpec : ChangeSpec := { name := "rasterPuts", fn := fun _ => fun
  | [d1, d2, d3] => { results := [.lit (.bool true)], args := [d1, d2, d3] }
  | _ => none }
def rasterPutsRow : OpenClaim := { program := "ytllmckapiplpcaa", sum := "4ff6e68c42d6128b906cee8ee1931680e05f71625651ba084f2bb278992b143e", func := "imageeditor/imageeditorlaw11.RasterPuts", spec := "rasterPuts", apart := false }
def RasterPutsSaid : Prop := rasterPutsRow.holds Try.pinned (OpenSpec.ofChange rasterPutsSpec)

/-- ITS FALSE NEIGHBOUR: 'it returns false'. Refute it at one input. -/
def rasterPutsWrong : ChangeSpec := { name := "rasterPuts", fn := fun _ => fun
  | [d1, d2, d3] => { results := [.lit (.bool false)], args := [d1, d2, d3] }
  | _ => none }
def RasterPutsWrongFalsely : Prop := rasterPutsRow.holds Try.pinned (OpenSpec.ofChange rasterPutsWrong)

/-- 'imageeditorlaw11.RasterFlips': WHATEVER THE INPUT: true; the input reads as it did. -/
def rasterFlipsSpec : ChangeSpec := { name := "rasterFlips", fn := fun _ => fun
  | [d1, d2] => { results := [.lit (.bool true)], args := [d1, d2] }
  | _ => none }
def rasterFlipsRow : OpenClaim := { program := "ytllmckapiplpcaa", sum := "4ff6e68c42d6128b906cee8ee1931680e05f71625651ba084f2bb278992b143e", func := "imageeditor/imageeditorlaw11.RasterFlips", spec := "rasterFlips", apart := false }
def RasterFlipsSaid : Prop := rasterFlipsRow.holds Try.pinned (OpenSpec.ofChange rasterFlipsSpec)

/-- ITS FALSE NEIGHBOUR: 'it returns false'. Refute it at one input. -/
def rasterFlipsWrong : ChangeSpec := { name := "rasterFlips", fn := fun _ => fun
  | [d1, d2] => { results := [.lit (.bool false)], args := [d1, d2] }
  | _ => none }
def RasterFlipsWrongFalsely : Prop := rasterFlipsRow.holds Try.pinned (OpenSpec.ofChange rasterFlipsWrong)

/-- 'imageeditorlaw11.RasterJoins': WHATEVER THE INPUT: true; the input reads as it did. -/
def rasterJoinsSpec : ChangeSpec := { name := "rasterJoins", fn := fun _ => fun
  | [d1, d2, d3] => { results := [.lit (.bool true)], args := [d1, d2, d3] }
  | _ => none }
def rasterJoinsRow : OpenClaim := { program := "ytllmckapiplpcaa", sum := "4ff6e68c42d6128b906cee8ee1931680e05f71625651ba084f2bb278992b143e", func := "imageeditor/imageeditorlaw11.RasterJoins", spec := "rasterJoins", apart := false }
def RasterJoinsSaid : Prop := rasterJoinsRow.holds Try.pinned (OpenSpec.ofChange rasterJoinsSpec)

/-- ITS FALSE NEIGHBOUR: 'it returns false'. Refute it at one input. -/
def rasterJoinsWrong : ChangeSpec := { name := "rasterJoins", fn := fun _ => fun
  | [d1, d2, d3] => { results := [.lit (.bool false)], args := [d1, d2, d3] }
  | _ => none }
def RasterJoinsWrongFalsely : Prop := rasterJoinsRow.holds Try.pinned (OpenSpec.ofChange rasterJoinsWrong)

/-- 'imageeditorlaw11.RasterBack': WHATEVER THE INPUT: true; the input reads as it did. -/
def rasterBackSpec : ChangeSpec := { name := "rasterBack", fn := fun _ => fun
  | [d1, d2] => { results := [.lit (.bool true)], args := [d1, d2] }
  | _ => none }
def rasterBackRow : OpenClaim := { program := "ytllmckapiplpcaa", sum := "4ff6e68c42d6128b906cee8ee1931680e05f71625651ba084f2bb278992b143e", func := "imageeditor/imageeditorlaw11.RasterBack", spec := "rasterBack", apart := false }
def RasterBackSaid : Prop := rasterBackRow.holds Try.pinned (OpenSpec.ofChange rasterBackSpec)

/-- ITS FALSE NEIGHBOUR: 'it returns false'. Refute it at one input. -/
def rasterBackWrong : ChangeSpec := { name := "rasterBack", fn := fun _ => fun
  | [d1, d2] => { results := [.lit (.bool false)], args := [d1, d2] }
  | _ => none }
def RasterBackWrongFalsely : Prop := rasterBackRow.holds Try.pinned (OpenSpec.ofChange rasterBackWrong)

/-- 'imageeditorlaw11.RasterTurns': WHATEVER THE INPUT: true; the input reads as it did. -/
def rasterTurnsSpec : ChangeSpec := { name := "rasterTurns", fn := fun _ => fun
  | [d] => { results := [.lit (.bool true)], args := [d] }
  | _ => none }
def rasterTurnsRow : OpenClaim := { program := "ytllmckapiplpcaa", sum := "4ff6e68c42d6128b906cee8ee1931680e05f71625651ba084f2bb278992b143e", func := "imageeditor/imageeditorlaw11.RasterTurns", spec := "rasterTurns", apart := false }
def RasterTurnsSaid : Prop := rasterTurnsRow.holds Try.pinned (OpenSpec.ofChange rasterTurnsSpec)

/-- ITS FALSE NEIGHBOUR: 'it returns false'. Refute it at one input. -/
def rasterTurnsWrong : ChangeSpec := { name := "rasterTurns", fn := fun _ => fun
  | [d] => { results := [.lit (.bool false)], args := [d] }
  | _ => none }
def RasterTurnsWrongFalsely : Prop := rasterTurnsRow.holds Try.pinned (OpenSpec.ofChange rasterTurnsWrong)

/-- 'imageeditorlaw11.RasterTiles': WHATEVER THE INPUT: true; the input reads as it did. -/
def rasterTilesSpec : ChangeSpec := { name := "rasterTiles", fn := fun _ => fun
  | [d] => { results := [.lit (.bool true)], args := [d] }
  | _ => none }
def rasterTilesRow : OpenClaim := { program := "ytllmckapiplpcaa", sum := "4ff6e68c42d6128b906cee8ee1931680e05f71625651ba084f2bb278992b143e", func := "imageeditor/imageeditorlaw11.RasterTiles", spec := "rasterTiles", apart := false }
def RasterTilesSaid : Prop := rasterTilesRow.holds Try.pinned (OpenSpec.ofChange rasterTilesSpec)

/-- ITS FALSE NEIGHBOUR: 'it returns false'. Refute it at one input. -/
def rasterTilesWrong : ChangeSpec := { name := "rasterTiles", fn := fun _ => fun
  | [d] => { results := [.lit (.bool false)], args := [d] }
  | _ => none }
def RasterTilesWrongFalsely : Prop := rasterTilesRow.holds Try.pinned (OpenSpec.ofChange rasterTilesWrong)

/-- 'imageeditorlaw11.RasterBoxes': WHATEVER THE INPUT: true; the input reads as it did. -/
def rasterBoxesSpec : ChangeSpec := { name := "rasterBoxes", fn := fun _ => fun
  | [d] => { results := [.lit (.bool true)], args := [d] }
  | _ => none }
def rasterBoxesRow : OpenClaim := { program := "ytllmckapiplpcaa", sum := "4ff6e68c42d6128b906cee8ee1931680e05f71625651ba084f2bb278992b143e", func := "imageeditor/imageeditorlaw11.RasterBoxes", spec := "rasterBoxes", apart := false }
def RasterBoxesSaid : Prop := rasterBoxesRow.holds Try.pinned (OpenSpec.ofChange rasterBoxesSpec)

/-- ITS FALSE NEIGHBOUR: 'it returns false'. Refute it at one input. -/
def rasterBoxesWrong : ChangeSpec := { name := "rasterBoxes", fn := fun _ => fun
  | [d] => { results := [.lit (.bool false)], args := [d] }
  | _ => none }
def RasterBoxesWrongFalsely : Prop := rasterBoxesRow.holds Try.pinned (OpenSpec.ofChange rasterBoxesWrong)

/-- 'imageeditorlaw11.RasterOwn': WHATEVER THE INPUT: true; the input reads as it did. -/
def rasterOwnSpec : ChangeSpec := { name := "rasterOwn", fn := fun _ => fun
  | [d1, d2] => { results := [.lit (.bool true)], args := [d1, d2] }
  | _ => none }
def rasterOwnRow : OpenClaim := { program := "ytllmckapiplpcaa", sum := "4ff6e68c42d6128b906cee8ee1931680e05f71625651ba084f2bb278992b143e", func := "imageeditor/imageeditorlaw11.RasterOwn", spec := "rasterOwn", apart := false }
def RasterOwnSaid : Prop := rasterOwnRow.holds Try.pinned (OpenSpec.ofChange rasterOwnSpec)

/-- ITS FALSE NEIGHBOUR: 'it returns false'. Refute it at one input. -/
def rasterOwnWrong : ChangeSpec := { name := "rasterOwn", fn := fun _ => fun
  | [d1, d2] => { results := [.lit (.bool false)], args := [d1, d2] }
  | _ => none }
def RasterOwnWrongFalsely : Prop := rasterOwnRow.holds Try.pinned (OpenSpec.ofChange rasterOwnWrong)

/- THE SECOND FORM. 'bulk': how many values and letters a reading holds, each counted each time it is reached (what is shared counts as often as it is met; a slice's spare places count too). A statement '..UptoSaid' is the law's where the arguments, and the package variables that the reading takes, are together of bulk at most 1048576: NARROWER than '..Said'. Prove '..Said' where nothing that the law and all that it calls make is longer than what came in: it says more and counts as full. Else prove '..UptoSaid'. A law counts once. -/
mutual
def uptoBulk {H : Type} : DataW H → Nat
  | .lit (.string bytes) => bytes.length + 1
  | .lit _ => 1
  | .nil => 1
  | .ptr d => uptoBulk d + 1
  | .slice elems spare => uptoBulkAll elems + uptoBulkAll spare + 1
  | .agg parts => uptoBulkAll parts + 1
  | .iface _ d => uptoBulk d + 1
  | .map entries => uptoBulkEntries entries + 1
  | .held _ => 1
def uptoBulkAll {H : Type} : List (DataW H) → Nat
  | [] => 0
  | d :: r => uptoBulk d + uptoBulkAll r
def uptoBulkEntries {H : Type} : List (Lit × DataW H) → Nat
  | [] => 0
  | x :: r => uptoBulkEntry x + uptoBulkEntries r
def uptoBulkEntry {H : Type} : Lit × DataW H → Nat
  | (.string bytes, d) => bytes.length + uptoBulk d + 1
  | (_, d) => uptoBulk d + 1
 end
def uptoSmall : (H : Type) → List (DataW H) → Bool := fun _ ds => decide (uptoBulkAll ds ≤ 1048576)
def OpenSpec.upto (s : _root_.Go.ChangeSpec) : _root_.Go.OpenSpec := { _root_.Go.OpenSpec.ofChange s with cond := some uptoSmall }

/-- 'imageeditorlaw11.RasterChecks', WHERE WHAT IT READS IS OF BULK AT MOST 1048576: true; the input reads as it did. -/
def rasterChecksUptoRow : OpenClaim := { program := "ytllmckapiplpcaa", sum := "4ff6e68c42d6128b906cee8ee1931680e05f71625651ba084f2bb278992b143e", func := "imageeditor/imageeditorlaw11.RasterChecks", spec := "rasterChecks", apart := false, narrowed := true }
def RasterChecksUptoSaid : Prop := rasterChecksUptoRow.holds Try.pinned (OpenSpec.upto rasterChecksSpec)

/-- 'imageeditorlaw11.RasterReads', WHERE WHAT IT READS IS OF BULK AT MOST 1048576: true; the input reads as it did. -/
def rasterReadsUptoRow : OpenClaim := { program := "ytllmckapiplpcaa", sum := "4ff6e68c42d6128b906cee8ee1931680e05f71625651ba084f2bb278992b143e", func := "imageeditor/imageeditorlaw11.RasterReads", spec := "rasterReads", apart := false, narrowed := true }
def RasterReadsUptoSaid : Prop := rasterReadsUptoRow.holds Try.pinned (OpenSpec.upto rasterReadsSpec)

/-- 'imageeditorlaw11.RasterSames', WHERE WHAT IT READS IS OF BULK AT MOST 1048576: true; the input reads as it did. -/
def rasterSamesUptoRow : OpenClaim := { program := "ytllmckapiplpcaa", sum := "4ff6e68c42d6128b906cee8ee1931680e05f71625651ba084f2bb278992b143e", func := "imageeditor/imageeditorlaw11.RasterSames", spec := "rasterSames", apart := false, narrowed := true }
def RasterSamesUptoSaid : Prop := rasterSamesUptoRow.holds Try.pinned (OpenSpec.upto rasterSamesSpec)

/-- 'imageeditorlaw11.RasterCrops', WHERE WHAT IT READS IS OF BULK AT MOST 1048576: true; the input reads as it did. -/
def rasterCropsUptoRow : OpenClaim := { program := "ytllmckapiplpcaa", sum := "4ff6e68c42d6128b906cee8ee1931680e05f71625651ba084f2bb278992b143e", func := "imageeditor/imageeditorlaw11.RasterCrops", spec := "rasterCrops", apart := false, narrowed := true }
def RasterCropsUptoSaid : Prop := rasterCropsUptoRow.holds Try.pinned (OpenSpec.upto rasterCropsSpec)

/-- 'imageeditorlaw11.RasterPuts', WHERE WHAT IT READS IS OF BULK AT MOST 1048576: true; the input reads as it did. -/
def rasterPutsUptoRow : OpenClaim := { program := "ytllmckapiplpcaa", sum := "4ff6e68c42d6128b906cee8ee1931680e05f71625651ba084f2bb278992b143e", func := "imageeditor/imageeditorlaw11.RasterPuts", spec := "rasterPuts", apart := false, narrowed := true }
def RasterPutsUptoSaid : Prop := rasterPutsUptoRow.holds Try.pinned (OpenSpec.upto rasterPutsSpec)

/-- 'imageeditorlaw11.RasterFlips', WHERE WHAT IT READS IS OF BULK AT MOST 1048576: true; the input reads as it did. -/
def rasterFlipsUptoRow : OpenClaim := { program := "ytllmckapiplpcaa", sum := "4ff6e68c42d6128b906cee8ee1931680e05f71625651ba084f2bb278992b143e", func := "imageeditor/imageeditorlaw11.RasterFlips", spec := "rasterFlips", apart := false, narrowed := true }
def RasterFlipsUptoSaid : Prop := rasterFlipsUptoRow.holds Try.pinned (OpenSpec.upto rasterFlipsSpec)

/-- 'imageeditorlaw11.RasterJoins', WHERE WHAT IT READS IS OF BULK AT MOST 1048576: true; the input reads as it did. -/
def rasterJoinsUptoRow : OpenClaim := { program := "ytllmckapiplpcaa", sum := "4ff6e68c42d6128b906cee8ee1931680e05f71625651ba084f2bb278992b143e", func := "imageeditor/imageeditorlaw11.RasterJoins", spec := "rasterJoins", apart := false, narrowed := true }
def RasterJoinsUptoSaid : Prop := rasterJoinsUptoRow.holds Try.pinned (OpenSpec.upto rasterJoinsSpec)

/-- 'imageeditorlaw11.RasterBack', WHERE WHAT IT READS IS OF BULK AT MOST 1048576: true; the input reads as it did. -/
def rasterBackUptoRow : OpenClaim := { program := "ytllmckapiplpcaa", sum := "4ff6e68c42d6128b906cee8ee1931680e05f71625651ba084f2bb278992b143e", func := "imageeditor/imageeditorlaw11.RasterBack", spec := "rasterBack", apart := false, narrowed := true }
def RasterBackUptoSaid : Prop := rasterBackUptoRow.holds Try.pinned (OpenSpec.upto rasterBackSpec)

/-- 'imageeditorlaw11.RasterTurns', WHERE WHAT IT READS IS OF BULK AT MOST 1048576: true; the input reads as it did. -/
def rasterTurnsUptoRow : OpenClaim := { program := "ytllmckapiplpcaa", sum := "4ff6e68c42d6128b906cee8ee1931680e05f71625651ba084f2bb278992b143e", func := "imageeditor/imageeditorlaw11.RasterTurns", spec := "rasterTurns", apart := false, narrowed := true }
def RasterTurnsUptoSaid : Prop := rasterTurnsUptoRow.holds Try.pinned (OpenSpec.upto rasterTurnsSpec)

/-- 'imageeditorlaw11.RasterTiles', WHERE WHAT IT READS IS OF BULK AT MOST 1048576: true; the input reads as it did. -/
def rasterTilesUptoRow : OpenClaim := { program := "ytllmckapiplpcaa", sum := "4ff6e68c42d6128b906cee8ee1931680e05f71625651ba084f2bb278992b143e", func := "imageeditor/imageeditorlaw11.RasterTiles", spec := "rasterTiles", apart := false, narrowed := true }
def RasterTilesUptoSaid : Prop := rasterTilesUptoRow.holds Try.pinned (OpenSpec.upto rasterTilesSpec)

/-- 'imageeditorlaw11.RasterBoxes', WHERE WHAT IT READS IS OF BULK AT MOST 1048576: true; the input reads as it did. -/
def rasterBoxesUptoRow : OpenClaim := { program := "ytllmckapiplpcaa", sum := "4ff6e68c42d6128b906cee8ee1931680e05f71625651ba084f2bb278992b143e", func := "imageeditor/imageeditorlaw11.RasterBoxes", spec := "rasterBoxes", apart := false, narrowed := true }
def RasterBoxesUptoSaid : Prop := rasterBoxesUptoRow.holds Try.pinned (OpenSpec.upto rasterBoxesSpec)

/-- 'imageeditorlaw11.RasterOwn', WHERE WHAT IT READS IS OF BULK AT MOST 1048576: true; the input reads as it did. -/
def rasterOwnUptoRow : OpenClaim := { program := "ytllmckapiplpcaa", sum := "4ff6e68c42d6128b906cee8ee1931680e05f71625651ba084f2bb278992b143e", func := "imageeditor/imageeditorlaw11.RasterOwn", spec := "rasterOwn", apart := false, narrowed := true }
def RasterOwnUptoSaid : Prop := rasterOwnUptoRow.holds Try.pinned (OpenSpec.upto rasterOwnSpec)

end Rows
end Go.Proofs.Ytllmckapiplpcaa
