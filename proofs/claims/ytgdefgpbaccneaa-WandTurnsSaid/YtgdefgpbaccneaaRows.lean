/-
  No cell of these rows narrows 'for every input' (looked for: loops, veiled, ifaces, maps, wideKeys, modest, calm, conditions, laid).
  DERIVED. THE GIVEN ROWS OF THIS SEAT. 6 by the template 'for every input the law returns true; each argument reads behind the call as it read before'; 0 by the template 'total and deterministic' (their statements: YtgdefgpbaccneaaTotals.lean).
  GIVEN WITH THE SEED: the statements are not yours to turn. If you find one false, say at which input.
  Laid BY PROGRAM, IN A SANDBOX (cutbox-rows.mjs): the forced cells as the released guide's own fill.sh prints them over the translation 7e2e32e1df81a5d6… (all of the seat's roots in one cut). By AI agents, Wed Nov 11 2026. No macro, syntax, notation, axiom, sorry.
-/
import Derived.Test.YtgdefgpbaccneaaChecked
import GoSem.Claim
import GoSem.ClaimJoined
import GoSem.ClaimMapViews
import Derived.JoinedTies
import Derived.KernelRfl
namespace Go.Proofs.Ytgdefgpbaccneaa
/- THE CELL 'sum', in the pinned program and in every row, IS THE sha256 OF THE DUMP (.gsa) THAT YtgdefgpbaccneaaProg.lean LOADS. Nothing in Lean hashes anything: it is a label: what it is worth is what the hold of that sum in a sandbox is worth. -/
noncomputable def Try.pinned : Pinned := { name := "ytgdefgpbaccneaa", sum := "7e2e32e1df81a5d633513532f5ca028b53cbbe07f6296018366580ca6853276a", checked := Try.checked }
namespace Rows
def none {H : Type} : Left H := { results := [], args := [] }

/-- 'imageeditorlaw24.WandFloods': WHATEVER THE INPUT: true; the input reads as it did. -/
def wandFloodsSpec : ChangeSpec := { name := "wandFloods", fn := fun _ => fun
  | [d1, d2, d3, d4] => { results := [.lit (.bool true)], args := [d1, d2, d3, d4] }
  | _ => none }
def wandFloodsRow : OpenClaim := { program := "ytgdefgpbaccneaa", sum := "7e2e32e1df81a5d633513532f5ca028b53cbbe07f6296018366580ca6853276a", func := "imageeditor/imageeditorlaw24.WandFloods", spec := "wandFloods", unfollowed := true, recurses := true, apart := false }
def WandFloodsSaid : Prop := wandFloodsRow.holds Try.pinned (OpenSpec.ofChange wandFloodsSpec)

/-- ITS FALSE NEIGHBOUR: 'it returns false'. Refute it at one input. -/
def wandFloodsWrong : ChangeSpec := { name := "wandFloods", fn := fun _ => fun
  | [d1, d2, d3, d4] => { results := [.lit (.bool false)], args := [d1, d2, d3, d4] }
  | _ => none }
def WandFloodsWrongFalsely : Prop := wandFloodsRow.holds Try.pinned (OpenSpec.ofChange wandFloodsWrong)

/-- 'imageeditorlaw24.WandColors': WHATEVER THE INPUT: true; the input reads as it did. -/
def wandColorsSpec : ChangeSpec := { name := "wandColors", fn := fun _ => fun
  | [d1, d2, d3, d4] => { results := [.lit (.bool true)], args := [d1, d2, d3, d4] }
  | _ => none }
def wandColorsRow : OpenClaim := { program := "ytgdefgpbaccneaa", sum := "7e2e32e1df81a5d633513532f5ca028b53cbbe07f6296018366580ca6853276a", func := "imageeditor/imageeditorlaw24.WandColors", spec := "wandColors", unfollowed := true, recurses := true, apart := false }
def WandColorsSaid : Prop := wandColorsRow.holds Try.pinned (OpenSpec.ofChange wandColorsSpec)

/-- ITS FALSE NEIGHBOUR: 'it returns false'. Refute it at one input. -/
def wandColorsWrong : ChangeSpec := { name := "wandColors", fn := fun _ => fun
  | [d1, d2, d3, d4] => { results := [.lit (.bool false)], args := [d1, d2, d3, d4] }
  | _ => none }
def WandColorsWrongFalsely : Prop := wandColorsRow.holds Try.pinned (OpenSpec.ofChange wandColorsWrong)

/-- 'imageeditorlaw24.WandCloses': WHATEVER THE INPUT: true; the input reads as it did. -/
def wandClosesSpec : ChangeSpec := { name := "wandCloses", fn := fun _ => fun
  | [d1, d2, d3, d4] => { results := [.lit (.bool true)], args := [d1, d2, d3, d4] }
  | _ => none }
def wandClosesRow : OpenClaim := { program := "ytgdefgpbaccneaa", sum := "7e2e32e1df81a5d633513532f5ca028b53cbbe07f6296018366580ca6853276a", func := "imageeditor/imageeditorlaw24.WandCloses", spec := "wandCloses", unfollowed := true, recurses := true, apart := false }
def WandClosesSaid : Prop := wandClosesRow.holds Try.pinned (OpenSpec.ofChange wandClosesSpec)

/-- ITS FALSE NEIGHBOUR: 'it returns false'. Refute it at one input. -/
def wandClosesWrong : ChangeSpec := { name := "wandCloses", fn := fun _ => fun
  | [d1, d2, d3, d4] => { results := [.lit (.bool false)], args := [d1, d2, d3, d4] }
  | _ => none }
def WandClosesWrongFalsely : Prop := wandClosesRow.holds Try.pinned (OpenSpec.ofChange wandClosesWrong)

/-- 'imageeditorlaw24.WandRegions': WHATEVER THE INPUT: true; the input reads as it did. -/
def wandRegionsSpec : ChangeSpec := { name := "wandRegions", fn := fun _ => fun
  | [d1, d2, d3, d4, d5] => { results := [.lit (.bool true)], args := [d1, d2, d3, d4, d5] }
  | _ => none }
def wandRegionsRow : OpenClaim := { program := "ytgdefgpbaccneaa", sum := "7e2e32e1df81a5d633513532f5ca028b53cbbe07f6296018366580ca6853276a", func := "imageeditor/imageeditorlaw24.WandRegions", spec := "wandRegions", unfollowed := true, recurses := true, apart := false }
def WandRegionsSaid : Prop := wandRegionsRow.holds Try.pinned (OpenSpec.ofChange wandRegionsSpec)

/-- ITS FALSE NEIGHBOUR: 'it returns false'. Refute it at one input. -/
def wandRegionsWrong : ChangeSpec := { name := "wandRegions", fn := fun _ => fun
  | [d1, d2, d3, d4, d5] => { results := [.lit (.bool false)], args := [d1, d2, d3, d4, d5] }
  | _ => none }
def WandRegionsWrongFalsely : Prop := wandRegionsRow.holds Try.pinned (OpenSpec.ofChange wandRegionsWrong)

/-- 'imageeditorlaw24.WandSoftens': WHATEVER THE INPUT: true; the input reads as it did. -/
def wandSoftensSpec : ChangeSpec := { name := "wandSoftens", fn := fun _ => fun
  | [d1, d2, d3, d4] => { results := [.lit (.bool true)], args := [d1, d2, d3, d4] }
  | _ => none }
def wandSoftensRow : OpenClaim := { program := "ytgdefgpbaccneaa", sum := "7e2e32e1df81a5d633513532f5ca028b53cbbe07f6296018366580ca6853276a", func := "imageeditor/imageeditorlaw24.WandSoftens", spec := "wandSoftens", unfollowed := true, recurses := true, apart := false }
def WandSoftensSaid : Prop := wandSoftensRow.holds Try.pinned (OpenSpec.ofChange wandSoftensSpec)

/-- ITS FALSE NEIGHBOUR: 'it returns false'. Refute it at one input. -/
def wandSoftensWrong : ChangeSpec := { name := "wandSoftens", fn := fun _ => fun
  | [d1, d2, d3, d4] => { results := [.lit (.bool false)], args := [d1, d2, d3, d4] }
  | _ => none }
def WandSoftensWrongFalsely : Prop := wandSoftensRow.holds Try.pinned (OpenSpec.ofChange wandSoftensWrong)

/-- 'imageeditorlaw24.WandTurns': WHATEVER THE INPUT: true; the input reads as it did. -/
def wandTurnsSpec : ChangeSpec := { name := "wandTurns", fn := fun _ => fun
  | [d1, d2, d3, d4] => { results := [.lit (.bool true)], args := [d1, d2, d3, d4] }
  | _ => none }
def wandTurnsRow : OpenClaim := { program := "ytgdefgpbaccneaa", sum := "7e2e32e1df81a5d633513532f5ca028b53cbbe07f6296018366580ca6853276a", func := "imageeditor/imageeditorlaw24.WandTurns", spec := "wandTurns", unfollowed := true, recurses := true, apart := false }
def WandTurnsSaid : Prop := wandTurnsRow.holds Try.pinned (OpenSpec.ofChange wandTurnsSpec)

/-- ITS FALSE NEIGHBOUR: 'it returns false'. Refute it at one input. -/
def wandTurnsWrong : ChangeSpec := { name := "wandTurns", fn := fun _ => fun
  | [d1, d2, d3, d4] => { results := [.lit (.bool false)], args := [d1, d2, d3, d4] }
  | _ => none }
def WandTurnsWrongFalsely : Prop := wandTurnsRow.holds Try.pinned (OpenSpec.ofChange wandTurnsWrong)

/- THE SECOND FORM. 'bulk': how many values and letters a reading holds, each counted each time it is reached (what is shared counts as often as it is met; a slice's spare places count too). A statement '..UptoSaid' is the law's where the arguments, and the package variables that the reading takes, are together of bulk at most 1048576: NARROWER than '..Said'. Prove '..Said' where nothing that the law and all that it calls make is longer than what came in: it says more and counts as full. Else prove '..UptoSaid'. A law counts once. -/
mutual
def uptoBulk {H : Type} : DataW H → Nat
  | .lit (.string bytes) => bytes.length + 1
  | .lit _ => 1
  | .nil => 1
  | .ptr d => uptoBulk d + 1
  | .slice elems spare => uptoBulkAll elems + uptoBulkAll spare + 1
  | .agg parts => uptoBulkAll parts + 1
  | .iface _ d => uptoBulk d + 1
  | .map entries => uptoBulkEntries entries + 1
  | .held _ => 1
def uptoBulkAll {H : Type} : List (DataW H) → Nat
  | [] => 0
  | d :: r => uptoBulk d + uptoBulkAll r
def uptoBulkEntries {H : Type} : List (Lit × DataW H) → Nat
  | [] => 0
  | x :: r => uptoBulkEntry x + uptoBulkEntries r
def uptoBulkEntry {H : Type} : Lit × DataW H → Nat
  | (.string bytes, d) => bytes.length + uptoBulk d + 1
  | (_, d) => uptoBulk d + 1
 end
def uptoSmall : (H : Type) → List (DataW H) → Bool := fun _ ds => decide (uptoBulkAll ds ≤ 1048576)
def OpenSpec.upto (s : _root_.Go.ChangeSpec) : _root_.Go.OpenSpec := { _root_.Go.OpenSpec.ofChange s with cond := some uptoSmall }

/-- 'imageeditorlaw24.WandFloods', WHERE WHAT IT READS IS OF BULK AT MOST 1048576: true; the input reads as it did. -/
def wandFloodsUptoRow : OpenClaim := { program := "ytgdefgpbaccneaa", sum := "7e2e32e1df81a5d633513532f5ca028b53cbbe07f6296018366580ca6853276a", func := "imageeditor/imageeditorlaw24.WandFloods", spec := "wandFloods", unfollowed := true, recurses := true, apart := false, narrowed := true }
def WandFloodsUptoSaid : Prop := wandFloodsUptoRow.holds Try.pinned (OpenSpec.upto wandFloodsSpec)

/-- 'imageeditorlaw24.WandColors', WHERE WHAT IT READS IS OF BULK AT MOST 1048576: true; the input reads as it did. -/
def wandColorsUptoRow : OpenClaim := { program := "ytgdefgpbaccneaa", sum := "7e2e32e1df81a5d633513532f5ca028b53cbbe07f6296018366580ca6853276a", func := "imageeditor/imageeditorlaw24.WandColors", spec := "wandColors", unfollowed := true, recurses := true, apart := false, narrowed := true }
def WandColorsUptoSaid : Prop := wandColorsUptoRow.holds Try.pinned (OpenSpec.upto wandColorsSpec)

/-- 'imageeditorlaw24.WandCloses', WHERE WHAT IT READS IS OF BULK AT MOST 1048576: true; the input reads as it did. -/
def wandClosesUptoRow : OpenClaim := { program := "ytgdefgpbaccneaa", sum := "7e2e32e1df81a5d633513532f5ca028b53cbbe07f6296018366580ca6853276a", func := "imageeditor/imageeditorlaw24.WandCloses", spec := "wandCloses", unfollowed := true, recurses := true, apart := false, narrowed := true }
def WandClosesUptoSaid : Prop := wandClosesUptoRow.holds Try.pinned (OpenSpec.upto wandClosesSpec)

/-- 'imageeditorlaw24.WandRegions', WHERE WHAT IT READS IS OF BULK AT MOST 1048576: true; the input reads as it did. -/
def wandRegionsUptoRow : OpenClaim := { program := "ytgdefgpbaccneaa", sum := "7e2e32e1df81a5d633513532f5ca028b53cbbe07f6296018366580ca6853276a", func := "imageeditor/imageeditorlaw24.WandRegions", spec := "wandRegions", unfollowed := true, recurses := true, apart := false, narrowed := true }
def WandRegionsUptoSaid : Prop := wandRegionsUptoRow.holds Try.pinned (OpenSpec.upto wandRegionsSpec)

/-- 'imageeditorlaw24.WandSoftens', WHERE WHAT IT READS IS OF BULK AT MOST 1048576: true; the input reads as it did. -/
def wandSoftensUptoRow : OpenClaim := { program := "ytgdefgpbaccneaa", sum := "7e2e32e1df81a5d633513532f5ca028b53cbbe07f6296018366580ca6853276a", func := "imageeditor/imageeditorlaw24.WandSoftens", spec := "wandSoftens", unfollowed := true, recurses := true, apart := false, narrowed := true }
def WandSoftensUptoSaid : Prop := wandSoftensUptoRow.holds Try.pinned (OpenSpec.upto wandSoftensSpec)

/-- 'imageeditorlaw24.WandTurns', WHERE WHAT IT READS IS OF BULK AT MOST 1048576: true; the input reads as it did. -/
def wandTurnsUptoRow : OpenClaim := { program := "ytgdefgpbaccneaa", sum := "7e2e32e1df81a5d633513532f5ca028b53cbbe07f6296018366580ca6853276a", func := "imageeditor/imageeditorlaw24.WandTurns", spec := "wandTurns", unfollowed := true, recurses := true, apart := false, narrowed := true }
def WandTurnsUptoSaid : Prop := wandTurnsUptoRow.holds Try.pinned (OpenSpec.upto wandTurnsSpec)

end Rows
end Go.Proofs.Ytgdefgpbaccneaa
