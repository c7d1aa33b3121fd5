/-
  No cell of these rows narrows 'for every input' (looked for: loops, veiled, ifaces, maps, wideKeys, modest, calm, conditions, laid).
  DERIVED. THE GIVEN ROWS OF THIS SEAT. 8 by the template 'for every input the law returns true; each argument reads behind the call as it read before'; 0 by the template 'total and deterministic' (their statements: YtineinmghajmnaaTotals.lean).
  GIVEN WITH THE SEED: the statements are not yours to turn. If you find one false, say at which input.
  Laid BY PROGRAM, IN A SANDBOX (cutbox-rows.mjs): the forced cells as the released guide's own fill.sh prints them over the translation b7035908f9dca726… (all of the seat's roots in one cut). By AI agents, Wed Nov 11 2026. No macro, syntax, notation, axiom, sorry.
-/
import Derived.Test.YtineinmghajmnaaChecked
import GoSem.Claim
import GoSem.ClaimJoined
import GoSem.ClaimMapViews
import Derived.JoinedTies
import Derived.KernelRfl
namespace Go.Proofs.Ytineinmghajmnaa
/- THE CELL 'sum', in the pinned program and in every row, IS THE sha256 OF THE DUMP (.gsa) THAT YtineinmghajmnaaProg.lean LOADS. Nothing in Lean hashes anything: it is a label: what it is worth is what the hold of that sum in a sandbox is worth. -/
noncomputable def Try.pinned : Pinned := { name := "ytineinmghajmnaa", sum := "b7035908f9dca7260f1e6db9beefa8208eb800402dfeedf517031bf49b3609fa", checked := Try.checked }
namespace Rows
def none {H : Type} : Left H := { results := [], args := [] }

/-- 'imageeditorlaw14.SampleAts': WHATEVER THE INPUT: true; the input reads as it did. -/
def sampleAtsSpec : ChangeSpec := { name := "sampleAts", fn := fun _ => fun
  | [d1, d2, d3, d4] => { results := [.lit (.bool true)], args := [d1, d2, d3, d4] }
  | _ => none }
def sampleAtsRow : OpenClaim := { program := "ytineinmghajmnaa", sum := "b7035908f9dca7260f1e6db9beefa8208eb800402dfeedf517031bf49b3609fa", func := "imageeditor/imageeditorlaw14.SampleAts", spec := "sampleAts", inPlace := ["math/bits.Add64"], unfollowed := true, recurses := true, named := ["math/bits.divideError", "math/bits.overflowError"], apart := false }
def SampleAtsSaid : Prop := sampleAtsRow.holds Try.pinned (OpenSpec.ofChange sampleAtsSpec)

/-- ITS FALSE NEIGHBOUR: 'it returns false'. Refute it at one input. -/
def sampleAtsWrong : ChangeSpec := { name := "sampleAts", fn := fun _ => fun
  | [d1, d2, d3, d4] => { results := [.lit (.bool false)], args := [d1, d2, d3, d4] }
  | _ => none }
def SampleAtsWrongFalsely : Prop := sampleAtsRow.holds Try.pinned (OpenSpec.ofChange sampleAtsWrong)

/-- 'imageeditorlaw14.SampleDraws': WHATEVER THE INPUT: true; the input reads as it did. -/
def sampleDrawsSpec : ChangeSpec := { name := "sampleDraws", fn := fun _ => fun
  | [d1, d2, d3, d4] => { results := [.lit (.bool true)], args := [d1, d2, d3, d4] }
  | _ => none }
def sampleDrawsRow : OpenClaim := { program := "ytineinmghajmnaa", sum := "b7035908f9dca7260f1e6db9beefa8208eb800402dfeedf517031bf49b3609fa", func := "imageeditor/imageeditorlaw14.SampleDraws", spec := "sampleDraws", inPlace := ["math/bits.Add64"], unfollowed := true, recurses := true, named := ["math/bits.divideError", "math/bits.overflowError"], apart := false }
def SampleDrawsSaid : Prop := sampleDrawsRow.holds Try.pinned (OpenSpec.ofChange sampleDrawsSpec)

/-- ITS FALSE NEIGHBOUR: 'it returns false'. Refute it at one input. -/
def sampleDrawsWrong : ChangeSpec := { name := "sampleDraws", fn := fun _ => fun
  | [d1, d2, d3, d4] => { results := [.lit (.bool false)], args := [d1, d2, d3, d4] }
  | _ => none }
def SampleDrawsWrongFalsely : Prop := sampleDrawsRow.holds Try.pinned (OpenSpec.ofChange sampleDrawsWrong)

/-- 'imageeditorlaw14.SampleNeeds': WHATEVER THE INPUT: true; the input reads as it did. -/
def sampleNeedsSpec : ChangeSpec := { name := "sampleNeeds", fn := fun _ => fun
  | [d1, d2, d3] => { results := [.lit (.bool true)], args := [d1, d2, d3] }
  | _ => none }
def sampleNeedsRow : OpenClaim := { program := "ytineinmghajmnaa", sum := "b7035908f9dca7260f1e6db9beefa8208eb800402dfeedf517031bf49b3609fa", func := "imageeditor/imageeditorlaw14.SampleNeeds", spec := "sampleNeeds", inPlace := ["math/bits.Add64"], unfollowed := true, recurses := true, named := ["math/bits.divideError", "math/bits.overflowError"], apart := false }
def SampleNeedsSaid : Prop := sampleNeedsRow.holds Try.pinned (OpenSpec.ofChange sampleNeedsSpec)

/-- ITS FALSE NEIGHBOUR: 'it returns false'. Refute it at one input. -/
def sampleNeedsWrong : ChangeSpec := { name := "sampleNeeds", fn := fun _ => fun
  | [d1, d2, d3] => { results := [.lit (.bool false)], args := [d1, d2, d3] }
  | _ => none }
def SampleNeedsWrongFalsely : Prop := sampleNeedsRow.holds Try.pinned (OpenSpec.ofChange sampleNeedsWrong)

/-- 'imageeditorlaw14.SampleSizes': WHATEVER THE INPUT: true; the input reads as it did. -/
def sampleSizesSpec : ChangeSpec := { name := "sampleSizes", fn := fun _ => fun
  | [d1, d2, d3, d4] => { results := [.lit (.bool true)], args := [d1, d2, d3, d4] }
  | _ => none }
def sampleSizesRow : OpenClaim := { program := "ytineinmghajmnaa", sum := "b7035908f9dca7260f1e6db9beefa8208eb800402dfeedf517031bf49b3609fa", func := "imageeditor/imageeditorlaw14.SampleSizes", spec := "sampleSizes", inPlace := ["math/bits.Add64"], unfollowed := true, recurses := true, named := ["math/bits.divideError", "math/bits.overflowError"], apart := false }
def SampleSizesSaid : Prop := sampleSizesRow.holds Try.pinned (OpenSpec.ofChange sampleSizesSpec)

/-- ITS FALSE NEIGHBOUR: 'it returns false'. Refute it at one input. -/
def sampleSizesWrong : ChangeSpec := { name := "sampleSizes", fn := fun _ => fun
  | [d1, d2, d3, d4] => { results := [.lit (.bool false)], args := [d1, d2, d3, d4] }
  | _ => none }
def SampleSizesWrongFalsely : Prop := sampleSizesRow.holds Try.pinned (OpenSpec.ofChange sampleSizesWrong)

/-- 'imageeditorlaw14.SamplePlain': WHATEVER THE INPUT: true; the input reads as it did. -/
def samplePlainSpec : ChangeSpec := { name := "samplePlain", fn := fun _ => fun
  | [d1, d2, d3, d4] => { results := [.lit (.bool true)], args := [d1, d2, d3, d4] }
  | _ => none }
def samplePlainRow : OpenClaim := { program := "ytineinmghajmnaa", sum := "b7035908f9dca7260f1e6db9beefa8208eb800402dfeedf517031bf49b3609fa", func := "imageeditor/imageeditorlaw14.SamplePlain", spec := "samplePlain", inPlace := ["math/bits.Add64"], unfollowed := true, recurses := true, named := ["math/bits.divideError", "math/bits.overflowError"], apart := false }
def SamplePlainSaid : Prop := samplePlainRow.holds Try.pinned (OpenSpec.ofChange samplePlainSpec)

/-- ITS FALSE NEIGHBOUR: 'it returns false'. Refute it at one input. -/
def samplePlainWrong : ChangeSpec := { name := "samplePlain", fn := fun _ => fun
  | [d1, d2, d3, d4] => { results := [.lit (.bool false)], args := [d1, d2, d3, d4] }
  | _ => none }
def SamplePlainWrongFalsely : Prop := samplePlainRow.holds Try.pinned (OpenSpec.ofChange samplePlainWrong)

/-- 'imageeditorlaw14.SampleOutside': WHATEVER THE INPUT: true; the input reads as it did. -/
def sampleOutsideSpec : ChangeSpec := { name := "sampleOutside", fn := fun _ => fun
  | [d1, d2, d3, d4, d5] => { results := [.lit (.bool true)], args := [d1, d2, d3, d4, d5] }
  | _ => none }
def sampleOutsideRow : OpenClaim := { program := "ytineinmghajmnaa", sum := "b7035908f9dca7260f1e6db9beefa8208eb800402dfeedf517031bf49b3609fa", func := "imageeditor/imageeditorlaw14.SampleOutside", spec := "sampleOutside", inPlace := ["math/bits.Add64"], unfollowed := true, recurses := true, named := ["math/bits.divideError", "math/bits.overflowError"], apart := false }
def SampleOutsideSaid : Prop := sampleOutsideRow.holds Try.pinned (OpenSpec.ofChange sampleOutsideSpec)

/-- ITS FALSE NEIGHBOUR: 'it returns false'. Refute it at one input. -/
def sampleOutsideWrong : ChangeSpec := { name := "sampleOutside", fn := fun _ => fun
  | [d1, d2, d3, d4, d5] => { results := [.lit (.bool false)], args := [d1, d2, d3, d4, d5] }
  | _ => none }
def SampleOutsideWrongFalsely : Prop := sampleOutsideRow.holds Try.pinned (OpenSpec.ofChange sampleOutsideWrong)

/-- 'imageeditorlaw14.SampleMoves': WHATEVER THE INPUT: true; the input reads as it did. -/
def sampleMovesSpec : ChangeSpec := { name := "sampleMoves", fn := fun _ => fun
  | [d1, d2, d3, d4, d5] => { results := [.lit (.bool true)], args := [d1, d2, d3, d4, d5] }
  | _ => none }
def sampleMovesRow : OpenClaim := { program := "ytineinmghajmnaa", sum := "b7035908f9dca7260f1e6db9beefa8208eb800402dfeedf517031bf49b3609fa", func := "imageeditor/imageeditorlaw14.SampleMoves", spec := "sampleMoves", inPlace := ["math/bits.Add64"], unfollowed := true, recurses := true, named := ["math/bits.divideError", "math/bits.overflowError"], apart := false }
def SampleMovesSaid : Prop := sampleMovesRow.holds Try.pinned (OpenSpec.ofChange sampleMovesSpec)

/-- ITS FALSE NEIGHBOUR: 'it returns false'. Refute it at one input. -/
def sampleMovesWrong : ChangeSpec := { name := "sampleMoves", fn := fun _ => fun
  | [d1, d2, d3, d4, d5] => { results := [.lit (.bool false)], args := [d1, d2, d3, d4, d5] }
  | _ => none }
def SampleMovesWrongFalsely : Prop := sampleMovesRow.holds Try.pinned (OpenSpec.ofChange sampleMovesWrong)

/-- 'imageeditorlaw14.SampleParts': WHATEVER THE INPUT: true; the input reads as it did. -/
def samplePartsSpec : ChangeSpec := { name := "sampleParts", fn := fun _ => fun
  | [d1, d2, d3, d4, d5] => { results := [.lit (.bool true)], args := [d1, d2, d3, d4, d5] }
  | _ => none }
def samplePartsRow : OpenClaim := { program := "ytineinmghajmnaa", sum := "b7035908f9dca7260f1e6db9beefa8208eb800402dfeedf517031bf49b3609fa", func := "imageeditor/imageeditorlaw14.SampleParts", spec := "sampleParts", inPlace := ["math/bits.Add64"], unfollowed := true, recurses := true, named := ["math/bits.divideError", "math/bits.overflowError"], apart := false }
def SamplePartsSaid : Prop := samplePartsRow.holds Try.pinned (OpenSpec.ofChange samplePartsSpec)

/-- ITS FALSE NEIGHBOUR: 'it returns false'. Refute it at one input. -/
def samplePartsWrong : ChangeSpec := { name := "sampleParts", fn := fun _ => fun
  | [d1, d2, d3, d4, d5] => { results := [.lit (.bool false)], args := [d1, d2, d3, d4, d5] }
  | _ => none }
def SamplePartsWrongFalsely : Prop := samplePartsRow.holds Try.pinned (OpenSpec.ofChange samplePartsWrong)

/- THE SECOND FORM. 'bulk': how many values and letters a reading holds, each counted each time it is reached (what is shared counts as often as it is met; a slice's spare places count too). A statement '..UptoSaid' is the law's where the arguments, and the package variables that the reading takes, are together of bulk at most 1048576: NARROWER than '..Said'. Prove '..Said' where nothing that the law and all that it calls make is longer than what came in: it says more and counts as full. Else prove '..UptoSaid'. A law counts once. -/
mutual
def uptoBulk {H : Type} : DataW H → Nat
  | .lit (.string bytes) => bytes.length + 1
  | .lit _ => 1
  | .nil => 1
  | .ptr d => uptoBulk d + 1
  | .slice elems spare => uptoBulkAll elems + uptoBulkAll spare + 1
  | .agg parts => uptoBulkAll parts + 1
  | .iface _ d => uptoBulk d + 1
  | .map entries => uptoBulkEntries entries + 1
  | .held _ => 1
def uptoBulkAll {H : Type} : List (DataW H) → Nat
  | [] => 0
  | d :: r => uptoBulk d + uptoBulkAll r
def uptoBulkEntries {H : Type} : List (Lit × DataW H) → Nat
  | [] => 0
  | x :: r => uptoBulkEntry x + uptoBulkEntries r
def uptoBulkEntry {H : Type} : Lit × DataW H → Nat
  | (.string bytes, d) => bytes.length + uptoBulk d + 1
  | (_, d) => uptoBulk d + 1
 end
def uptoSmall : (H : Type) → List (DataW H) → Bool := fun _ ds => decide (uptoBulkAll ds ≤ 1048576)
def OpenSpec.upto (s : _root_.Go.ChangeSpec) : _root_.Go.OpenSpec := { _root_.Go.OpenSpec.ofChange s with cond := some uptoSmall }

/-- 'imageeditorlaw14.SampleAts', WHERE WHAT IT READS IS OF BULK AT MOST 1048576: true; the input reads as it did. -/
def sampleAtsUptoRow : OpenClaim := { program := "ytineinmghajmnaa", sum := "b7035908f9dca7260f1e6db9beefa8208eb800402dfeedf517031bf49b3609fa", func := "imageeditor/imageeditorlaw14.SampleAts", spec := "sampleAts", inPlace := ["math/bits.Add64"], unfollowed := true, recurses := true, named := ["math/bits.divideError", "math/bits.overflowError"], apart := false, narrowed := true }
def SampleAtsUptoSaid : Prop := sampleAtsUptoRow.holds Try.pinned (OpenSpec.upto sampleAtsSpec)

/-- 'imageeditorlaw14.SampleDraws', WHERE WHAT IT READS IS OF BULK AT MOST 1048576: true; the input reads as it did. -/
def sampleDrawsUptoRow : OpenClaim := { program := "ytineinmghajmnaa", sum := "b7035908f9dca7260f1e6db9beefa8208eb800402dfeedf517031bf49b3609fa", func := "imageeditor/imageeditorlaw14.SampleDraws", spec := "sampleDraws", inPlace := ["math/bits.Add64"], unfollowed := true, recurses := true, named := ["math/bits.divideError", "math/bits.overflowError"], apart := false, narrowed := true }
def SampleDrawsUptoSaid : Prop := sampleDrawsUptoRow.holds Try.pinned (OpenSpec.upto sampleDrawsSpec)

/-- 'imageeditorlaw14.SampleNeeds', WHERE WHAT IT READS IS OF BULK AT MOST 1048576: true; the input reads as it did. -/
def sampleNeedsUptoRow : OpenClaim := { program := "ytineinmghajmnaa", sum := "b7035908f9dca7260f1e6db9beefa8208eb800402dfeedf517031bf49b3609fa", func := "imageeditor/imageeditorlaw14.SampleNeeds", spec := "sampleNeeds", inPlace := ["math/bits.Add64"], unfollowed := true, recurses := true, named := ["math/bits.divideError", "math/bits.overflowError"], apart := false, narrowed := true }
def SampleNeedsUptoSaid : Prop := sampleNeedsUptoRow.holds Try.pinned (OpenSpec.upto sampleNeedsSpec)

/-- 'imageeditorlaw14.SampleSizes', WHERE WHAT IT READS IS OF BULK AT MOST 1048576: true; the input reads as it did. -/
def sampleSizesUptoRow : OpenClaim := { program := "ytineinmghajmnaa", sum := "b7035908f9dca7260f1e6db9beefa8208eb800402dfeedf517031bf49b3609fa", func := "imageeditor/imageeditorlaw14.SampleSizes", spec := "sampleSizes", inPlace := ["math/bits.Add64"], unfollowed := true, recurses := true, named := ["math/bits.divideError", "math/bits.overflowError"], apart := false, narrowed := true }
def SampleSizesUptoSaid : Prop := sampleSizesUptoRow.holds Try.pinned (OpenSpec.upto sampleSizesSpec)

/-- 'imageeditorlaw14.SamplePlain', WHERE WHAT IT READS IS OF BULK AT MOST 1048576: true; the input reads as it did. -/
def samplePlainUptoRow : OpenClaim := { program := "ytineinmghajmnaa", sum := "b7035908f9dca7260f1e6db9beefa8208eb800402dfeedf517031bf49b3609fa", func := "imageeditor/imageeditorlaw14.SamplePlain", spec := "samplePlain", inPlace := ["math/bits.Add64"], unfollowed := true, recurses := true, named := ["math/bits.divideError", "math/bits.overflowError"], apart := false, narrowed := true }
def SamplePlainUptoSaid : Prop := samplePlainUptoRow.holds Try.pinned (OpenSpec.upto samplePlainSpec)

/-- 'imageeditorlaw14.SampleOutside', WHERE WHAT IT READS IS OF BULK AT MOST 1048576: true; the input reads as it did. -/
def sampleOutsideUptoRow : OpenClaim := { program := "ytineinmghajmnaa", sum := "b7035908f9dca7260f1e6db9beefa8208eb800402dfeedf517031bf49b3609fa", func := "imageeditor/imageeditorlaw14.SampleOutside", spec := "sampleOutside", inPlace := ["math/bits.Add64"], unfollowed := true, recurses := true, named := ["math/bits.divideError", "math/bits.overflowError"], apart := false, narrowed := true }
def SampleOutsideUptoSaid : Prop := sampleOutsideUptoRow.holds Try.pinned (OpenSpec.upto sampleOutsideSpec)

/-- 'imageeditorlaw14.SampleMoves', WHERE WHAT IT READS IS OF BULK AT MOST 1048576: true; the input reads as it did. -/
def sampleMovesUptoRow : OpenClaim := { program := "ytineinmghajmnaa", sum := "b7035908f9dca7260f1e6db9beefa8208eb800402dfeedf517031bf49b3609fa", func := "imageeditor/imageeditorlaw14.SampleMoves", spec := "sampleMoves", inPlace := ["math/bits.Add64"], unfollowed := true, recurses := true, named := ["math/bits.divideError", "math/bits.overflowError"], apart := false, narrowed := true }
def SampleMovesUptoSaid : Prop := sampleMovesUptoRow.holds Try.pinned (OpenSpec.upto sampleMovesSpec)

/-- 'imageeditorlaw14.SampleParts', WHERE WHAT IT READS IS OF BULK AT MOST 1048576: true; the input reads as it did. -/
def samplePartsUptoRow : OpenClaim := { program := "ytineinmghajmnaa", sum := "b7035908f9dca7260f1e6db9beefa8208eb800402dfeedf517031bf49b3609fa", func := "imageeditor/imageeditorlaw14.SampleParts", spec := "sampleParts", inPlace := ["math/bits.Add64"], unfollowed := true, recurses := true, named := ["math/bits.divideError", "math/bits.overflowError"], apart := false, narrowed := true }
def SamplePartsUptoSaid : Prop := samplePartsUptoRow.holds Try.pinned (OpenSpec.upto samplePartsSpec)

end Rows
end Go.Proofs.Ytineinmghajmnaa
