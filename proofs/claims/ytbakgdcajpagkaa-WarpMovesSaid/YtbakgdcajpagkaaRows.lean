/-
  No cell of these rows narrows 'for every input' (looked for: loops, veiled, ifaces, maps, wideKeys, modest, calm, conditions, laid).
  DERIVED. THE GIVEN ROWS OF THIS SEAT. 7 by the template 'for every input the law returns true; each argument reads behind the call as it read before'; 0 by the template 'total and deterministic' (their statements: YtbakgdcajpagkaaTotals.lean).
  GIVEN WITH THE SEED: the statements are not yours to turn. If you find one false, say at which input.
  Laid BY PROGRAM, IN A SANDBOX (cutbox-rows.mjs): the forced cells as the released guide's own fill.sh prints them over the translation 229a21809f521ba5… (all of the seat's roots in one cut). By AI agents, Wed Nov 11 2026. No macro, syntax, notation, axiom, sorry.
-/
import Derived.Test.YtbakgdcajpagkaaChecked
import GoSem.Claim
import GoSem.ClaimJoined
import GoSem.ClaimMapViews
import Derived.JoinedTies
import Derived.KernelRfl
namespace Go.Proofs.Ytbakgdcajpagkaa
/- THE CELL 'sum', in the pinned program and in every row, IS THE sha256 OF THE DUMP (.gsa) THAT YtbakgdcajpagkaaProg.lean LOADS. Nothing in Lean hashes anything: it is a label: what it is worth is what the hold of that sum in a sandbox is worth. -/
noncomputable def Try.pinned : Pinned := { name := "ytbakgdcajpagkaa", sum := "229a21809f521ba50705b1fd56d44f76c47719b0752e65ccbb98332ad5443e96", checked := Try.checked }
namespace Rows
def none {H : Type} : Left H := { results := [], args := [] }

/-- 'imageeditorlaw15.WarpMeshes': WHATEVER THE INPUT: true; the input reads as it did. -/
def warpMeshesSpec : ChangeSpec := { name := "warpMeshes", fn := fun _ => fun
  | [d1, d2, d3] => { results := [.lit (.bool true)], args := [d1, d2, d3] }
  | _ => none }
def warpMeshesRow : OpenClaim := { program := "ytbakgdcajpagkaa", sum := "229a21809f521ba50705b1fd56d44f76c47719b0752e65ccbb98332ad5443e96", func := "imageeditor/imageeditorlaw15.WarpMeshes", spec := "warpMeshes", inPlace := ["math/bits.Add64"], unfollowed := true, recurses := true, named := ["math/bits.divideError", "math/bits.overflowError"], apart := false }
def WarpMeshesSaid : Prop := warpMeshesRow.holds Try.pinned (OpenSpec.ofChange warpMeshesSpec)

/-- ITS FALSE NEIGHBOUR: 'it returns false'. Refute it at one input. -/
def warpMeshesWrong : ChangeSpec := { name := "warpMeshes", fn := fun _ => fun
  | [d1, d2, d3] => { results := [.lit (.bool false)], args := [d1, d2, d3] }
  | _ => none }
def WarpMeshesWrongFalsely : Prop := warpMeshesRow.holds Try.pinned (OpenSpec.ofChange warpMeshesWrong)

/-- 'imageeditorlaw15.WarpNeeds': WHATEVER THE INPUT: true; the input reads as it did. -/
def warpNeedsSpec : ChangeSpec := { name := "warpNeeds", fn := fun _ => fun
  | [d1, d2, d3, d4] => { results := [.lit (.bool true)], args := [d1, d2, d3, d4] }
  | _ => none }
def warpNeedsRow : OpenClaim := { program := "ytbakgdcajpagkaa", sum := "229a21809f521ba50705b1fd56d44f76c47719b0752e65ccbb98332ad5443e96", func := "imageeditor/imageeditorlaw15.WarpNeeds", spec := "warpNeeds", inPlace := ["math/bits.Add64"], unfollowed := true, recurses := true, named := ["math/bits.divideError", "math/bits.overflowError"], apart := false }
def WarpNeedsSaid : Prop := warpNeedsRow.holds Try.pinned (OpenSpec.ofChange warpNeedsSpec)

/-- ITS FALSE NEIGHBOUR: 'it returns false'. Refute it at one input. -/
def warpNeedsWrong : ChangeSpec := { name := "warpNeeds", fn := fun _ => fun
  | [d1, d2, d3, d4] => { results := [.lit (.bool false)], args := [d1, d2, d3, d4] }
  | _ => none }
def WarpNeedsWrongFalsely : Prop := warpNeedsRow.holds Try.pinned (OpenSpec.ofChange warpNeedsWrong)

/-- 'imageeditorlaw15.WarpDraws': WHATEVER THE INPUT: true; the input reads as it did. -/
def warpDrawsSpec : ChangeSpec := { name := "warpDraws", fn := fun _ => fun
  | [d1, d2, d3, d4, d5, d6] => { results := [.lit (.bool true)], args := [d1, d2, d3, d4, d5, d6] }
  | _ => none }
def warpDrawsRow : OpenClaim := { program := "ytbakgdcajpagkaa", sum := "229a21809f521ba50705b1fd56d44f76c47719b0752e65ccbb98332ad5443e96", func := "imageeditor/imageeditorlaw15.WarpDraws", spec := "warpDraws", inPlace := ["math/bits.Add64"], unfollowed := true, recurses := true, named := ["math/bits.divideError", "math/bits.overflowError"], apart := false }
def WarpDrawsSaid : Prop := warpDrawsRow.holds Try.pinned (OpenSpec.ofChange warpDrawsSpec)

/-- ITS FALSE NEIGHBOUR: 'it returns false'. Refute it at one input. -/
def warpDrawsWrong : ChangeSpec := { name := "warpDraws", fn := fun _ => fun
  | [d1, d2, d3, d4, d5, d6] => { results := [.lit (.bool false)], args := [d1, d2, d3, d4, d5, d6] }
  | _ => none }
def WarpDrawsWrongFalsely : Prop := warpDrawsRow.holds Try.pinned (OpenSpec.ofChange warpDrawsWrong)

/-- 'imageeditorlaw15.WarpPoints': WHATEVER THE INPUT: true; the input reads as it did. -/
def warpPointsSpec : ChangeSpec := { name := "warpPoints", fn := fun _ => fun
  | [d1, d2, d3, d4, d5] => { results := [.lit (.bool true)], args := [d1, d2, d3, d4, d5] }
  | _ => none }
def warpPointsRow : OpenClaim := { program := "ytbakgdcajpagkaa", sum := "229a21809f521ba50705b1fd56d44f76c47719b0752e65ccbb98332ad5443e96", func := "imageeditor/imageeditorlaw15.WarpPoints", spec := "warpPoints", inPlace := ["math/bits.Add64"], unfollowed := true, recurses := true, named := ["math/bits.divideError", "math/bits.overflowError"], apart := false }
def WarpPointsSaid : Prop := warpPointsRow.holds Try.pinned (OpenSpec.ofChange warpPointsSpec)

/-- ITS FALSE NEIGHBOUR: 'it returns false'. Refute it at one input. -/
def warpPointsWrong : ChangeSpec := { name := "warpPoints", fn := fun _ => fun
  | [d1, d2, d3, d4, d5] => { results := [.lit (.bool false)], args := [d1, d2, d3, d4, d5] }
  | _ => none }
def WarpPointsWrongFalsely : Prop := warpPointsRow.holds Try.pinned (OpenSpec.ofChange warpPointsWrong)

/-- 'imageeditorlaw15.WarpMoves': WHATEVER THE INPUT: true; the input reads as it did. -/
def warpMovesSpec : ChangeSpec := { name := "warpMoves", fn := fun _ => fun
  | [d1, d2, d3, d4] => { results := [.lit (.bool true)], args := [d1, d2, d3, d4] }
  | _ => none }
def warpMovesRow : OpenClaim := { program := "ytbakgdcajpagkaa", sum := "229a21809f521ba50705b1fd56d44f76c47719b0752e65ccbb98332ad5443e96", func := "imageeditor/imageeditorlaw15.WarpMoves", spec := "warpMoves", inPlace := ["math/bits.Add64"], unfollowed := true, recurses := true, named := ["math/bits.divideError", "math/bits.overflowError"], apart := false }
def WarpMovesSaid : Prop := warpMovesRow.holds Try.pinned (OpenSpec.ofChange warpMovesSpec)

/-- ITS FALSE NEIGHBOUR: 'it returns false'. Refute it at one input. -/
def warpMovesWrong : ChangeSpec := { name := "warpMoves", fn := fun _ => fun
  | [d1, d2, d3, d4] => { results := [.lit (.bool false)], args := [d1, d2, d3, d4] }
  | _ => none }
def WarpMovesWrongFalsely : Prop := warpMovesRow.holds Try.pinned (OpenSpec.ofChange warpMovesWrong)

/-- 'imageeditorlaw15.WarpParts': WHATEVER THE INPUT: true; the input reads as it did. -/
def warpPartsSpec : ChangeSpec := { name := "warpParts", fn := fun _ => fun
  | [d1, d2, d3, d4] => { results := [.lit (.bool true)], args := [d1, d2, d3, d4] }
  | _ => none }
def warpPartsRow : OpenClaim := { program := "ytbakgdcajpagkaa", sum := "229a21809f521ba50705b1fd56d44f76c47719b0752e65ccbb98332ad5443e96", func := "imageeditor/imageeditorlaw15.WarpParts", spec := "warpParts", inPlace := ["math/bits.Add64"], unfollowed := true, recurses := true, named := ["math/bits.divideError", "math/bits.overflowError"], apart := false }
def WarpPartsSaid : Prop := warpPartsRow.holds Try.pinned (OpenSpec.ofChange warpPartsSpec)

/-- ITS FALSE NEIGHBOUR: 'it returns false'. Refute it at one input. -/
def warpPartsWrong : ChangeSpec := { name := "warpParts", fn := fun _ => fun
  | [d1, d2, d3, d4] => { results := [.lit (.bool false)], args := [d1, d2, d3, d4] }
  | _ => none }
def WarpPartsWrongFalsely : Prop := warpPartsRow.holds Try.pinned (OpenSpec.ofChange warpPartsWrong)

/-- 'imageeditorlaw15.WarpIgnores': WHATEVER THE INPUT: true; the input reads as it did. -/
def warpIgnoresSpec : ChangeSpec := { name := "warpIgnores", fn := fun _ => fun
  | [d1, d2, d3, d4, d5] => { results := [.lit (.bool true)], args := [d1, d2, d3, d4, d5] }
  | _ => none }
def warpIgnoresRow : OpenClaim := { program := "ytbakgdcajpagkaa", sum := "229a21809f521ba50705b1fd56d44f76c47719b0752e65ccbb98332ad5443e96", func := "imageeditor/imageeditorlaw15.WarpIgnores", spec := "warpIgnores", inPlace := ["math/bits.Add64"], unfollowed := true, recurses := true, named := ["math/bits.divideError", "math/bits.overflowError"], apart := false }
def WarpIgnoresSaid : Prop := warpIgnoresRow.holds Try.pinned (OpenSpec.ofChange warpIgnoresSpec)

/-- ITS FALSE NEIGHBOUR: 'it returns false'. Refute it at one input. -/
def warpIgnoresWrong : ChangeSpec := { name := "warpIgnores", fn := fun _ => fun
  | [d1, d2, d3, d4, d5] => { results := [.lit (.bool false)], args := [d1, d2, d3, d4, d5] }
  | _ => none }
def WarpIgnoresWrongFalsely : Prop := warpIgnoresRow.holds Try.pinned (OpenSpec.ofChange warpIgnoresWrong)

/- THE SECOND FORM. 'bulk': how many values and letters a reading holds, each counted each time it is reached (what is shared counts as often as it is met; a slice's spare places count too). A statement '..UptoSaid' is the law's where the arguments, and the package variables that the reading takes, are together of bulk at most 1048576: NARROWER than '..Said'. Prove '..Said' where nothing that the law and all that it calls make is longer than what came in: it says more and counts as full. Else prove '..UptoSaid'. A law counts once. -/
mutual
def uptoBulk {H : Type} : DataW H → Nat
  | .lit (.string bytes) => bytes.length + 1
  | .lit _ => 1
  | .nil => 1
  | .ptr d => uptoBulk d + 1
  | .slice elems spare => uptoBulkAll elems + uptoBulkAll spare + 1
  | .agg parts => uptoBulkAll parts + 1
  | .iface _ d => uptoBulk d + 1
  | .map entries => uptoBulkEntries entries + 1
  | .held _ => 1
def uptoBulkAll {H : Type} : List (DataW H) → Nat
  | [] => 0
  | d :: r => uptoBulk d + uptoBulkAll r
def uptoBulkEntries {H : Type} : List (Lit × DataW H) → Nat
  | [] => 0
  | x :: r => uptoBulkEntry x + uptoBulkEntries r
def uptoBulkEntry {H : Type} : Lit × DataW H → Nat
  | (.string bytes, d) => bytes.length + uptoBulk d + 1
  | (_, d) => uptoBulk d + 1
 end
def uptoSmall : (H : Type) → List (DataW H) → Bool := fun _ ds => decide (uptoBulkAll ds ≤ 1048576)
def OpenSpec.upto (s : _root_.Go.ChangeSpec) : _root_.Go.OpenSpec := { _root_.Go.OpenSpec.ofChange s with cond := some uptoSmall }

/-- 'imageeditorlaw15.WarpMeshes', WHERE WHAT IT READS IS OF BULK AT MOST 1048576: true; the input reads as it did. -/
def warpMeshesUptoRow : OpenClaim := { program := "ytbakgdcajpagkaa", sum := "229a21809f521ba50705b1fd56d44f76c47719b0752e65ccbb98332ad5443e96", func := "imageeditor/imageeditorlaw15.WarpMeshes", spec := "warpMeshes", inPlace := ["math/bits.Add64"], unfollowed := true, recurses := true, named := ["math/bits.divideError", "math/bits.overflowError"], apart := false, narrowed := true }
def WarpMeshesUptoSaid : Prop := warpMeshesUptoRow.holds Try.pinned (OpenSpec.upto warpMeshesSpec)

/-- 'imageeditorlaw15.WarpNeeds', WHERE WHAT IT READS IS OF BULK AT MOST 1048576: true; the input reads as it did. -/
def warpNeedsUptoRow : OpenClaim := { program := "ytbakgdcajpagkaa", sum := "229a21809f521ba50705b1fd56d44f76c47719b0752e65ccbb98332ad5443e96", func := "imageeditor/imageeditorlaw15.WarpNeeds", spec := "warpNeeds", inPlace := ["math/bits.Add64"], unfollowed := true, recurses := true, named := ["math/bits.divideError", "math/bits.overflowError"], apart := false, narrowed := true }
def WarpNeedsUptoSaid : Prop := warpNeedsUptoRow.holds Try.pinned (OpenSpec.upto warpNeedsSpec)

/-- 'imageeditorlaw15.WarpDraws', WHERE WHAT IT READS IS OF BULK AT MOST 1048576: true; the input reads as it did. -/
def warpDrawsUptoRow : OpenClaim := { program := "ytbakgdcajpagkaa", sum := "229a21809f521ba50705b1fd56d44f76c47719b0752e65ccbb98332ad5443e96", func := "imageeditor/imageeditorlaw15.WarpDraws", spec := "warpDraws", inPlace := ["math/bits.Add64"], unfollowed := true, recurses := true, named := ["math/bits.divideError", "math/bits.overflowError"], apart := false, narrowed := true }
def WarpDrawsUptoSaid : Prop := warpDrawsUptoRow.holds Try.pinned (OpenSpec.upto warpDrawsSpec)

/-- 'imageeditorlaw15.WarpPoints', WHERE WHAT IT READS IS OF BULK AT MOST 1048576: true; the input reads as it did. -/
def warpPointsUptoRow : OpenClaim := { program := "ytbakgdcajpagkaa", sum := "229a21809f521ba50705b1fd56d44f76c47719b0752e65ccbb98332ad5443e96", func := "imageeditor/imageeditorlaw15.WarpPoints", spec := "warpPoints", inPlace := ["math/bits.Add64"], unfollowed := true, recurses := true, named := ["math/bits.divideError", "math/bits.overflowError"], apart := false, narrowed := true }
def WarpPointsUptoSaid : Prop := warpPointsUptoRow.holds Try.pinned (OpenSpec.upto warpPointsSpec)

/-- 'imageeditorlaw15.WarpMoves', WHERE WHAT IT READS IS OF BULK AT MOST 1048576: true; the input reads as it did. -/
def warpMovesUptoRow : OpenClaim := { program := "ytbakgdcajpagkaa", sum := "229a21809f521ba50705b1fd56d44f76c47719b0752e65ccbb98332ad5443e96", func := "imageeditor/imageeditorlaw15.WarpMoves", spec := "warpMoves", inPlace := ["math/bits.Add64"], unfollowed := true, recurses := true, named := ["math/bits.divideError", "math/bits.overflowError"], apart := false, narrowed := true }
def WarpMovesUptoSaid : Prop := warpMovesUptoRow.holds Try.pinned (OpenSpec.upto warpMovesSpec)

/-- 'imageeditorlaw15.WarpParts', WHERE WHAT IT READS IS OF BULK AT MOST 1048576: true; the input reads as it did. -/
def warpPartsUptoRow : OpenClaim := { program := "ytbakgdcajpagkaa", sum := "229a21809f521ba50705b1fd56d44f76c47719b0752e65ccbb98332ad5443e96", func := "imageeditor/imageeditorlaw15.WarpParts", spec := "warpParts", inPlace := ["math/bits.Add64"], unfollowed := true, recurses := true, named := ["math/bits.divideError", "math/bits.overflowError"], apart := false, narrowed := true }
def WarpPartsUptoSaid : Prop := warpPartsUptoRow.holds Try.pinned (OpenSpec.upto warpPartsSpec)

/-- 'imageeditorlaw15.WarpIgnores', WHERE WHAT IT READS IS OF BULK AT MOST 1048576: true; the input reads as it did. -/
def warpIgnoresUptoRow : OpenClaim := { program := "ytbakgdcajpagkaa", sum := "229a21809f521ba50705b1fd56d44f76c47719b0752e65ccbb98332ad5443e96", func := "imageeditor/imageeditorlaw15.WarpIgnores", spec := "warpIgnores", inPlace := ["math/bits.Add64"], unfollowed := true, recurses := true, named := ["math/bits.divideError", "math/bits.overflowError"], apart := false, narrowed := true }
def WarpIgnoresUptoSaid : Prop := warpIgnoresUptoRow.holds Try.pinned (OpenSpec.upto warpIgnoresSpec)

end Rows
end Go.Proofs.Ytbakgdcajpagkaa
