/-
  No cell of these rows narrows 'for every input' (looked for: loops, veiled, ifaces, maps, wideKeys, modest, calm, conditions, laid).
  DERIVED. THE GIVEN ROWS OF THIS SEAT. 5 by the template 'for every input the law returns true; each argument reads behind the call as it read before'; 0 by the template 'total and deterministic' (their statements: YtgjhjdmchlecnaaTotals.lean).
  GIVEN WITH THE SEED: the statements are not yours to turn. If you find one false, say at which input.
  Laid BY PROGRAM, IN A SANDBOX (cutbox-rows.mjs): the forced cells as the released guide's own fill.sh prints them over the translation 5a374562a01bd948… (all of the seat's roots in one cut). By AI agents, Wed Nov 11 2026. No macro, syntax, notation, axiom, sorry.
-/
import Derived.Test.YtgjhjdmchlecnaaChecked
import GoSem.Claim
import GoSem.ClaimJoined
import GoSem.ClaimMapViews
import Derived.JoinedTies
import Derived.KernelRfl
namespace Go.Proofs.Ytgjhjdmchlecnaa
/- THE CELL 'sum', in the pinned program and in every row, IS THE sha256 OF THE DUMP (.gsa) THAT YtgjhjdmchlecnaaProg.lean LOADS. Nothing in Lean hashes anything: it is a label: what it is worth is what the hold of that sum in a sandbox is worth. -/
noncomputable def Try.pinned : Pinned := { name := "ytgjhjdmchlecnaa", sum := "5a374562a01bd948de29e3c17deb6706f56943234297d91aefbd64554c2ee52b", checked := Try.checked }
namespace Rows
def none {H : Type} : Left H := { results := [], args := [] }

/-- 'imageeditorlaw13.KernelWeights': WHATEVER THE INPUT: true; the input reads as it did. -/
def kernelWeightsSpec : ChangeSpec := { name := "kernelWeights", fn := fun _ => fun
  | [d1, d2] => { results := [.lit (.bool true)], args := [d1, d2] }
  | _ => none }
def kernelWeightsRow : OpenClaim := { program := "ytgjhjdmchlecnaa", sum := "5a374562a01bd948de29e3c17deb6706f56943234297d91aefbd64554c2ee52b", func := "imageeditor/imageeditorlaw13.KernelWeights", spec := "kernelWeights", apart := false }
def KernelWeightsSaid : Prop := kernelWeightsRow.holds Try.pinned (OpenSpec.ofChange kernelWeightsSpec)

/-- ITS FALSE NEIGHBOUR: 'it returns false'. Refute it at one input. -/
def kernelWeightsWrong : ChangeSpec := { name := "kernelWeights", fn := fun _ => fun
  | [d1, d2] => { results := [.lit (.bool false)], args := [d1, d2] }
  | _ => none }
def KernelWeightsWrongFalsely : Prop := kernelWeightsRow.holds Try.pinned (OpenSpec.ofChange kernelWeightsWrong)

/-- 'imageeditorlaw13.KernelTaps': WHATEVER THE INPUT: true; the input reads as it did. -/
def kernelTapsSpec : ChangeSpec := { name := "kernelTaps", fn := fun _ => fun
  | [d1, d2] => { results := [.lit (.bool true)], args := [d1, d2] }
  | _ => none }
def kernelTapsRow : OpenClaim := { program := "ytgjhjdmchlecnaa", sum := "5a374562a01bd948de29e3c17deb6706f56943234297d91aefbd64554c2ee52b", func := "imageeditor/imageeditorlaw13.KernelTaps", spec := "kernelTaps", apart := false }
def KernelTapsSaid : Prop := kernelTapsRow.holds Try.pinned (OpenSpec.ofChange kernelTapsSpec)

/-- ITS FALSE NEIGHBOUR: 'it returns false'. Refute it at one input. -/
def kernelTapsWrong : ChangeSpec := { name := "kernelTaps", fn := fun _ => fun
  | [d1, d2] => { results := [.lit (.bool false)], args := [d1, d2] }
  | _ => none }
def KernelTapsWrongFalsely : Prop := kernelTapsRow.holds Try.pinned (OpenSpec.ofChange kernelTapsWrong)

/-- 'imageeditorlaw13.KernelSums': WHATEVER THE INPUT: true; the input reads as it did. -/
def kernelSumsSpec : ChangeSpec := { name := "kernelSums", fn := fun _ => fun
  | [d1, d2] => { results := [.lit (.bool true)], args := [d1, d2] }
  | _ => none }
def kernelSumsRow : OpenClaim := { program := "ytgjhjdmchlecnaa", sum := "5a374562a01bd948de29e3c17deb6706f56943234297d91aefbd64554c2ee52b", func := "imageeditor/imageeditorlaw13.KernelSums", spec := "kernelSums", apart := false }
def KernelSumsSaid : Prop := kernelSumsRow.holds Try.pinned (OpenSpec.ofChange kernelSumsSpec)

/-- ITS FALSE NEIGHBOUR: 'it returns false'. Refute it at one input. -/
def kernelSumsWrong : ChangeSpec := { name := "kernelSums", fn := fun _ => fun
  | [d1, d2] => { results := [.lit (.bool false)], args := [d1, d2] }
  | _ => none }
def KernelSumsWrongFalsely : Prop := kernelSumsRow.holds Try.pinned (OpenSpec.ofChange kernelSumsWrong)

/-- 'imageeditorlaw13.KernelShifts': WHATEVER THE INPUT: true; the input reads as it did. -/
def kernelShiftsSpec : ChangeSpec := { name := "kernelShifts", fn := fun _ => fun
  | [d1, d2] => { results := [.lit (.bool true)], args := [d1, d2] }
  | _ => none }
def kernelShiftsRow : OpenClaim := { program := "ytgjhjdmchlecnaa", sum := "5a374562a01bd948de29e3c17deb6706f56943234297d91aefbd64554c2ee52b", func := "imageeditor/imageeditorlaw13.KernelShifts", spec := "kernelShifts", apart := false }
def KernelShiftsSaid : Prop := kernelShiftsRow.holds Try.pinned (OpenSpec.ofChange kernelShiftsSpec)

/-- ITS FALSE NEIGHBOUR: 'it returns false'. Refute it at one input. -/
def kernelShiftsWrong : ChangeSpec := { name := "kernelShifts", fn := fun _ => fun
  | [d1, d2] => { results := [.lit (.bool false)], args := [d1, d2] }
  | _ => none }
def KernelShiftsWrongFalsely : Prop := kernelShiftsRow.holds Try.pinned (OpenSpec.ofChange kernelShiftsWrong)

/-- 'imageeditorlaw13.KernelTurns': WHATEVER THE INPUT: true; the input reads as it did. -/
def kernelTurnsSpec : ChangeSpec := { name := "kernelTurns", fn := fun _ => fun
  | [d1, d2] => { results := [.lit (.bool true)], args := [d1, d2] }
  | _ => none }
def kernelTurnsRow : OpenClaim := { program := "ytgjhjdmchlecnaa", sum := "5a374562a01bd948de29e3c17deb6706f56943234297d91aefbd64554c2ee52b", func := "imageeditor/imageeditorlaw13.KernelTurns", spec := "kernelTurns", apart := false }
def KernelTurnsSaid : Prop := kernelTurnsRow.holds Try.pinned (OpenSpec.ofChange kernelTurnsSpec)

/-- ITS FALSE NEIGHBOUR: 'it returns false'. Refute it at one input. -/
def kernelTurnsWrong : ChangeSpec := { name := "kernelTurns", fn := fun _ => fun
  | [d1, d2] => { results := [.lit (.bool false)], args := [d1, d2] }
  | _ => none }
def KernelTurnsWrongFalsely : Prop := kernelTurnsRow.holds Try.pinned (OpenSpec.ofChange kernelTurnsWrong)

/- THE SECOND FORM. 'bulk': how many values and letters a reading holds, each counted each time it is reached (what is shared counts as often as it is met; a slice's spare places count too). A statement '..UptoSaid' is the law's where the arguments, and the package variables that the reading takes, are together of bulk at most 1048576: NARROWER than '..Said'. Prove '..Said' where nothing that the law and all that it calls make is longer than what came in: it says more and counts as full. Else prove '..UptoSaid'. A law counts once. -/
mutual
def uptoBulk {H : Type} : DataW H → Nat
  | .lit (.string bytes) => bytes.length + 1
  | .lit _ => 1
  | .nil => 1
  | .ptr d => uptoBulk d + 1
  | .slice elems spare => uptoBulkAll elems + uptoBulkAll spare + 1
  | .agg parts => uptoBulkAll parts + 1
  | .iface _ d => uptoBulk d + 1
  | .map entries => uptoBulkEntries entries + 1
  | .held _ => 1
def uptoBulkAll {H : Type} : List (DataW H) → Nat
  | [] => 0
  | d :: r => uptoBulk d + uptoBulkAll r
def uptoBulkEntries {H : Type} : List (Lit × DataW H) → Nat
  | [] => 0
  | x :: r => uptoBulkEntry x + uptoBulkEntries r
def uptoBulkEntry {H : Type} : Lit × DataW H → Nat
  | (.string bytes, d) => bytes.length + uptoBulk d + 1
  | (_, d) => uptoBulk d + 1
 end
def uptoSmall : (H : Type) → List (DataW H) → Bool := fun _ ds => decide (uptoBulkAll ds ≤ 1048576)
def OpenSpec.upto (s : _root_.Go.ChangeSpec) : _root_.Go.OpenSpec := { _root_.Go.OpenSpec.ofChange s with cond := some uptoSmall }

/-- 'imageeditorlaw13.KernelWeights', WHERE WHAT IT READS IS OF BULK AT MOST 1048576: true; the input reads as it did. -/
def kernelWeightsUptoRow : OpenClaim := { program := "ytgjhjdmchlecnaa", sum := "5a374562a01bd948de29e3c17deb6706f56943234297d91aefbd64554c2ee52b", func := "imageeditor/imageeditorlaw13.KernelWeights", spec := "kernelWeights", apart := false, narrowed := true }
def KernelWeightsUptoSaid : Prop := kernelWeightsUptoRow.holds Try.pinned (OpenSpec.upto kernelWeightsSpec)

/-- 'imageeditorlaw13.KernelTaps', WHERE WHAT IT READS IS OF BULK AT MOST 1048576: true; the input reads as it did. -/
def kernelTapsUptoRow : OpenClaim := { program := "ytgjhjdmchlecnaa", sum := "5a374562a01bd948de29e3c17deb6706f56943234297d91aefbd64554c2ee52b", func := "imageeditor/imageeditorlaw13.KernelTaps", spec := "kernelTaps", apart := false, narrowed := true }
def KernelTapsUptoSaid : Prop := kernelTapsUptoRow.holds Try.pinned (OpenSpec.upto kernelTapsSpec)

/-- 'imageeditorlaw13.KernelSums', WHERE WHAT IT READS IS OF BULK AT MOST 1048576: true; the input reads as it did. -/
def kernelSumsUptoRow : OpenClaim := { program := "ytgjhjdmchlecnaa", sum := "5a374562a01bd948de29e3c17deb6706f56943234297d91aefbd64554c2ee52b", func := "imageeditor/imageeditorlaw13.KernelSums", spec := "kernelSums", apart := false, narrowed := true }
def KernelSumsUptoSaid : Prop := kernelSumsUptoRow.holds Try.pinned (OpenSpec.upto kernelSumsSpec)

/-- 'imageeditorlaw13.KernelShifts', WHERE WHAT IT READS IS OF BULK AT MOST 1048576: true; the input reads as it did. -/
def kernelShiftsUptoRow : OpenClaim := { program := "ytgjhjdmchlecnaa", sum := "5a374562a01bd948de29e3c17deb6706f56943234297d91aefbd64554c2ee52b", func := "imageeditor/imageeditorlaw13.KernelShifts", spec := "kernelShifts", apart := false, narrowed := true }
def KernelShiftsUptoSaid : Prop := kernelShiftsUptoRow.holds Try.pinned (OpenSpec.upto kernelShiftsSpec)

/-- 'imageeditorlaw13.KernelTurns', WHERE WHAT IT READS IS OF BULK AT MOST 1048576: true; the input reads as it did. -/
def kernelTurnsUptoRow : OpenClaim := { program := "ytgjhjdmchlecnaa", sum := "5a374562a01bd948de29e3c17deb6706f56943234297d91aefbd64554c2ee52b", func := "imageeditor/imageeditorlaw13.KernelTurns", spec := "kernelTurns", apart := false, narrowed := true }
def KernelTurnsUptoSaid : Prop := kernelTurnsUptoRow.holds Try.pinned (OpenSpec.upto kernelTurnsSpec)

end Rows
end Go.Proofs.Ytgjhjdmchlecnaa
