/-
  NARROWER THAN 'FOR EVERY INPUT', by the rows' own cells (each row's printed sentence says how): AffineApplies: laid · AffineMakes: laid · AffineThens: laid · AffineInverts: laid · AffineNeutral: laid · AffineComposes: laid · AffineReturns: laid · AffineContains: laid.
  DERIVED. THE GIVEN ROWS OF THIS SEAT. 8 by the template 'for every input the law returns true; each argument reads behind the call as it read before'; 0 by the template 'total and deterministic' (their statements: YtanlnigebbcajaaDoorTotals.lean).
  GIVEN WITH THE SEED: the statements are not yours to turn. If you find one false, say at which input.
  Laid BY PROGRAM, IN A SANDBOX (cutbox-rows.mjs): the forced cells as the released guide's own fill.sh prints them over the translation 51bbd069fcaa9af2… (all of the seat's roots in one cut). By AI agents, Wed Nov 11 2026. No macro, syntax, notation, axiom, sorry.
-/
import Derived.Test.YtanlnigebbcajaaDoorChecked
import GoSem.Claim
import GoSem.ClaimJoined
import GoSem.ClaimMapViews
import Derived.JoinedTies
import Derived.KernelRfl
namespace Go.Proofs.YtanlnigebbcajaaDoor
/- THE CELL 'sum', in the pinned program and in every row, IS THE sha256 OF THE DUMP (.gsa) THAT YtanlnigebbcajaaDoorProg.lean LOADS. Nothing in Lean hashes anything: it is a label: what it is worth is what the hold of that sum in a sandbox is worth. -/
noncomputable def Tryd.pinned : Pinned := { name := "ytanlnigebbcajaadoor", sum := "51bbd069fcaa9af2f723fd10be7e6dec87965e60ed4e73f9530b488d40dcd11f", checked := Tryd.checked }
namespace Rows
def none {H : Type} : Left H := { results := [], args := [] }

/- WHAT THE LISTED PACKAGE-LEVEL VARIABLES READ AS WHEN THE CALL BEGINS. Each datum BY PROGRAM (the guide's laid-datum.mjs) off the statement by which the dump's own 'gosem.cut.vars' lays the variable. In a bare row this is a premise. The card (YtanlnigebbcajaaDoorCards.lean) ties it to the program's text. -/
def laid_imageeditor_num_sines {H : Type} : DataW H := .agg [.lit (.int .i64 0), .lit (.int .i64 1608), .lit (.int .i64 3216), .lit (.int .i64 4821), .lit (.int .i64 6424), .lit (.int .i64 8022), .lit (.int .i64 9616), .lit (.int .i64 11204), .lit (.int .i64 12785), .lit (.int .i64 14359), .lit (.int .i64 15924), .lit (.int .i64 17479), .lit (.int .i64 19024), .lit (.int .i64 20557), .lit (.int .i64 22078), .lit (.int .i64 23586), .lit (.int .i64 25080), .lit (.int .i64 26558), .lit (.int .i64 28020), .lit (.int .i64 29466), .lit (.int .i64 30893), .lit (.int .i64 32303), .lit (.int .i64 33692), .lit (.int .i64 35062), .lit (.int .i64 36410), .lit (.int .i64 37736), .lit (.int .i64 39040), .lit (.int .i64 40320), .lit (.int .i64 41576), .lit (.int .i64 42806), .lit (.int .i64 44011), .lit (.int .i64 45190), .lit (.int .i64 46341), .lit (.int .i64 47464), .lit (.int .i64 48559), .lit (.int .i64 49624), .lit (.int .i64 50660), .lit (.int .i64 51665), .lit (.int .i64 52639), .lit (.int .i64 53581), .lit (.int .i64 54491), .lit (.int .i64 55368), .lit (.int .i64 56212), .lit (.int .i64 57022), .lit (.int .i64 57798), .lit (.int .i64 58538), .lit (.int .i64 59244), .lit (.int .i64 59914), .lit (.int .i64 60547), .lit (.int .i64 61145), .lit (.int .i64 61705), .lit (.int .i64 62228), .lit (.int .i64 62714), .lit (.int .i64 63162), .lit (.int .i64 63572), .lit (.int .i64 63944), .lit (.int .i64 64277), .lit (.int .i64 64571), .lit (.int .i64 64827), .lit (.int .i64 65043), .lit (.int .i64 65220), .lit (.int .i64 65358), .lit (.int .i64 65457), .lit (.int .i64 65516), .lit (.int .i64 65536)]

/-- 'imageeditorlaw12.AffineApplies': WHATEVER THE INPUT: true; the input reads as it did. -/
def affineAppliesSpec : ChangeSpec := { name := "affineApplies", fn := fun _ => fun
  | [d1, d2] => { results := [.lit (.bool true)], args := [d1, d2] }
  | _ => none }
def affineAppliesRow : OpenClaim := { program := "ytanlnigebbcajaadoor", sum := "51bbd069fcaa9af2f723fd10be7e6dec87965e60ed4e73f9530b488d40dcd11f", func := "imageeditor/imageeditorlaw12.AffineApplies", spec := "affineApplies", named := ["imageeditor/num.sines"], apart := false, laid := [("imageeditor/num.sines", laid_imageeditor_num_sines)] }
def AffineAppliesSaid : Prop := affineAppliesRow.holds Tryd.pinned (OpenSpec.ofChange affineAppliesSpec)

/-- ITS FALSE NEIGHBOUR: 'it returns false'. Refute it at one input. -/
def affineAppliesWrong : ChangeSpec := { name := "affineApplies", fn := fun _ => fun
  | [d1, d2] => { results := [.lit (.bool false)], args := [d1, d2] }
  | _ => none }
def AffineAppliesWrongFalsely : Prop := affineAppliesRow.holds Tryd.pinned (OpenSpec.ofChange affineAppliesWrong)

/-- 'imageeditorlaw12.AffineMakes': WHATEVER THE INPUT: true; the input reads as it did. -/
def affineMakesSpec : ChangeSpec := { name := "affineMakes", fn := fun _ => fun
  | [d1, d2, d3] => { results := [.lit (.bool true)], args := [d1, d2, d3] }
  | _ => none }
def affineMakesRow : OpenClaim := { program := "ytanlnigebbcajaadoor", sum := "51bbd069fcaa9af2f723fd10be7e6dec87965e60ed4e73f9530b488d40dcd11f", func := "imageeditor/imageeditorlaw12.AffineMakes", spec := "affineMakes", named := ["imageeditor/num.sines"], apart := false, laid := [("imageeditor/num.sines", laid_imageeditor_num_sines)] }
def AffineMakesSaid : Prop := affineMakesRow.holds Tryd.pinned (OpenSpec.ofChange affineMakesSpec)

/-- ITS FALSE NEIGHBOUR: 'it returns false'. Refute it at one input. -/
def affineMakesWrong : ChangeSpec := { name := "affineMakes", fn := fun _ => fun
  | [d1, d2, d3] => { results := [.lit (.bool false)], args := [d1, d2, d3] }
  | _ => none }
def AffineMakesWrongFalsely : Prop := affineMakesRow.holds Tryd.pinned (OpenSpec.ofChange affineMakesWrong)

/-- 'imageeditorlaw12.AffineThens': WHATEVER THE INPUT: true; the input reads as it did. -/
def affineThensSpec : ChangeSpec := { name := "affineThens", fn := fun _ => fun
  | [d1, d2] => { results := [.lit (.bool true)], args := [d1, d2] }
  | _ => none }
def affineThensRow : OpenClaim := { program := "ytanlnigebbcajaadoor", sum := "51bbd069fcaa9af2f723fd10be7e6dec87965e60ed4e73f9530b488d40dcd11f", func := "imageeditor/imageeditorlaw12.AffineThens", spec := "affineThens", named := ["imageeditor/num.sines"], apart := false, laid := [("imageeditor/num.sines", laid_imageeditor_num_sines)] }
def AffineThensSaid : Prop := affineThensRow.holds Tryd.pinned (OpenSpec.ofChange affineThensSpec)

/-- ITS FALSE NEIGHBOUR: 'it returns false'. Refute it at one input. -/
def affineThensWrong : ChangeSpec := { name := "affineThens", fn := fun _ => fun
  | [d1, d2] => { results := [.lit (.bool false)], args := [d1, d2] }
  | _ => none }
def AffineThensWrongFalsely : Prop := affineThensRow.holds Tryd.pinned (OpenSpec.ofChange affineThensWrong)

/-- 'imageeditorlaw12.AffineInverts': WHATEVER THE INPUT: true; the input reads as it did. -/
def affineInvertsSpec : ChangeSpec := { name := "affineInverts", fn := fun _ => fun
  | [d1, d2] => { results := [.lit (.bool true)], args := [d1, d2] }
  | _ => none }
def affineInvertsRow : OpenClaim := { program := "ytanlnigebbcajaadoor", sum := "51bbd069fcaa9af2f723fd10be7e6dec87965e60ed4e73f9530b488d40dcd11f", func := "imageeditor/imageeditorlaw12.AffineInverts", spec := "affineInverts", named := ["imageeditor/num.sines"], apart := false, laid := [("imageeditor/num.sines", laid_imageeditor_num_sines)] }
def AffineInvertsSaid : Prop := affineInvertsRow.holds Tryd.pinned (OpenSpec.ofChange affineInvertsSpec)

/-- ITS FALSE NEIGHBOUR: 'it returns false'. Refute it at one input. -/
def affineInvertsWrong : ChangeSpec := { name := "affineInverts", fn := fun _ => fun
  | [d1, d2] => { results := [.lit (.bool false)], args := [d1, d2] }
  | _ => none }
def AffineInvertsWrongFalsely : Prop := affineInvertsRow.holds Tryd.pinned (OpenSpec.ofChange affineInvertsWrong)

/-- 'imageeditorlaw12.AffineNeutral': WHATEVER THE INPUT: true; the input reads as it did. -/
def affineNeutralSpec : ChangeSpec := { name := "affineNeutral", fn := fun _ => fun
  | [d1, d2, d3, d4] => { results := [.lit (.bool true)], args := [d1, d2, d3, d4] }
  | _ => none }
def affineNeutralRow : OpenClaim := { program := "ytanlnigebbcajaadoor", sum := "51bbd069fcaa9af2f723fd10be7e6dec87965e60ed4e73f9530b488d40dcd11f", func := "imageeditor/imageeditorlaw12.AffineNeutral", spec := "affineNeutral", named := ["imageeditor/num.sines"], apart := false, laid := [("imageeditor/num.sines", laid_imageeditor_num_sines)] }
def AffineNeutralSaid : Prop := affineNeutralRow.holds Tryd.pinned (OpenSpec.ofChange affineNeutralSpec)

/-- ITS FALSE NEIGHBOUR: 'it returns false'. Refute it at one input. -/
def affineNeutralWrong : ChangeSpec := { name := "affineNeutral", fn := fun _ => fun
  | [d1, d2, d3, d4] => { results := [.lit (.bool false)], args := [d1, d2, d3, d4] }
  | _ => none }
def AffineNeutralWrongFalsely : Prop := affineNeutralRow.holds Tryd.pinned (OpenSpec.ofChange affineNeutralWrong)

/-- 'imageeditorlaw12.AffineComposes': WHATEVER THE INPUT: true; the input reads as it did. -/
def affineComposesSpec : ChangeSpec := { name := "affineComposes", fn := fun _ => fun
  | [d1, d2, d3] => { results := [.lit (.bool true)], args := [d1, d2, d3] }
  | _ => none }
def affineComposesRow : OpenClaim := { program := "ytanlnigebbcajaadoor", sum := "51bbd069fcaa9af2f723fd10be7e6dec87965e60ed4e73f9530b488d40dcd11f", func := "imageeditor/imageeditorlaw12.AffineComposes", spec := "affineComposes", named := ["imageeditor/num.sines"], apart := false, laid := [("imageeditor/num.sines", laid_imageeditor_num_sines)] }
def AffineComposesSaid : Prop := affineComposesRow.holds Tryd.pinned (OpenSpec.ofChange affineComposesSpec)

/-- ITS FALSE NEIGHBOUR: 'it returns false'. Refute it at one input. -/
def affineComposesWrong : ChangeSpec := { name := "affineComposes", fn := fun _ => fun
  | [d1, d2, d3] => { results := [.lit (.bool false)], args := [d1, d2, d3] }
  | _ => none }
def AffineComposesWrongFalsely : Prop := affineComposesRow.holds Tryd.pinned (OpenSpec.ofChange affineComposesWrong)

/-- 'imageeditorlaw12.AffineReturns': WHATEVER THE INPUT: true; the input reads as it did. -/
def affineReturnsSpec : ChangeSpec := { name := "affineReturns", fn := fun _ => fun
  | [d1, d2] => { results := [.lit (.bool true)], args := [d1, d2] }
  | _ => none }
def affineReturnsRow : OpenClaim := { program := "ytanlnigebbcajaadoor", sum := "51bbd069fcaa9af2f723fd10be7e6dec87965e60ed4e73f9530b488d40dcd11f", func := "imageeditor/imageeditorlaw12.AffineReturns", spec := "affineReturns", named := ["imageeditor/num.sines"], apart := false, laid := [("imageeditor/num.sines", laid_imageeditor_num_sines)] }
def AffineReturnsSaid : Prop := affineReturnsRow.holds Tryd.pinned (OpenSpec.ofChange affineReturnsSpec)

/-- ITS FALSE NEIGHBOUR: 'it returns false'. Refute it at one input. -/
def affineReturnsWrong : ChangeSpec := { name := "affineReturns", fn := fun _ => fun
  | [d1, d2] => { results := [.lit (.bool false)], args := [d1, d2] }
  | _ => none }
def AffineReturnsWrongFalsely : Prop := affineReturnsRow.holds Tryd.pinned (OpenSpec.ofChange affineReturnsWrong)

/-- 'imageeditorlaw12.AffineContains': WHATEVER THE INPUT: true; the input reads as it did. -/
def affineContainsSpec : ChangeSpec := { name := "affineContains", fn := fun _ => fun
  | [d1, d2, d3] => { results := [.lit (.bool true)], args := [d1, d2, d3] }
  | _ => none }
def affineContainsRow : OpenClaim := { program := "ytanlnigebbcajaadoor", sum := "51bbd069fcaa9af2f723fd10be7e6dec87965e60ed4e73f9530b488d40dcd11f", func := "imageeditor/imageeditorlaw12.AffineContains", spec := "affineContains", named := ["imageeditor/num.sines"], apart := false, laid := [("imageeditor/num.sines", laid_imageeditor_num_sines)] }
def AffineContainsSaid : Prop := affineContainsRow.holds Tryd.pinned (OpenSpec.ofChange affineContainsSpec)

/-- ITS FALSE NEIGHBOUR: 'it returns false'. Refute it at one input. -/
def affineContainsWrong : ChangeSpec := { name := "affineContains", fn := fun _ => fun
  | [d1, d2, d3] => { results := [.lit (.bool false)], args := [d1, d2, d3] }
  | _ => none }
def AffineContainsWrongFalsely : Prop := affineContainsRow.holds Tryd.pinned (OpenSpec.ofChange affineContainsWrong)

/- THE SECOND FORM. 'bulk': how many values and letters a reading holds, each counted each time it is reached (what is shared counts as often as it is met; a slice's spare places count too). A statement '..UptoSaid' is the law's where the arguments, and the package variables that the reading takes, are together of bulk at most 1048576: NARROWER than '..Said'. Prove '..Said' where nothing that the law and all that it calls make is longer than what came in: it says more and counts as full. Else prove '..UptoSaid'. A law counts once. -/
mutual
def uptoBulk {H : Type} : DataW H → Nat
  | .lit (.string bytes) => bytes.length + 1
  | .lit _ => 1
  | .nil => 1
  | .ptr d => uptoBulk d + 1
  | .slice elems spare => uptoBulkAll elems + uptoBulkAll spare + 1
  | .agg parts => uptoBulkAll parts + 1
  | .iface _ d => uptoBulk d + 1
  | .map entries => uptoBulkEntries entries + 1
  | .held _ => 1
def uptoBulkAll {H : Type} : List (DataW H) → Nat
  | [] => 0
  | d :: r => uptoBulk d + uptoBulkAll r
def uptoBulkEntries {H : Type} : List (Lit × DataW H) → Nat
  | [] => 0
  | x :: r => uptoBulkEntry x + uptoBulkEntries r
def uptoBulkEntry {H : Type} : Lit × DataW H → Nat
  | (.string bytes, d) => bytes.length + uptoBulk d + 1
  | (_, d) => uptoBulk d + 1
 end
def uptoSmall : (H : Type) → List (DataW H) → Bool := fun _ ds => decide (uptoBulkAll ds ≤ 1048576)
def OpenSpec.upto (s : _root_.Go.ChangeSpec) : _root_.Go.OpenSpec := { _root_.Go.OpenSpec.ofChange s with cond := some uptoSmall }

/-- 'imageeditorlaw12.AffineApplies', WHERE WHAT IT READS IS OF BULK AT MOST 1048576: true; the input reads as it did. -/
def affineAppliesUptoRow : OpenClaim := { program := "ytanlnigebbcajaadoor", sum := "51bbd069fcaa9af2f723fd10be7e6dec87965e60ed4e73f9530b488d40dcd11f", func := "imageeditor/imageeditorlaw12.AffineApplies", spec := "affineApplies", named := ["imageeditor/num.sines"], apart := false, laid := [("imageeditor/num.sines", laid_imageeditor_num_sines)], narrowed := true }
def AffineAppliesUptoSaid : Prop := affineAppliesUptoRow.holds Tryd.pinned (OpenSpec.upto affineAppliesSpec)

/-- 'imageeditorlaw12.AffineMakes', WHERE WHAT IT READS IS OF BULK AT MOST 1048576: true; the input reads as it did. -/
def affineMakesUptoRow : OpenClaim := { program := "ytanlnigebbcajaadoor", sum := "51bbd069fcaa9af2f723fd10be7e6dec87965e60ed4e73f9530b488d40dcd11f", func := "imageeditor/imageeditorlaw12.AffineMakes", spec := "affineMakes", named := ["imageeditor/num.sines"], apart := false, laid := [("imageeditor/num.sines", laid_imageeditor_num_sines)], narrowed := true }
def AffineMakesUptoSaid : Prop := affineMakesUptoRow.holds Tryd.pinned (OpenSpec.upto affineMakesSpec)

/-- 'imageeditorlaw12.AffineThens', WHERE WHAT IT READS IS OF BULK AT MOST 1048576: true; the input reads as it did. -/
def affineThensUptoRow : OpenClaim := { program := "ytanlnigebbcajaadoor", sum := "51bbd069fcaa9af2f723fd10be7e6dec87965e60ed4e73f9530b488d40dcd11f", func := "imageeditor/imageeditorlaw12.AffineThens", spec := "affineThens", named := ["imageeditor/num.sines"], apart := false, laid := [("imageeditor/num.sines", laid_imageeditor_num_sines)], narrowed := true }
def AffineThensUptoSaid : Prop := affineThensUptoRow.holds Tryd.pinned (OpenSpec.upto affineThensSpec)

/-- 'imageeditorlaw12.AffineInverts', WHERE WHAT IT READS IS OF BULK AT MOST 1048576: true; the input reads as it did. -/
def affineInvertsUptoRow : OpenClaim := { program := "ytanlnigebbcajaadoor", sum := "51bbd069fcaa9af2f723fd10be7e6dec87965e60ed4e73f9530b488d40dcd11f", func := "imageeditor/imageeditorlaw12.AffineInverts", spec := "affineInverts", named := ["imageeditor/num.sines"], apart := false, laid := [("imageeditor/num.sines", laid_imageeditor_num_sines)], narrowed := true }
def AffineInvertsUptoSaid : Prop := affineInvertsUptoRow.holds Tryd.pinned (OpenSpec.upto affineInvertsSpec)

/-- 'imageeditorlaw12.AffineNeutral', WHERE WHAT IT READS IS OF BULK AT MOST 1048576: true; the input reads as it did. -/
def affineNeutralUptoRow : OpenClaim := { program := "ytanlnigebbcajaadoor", sum := "51bbd069fcaa9af2f723fd10be7e6dec87965e60ed4e73f9530b488d40dcd11f", func := "imageeditor/imageeditorlaw12.AffineNeutral", spec := "affineNeutral", named := ["imageeditor/num.sines"], apart := false, laid := [("imageeditor/num.sines", laid_imageeditor_num_sines)], narrowed := true }
def AffineNeutralUptoSaid : Prop := affineNeutralUptoRow.holds Tryd.pinned (OpenSpec.upto affineNeutralSpec)

/-- 'imageeditorlaw12.AffineComposes', WHERE WHAT IT READS IS OF BULK AT MOST 1048576: true; the input reads as it did. -/
def affineComposesUptoRow : OpenClaim := { program := "ytanlnigebbcajaadoor", sum := "51bbd069fcaa9af2f723fd10be7e6dec87965e60ed4e73f9530b488d40dcd11f", func := "imageeditor/imageeditorlaw12.AffineComposes", spec := "affineComposes", named := ["imageeditor/num.sines"], apart := false, laid := [("imageeditor/num.sines", laid_imageeditor_num_sines)], narrowed := true }
def AffineComposesUptoSaid : Prop := affineComposesUptoRow.holds Tryd.pinned (OpenSpec.upto affineComposesSpec)

/-- 'imageeditorlaw12.AffineReturns', WHERE WHAT IT READS IS OF BULK AT MOST 1048576: true; the input reads as it did. -/
def affineReturnsUptoRow : OpenClaim := { program := "ytanlnigebbcajaadoor", sum := "51bbd069fcaa9af2f723fd10be7e6dec87965e60ed4e73f9530b488d40dcd11f", func := "imageeditor/imageeditorlaw12.AffineReturns", spec := "affineReturns", named := ["imageeditor/num.sines"], apart := false, laid := [("imageeditor/num.sines", laid_imageeditor_num_sines)], narrowed := true }
def AffineReturnsUptoSaid : Prop := affineReturnsUptoRow.holds Tryd.pinned (OpenSpec.upto affineReturnsSpec)

/-- 'imageeditorlaw12.AffineContains', WHERE WHAT IT READS IS OF BULK AT MOST 1048576: true; the input reads as it did. -/
def affineContainsUptoRow : OpenClaim := { program := "ytanlnigebbcajaadoor", sum := "51bbd069fcaa9af2f723fd10be7e6dec87965e60ed4e73f9530b488d40dcd11f", func := "imageeditor/imageeditorlaw12.AffineContains", spec := "affineContains", named := ["imageeditor/num.sines"], apart := false, laid := [("imageeditor/num.sines", laid_imageeditor_num_sines)], narrowed := true }
def AffineContainsUptoSaid : Prop := affineContainsUptoRow.holds Tryd.pinned (OpenSpec.upto affineContainsSpec)

end Rows
end Go.Proofs.YtanlnigebbcajaaDoor
