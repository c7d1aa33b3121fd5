/-
  NARROWER THAN 'FOR EVERY INPUT', by the rows' own cells (each row's printed sentence says how): AdjustPixels: laid · AdjustHsls: laid · AdjustTwice: laid · AdjustKeeps: laid · AdjustNear: laid · AdjustChecks: laid · AdjustNothing: laid · AdjustImages: laid · AdjustEach: laid.
  DERIVED. THE GIVEN ROWS OF THIS SEAT. 9 by the template 'for every input the law returns true; each argument reads behind the call as it read before'; 0 by the template 'total and deterministic' (their statements: YtmbglkholoblaaaDoorTotals.lean).
  GIVEN WITH THE SEED: the statements are not yours to turn. If you find one false, say at which input.
  Laid BY PROGRAM, IN A SANDBOX (cutbox-rows.mjs): the forced cells as the released guide's own fill.sh prints them over the translation 21022b824b5a596d… (all of the seat's roots in one cut). By AI agents, Wed Nov 11 2026. No macro, syntax, notation, axiom, sorry.
-/
import Derived.Test.YtmbglkholoblaaaDoorChecked
import GoSem.Claim
import GoSem.ClaimJoined
import GoSem.ClaimMapViews
import Derived.JoinedTies
import Derived.KernelRfl
namespace Go.Proofs.YtmbglkholoblaaaDoor
/- THE CELL 'sum', in the pinned program and in every row, IS THE sha256 OF THE DUMP (.gsa) THAT YtmbglkholoblaaaDoorProg.lean LOADS. Nothing in Lean hashes anything: it is a label: what it is worth is what the hold of that sum in a sandbox is worth. -/
noncomputable def Tryd.pinned : Pinned := { name := "ytmbglkholoblaaadoor", sum := "21022b824b5a596d6733b04fbe105b23ed40f795aaeea5f3b3db4583a6d0498b", checked := Tryd.checked }
namespace Rows
def none {H : Type} : Left H := { results := [], args := [] }

/- WHAT THE LISTED PACKAGE-LEVEL VARIABLES READ AS WHEN THE CALL BEGINS. Each datum BY PROGRAM (the guide's laid-datum.mjs) off the statement by which the dump's own 'gosem.cut.vars' lays the variable. In a bare row this is a premise. The card (YtmbglkholoblaaaDoorCards.lean) ties it to the program's text. -/
def laid_imageeditor_adjust_factors {H : Type} : DataW H := .agg [.lit (.int .i64 65536), .lit (.int .i64 68438), .lit (.int .i64 71468), .lit (.int .i64 74632), .lit (.int .i64 77936), .lit (.int .i64 81386), .lit (.int .i64 84990), .lit (.int .i64 88752), .lit (.int .i64 92682), .lit (.int .i64 96785), .lit (.int .i64 101070), .lit (.int .i64 105545), .lit (.int .i64 110218), .lit (.int .i64 115098), .lit (.int .i64 120194), .lit (.int .i64 125515)]

/-- 'imageeditorlaw17.AdjustPixels': WHATEVER THE INPUT: true; the input reads as it did. -/
def adjustPixelsSpec : ChangeSpec := { name := "adjustPixels", fn := fun _ => fun
  | [d1, d2, d3, d4] => { results := [.lit (.bool true)], args := [d1, d2, d3, d4] }
  | _ => none }
def adjustPixelsRow : OpenClaim := { program := "ytmbglkholoblaaadoor", sum := "21022b824b5a596d6733b04fbe105b23ed40f795aaeea5f3b3db4583a6d0498b", func := "imageeditor/imageeditorlaw17.AdjustPixels", spec := "adjustPixels", unfollowed := true, recurses := true, named := ["imageeditor/adjust.factors"], apart := false, laid := [("imageeditor/adjust.factors", laid_imageeditor_adjust_factors)] }
def AdjustPixelsSaid : Prop := adjustPixelsRow.holds Tryd.pinned (OpenSpec.ofChange adjustPixelsSpec)

/-- ITS FALSE NEIGHBOUR: 'it returns false'. Refute it at one input. -/
def adjustPixelsWrong : ChangeSpec := { name := "adjustPixels", fn := fun _ => fun
  | [d1, d2, d3, d4] => { results := [.lit (.bool false)], args := [d1, d2, d3, d4] }
  | _ => none }
def AdjustPixelsWrongFalsely : Prop := adjustPixelsRow.holds Tryd.pinned (OpenSpec.ofChange adjustPixelsWrong)

/-- 'imageeditorlaw17.AdjustHsls': WHATEVER THE INPUT: true; the input reads as it did. -/
def adjustHslsSpec : ChangeSpec := { name := "adjustHsls", fn := fun _ => fun
  | [d1, d2, d3] => { results := [.lit (.bool true)], args := [d1, d2, d3] }
  | _ => none }
def adjustHslsRow : OpenClaim := { program := "ytmbglkholoblaaadoor", sum := "21022b824b5a596d6733b04fbe105b23ed40f795aaeea5f3b3db4583a6d0498b", func := "imageeditor/imageeditorlaw17.AdjustHsls", spec := "adjustHsls", unfollowed := true, recurses := true, named := ["imageeditor/adjust.factors"], apart := false, laid := [("imageeditor/adjust.factors", laid_imageeditor_adjust_factors)] }
def AdjustHslsSaid : Prop := adjustHslsRow.holds Tryd.pinned (OpenSpec.ofChange adjustHslsSpec)

/-- ITS FALSE NEIGHBOUR: 'it returns false'. Refute it at one input. -/
def adjustHslsWrong : ChangeSpec := { name := "adjustHsls", fn := fun _ => fun
  | [d1, d2, d3] => { results := [.lit (.bool false)], args := [d1, d2, d3] }
  | _ => none }
def AdjustHslsWrongFalsely : Prop := adjustHslsRow.holds Tryd.pinned (OpenSpec.ofChange adjustHslsWrong)

/-- 'imageeditorlaw17.AdjustTwice': WHATEVER THE INPUT: true; the input reads as it did. -/
def adjustTwiceSpec : ChangeSpec := { name := "adjustTwice", fn := fun _ => fun
  | [d1, d2, d3, d4, d5, d6] => { results := [.lit (.bool true)], args := [d1, d2, d3, d4, d5, d6] }
  | _ => none }
def adjustTwiceRow : OpenClaim := { program := "ytmbglkholoblaaadoor", sum := "21022b824b5a596d6733b04fbe105b23ed40f795aaeea5f3b3db4583a6d0498b", func := "imageeditor/imageeditorlaw17.AdjustTwice", spec := "adjustTwice", unfollowed := true, recurses := true, named := ["imageeditor/adjust.factors"], apart := false, laid := [("imageeditor/adjust.factors", laid_imageeditor_adjust_factors)] }
def AdjustTwiceSaid : Prop := adjustTwiceRow.holds Tryd.pinned (OpenSpec.ofChange adjustTwiceSpec)

/-- ITS FALSE NEIGHBOUR: 'it returns false'. Refute it at one input. -/
def adjustTwiceWrong : ChangeSpec := { name := "adjustTwice", fn := fun _ => fun
  | [d1, d2, d3, d4, d5, d6] => { results := [.lit (.bool false)], args := [d1, d2, d3, d4, d5, d6] }
  | _ => none }
def AdjustTwiceWrongFalsely : Prop := adjustTwiceRow.holds Tryd.pinned (OpenSpec.ofChange adjustTwiceWrong)

/-- 'imageeditorlaw17.AdjustKeeps': WHATEVER THE INPUT: true; the input reads as it did. -/
def adjustKeepsSpec : ChangeSpec := { name := "adjustKeeps", fn := fun _ => fun
  | [d1, d2, d3, d4] => { results := [.lit (.bool true)], args := [d1, d2, d3, d4] }
  | _ => none }
def adjustKeepsRow : OpenClaim := { program := "ytmbglkholoblaaadoor", sum := "21022b824b5a596d6733b04fbe105b23ed40f795aaeea5f3b3db4583a6d0498b", func := "imageeditor/imageeditorlaw17.AdjustKeeps", spec := "adjustKeeps", unfollowed := true, recurses := true, named := ["imageeditor/adjust.factors"], apart := false, laid := [("imageeditor/adjust.factors", laid_imageeditor_adjust_factors)] }
def AdjustKeepsSaid : Prop := adjustKeepsRow.holds Tryd.pinned (OpenSpec.ofChange adjustKeepsSpec)

/-- ITS FALSE NEIGHBOUR: 'it returns false'. Refute it at one input. -/
def adjustKeepsWrong : ChangeSpec := { name := "adjustKeeps", fn := fun _ => fun
  | [d1, d2, d3, d4] => { results := [.lit (.bool false)], args := [d1, d2, d3, d4] }
  | _ => none }
def AdjustKeepsWrongFalsely : Prop := adjustKeepsRow.holds Tryd.pinned (OpenSpec.ofChange adjustKeepsWrong)

/-- 'imageeditorlaw17.AdjustNear': WHATEVER THE INPUT: true; the input reads as it did. -/
def adjustNearSpec : ChangeSpec := { name := "adjustNear", fn := fun _ => fun
  | [d] => { results := [.lit (.bool true)], args := [d] }
  | _ => none }
def adjustNearRow : OpenClaim := { program := "ytmbglkholoblaaadoor", sum := "21022b824b5a596d6733b04fbe105b23ed40f795aaeea5f3b3db4583a6d0498b", func := "imageeditor/imageeditorlaw17.AdjustNear", spec := "adjustNear", unfollowed := true, recurses := true, named := ["imageeditor/adjust.factors"], apart := false, laid := [("imageeditor/adjust.factors", laid_imageeditor_adjust_factors)] }
def AdjustNearSaid : Prop := adjustNearRow.holds Tryd.pinned (OpenSpec.ofChange adjustNearSpec)

/-- ITS FALSE NEIGHBOUR: 'it returns false'. Refute it at one input. -/
def adjustNearWrong : ChangeSpec := { name := "adjustNear", fn := fun _ => fun
  | [d] => { results := [.lit (.bool false)], args := [d] }
  | _ => none }
def AdjustNearWrongFalsely : Prop := adjustNearRow.holds Tryd.pinned (OpenSpec.ofChange adjustNearWrong)

/-- 'imageeditorlaw17.AdjustChecks': WHATEVER THE INPUT: true; the input reads as it did. -/
def adjustChecksSpec : ChangeSpec := { name := "adjustChecks", fn := fun _ => fun
  | [d1, d2, d3] => { results := [.lit (.bool true)], args := [d1, d2, d3] }
  | _ => none }
def adjustChecksRow : OpenClaim := { program := "ytmbglkholoblaaadoor", sum := "21022b824b5a596d6733b04fbe105b23ed40f795aaeea5f3b3db4583a6d0498b", func := "imageeditor/imageeditorlaw17.AdjustChecks", spec := "adjustChecks", unfollowed := true, recurses := true, named := ["imageeditor/adjust.factors"], apart := false, laid := [("imageeditor/adjust.factors", laid_imageeditor_adjust_factors)] }
def AdjustChecksSaid : Prop := adjustChecksRow.holds Tryd.pinned (OpenSpec.ofChange adjustChecksSpec)

/-- ITS FALSE NEIGHBOUR: 'it returns false'. Refute it at one input. -/
def adjustChecksWrong : ChangeSpec := { name := "adjustChecks", fn := fun _ => fun
  | [d1, d2, d3] => { results := [.lit (.bool false)], args := [d1, d2, d3] }
  | _ => none }
def AdjustChecksWrongFalsely : Prop := adjustChecksRow.holds Tryd.pinned (OpenSpec.ofChange adjustChecksWrong)

/-- 'imageeditorlaw17.AdjustNothing': WHATEVER THE INPUT: true; the input reads as it did. -/
def adjustNothingSpec : ChangeSpec := { name := "adjustNothing", fn := fun _ => fun
  | [d] => { results := [.lit (.bool true)], args := [d] }
  | _ => none }
def adjustNothingRow : OpenClaim := { program := "ytmbglkholoblaaadoor", sum := "21022b824b5a596d6733b04fbe105b23ed40f795aaeea5f3b3db4583a6d0498b", func := "imageeditor/imageeditorlaw17.AdjustNothing", spec := "adjustNothing", unfollowed := true, recurses := true, named := ["imageeditor/adjust.factors"], apart := false, laid := [("imageeditor/adjust.factors", laid_imageeditor_adjust_factors)] }
def AdjustNothingSaid : Prop := adjustNothingRow.holds Tryd.pinned (OpenSpec.ofChange adjustNothingSpec)

/-- ITS FALSE NEIGHBOUR: 'it returns false'. Refute it at one input. -/
def adjustNothingWrong : ChangeSpec := { name := "adjustNothing", fn := fun _ => fun
  | [d] => { results := [.lit (.bool false)], args := [d] }
  | _ => none }
def AdjustNothingWrongFalsely : Prop := adjustNothingRow.holds Tryd.pinned (OpenSpec.ofChange adjustNothingWrong)

/-- 'imageeditorlaw17.AdjustImages': WHATEVER THE INPUT: true; the input reads as it did. -/
def adjustImagesSpec : ChangeSpec := { name := "adjustImages", fn := fun _ => fun
  | [d1, d2, d3, d4] => { results := [.lit (.bool true)], args := [d1, d2, d3, d4] }
  | _ => none }
def adjustImagesRow : OpenClaim := { program := "ytmbglkholoblaaadoor", sum := "21022b824b5a596d6733b04fbe105b23ed40f795aaeea5f3b3db4583a6d0498b", func := "imageeditor/imageeditorlaw17.AdjustImages", spec := "adjustImages", unfollowed := true, recurses := true, named := ["imageeditor/adjust.factors"], apart := false, laid := [("imageeditor/adjust.factors", laid_imageeditor_adjust_factors)] }
def AdjustImagesSaid : Prop := adjustImagesRow.holds Tryd.pinned (OpenSpec.ofChange adjustImagesSpec)

/-- ITS FALSE NEIGHBOUR: 'it returns false'. Refute it at one input. -/
def adjustImagesWrong : ChangeSpec := { name := "adjustImages", fn := fun _ => fun
  | [d1, d2, d3, d4] => { results := [.lit (.bool false)], args := [d1, d2, d3, d4] }
  | _ => none }
def AdjustImagesWrongFalsely : Prop := adjustImagesRow.holds Tryd.pinned (OpenSpec.ofChange adjustImagesWrong)

/-- 'imageeditorlaw17.AdjustEach': WHATEVER THE INPUT: true; the input reads as it did. -/
def adjustEachSpec : ChangeSpec := { name := "adjustEach", fn := fun _ => fun
  | [d1, d2, d3, d4] => { results := [.lit (.bool true)], args := [d1, d2, d3, d4] }
  | _ => none }
def adjustEachRow : OpenClaim := { program := "ytmbglkholoblaaadoor", sum := "21022b824b5a596d6733b04fbe105b23ed40f795aaeea5f3b3db4583a6d0498b", func := "imageeditor/imageeditorlaw17.AdjustEach", spec := "adjustEach", unfollowed := true, recurses := true, named := ["imageeditor/adjust.factors"], apart := false, laid := [("imageeditor/adjust.factors", laid_imageeditor_adjust_factors)] }
def AdjustEachSaid : Prop := adjustEachRow.holds Tryd.pinned (OpenSpec.ofChange adjustEachSpec)

/-- ITS FALSE NEIGHBOUR: 'it returns false'. Refute it at one input. -/
def adjustEachWrong : ChangeSpec := { name := "adjustEach", fn := fun _ => fun
  | [d1, d2, d3, d4] => { results := [.lit (.bool false)], args := [d1, d2, d3, d4] }
  | _ => none }
def AdjustEachWrongFalsely : Prop := adjustEachRow.holds Tryd.pinned (OpenSpec.ofChange adjustEachWrong)

/- THE SECOND FORM. 'bulk': how many values and letters a reading holds, each counted each time it is reached (what is shared counts as often as it is met; a slice's spare places count too). A statement '..UptoSaid' is the law's where the arguments, and the package variables that the reading takes, are together of bulk at most 1048576: NARROWER than '..Said'. Prove '..Said' where nothing that the law and all that it calls make is longer than what came in: it says more and counts as full. Else prove '..UptoSaid'. A law counts once. -/
mutual
def uptoBulk {H : Type} : DataW H → Nat
  | .lit (.string bytes) => bytes.length + 1
  | .lit _ => 1
  | .nil => 1
  | .ptr d => uptoBulk d + 1
  | .slice elems spare => uptoBulkAll elems + uptoBulkAll spare + 1
  | .agg parts => uptoBulkAll parts + 1
  | .iface _ d => uptoBulk d + 1
  | .map entries => uptoBulkEntries entries + 1
  | .held _ => 1
def uptoBulkAll {H : Type} : List (DataW H) → Nat
  | [] => 0
  | d :: r => uptoBulk d + uptoBulkAll r
def uptoBulkEntries {H : Type} : List (Lit × DataW H) → Nat
  | [] => 0
  | x :: r => uptoBulkEntry x + uptoBulkEntries r
def uptoBulkEntry {H : Type} : Lit × DataW H → Nat
  | (.string bytes, d) => bytes.length + uptoBulk d + 1
  | (_, d) => uptoBulk d + 1
 end
def uptoSmall : (H : Type) → List (DataW H) → Bool := fun _ ds => decide (uptoBulkAll ds ≤ 1048576)
def OpenSpec.upto (s : _root_.Go.ChangeSpec) : _root_.Go.OpenSpec := { _root_.Go.OpenSpec.ofChange s with cond := some uptoSmall }

/-- 'imageeditorlaw17.AdjustPixels', WHERE WHAT IT READS IS OF BULK AT MOST 1048576: true; the input reads as it did. -/
def adjustPixelsUptoRow : OpenClaim := { program := "ytmbglkholoblaaadoor", sum := "21022b824b5a596d6733b04fbe105b23ed40f795aaeea5f3b3db4583a6d0498b", func := "imageeditor/imageeditorlaw17.AdjustPixels", spec := "adjustPixels", unfollowed := true, recurses := true, named := ["imageeditor/adjust.factors"], apart := false, laid := [("imageeditor/adjust.factors", laid_imageeditor_adjust_factors)], narrowed := true }
def AdjustPixelsUptoSaid : Prop := adjustPixelsUptoRow.holds Tryd.pinned (OpenSpec.upto adjustPixelsSpec)

/-- 'imageeditorlaw17.AdjustHsls', WHERE WHAT IT READS IS OF BULK AT MOST 1048576: true; the input reads as it did. -/
def adjustHslsUptoRow : OpenClaim := { program := "ytmbglkholoblaaadoor", sum := "21022b824b5a596d6733b04fbe105b23ed40f795aaeea5f3b3db4583a6d0498b", func := "imageeditor/imageeditorlaw17.AdjustHsls", spec := "adjustHsls", unfollowed := true, recurses := true, named := ["imageeditor/adjust.factors"], apart := false, laid := [("imageeditor/adjust.factors", laid_imageeditor_adjust_factors)], narrowed := true }
def AdjustHslsUptoSaid : Prop := adjustHslsUptoRow.holds Tryd.pinned (OpenSpec.upto adjustHslsSpec)

/-- 'imageeditorlaw17.AdjustTwice', WHERE WHAT IT READS IS OF BULK AT MOST 1048576: true; the input reads as it did. -/
def adjustTwiceUptoRow : OpenClaim := { program := "ytmbglkholoblaaadoor", sum := "21022b824b5a596d6733b04fbe105b23ed40f795aaeea5f3b3db4583a6d0498b", func := "imageeditor/imageeditorlaw17.AdjustTwice", spec := "adjustTwice", unfollowed := true, recurses := true, named := ["imageeditor/adjust.factors"], apart := false, laid := [("imageeditor/adjust.factors", laid_imageeditor_adjust_factors)], narrowed := true }
def AdjustTwiceUptoSaid : Prop := adjustTwiceUptoRow.holds Tryd.pinned (OpenSpec.upto adjustTwiceSpec)

/-- 'imageeditorlaw17.AdjustKeeps', WHERE WHAT IT READS IS OF BULK AT MOST 1048576: true; the input reads as it did. -/
def adjustKeepsUptoRow : OpenClaim := { program := "ytmbglkholoblaaadoor", sum := "21022b824b5a596d6733b04fbe105b23ed40f795aaeea5f3b3db4583a6d0498b", func := "imageeditor/imageeditorlaw17.AdjustKeeps", spec := "adjustKeeps", unfollowed := true, recurses := true, named := ["imageeditor/adjust.factors"], apart := false, laid := [("imageeditor/adjust.factors", laid_imageeditor_adjust_factors)], narrowed := true }
def AdjustKeepsUptoSaid : Prop := adjustKeepsUptoRow.holds Tryd.pinned (OpenSpec.upto adjustKeepsSpec)

/-- 'imageeditorlaw17.AdjustNear', WHERE WHAT IT READS IS OF BULK AT MOST 1048576: true; the input reads as it did. -/
def adjustNearUptoRow : OpenClaim := { program := "ytmbglkholoblaaadoor", sum := "21022b824b5a596d6733b04fbe105b23ed40f795aaeea5f3b3db4583a6d0498b", func := "imageeditor/imageeditorlaw17.AdjustNear", spec := "adjustNear", unfollowed := true, recurses := true, named := ["imageeditor/adjust.factors"], apart := false, laid := [("imageeditor/adjust.factors", laid_imageeditor_adjust_factors)], narrowed := true }
def AdjustNearUptoSaid : Prop := adjustNearUptoRow.holds Tryd.pinned (OpenSpec.upto adjustNearSpec)

/-- 'imageeditorlaw17.AdjustChecks', WHERE WHAT IT READS IS OF BULK AT MOST 1048576: true; the input reads as it did. -/
def adjustChecksUptoRow : OpenClaim := { program := "ytmbglkholoblaaadoor", sum := "21022b824b5a596d6733b04fbe105b23ed40f795aaeea5f3b3db4583a6d0498b", func := "imageeditor/imageeditorlaw17.AdjustChecks", spec := "adjustChecks", unfollowed := true, recurses := true, named := ["imageeditor/adjust.factors"], apart := false, laid := [("imageeditor/adjust.factors", laid_imageeditor_adjust_factors)], narrowed := true }
def AdjustChecksUptoSaid : Prop := adjustChecksUptoRow.holds Tryd.pinned (OpenSpec.upto adjustChecksSpec)

/-- 'imageeditorlaw17.AdjustNothing', WHERE WHAT IT READS IS OF BULK AT MOST 1048576: true; the input reads as it did. -/
def adjustNothingUptoRow : OpenClaim := { program := "ytmbglkholoblaaadoor", sum := "21022b824b5a596d6733b04fbe105b23ed40f795aaeea5f3b3db4583a6d0498b", func := "imageeditor/imageeditorlaw17.AdjustNothing", spec := "adjustNothing", unfollowed := true, recurses := true, named := ["imageeditor/adjust.factors"], apart := false, laid := [("imageeditor/adjust.factors", laid_imageeditor_adjust_factors)], narrowed := true }
def AdjustNothingUptoSaid : Prop := adjustNothingUptoRow.holds Tryd.pinned (OpenSpec.upto adjustNothingSpec)

/-- 'imageeditorlaw17.AdjustImages', WHERE WHAT IT READS IS OF BULK AT MOST 1048576: true; the input reads as it did. -/
def adjustImagesUptoRow : OpenClaim := { program := "ytmbglkholoblaaadoor", sum := "21022b824b5a596d6733b04fbe105b23ed40f795aaeea5f3b3db4583a6d0498b", func := "imageeditor/imageeditorlaw17.AdjustImages", spec := "adjustImages", unfollowed := true, recurses := true, named := ["imageeditor/adjust.factors"], apart := false, laid := [("imageeditor/adjust.factors", laid_imageeditor_adjust_factors)], narrowed := true }
def AdjustImagesUptoSaid : Prop := adjustImagesUptoRow.holds Tryd.pinned (OpenSpec.upto adjustImagesSpec)

/-- 'imageeditorlaw17.AdjustEach', WHERE WHAT IT READS IS OF BULK AT MOST 1048576: true; the input reads as it did. -/
def adjustEachUptoRow : OpenClaim := { program := "ytmbglkholoblaaadoor", sum := "21022b824b5a596d6733b04fbe105b23ed40f795aaeea5f3b3db4583a6d0498b", func := "imageeditor/imageeditorlaw17.AdjustEach", spec := "adjustEach", unfollowed := true, recurses := true, named := ["imageeditor/adjust.factors"], apart := false, laid := [("imageeditor/adjust.factors", laid_imageeditor_adjust_factors)], narrowed := true }
def AdjustEachUptoSaid : Prop := adjustEachUptoRow.holds Tryd.pinned (OpenSpec.upto adjustEachSpec)

end Rows
end Go.Proofs.YtmbglkholoblaaaDoor
