/-
  DERIVED. GIVEN WITH THE SEED: THE CARDS: each row of YtmbglkholoblaaaDoorRows.lean that lists a variable, with what it lists TIED to the program's text (the seventh form; the later family's looks); each row that meets fmt, with fmt's text TOLD by the authors' own Lean function (tested against real Go, not proved from fmt's source: count such statements apart). THE CARD IS WHAT COUNTS. Prove the row's statement (the work); the ties are given (YtmbglkholoblaaaDoorTie.lean); close each card by the builder's one call (the guide's Derived/Test/ToyasCard.lean, 'card_holds'). Laid BY PROGRAM, IN A SANDBOX (cutbox-door.mjs). By AI agents, Wed Nov 11 2026. No macro, syntax, notation, axiom, sorry.
-/
import Derived.Test.YtmbglkholoblaaaDoorRows
import GoSem.ClaimSeven
namespace Go.Proofs.YtmbglkholoblaaaDoor
namespace Rows

/-- THE TIED CARD OF 'imageeditorlaw17.AdjustPixels'. -/
def adjustPixelsCard : Claim7 := { stood := { row := adjustPixelsRow, standIns := [], harness := (true, "e77acda75f89801de918de2d7bee388617bff18d730271eaac0343e1db93eb3b"), looks := false }, kinds := [], alts := [], laidByText := true, laidKinds := [.data], laidTests := true, laidLooks := .later }
def AdjustPixelsCardSaid : Prop := Claim7.holds Tryd.pinned (.plain (OpenSpec.ofChange adjustPixelsSpec)) adjustPixelsCard

/-- THE TIED CARD OF 'imageeditorlaw17.AdjustHsls'. -/
def adjustHslsCard : Claim7 := { stood := { row := adjustHslsRow, standIns := [], harness := (true, "e77acda75f89801de918de2d7bee388617bff18d730271eaac0343e1db93eb3b"), looks := false }, kinds := [], alts := [], laidByText := true, laidKinds := [.data], laidTests := true, laidLooks := .later }
def AdjustHslsCardSaid : Prop := Claim7.holds Tryd.pinned (.plain (OpenSpec.ofChange adjustHslsSpec)) adjustHslsCard

/-- THE TIED CARD OF 'imageeditorlaw17.AdjustTwice'. -/
def adjustTwiceCard : Claim7 := { stood := { row := adjustTwiceRow, standIns := [], harness := (true, "e77acda75f89801de918de2d7bee388617bff18d730271eaac0343e1db93eb3b"), looks := false }, kinds := [], alts := [], laidByText := true, laidKinds := [.data], laidTests := true, laidLooks := .later }
def AdjustTwiceCardSaid : Prop := Claim7.holds Tryd.pinned (.plain (OpenSpec.ofChange adjustTwiceSpec)) adjustTwiceCard

/-- THE TIED CARD OF 'imageeditorlaw17.AdjustKeeps'. -/
def adjustKeepsCard : Claim7 := { stood := { row := adjustKeepsRow, standIns := [], harness := (true, "e77acda75f89801de918de2d7bee388617bff18d730271eaac0343e1db93eb3b"), looks := false }, kinds := [], alts := [], laidByText := true, laidKinds := [.data], laidTests := true, laidLooks := .later }
def AdjustKeepsCardSaid : Prop := Claim7.holds Tryd.pinned (.plain (OpenSpec.ofChange adjustKeepsSpec)) adjustKeepsCard

/-- THE TIED CARD OF 'imageeditorlaw17.AdjustNear'. -/
def adjustNearCard : Claim7 := { stood := { row := adjustNearRow, standIns := [], harness := (true, "e77acda75f89801de918de2d7bee388617bff18d730271eaac0343e1db93eb3b"), looks := false }, kinds := [], alts := [], laidByText := true, laidKinds := [.data], laidTests := true, laidLooks := .later }
def AdjustNearCardSaid : Prop := Claim7.holds Tryd.pinned (.plain (OpenSpec.ofChange adjustNearSpec)) adjustNearCard

/-- THE TIED CARD OF 'imageeditorlaw17.AdjustChecks'. -/
def adjustChecksCard : Claim7 := { stood := { row := adjustChecksRow, standIns := [], harness := (true, "e77acda75f89801de918de2d7bee388617bff18d730271eaac0343e1db93eb3b"), looks := false }, kinds := [], alts := [], laidByText := true, laidKinds := [.data], laidTests := true, laidLooks := .later }
def AdjustChecksCardSaid : Prop := Claim7.holds Tryd.pinned (.plain (OpenSpec.ofChange adjustChecksSpec)) adjustChecksCard

/-- THE TIED CARD OF 'imageeditorlaw17.AdjustNothing'. -/
def adjustNothingCard : Claim7 := { stood := { row := adjustNothingRow, standIns := [], harness := (true, "e77acda75f89801de918de2d7bee388617bff18d730271eaac0343e1db93eb3b"), looks := false }, kinds := [], alts := [], laidByText := true, laidKinds := [.data], laidTests := true, laidLooks := .later }
def AdjustNothingCardSaid : Prop := Claim7.holds Tryd.pinned (.plain (OpenSpec.ofChange adjustNothingSpec)) adjustNothingCard

/-- THE TIED CARD OF 'imageeditorlaw17.AdjustImages'. -/
def adjustImagesCard : Claim7 := { stood := { row := adjustImagesRow, standIns := [], harness := (true, "e77acda75f89801de918de2d7bee388617bff18d730271eaac0343e1db93eb3b"), looks := false }, kinds := [], alts := [], laidByText := true, laidKinds := [.data], laidTests := true, laidLooks := .later }
def AdjustImagesCardSaid : Prop := Claim7.holds Tryd.pinned (.plain (OpenSpec.ofChange adjustImagesSpec)) adjustImagesCard

/-- THE TIED CARD OF 'imageeditorlaw17.AdjustEach'. -/
def adjustEachCard : Claim7 := { stood := { row := adjustEachRow, standIns := [], harness := (true, "e77acda75f89801de918de2d7bee388617bff18d730271eaac0343e1db93eb3b"), looks := false }, kinds := [], alts := [], laidByText := true, laidKinds := [.data], laidTests := true, laidLooks := .later }
def AdjustEachCardSaid : Prop := Claim7.holds Tryd.pinned (.plain (OpenSpec.ofChange adjustEachSpec)) adjustEachCard

/-- THE SECOND FORM's CARD OF 'imageeditorlaw17.AdjustPixels'. -/
def adjustPixelsUptoCard : Claim7 := { stood := { row := adjustPixelsUptoRow, standIns := [], harness := (true, "e77acda75f89801de918de2d7bee388617bff18d730271eaac0343e1db93eb3b"), looks := false }, kinds := [], alts := [], laidByText := true, laidKinds := [.data], laidTests := true, laidLooks := .later }
def AdjustPixelsUptoCardSaid : Prop := Claim7.holds Tryd.pinned (.plain (OpenSpec.upto adjustPixelsSpec)) adjustPixelsUptoCard

/-- THE SECOND FORM's CARD OF 'imageeditorlaw17.AdjustHsls'. -/
def adjustHslsUptoCard : Claim7 := { stood := { row := adjustHslsUptoRow, standIns := [], harness := (true, "e77acda75f89801de918de2d7bee388617bff18d730271eaac0343e1db93eb3b"), looks := false }, kinds := [], alts := [], laidByText := true, laidKinds := [.data], laidTests := true, laidLooks := .later }
def AdjustHslsUptoCardSaid : Prop := Claim7.holds Tryd.pinned (.plain (OpenSpec.upto adjustHslsSpec)) adjustHslsUptoCard

/-- THE SECOND FORM's CARD OF 'imageeditorlaw17.AdjustTwice'. -/
def adjustTwiceUptoCard : Claim7 := { stood := { row := adjustTwiceUptoRow, standIns := [], harness := (true, "e77acda75f89801de918de2d7bee388617bff18d730271eaac0343e1db93eb3b"), looks := false }, kinds := [], alts := [], laidByText := true, laidKinds := [.data], laidTests := true, laidLooks := .later }
def AdjustTwiceUptoCardSaid : Prop := Claim7.holds Tryd.pinned (.plain (OpenSpec.upto adjustTwiceSpec)) adjustTwiceUptoCard

/-- THE SECOND FORM's CARD OF 'imageeditorlaw17.AdjustKeeps'. -/
def adjustKeepsUptoCard : Claim7 := { stood := { row := adjustKeepsUptoRow, standIns := [], harness := (true, "e77acda75f89801de918de2d7bee388617bff18d730271eaac0343e1db93eb3b"), looks := false }, kinds := [], alts := [], laidByText := true, laidKinds := [.data], laidTests := true, laidLooks := .later }
def AdjustKeepsUptoCardSaid : Prop := Claim7.holds Tryd.pinned (.plain (OpenSpec.upto adjustKeepsSpec)) adjustKeepsUptoCard

/-- THE SECOND FORM's CARD OF 'imageeditorlaw17.AdjustNear'. -/
def adjustNearUptoCard : Claim7 := { stood := { row := adjustNearUptoRow, standIns := [], harness := (true, "e77acda75f89801de918de2d7bee388617bff18d730271eaac0343e1db93eb3b"), looks := false }, kinds := [], alts := [], laidByText := true, laidKinds := [.data], laidTests := true, laidLooks := .later }
def AdjustNearUptoCardSaid : Prop := Claim7.holds Tryd.pinned (.plain (OpenSpec.upto adjustNearSpec)) adjustNearUptoCard

/-- THE SECOND FORM's CARD OF 'imageeditorlaw17.AdjustChecks'. -/
def adjustChecksUptoCard : Claim7 := { stood := { row := adjustChecksUptoRow, standIns := [], harness := (true, "e77acda75f89801de918de2d7bee388617bff18d730271eaac0343e1db93eb3b"), looks := false }, kinds := [], alts := [], laidByText := true, laidKinds := [.data], laidTests := true, laidLooks := .later }
def AdjustChecksUptoCardSaid : Prop := Claim7.holds Tryd.pinned (.plain (OpenSpec.upto adjustChecksSpec)) adjustChecksUptoCard

/-- THE SECOND FORM's CARD OF 'imageeditorlaw17.AdjustNothing'. -/
def adjustNothingUptoCard : Claim7 := { stood := { row := adjustNothingUptoRow, standIns := [], harness := (true, "e77acda75f89801de918de2d7bee388617bff18d730271eaac0343e1db93eb3b"), looks := false }, kinds := [], alts := [], laidByText := true, laidKinds := [.data], laidTests := true, laidLooks := .later }
def AdjustNothingUptoCardSaid : Prop := Claim7.holds Tryd.pinned (.plain (OpenSpec.upto adjustNothingSpec)) adjustNothingUptoCard

/-- THE SECOND FORM's CARD OF 'imageeditorlaw17.AdjustImages'. -/
def adjustImagesUptoCard : Claim7 := { stood := { row := adjustImagesUptoRow, standIns := [], harness := (true, "e77acda75f89801de918de2d7bee388617bff18d730271eaac0343e1db93eb3b"), looks := false }, kinds := [], alts := [], laidByText := true, laidKinds := [.data], laidTests := true, laidLooks := .later }
def AdjustImagesUptoCardSaid : Prop := Claim7.holds Tryd.pinned (.plain (OpenSpec.upto adjustImagesSpec)) adjustImagesUptoCard

/-- THE SECOND FORM's CARD OF 'imageeditorlaw17.AdjustEach'. -/
def adjustEachUptoCard : Claim7 := { stood := { row := adjustEachUptoRow, standIns := [], harness := (true, "e77acda75f89801de918de2d7bee388617bff18d730271eaac0343e1db93eb3b"), looks := false }, kinds := [], alts := [], laidByText := true, laidKinds := [.data], laidTests := true, laidLooks := .later }
def AdjustEachUptoCardSaid : Prop := Claim7.holds Tryd.pinned (.plain (OpenSpec.upto adjustEachSpec)) adjustEachUptoCard
end Rows
end Go.Proofs.YtmbglkholoblaaaDoor
