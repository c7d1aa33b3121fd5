/-
  DERIVED. GIVEN WITH THE SEED: THE CARDS: each row of YtanlnigebbcajaaDoorRows.lean that lists a variable, with what it lists TIED to the program's text (the seventh form; the later family's looks); each row that meets fmt, with fmt's text TOLD by the authors' own Lean function (tested against real Go, not proved from fmt's source: count such statements apart). THE CARD IS WHAT COUNTS. Prove the row's statement (the work); the ties are given (YtanlnigebbcajaaDoorTie.lean); close each card by the builder's one call (the guide's Derived/Test/ToyasCard.lean, 'card_holds'). Laid BY PROGRAM, IN A SANDBOX (cutbox-door.mjs). By AI agents, Wed Nov 11 2026. No macro, syntax, notation, axiom, sorry.
-/
import Derived.Test.YtanlnigebbcajaaDoorRows
import GoSem.ClaimSeven
namespace Go.Proofs.YtanlnigebbcajaaDoor
namespace Rows

/-- THE TIED CARD OF 'imageeditorlaw12.AffineApplies'. -/
def affineAppliesCard : Claim7 := { stood := { row := affineAppliesRow, standIns := [], harness := (true, "955546a3702f4e19371e0ce31a4a298682ded3b8ce9199c7638c6d69283bba35"), looks := false }, kinds := [], alts := [], laidByText := true, laidKinds := [.data], laidTests := true, laidLooks := .later }
def AffineAppliesCardSaid : Prop := Claim7.holds Tryd.pinned (.plain (OpenSpec.ofChange affineAppliesSpec)) affineAppliesCard

/-- THE TIED CARD OF 'imageeditorlaw12.AffineMakes'. -/
def affineMakesCard : Claim7 := { stood := { row := affineMakesRow, standIns := [], harness := (true, "955546a3702f4e19371e0ce31a4a298682ded3b8ce9199c7638c6d69283bba35"), looks := false }, kinds := [], alts := [], laidByText := true, laidKinds := [.data], laidTests := true, laidLooks := .later }
def AffineMakesCardSaid : Prop := Claim7.holds Tryd.pinned (.plain (OpenSpec.ofChange affineMakesSpec)) affineMakesCard

/-- THE TIED CARD OF 'imageeditorlaw12.AffineThens'. -/
def affineThensCard : Claim7 := { stood := { row := affineThensRow, standIns := [], harness := (true, "955546a3702f4e19371e0ce31a4a298682ded3b8ce9199c7638c6d69283bba35"), looks := false }, kinds := [], alts := [], laidByText := true, laidKinds := [.data], laidTests := true, laidLooks := .later }
def AffineThensCardSaid : Prop := Claim7.holds Tryd.pinned (.plain (OpenSpec.ofChange affineThensSpec)) affineThensCard

/-- THE TIED CARD OF 'imageeditorlaw12.AffineInverts'. -/
def affineInvertsCard : Claim7 := { stood := { row := affineInvertsRow, standIns := [], harness := (true, "955546a3702f4e19371e0ce31a4a298682ded3b8ce9199c7638c6d69283bba35"), looks := false }, kinds := [], alts := [], laidByText := true, laidKinds := [.data], laidTests := true, laidLooks := .later }
def AffineInvertsCardSaid : Prop := Claim7.holds Tryd.pinned (.plain (OpenSpec.ofChange affineInvertsSpec)) affineInvertsCard

/-- THE TIED CARD OF 'imageeditorlaw12.AffineNeutral'. -/
def affineNeutralCard : Claim7 := { stood := { row := affineNeutralRow, standIns := [], harness := (true, "955546a3702f4e19371e0ce31a4a298682ded3b8ce9199c7638c6d69283bba35"), looks := false }, kinds := [], alts := [], laidByText := true, laidKinds := [.data], laidTests := true, laidLooks := .later }
def AffineNeutralCardSaid : Prop := Claim7.holds Tryd.pinned (.plain (OpenSpec.ofChange affineNeutralSpec)) affineNeutralCard

/-- THE TIED CARD OF 'imageeditorlaw12.AffineComposes'. -/
def affineComposesCard : Claim7 := { stood := { row := affineComposesRow, standIns := [], harness := (true, "955546a3702f4e19371e0ce31a4a298682ded3b8ce9199c7638c6d69283bba35"), looks := false }, kinds := [], alts := [], laidByText := true, laidKinds := [.data], laidTests := true, laidLooks := .later }
def AffineComposesCardSaid : Prop := Claim7.holds Tryd.pinned (.plain (OpenSpec.ofChange affineComposesSpec)) affineComposesCard

/-- THE TIED CARD OF 'imageeditorlaw12.AffineReturns'. -/
def affineReturnsCard : Claim7 := { stood := { row := affineReturnsRow, standIns := [], harness := (true, "955546a3702f4e19371e0ce31a4a298682ded3b8ce9199c7638c6d69283bba35"), looks := false }, kinds := [], alts := [], laidByText := true, laidKinds := [.data], laidTests := true, laidLooks := .later }
def AffineReturnsCardSaid : Prop := Claim7.holds Tryd.pinned (.plain (OpenSpec.ofChange affineReturnsSpec)) affineReturnsCard

/-- THE TIED CARD OF 'imageeditorlaw12.AffineContains'. -/
def affineContainsCard : Claim7 := { stood := { row := affineContainsRow, standIns := [], harness := (true, "955546a3702f4e19371e0ce31a4a298682ded3b8ce9199c7638c6d69283bba35"), looks := false }, kinds := [], alts := [], laidByText := true, laidKinds := [.data], laidTests := true, laidLooks := .later }
def AffineContainsCardSaid : Prop := Claim7.holds Tryd.pinned (.plain (OpenSpec.ofChange affineContainsSpec)) affineContainsCard

/-- THE SECOND FORM's CARD OF 'imageeditorlaw12.AffineApplies'. -/
def affineAppliesUptoCard : Claim7 := { stood := { row := affineAppliesUptoRow, standIns := [], harness := (true, "955546a3702f4e19371e0ce31a4a298682ded3b8ce9199c7638c6d69283bba35"), looks := false }, kinds := [], alts := [], laidByText := true, laidKinds := [.data], laidTests := true, laidLooks := .later }
def AffineAppliesUptoCardSaid : Prop := Claim7.holds Tryd.pinned (.plain (OpenSpec.upto affineAppliesSpec)) affineAppliesUptoCard

/-- THE SECOND FORM's CARD OF 'imageeditorlaw12.AffineMakes'. -/
def affineMakesUptoCard : Claim7 := { stood := { row := affineMakesUptoRow, standIns := [], harness := (true, "955546a3702f4e19371e0ce31a4a298682ded3b8ce9199c7638c6d69283bba35"), looks := false }, kinds := [], alts := [], laidByText := true, laidKinds := [.data], laidTests := true, laidLooks := .later }
def AffineMakesUptoCardSaid : Prop := Claim7.holds Tryd.pinned (.plain (OpenSpec.upto affineMakesSpec)) affineMakesUptoCard

/-- THE SECOND FORM's CARD OF 'imageeditorlaw12.AffineThens'. -/
def affineThensUptoCard : Claim7 := { stood := { row := affineThensUptoRow, standIns := [], harness := (true, "955546a3702f4e19371e0ce31a4a298682ded3b8ce9199c7638c6d69283bba35"), looks := false }, kinds := [], alts := [], laidByText := true, laidKinds := [.data], laidTests := true, laidLooks := .later }
def AffineThensUptoCardSaid : Prop := Claim7.holds Tryd.pinned (.plain (OpenSpec.upto affineThensSpec)) affineThensUptoCard

/-- THE SECOND FORM's CARD OF 'imageeditorlaw12.AffineInverts'. -/
def affineInvertsUptoCard : Claim7 := { stood := { row := affineInvertsUptoRow, standIns := [], harness := (true, "955546a3702f4e19371e0ce31a4a298682ded3b8ce9199c7638c6d69283bba35"), looks := false }, kinds := [], alts := [], laidByText := true, laidKinds := [.data], laidTests := true, laidLooks := .later }
def AffineInvertsUptoCardSaid : Prop := Claim7.holds Tryd.pinned (.plain (OpenSpec.upto affineInvertsSpec)) affineInvertsUptoCard

/-- THE SECOND FORM's CARD OF 'imageeditorlaw12.AffineNeutral'. -/
def affineNeutralUptoCard : Claim7 := { stood := { row := affineNeutralUptoRow, standIns := [], harness := (true, "955546a3702f4e19371e0ce31a4a298682ded3b8ce9199c7638c6d69283bba35"), looks := false }, kinds := [], alts := [], laidByText := true, laidKinds := [.data], laidTests := true, laidLooks := .later }
def AffineNeutralUptoCardSaid : Prop := Claim7.holds Tryd.pinned (.plain (OpenSpec.upto affineNeutralSpec)) affineNeutralUptoCard

/-- THE SECOND FORM's CARD OF 'imageeditorlaw12.AffineComposes'. -/
def affineComposesUptoCard : Claim7 := { stood := { row := affineComposesUptoRow, standIns := [], harness := (true, "955546a3702f4e19371e0ce31a4a298682ded3b8ce9199c7638c6d69283bba35"), looks := false }, kinds := [], alts := [], laidByText := true, laidKinds := [.data], laidTests := true, laidLooks := .later }
def AffineComposesUptoCardSaid : Prop := Claim7.holds Tryd.pinned (.plain (OpenSpec.upto affineComposesSpec)) affineComposesUptoCard

/-- THE SECOND FORM's CARD OF 'imageeditorlaw12.AffineReturns'. -/
def affineReturnsUptoCard : Claim7 := { stood := { row := affineReturnsUptoRow, standIns := [], harness := (true, "955546a3702f4e19371e0ce31a4a298682ded3b8ce9199c7638c6d69283bba35"), looks := false }, kinds := [], alts := [], laidByText := true, laidKinds := [.data], laidTests := true, laidLooks := .later }
def AffineReturnsUptoCardSaid : Prop := Claim7.holds Tryd.pinned (.plain (OpenSpec.upto affineReturnsSpec)) affineReturnsUptoCard

/-- THE SECOND FORM's CARD OF 'imageeditorlaw12.AffineContains'. -/
def affineContainsUptoCard : Claim7 := { stood := { row := affineContainsUptoRow, standIns := [], harness := (true, "955546a3702f4e19371e0ce31a4a298682ded3b8ce9199c7638c6d69283bba35"), looks := false }, kinds := [], alts := [], laidByText := true, laidKinds := [.data], laidTests := true, laidLooks := .later }
def AffineContainsUptoCardSaid : Prop := Claim7.holds Tryd.pinned (.plain (OpenSpec.upto affineContainsSpec)) affineContainsUptoCard
end Rows
end Go.Proofs.YtanlnigebbcajaaDoor
