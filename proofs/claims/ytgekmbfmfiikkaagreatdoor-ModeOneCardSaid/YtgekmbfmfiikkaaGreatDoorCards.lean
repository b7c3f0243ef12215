/-
  DERIVED. GIVEN WITH THE SEED: THE CARDS: each row of YtgekmbfmfiikkaaGreatDoorRows.lean that lists a variable, with what it lists TIED to the program's text (the seventh form; the later family's looks); each row that meets fmt, with fmt's text TOLD by the authors' own Lean function (tested against real Go, not proved from fmt's source: count such statements apart). THE CARD IS WHAT COUNTS. Prove the row's statement (the work); the ties are given (YtgekmbfmfiikkaaGreatDoorTie.lean); close each card by the builder's one call (the guide's Derived/Test/ToyasCard.lean, 'card_holds'). Laid BY PROGRAM, IN A SANDBOX (cutbox-door.mjs). By AI agents, Wed Nov 11 2026. No macro, syntax, notation, axiom, sorry.
-/
import Derived.Test.YtgekmbfmfiikkaaGreatDoorRows
import GoSem.ClaimSeven
namespace Go.Proofs.YtgekmbfmfiikkaaGreatDoor
namespace Rows

/-- THE TIED CARD OF 'polestarlaw15.BeamGoes'. -/
def beamGoesCard : Claim7 := { stood := { row := beamGoesRow, standIns := [], harness := (true, "6889cc3e2cfeab96bbad291895bb77d8a9fbf6894f2d0538d55ebc44c77d342c"), looks := false }, kinds := [], alts := [], laidByText := true, laidKinds := [.data, .data, .data], laidTests := true, laidLooks := .later }
def BeamGoesCardSaid : Prop := Claim7.holds Tryz.pinned (.plain (OpenSpec.ofChange beamGoesSpec)) beamGoesCard

/-- THE TIED CARD OF 'polestarlaw16.ModeExact'. -/
def modeExactCard : Claim7 := { stood := { row := modeExactRow, standIns := [], harness := (true, "6889cc3e2cfeab96bbad291895bb77d8a9fbf6894f2d0538d55ebc44c77d342c"), looks := false }, kinds := [], alts := [], laidByText := true, laidKinds := [.data, .data, .data], laidTests := true, laidLooks := .later }
def ModeExactCardSaid : Prop := Claim7.holds Tryz.pinned (.plain (OpenSpec.ofChange modeExactSpec)) modeExactCard

/-- THE TIED CARD OF 'polestarlaw15.BeamPaths'. -/
def beamPathsCard : Claim7 := { stood := { row := beamPathsRow, standIns := [], harness := (true, "6889cc3e2cfeab96bbad291895bb77d8a9fbf6894f2d0538d55ebc44c77d342c"), looks := false }, kinds := [], alts := [], laidByText := true, laidKinds := [.data, .data, .data], laidTests := true, laidLooks := .later }
def BeamPathsCardSaid : Prop := Claim7.holds Tryz.pinned (.plain (OpenSpec.ofChange beamPathsSpec)) beamPathsCard

/-- THE TIED CARD OF 'polestarlaw16.ModeOne'. -/
def modeOneCard : Claim7 := { stood := { row := modeOneRow, standIns := [], harness := (true, "6889cc3e2cfeab96bbad291895bb77d8a9fbf6894f2d0538d55ebc44c77d342c"), looks := false }, kinds := [], alts := [], laidByText := true, laidKinds := [.data], laidTests := true, laidLooks := .later }
def ModeOneCardSaid : Prop := Claim7.holds Tryz.pinned (.plain (OpenSpec.ofChange modeOneSpec)) modeOneCard

/-- THE TIED CARD OF 'polestarlaw16.ModeKeeps'. -/
def modeKeepsCard : Claim7 := { stood := { row := modeKeepsRow, standIns := [], harness := (true, "6889cc3e2cfeab96bbad291895bb77d8a9fbf6894f2d0538d55ebc44c77d342c"), looks := false }, kinds := [], alts := [], laidByText := true, laidKinds := [.data], laidTests := true, laidLooks := .later }
def ModeKeepsCardSaid : Prop := Claim7.holds Tryz.pinned (.plain (OpenSpec.ofChange modeKeepsSpec)) modeKeepsCard

/-- THE SECOND FORM's CARD OF 'polestarlaw15.BeamGoes'. -/
def beamGoesUptoCard : Claim7 := { stood := { row := beamGoesUptoRow, standIns := [], harness := (true, "6889cc3e2cfeab96bbad291895bb77d8a9fbf6894f2d0538d55ebc44c77d342c"), looks := false }, kinds := [], alts := [], laidByText := true, laidKinds := [.data, .data, .data], laidTests := true, laidLooks := .later }
def BeamGoesUptoCardSaid : Prop := Claim7.holds Tryz.pinned (.plain (OpenSpec.upto beamGoesSpec)) beamGoesUptoCard

/-- THE SECOND FORM's CARD OF 'polestarlaw16.ModeExact'. -/
def modeExactUptoCard : Claim7 := { stood := { row := modeExactUptoRow, standIns := [], harness := (true, "6889cc3e2cfeab96bbad291895bb77d8a9fbf6894f2d0538d55ebc44c77d342c"), looks := false }, kinds := [], alts := [], laidByText := true, laidKinds := [.data, .data, .data], laidTests := true, laidLooks := .later }
def ModeExactUptoCardSaid : Prop := Claim7.holds Tryz.pinned (.plain (OpenSpec.upto modeExactSpec)) modeExactUptoCard

/-- THE SECOND FORM's CARD OF 'polestarlaw15.BeamPaths'. -/
def beamPathsUptoCard : Claim7 := { stood := { row := beamPathsUptoRow, standIns := [], harness := (true, "6889cc3e2cfeab96bbad291895bb77d8a9fbf6894f2d0538d55ebc44c77d342c"), looks := false }, kinds := [], alts := [], laidByText := true, laidKinds := [.data, .data, .data], laidTests := true, laidLooks := .later }
def BeamPathsUptoCardSaid : Prop := Claim7.holds Tryz.pinned (.plain (OpenSpec.upto beamPathsSpec)) beamPathsUptoCard

/-- THE SECOND FORM's CARD OF 'polestarlaw16.ModeOne'. -/
def modeOneUptoCard : Claim7 := { stood := { row := modeOneUptoRow, standIns := [], harness := (true, "6889cc3e2cfeab96bbad291895bb77d8a9fbf6894f2d0538d55ebc44c77d342c"), looks := false }, kinds := [], alts := [], laidByText := true, laidKinds := [.data], laidTests := true, laidLooks := .later }
def ModeOneUptoCardSaid : Prop := Claim7.holds Tryz.pinned (.plain (OpenSpec.upto modeOneSpec)) modeOneUptoCard

/-- THE SECOND FORM's CARD OF 'polestarlaw16.ModeKeeps'. -/
def modeKeepsUptoCard : Claim7 := { stood := { row := modeKeepsUptoRow, standIns := [], harness := (true, "6889cc3e2cfeab96bbad291895bb77d8a9fbf6894f2d0538d55ebc44c77d342c"), looks := false }, kinds := [], alts := [], laidByText := true, laidKinds := [.data], laidTests := true, laidLooks := .later }
def ModeKeepsUptoCardSaid : Prop := Claim7.holds Tryz.pinned (.plain (OpenSpec.upto modeKeepsSpec)) modeKeepsUptoCard
end Rows
end Go.Proofs.YtgekmbfmfiikkaaGreatDoor
