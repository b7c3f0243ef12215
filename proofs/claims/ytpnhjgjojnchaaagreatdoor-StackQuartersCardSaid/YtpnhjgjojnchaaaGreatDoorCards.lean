/-
  DERIVED. GIVEN WITH THE SEED: THE CARDS: each row of YtpnhjgjojnchaaaGreatDoorRows.lean that lists a variable, with what it lists TIED to the program's text (the seventh form; the later family's looks); each row that meets fmt, with fmt's text TOLD by the authors' own Lean function (tested against real Go, not proved from fmt's source: count such statements apart). THE CARD IS WHAT COUNTS. Prove the row's statement (the work); the ties are given (YtpnhjgjojnchaaaGreatDoorTie.lean); close each card by the builder's one call (the guide's Derived/Test/ToyasCard.lean, 'card_holds'). Laid BY PROGRAM, IN A SANDBOX (cutbox-door.mjs). By AI agents, Wed Nov 11 2026. No macro, syntax, notation, axiom, sorry.
-/
import Derived.Test.YtpnhjgjojnchaaaGreatDoorRows
import GoSem.ClaimSeven
namespace Go.Proofs.YtpnhjgjojnchaaaGreatDoor
namespace Rows

/-- THE TIED CARD OF 'polestarlaw19.StackQuarters'. -/
def stackQuartersCard : Claim7 := { stood := { row := stackQuartersRow, standIns := [], harness := (true, "68911310ae6de6366aa16d9fe27bdeeab288826c9bb1d9eb6f045861f31c6745"), looks := false }, kinds := [], alts := [], laidByText := true, laidKinds := [.data, .data, .data], laidTests := true, laidLooks := .later }
def StackQuartersCardSaid : Prop := Claim7.holds Tryz.pinned (.plain (OpenSpec.ofChange stackQuartersSpec)) stackQuartersCard

/-- THE TIED CARD OF 'polestarlaw17.TurnTables'. -/
def turnTablesCard : Claim7 := { stood := { row := turnTablesRow, standIns := [], harness := (true, "68911310ae6de6366aa16d9fe27bdeeab288826c9bb1d9eb6f045861f31c6745"), looks := false }, kinds := [], alts := [], laidByText := true, laidKinds := [.data, .data, .data], laidTests := true, laidLooks := .later }
def TurnTablesCardSaid : Prop := Claim7.holds Tryz.pinned (.plain (OpenSpec.ofChange turnTablesSpec)) turnTablesCard

/-- THE TIED CARD OF 'polestarlaw15.BeamGoes'. -/
def beamGoesCard : Claim7 := { stood := { row := beamGoesRow, standIns := [], harness := (true, "68911310ae6de6366aa16d9fe27bdeeab288826c9bb1d9eb6f045861f31c6745"), looks := false }, kinds := [], alts := [], laidByText := true, laidKinds := [.data, .data, .data], laidTests := true, laidLooks := .later }
def BeamGoesCardSaid : Prop := Claim7.holds Tryz.pinned (.plain (OpenSpec.ofChange beamGoesSpec)) beamGoesCard

/-- THE TIED CARD OF 'polestarlaw16.ModeExact'. -/
def modeExactCard : Claim7 := { stood := { row := modeExactRow, standIns := [], harness := (true, "68911310ae6de6366aa16d9fe27bdeeab288826c9bb1d9eb6f045861f31c6745"), looks := false }, kinds := [], alts := [], laidByText := true, laidKinds := [.data, .data, .data], laidTests := true, laidLooks := .later }
def ModeExactCardSaid : Prop := Claim7.holds Tryz.pinned (.plain (OpenSpec.ofChange modeExactSpec)) modeExactCard

/-- THE TIED CARD OF 'polestarlaw15.BeamLooks'. -/
def beamLooksCard : Claim7 := { stood := { row := beamLooksRow, standIns := [], harness := (true, "68911310ae6de6366aa16d9fe27bdeeab288826c9bb1d9eb6f045861f31c6745"), looks := false }, kinds := [], alts := [], laidByText := true, laidKinds := [.data, .data, .data], laidTests := true, laidLooks := .later }
def BeamLooksCardSaid : Prop := Claim7.holds Tryz.pinned (.plain (OpenSpec.ofChange beamLooksSpec)) beamLooksCard

/-- THE TIED CARD OF 'polestarlaw15.BeamPaths'. -/
def beamPathsCard : Claim7 := { stood := { row := beamPathsRow, standIns := [], harness := (true, "68911310ae6de6366aa16d9fe27bdeeab288826c9bb1d9eb6f045861f31c6745"), looks := false }, kinds := [], alts := [], laidByText := true, laidKinds := [.data, .data, .data], laidTests := true, laidLooks := .later }
def BeamPathsCardSaid : Prop := Claim7.holds Tryz.pinned (.plain (OpenSpec.ofChange beamPathsSpec)) beamPathsCard

/-- THE SECOND FORM's CARD OF 'polestarlaw19.StackQuarters'. -/
def stackQuartersUptoCard : Claim7 := { stood := { row := stackQuartersUptoRow, standIns := [], harness := (true, "68911310ae6de6366aa16d9fe27bdeeab288826c9bb1d9eb6f045861f31c6745"), looks := false }, kinds := [], alts := [], laidByText := true, laidKinds := [.data, .data, .data], laidTests := true, laidLooks := .later }
def StackQuartersUptoCardSaid : Prop := Claim7.holds Tryz.pinned (.plain (OpenSpec.upto stackQuartersSpec)) stackQuartersUptoCard

/-- THE SECOND FORM's CARD OF 'polestarlaw17.TurnTables'. -/
def turnTablesUptoCard : Claim7 := { stood := { row := turnTablesUptoRow, standIns := [], harness := (true, "68911310ae6de6366aa16d9fe27bdeeab288826c9bb1d9eb6f045861f31c6745"), looks := false }, kinds := [], alts := [], laidByText := true, laidKinds := [.data, .data, .data], laidTests := true, laidLooks := .later }
def TurnTablesUptoCardSaid : Prop := Claim7.holds Tryz.pinned (.plain (OpenSpec.upto turnTablesSpec)) turnTablesUptoCard

/-- THE SECOND FORM's CARD OF 'polestarlaw15.BeamGoes'. -/
def beamGoesUptoCard : Claim7 := { stood := { row := beamGoesUptoRow, standIns := [], harness := (true, "68911310ae6de6366aa16d9fe27bdeeab288826c9bb1d9eb6f045861f31c6745"), looks := false }, kinds := [], alts := [], laidByText := true, laidKinds := [.data, .data, .data], laidTests := true, laidLooks := .later }
def BeamGoesUptoCardSaid : Prop := Claim7.holds Tryz.pinned (.plain (OpenSpec.upto beamGoesSpec)) beamGoesUptoCard

/-- THE SECOND FORM's CARD OF 'polestarlaw16.ModeExact'. -/
def modeExactUptoCard : Claim7 := { stood := { row := modeExactUptoRow, standIns := [], harness := (true, "68911310ae6de6366aa16d9fe27bdeeab288826c9bb1d9eb6f045861f31c6745"), looks := false }, kinds := [], alts := [], laidByText := true, laidKinds := [.data, .data, .data], laidTests := true, laidLooks := .later }
def ModeExactUptoCardSaid : Prop := Claim7.holds Tryz.pinned (.plain (OpenSpec.upto modeExactSpec)) modeExactUptoCard

/-- THE SECOND FORM's CARD OF 'polestarlaw15.BeamLooks'. -/
def beamLooksUptoCard : Claim7 := { stood := { row := beamLooksUptoRow, standIns := [], harness := (true, "68911310ae6de6366aa16d9fe27bdeeab288826c9bb1d9eb6f045861f31c6745"), looks := false }, kinds := [], alts := [], laidByText := true, laidKinds := [.data, .data, .data], laidTests := true, laidLooks := .later }
def BeamLooksUptoCardSaid : Prop := Claim7.holds Tryz.pinned (.plain (OpenSpec.upto beamLooksSpec)) beamLooksUptoCard

/-- THE SECOND FORM's CARD OF 'polestarlaw15.BeamPaths'. -/
def beamPathsUptoCard : Claim7 := { stood := { row := beamPathsUptoRow, standIns := [], harness := (true, "68911310ae6de6366aa16d9fe27bdeeab288826c9bb1d9eb6f045861f31c6745"), looks := false }, kinds := [], alts := [], laidByText := true, laidKinds := [.data, .data, .data], laidTests := true, laidLooks := .later }
def BeamPathsUptoCardSaid : Prop := Claim7.holds Tryz.pinned (.plain (OpenSpec.upto beamPathsSpec)) beamPathsUptoCard
end Rows
end Go.Proofs.YtpnhjgjojnchaaaGreatDoor
