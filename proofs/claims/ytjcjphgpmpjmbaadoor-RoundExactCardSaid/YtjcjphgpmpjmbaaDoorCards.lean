/-
  DERIVED. GIVEN WITH THE SEED: THE CARDS: each row of YtjcjphgpmpjmbaaDoorRows.lean that lists a variable, with what it lists TIED to the program's text (the seventh form; the later family's looks); each row that meets fmt, with fmt's text TOLD by the authors' own Lean function (tested against real Go, not proved from fmt's source: count such statements apart). THE CARD IS WHAT COUNTS. Prove the row's statement (the work); the ties are given (YtjcjphgpmpjmbaaDoorTie.lean); close each card by the builder's one call (the guide's Derived/Test/ToyasCard.lean, 'card_holds'). Laid BY PROGRAM, IN A SANDBOX (cutbox-door.mjs). By AI agents, Wed Nov 11 2026. No macro, syntax, notation, axiom, sorry.
-/
import Derived.Test.YtjcjphgpmpjmbaaDoorRows
import GoSem.ClaimSeven
namespace Go.Proofs.YtjcjphgpmpjmbaaDoor
namespace Rows

/-- THE TIED CARD OF 'polestarlaw04.RoundNear'. -/
def roundNearCard : Claim7 := { stood := { row := roundNearRow, standIns := [], harness := (true, "d30db4f9a838b27c0526edad889ae80580023c93997db2828d414749a50af11a"), looks := false }, kinds := [], alts := [], laidByText := true, laidKinds := [.data], laidTests := true, laidLooks := .later }
def RoundNearCardSaid : Prop := Claim7.holds Tryd.pinned (.plain (OpenSpec.ofChange roundNearSpec)) roundNearCard

/-- THE TIED CARD OF 'polestarlaw04.RoundWhole'. -/
def roundWholeCard : Claim7 := { stood := { row := roundWholeRow, standIns := [], harness := (true, "d30db4f9a838b27c0526edad889ae80580023c93997db2828d414749a50af11a"), looks := false }, kinds := [], alts := [], laidByText := true, laidKinds := [.data], laidTests := true, laidLooks := .later }
def RoundWholeCardSaid : Prop := Claim7.holds Tryd.pinned (.plain (OpenSpec.ofChange roundWholeSpec)) roundWholeCard

/-- THE TIED CARD OF 'polestarlaw04.RoundExact'. -/
def roundExactCard : Claim7 := { stood := { row := roundExactRow, standIns := [], harness := (true, "d30db4f9a838b27c0526edad889ae80580023c93997db2828d414749a50af11a"), looks := false }, kinds := [], alts := [], laidByText := true, laidKinds := [.data], laidTests := true, laidLooks := .later }
def RoundExactCardSaid : Prop := Claim7.holds Tryd.pinned (.plain (OpenSpec.ofChange roundExactSpec)) roundExactCard

/-- THE SECOND FORM's CARD OF 'polestarlaw04.RoundNear'. -/
def roundNearUptoCard : Claim7 := { stood := { row := roundNearUptoRow, standIns := [], harness := (true, "d30db4f9a838b27c0526edad889ae80580023c93997db2828d414749a50af11a"), looks := false }, kinds := [], alts := [], laidByText := true, laidKinds := [.data], laidTests := true, laidLooks := .later }
def RoundNearUptoCardSaid : Prop := Claim7.holds Tryd.pinned (.plain (OpenSpec.upto roundNearSpec)) roundNearUptoCard

/-- THE SECOND FORM's CARD OF 'polestarlaw04.RoundWhole'. -/
def roundWholeUptoCard : Claim7 := { stood := { row := roundWholeUptoRow, standIns := [], harness := (true, "d30db4f9a838b27c0526edad889ae80580023c93997db2828d414749a50af11a"), looks := false }, kinds := [], alts := [], laidByText := true, laidKinds := [.data], laidTests := true, laidLooks := .later }
def RoundWholeUptoCardSaid : Prop := Claim7.holds Tryd.pinned (.plain (OpenSpec.upto roundWholeSpec)) roundWholeUptoCard

/-- THE SECOND FORM's CARD OF 'polestarlaw04.RoundExact'. -/
def roundExactUptoCard : Claim7 := { stood := { row := roundExactUptoRow, standIns := [], harness := (true, "d30db4f9a838b27c0526edad889ae80580023c93997db2828d414749a50af11a"), looks := false }, kinds := [], alts := [], laidByText := true, laidKinds := [.data], laidTests := true, laidLooks := .later }
def RoundExactUptoCardSaid : Prop := Claim7.holds Tryd.pinned (.plain (OpenSpec.upto roundExactSpec)) roundExactUptoCard
end Rows
end Go.Proofs.YtjcjphgpmpjmbaaDoor
