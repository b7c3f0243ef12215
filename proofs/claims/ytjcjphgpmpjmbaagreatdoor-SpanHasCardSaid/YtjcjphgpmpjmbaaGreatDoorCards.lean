/-
  DERIVED. GIVEN WITH THE SEED: THE CARDS: each row of YtjcjphgpmpjmbaaGreatDoorRows.lean that lists a variable, with what it lists TIED to the program's text (the seventh form; the later family's looks); each row that meets fmt, with fmt's text TOLD by the authors' own Lean function (tested against real Go, not proved from fmt's source: count such statements apart). THE CARD IS WHAT COUNTS. Prove the row's statement (the work); the ties are given (YtjcjphgpmpjmbaaGreatDoorTie.lean); close each card by the builder's one call (the guide's Derived/Test/ToyasCard.lean, 'card_holds'). Laid BY PROGRAM, IN A SANDBOX (cutbox-door.mjs). By AI agents, Wed Nov 11 2026. No macro, syntax, notation, axiom, sorry.
-/
import Derived.Test.YtjcjphgpmpjmbaaGreatDoorRows
import GoSem.ClaimSeven
namespace Go.Proofs.YtjcjphgpmpjmbaaGreatDoor
namespace Rows

/-- THE TIED CARD OF 'polestarlaw05.SpanFracs'. -/
def spanFracsCard : Claim7 := { stood := { row := spanFracsRow, standIns := [], harness := (true, "a6b455e16b507383a1098863e65555845dbceadcd4ddd653e7ebece3fe98e2b5"), looks := false }, kinds := [], alts := [], laidByText := true, laidKinds := [.data], laidTests := true, laidLooks := .later }
def SpanFracsCardSaid : Prop := Claim7.holds Tryz.pinned (.plain (OpenSpec.ofChange spanFracsSpec)) spanFracsCard

/-- THE TIED CARD OF 'polestarlaw05.SpanHas'. -/
def spanHasCard : Claim7 := { stood := { row := spanHasRow, standIns := [], harness := (true, "a6b455e16b507383a1098863e65555845dbceadcd4ddd653e7ebece3fe98e2b5"), looks := false }, kinds := [], alts := [], laidByText := true, laidKinds := [.data], laidTests := true, laidLooks := .later }
def SpanHasCardSaid : Prop := Claim7.holds Tryz.pinned (.plain (OpenSpec.ofChange spanHasSpec)) spanHasCard

/-- THE SECOND FORM's CARD OF 'polestarlaw05.SpanFracs'. -/
def spanFracsUptoCard : Claim7 := { stood := { row := spanFracsUptoRow, standIns := [], harness := (true, "a6b455e16b507383a1098863e65555845dbceadcd4ddd653e7ebece3fe98e2b5"), looks := false }, kinds := [], alts := [], laidByText := true, laidKinds := [.data], laidTests := true, laidLooks := .later }
def SpanFracsUptoCardSaid : Prop := Claim7.holds Tryz.pinned (.plain (OpenSpec.upto spanFracsSpec)) spanFracsUptoCard

/-- THE SECOND FORM's CARD OF 'polestarlaw05.SpanHas'. -/
def spanHasUptoCard : Claim7 := { stood := { row := spanHasUptoRow, standIns := [], harness := (true, "a6b455e16b507383a1098863e65555845dbceadcd4ddd653e7ebece3fe98e2b5"), looks := false }, kinds := [], alts := [], laidByText := true, laidKinds := [.data], laidTests := true, laidLooks := .later }
def SpanHasUptoCardSaid : Prop := Claim7.holds Tryz.pinned (.plain (OpenSpec.upto spanHasSpec)) spanHasUptoCard
end Rows
end Go.Proofs.YtjcjphgpmpjmbaaGreatDoor
