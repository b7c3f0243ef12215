/-
  TurnRound: turns more or less, mirrored, turned by a quarter.
-/
import Derived.Test.YtpnhjgjojnchaaaGreatDoorTurU
import Derived.Test.YtpnhjgjojnchaaaGreatDoorRndU
import Derived.Test.YtpnhjgjojnchaaaGreatDoorPrdU
import Derived.Test.YtpnhjgjojnchaaaGreatDoorRefV
import Derived.Test.YtpnhjgjojnchaaaGreatDoorRefW
import Derived.Test.YtpnhjgjojnchaaaGreatDoorFlt
import Derived.Test.YtpnhjgjojnchaaaGreatDoorSto
import Derived.Test.YtpnhjgjojnchaaaGreatDoorZero
import Derived.Test.YtpnhjgjojnchaaaGreatDoorShelf
import Derived.Laws.MathBits
namespace Go.Proofs.YtpnhjgjojnchaaaGreatDoor
open Go.RowKit

/-! ### worths -/
theorem four {q : Nat} (h : q < 4) : q = 0 ∨ q = 1 ∨ q = 2 ∨ q = 3 := by omega
/-! ### places -/
end Go.Proofs.YtpnhjgjojnchaaaGreatDoor
