/-
  TurnRound: turns more or less, mirrored, turned by a quarter.
-/
import Derived.Test.YtdmdaoginojalaaGreatDoorTurA
namespace Go.Proofs.YtdmdaoginojalaaGreatDoor
open Go.RowKit

/-! ### worths -/
theorem four {q : Nat} (h : q < 4) : q = 0 ∨ q = 1 ∨ q = 2 ∨ q = 3 := by omega
/-! ### places -/
end Go.Proofs.YtdmdaoginojalaaGreatDoor
