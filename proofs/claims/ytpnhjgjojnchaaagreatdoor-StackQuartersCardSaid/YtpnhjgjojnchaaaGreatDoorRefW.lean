/-
  The references floats (polestarref04): worth, the floats beside, Two.
-/
import Derived.Test.YtpnhjgjojnchaaaGreatDoorRefV
import Derived.Test.YtpnhjgjojnchaaaGreatDoorFlt
import Derived.Deep.CutRange




/-! The references' floats (polestarref04): signs, the least exponent, the floats beside. -/
namespace Go.Proofs.YtpnhjgjojnchaaaGreatDoor
open Go.RowKit

def hiR (num den r : Nat) : Nat := if Flt.val r * den = num then r else r + 1
end Go.Proofs.YtpnhjgjojnchaaaGreatDoor

/-! The references' floats (polestarref04): the sum and what it has lost. -/
namespace Go.Proofs.YtpnhjgjojnchaaaGreatDoor
open Go.RowKit

theorem p2 (k : Nat) : (2 : Int) ^ k = ((2 ^ k : Nat) : Int) := by rw [Int.natCast_pow]; rfl
end Go.Proofs.YtpnhjgjojnchaaaGreatDoor
