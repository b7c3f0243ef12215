/-
  The references whole numbers (polestarref01): shifts, bits, quotients.
-/
import Derived.Test.YtpnhjgjojnchaaaGreatDoorRefU
import Derived.Test.YtpnhjgjojnchaaaGreatDoorZero
/-! The references' whole numbers (polestarref01): differences, products. -/
namespace Go.Proofs.YtpnhjgjojnchaaaGreatDoor
open Go.RowKit

theorem IsInt.drewN {w : World} {neg : Bool} {A : Option Addr} {n c : Nat} {z : Int} (h : IsInt w neg A n c z) (k : Nat) : IsInt (w.drewN k) neg A n c z := h

end Go.Proofs.YtpnhjgjojnchaaaGreatDoor







