/-
  The references whole numbers (polestarref01): shifts, bits, quotients.
-/
import Derived.Test.YtpnhjgjojnchaaaGreatDoorRefU
import Derived.Test.YtpnhjgjojnchaaaGreatDoorZero
/-! The references' whole numbers (polestarref01): differences, products. -/
namespace Go.Proofs.YtpnhjgjojnchaaaGreatDoor
open Go.RowKit

theorem IsInt.drewN {w : World} {neg : Bool} {A : Option Addr} {n c : Nat} {z : Int} (h : IsInt w neg A n c z) (k : Nat) : IsInt (w.drewN k) neg A n c z := h

end Go.Proofs.YtpnhjgjojnchaaaGreatDoor




/-! The references' whole numbers (polestarref01): bits; halved so many times. -/
namespace Go.Proofs.YtpnhjgjojnchaaaGreatDoor
open Go.RowKit

theorem Sl.cut {w : World} {n c : Nat} {A : Option Addr} {l : List Nat} (h : Sl w A n c l) {k : Nat} (hk : k ≤ n) : Sl w (if c = k then A else A.map (·.add k)) (n - k) (c - k) (l.drop k) :=
  ⟨by have := h.1.cut (cap := c) hk h.cap; unfold u32s at this ⊢; rwa [List.map_drop], by have := h.cap; omega, Lm.ok_drop h.ok k⟩

end Go.Proofs.YtpnhjgjojnchaaaGreatDoor



