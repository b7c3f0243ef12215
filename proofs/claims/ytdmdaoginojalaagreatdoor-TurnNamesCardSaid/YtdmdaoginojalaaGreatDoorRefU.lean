/-
  The references whole numbers (polestarref01): limbs, sums, products, comparisons.
-/
import Derived.Test.YtdmdaoginojalaaGreatDoorZero
import Derived.Deep.RegionHeld3
import Derived.StillTailTactics
/-! The references' whole numbers (polestarref01): sums, differences, products. -/
namespace Go.Proofs.YtdmdaoginojalaaGreatDoor
open Go.RowKit

theorem IsInt.alloc {w : World} {neg : Bool} {A : Option Addr} {n c : Nat} {z : Int} (h : IsInt w neg A n c z) (o : Obj) : IsInt (w.alloc o) neg A n c z := h.below ((Below.refl _ _).alloc (Nat.le_refl _) _)

end Go.Proofs.YtdmdaoginojalaaGreatDoor

/-! The references' whole numbers (polestarref01): signs, sizes, numbers of 64 bits. -/
namespace Go.Proofs.YtdmdaoginojalaaGreatDoor
open Go.RowKit

def RetV (W : World) (v : Value) (e : Ending) (w' : World) : Prop := e = .returned v ∧ Below W.heap.size W w'

end Go.Proofs.YtdmdaoginojalaaGreatDoor
