/-
  The references floats (polestarref04): Add, Mul, Quo.
-/
import Derived.Test.YtdmdaoginojalaaGreatDoorRndU
import Derived.Test.YtdmdaoginojalaaGreatDoorPrdU
import Derived.Test.YtdmdaoginojalaaGreatDoorRefV
import Derived.Test.YtdmdaoginojalaaGreatDoorRefW
import Derived.Test.YtdmdaoginojalaaGreatDoorFlt
/-! The references' floats (polestarref04): the product. -/
namespace Go.Proofs.YtdmdaoginojalaaGreatDoor
open Go.RowKit

theorem sv_abs (x : Nat) : (Flt.sv x).natAbs = Flt.val (Flt.rg x) := by unfold Flt.sv; split <;> omega
theorem sv_neg {x : Nat} (h : Flt.rg x ≠ 0) : decide (Flt.sv x < 0) = Flt.sgn x := by
  have := val_pos h
  unfold Flt.sv
  cases Flt.sgn x
  · exact decide_eq_false (by simp)
  · exact decide_eq_true (by simp; omega)
end Go.Proofs.YtdmdaoginojalaaGreatDoor


/-! The references' floats (polestarref04): the greatest float that is not above a fraction times a power of two. -/
namespace Go.Proofs.YtdmdaoginojalaaGreatDoor
open Go.RowKit

/-- p / q times 2^s rounded down, and whether it is that. -/
def qq (P D : Nat) (s : Int) : Nat := P * 2 ^ s.toNat / (D * 2 ^ (-s).toNat)
def qb (P D : Nat) (s : Int) : Bool := decide (P * 2 ^ s.toNat % (D * 2 ^ (-s).toNat) = 0)

end Go.Proofs.YtdmdaoginojalaaGreatDoor


/-! The references' floats (polestarref04): the quotient. -/
namespace Go.Proofs.YtdmdaoginojalaaGreatDoor
open Go.RowKit

theorem frozen_alloc {w : World} (o : Obj) {g k : Nat} (h : g < w.heap.size) : (w.alloc o).frozen? ⟨g, k, none⟩ = w.frozen? ⟨g, k, none⟩ :=
  ((Below.refl w.heap.size w).alloc (Nat.le_refl _) o).frozen (p := ⟨g, k, none⟩) h

end Go.Proofs.YtdmdaoginojalaaGreatDoor
