/-
  The references floats (polestarref04): Add, Mul, Quo.
-/
import Derived.Test.YtjcknikgfcjhhaaRndU
import Derived.Test.YtjcknikgfcjhhaaPrdU
import Derived.Test.YtjcknikgfcjhhaaRefV
import Derived.Test.YtjcknikgfcjhhaaRefW
import Derived.Test.YtjcknikgfcjhhaaFlt

/-! The references' floats (polestarref04): the product. -/
namespace Go.Proofs.Ytjcknikgfcjhhaa
open Go.RowKit

theorem sv_abs (x : Nat) : (Flt.sv x).natAbs = Flt.val (Flt.rg x) := by unfold Flt.sv; split <;> omega
theorem sv_neg {x : Nat} (h : Flt.rg x ≠ 0) : decide (Flt.sv x < 0) = Flt.sgn x := by
  have := val_pos h
  unfold Flt.sv
  cases Flt.sgn x
  · exact decide_eq_false (by simp)
  · exact decide_eq_true (by simp; omega)
end Go.Proofs.Ytjcknikgfcjhhaa


/-! The references' floats (polestarref04): the greatest float that is not above a fraction times a power of two. -/
namespace Go.Proofs.Ytjcknikgfcjhhaa
open Go.RowKit

/-- p / q times 2^s rounded down, and whether it is that. -/
def qq (P D : Nat) (s : Int) : Nat := P * 2 ^ s.toNat / (D * 2 ^ (-s).toNat)
end Go.Proofs.Ytjcknikgfcjhhaa


