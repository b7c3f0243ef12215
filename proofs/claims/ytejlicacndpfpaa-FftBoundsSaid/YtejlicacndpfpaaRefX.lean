/-
  The references floats (polestarref04): Add, Mul, Quo.
-/
import Derived.Test.YtejlicacndpfpaaRndU
import Derived.Test.YtejlicacndpfpaaPrdU
import Derived.Test.YtejlicacndpfpaaRefV
import Derived.Test.YtejlicacndpfpaaRefW
import Derived.Test.YtejlicacndpfpaaFlt
/-! The references' floats (polestarref04): the product. -/
namespace Go.Proofs.Ytejlicacndpfpaa
open Go.RowKit

theorem sv_abs (x : Nat) : (Flt.sv x).natAbs = Flt.val (Flt.rg x) := by unfold Flt.sv; split <;> omega
theorem sv_neg {x : Nat} (h : Flt.rg x ≠ 0) : decide (Flt.sv x < 0) = Flt.sgn x := by
  have := val_pos h
  unfold Flt.sv
  cases Flt.sgn x
  · exact decide_eq_false (by simp)
  · exact decide_eq_true (by simp; omega)
end Go.Proofs.Ytejlicacndpfpaa
