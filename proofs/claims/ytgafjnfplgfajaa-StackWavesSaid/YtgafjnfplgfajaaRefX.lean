/-
  The references floats (polestarref04): Add, Mul, Quo.
-/
import Derived.Test.YtgafjnfplgfajaaRndU
import Derived.Test.YtgafjnfplgfajaaPrdU
import Derived.Test.YtgafjnfplgfajaaRefV
import Derived.Test.YtgafjnfplgfajaaRefW
import Derived.Test.YtgafjnfplgfajaaFlt

/-! The references' floats (polestarref04): the product. -/
namespace Go.Proofs.Ytgafjnfplgfajaa
open Go.RowKit

theorem sv_abs (x : Nat) : (Flt.sv x).natAbs = Flt.val (Flt.rg x) := by unfold Flt.sv; split <;> omega
theorem sv_neg {x : Nat} (h : Flt.rg x ≠ 0) : decide (Flt.sv x < 0) = Flt.sgn x := by
  have := val_pos h
  unfold Flt.sv
  cases Flt.sgn x
  · exact decide_eq_false (by simp)
  · exact decide_eq_true (by simp; omega)
end Go.Proofs.Ytgafjnfplgfajaa




/-! The references' floats (polestarref04): the quotient. -/
namespace Go.Proofs.Ytgafjnfplgfajaa
open Go.RowKit

theorem frozen_alloc {w : World} (o : Obj) {g k : Nat} (h : g < w.heap.size) : (w.alloc o).frozen? ⟨g, k, none⟩ = w.frozen? ⟨g, k, none⟩ :=
  ((Below.refl w.heap.size w).alloc (Nat.le_refl _) o).frozen (p := ⟨g, k, none⟩) h

end Go.Proofs.Ytgafjnfplgfajaa
