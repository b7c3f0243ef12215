/-
  The references floats (polestarref04): worth, the floats beside, Two.
-/
import Derived.Test.YtgafjnfplgfajaaRefV
import Derived.Test.YtgafjnfplgfajaaFlt
import Derived.Deep.CutRange




/-! The references' floats (polestarref04): signs, the least exponent, the floats beside. -/
namespace Go.Proofs.Ytgafjnfplgfajaa
open Go.RowKit

def hiR (num den r : Nat) : Nat := if Flt.val r * den = num then r else r + 1
end Go.Proofs.Ytgafjnfplgfajaa

/-! The references' floats (polestarref04): the sum and what it has lost. -/
namespace Go.Proofs.Ytgafjnfplgfajaa
open Go.RowKit

theorem cell_alloc {w : World} (o : Obj) {g : Nat} {k : Nat} (v : Value) (hg : g < w.heap.size) (h : w.cell? ⟨g, k, none⟩ = some v) : (w.alloc o).cell? ⟨g, k, none⟩ = some v := by
  rw [(bcell ((Below.refl w.heap.size w).alloc (Nat.le_refl _) o)).1 g k hg]; exact h
theorem p2 (k : Nat) : (2 : Int) ^ k = ((2 ^ k : Nat) : Int) := by rw [Int.natCast_pow]; rfl
end Go.Proofs.Ytgafjnfplgfajaa
