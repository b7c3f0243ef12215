/-
  The references floats (polestarref04): Add, Mul, Quo.
-/
import Derived.Test.YtjcjphgpmpjmbaaDoorRndU
import Derived.Test.YtjcjphgpmpjmbaaDoorPrdU
import Derived.Test.YtjcjphgpmpjmbaaDoorRefV
import Derived.Test.YtjcjphgpmpjmbaaDoorRefW
import Derived.Test.YtjcjphgpmpjmbaaDoorFlt
/-! The references' whole numbers and floats: Divide by any number; quotients by any number. -/
namespace Go.Proofs.YtjcjphgpmpjmbaaDoor
open Go.RowKit

theorem isInt_lt {w : World} {neg : Bool} {A : Option Addr} {n c : Nat} {z : Int} (h : IsInt w neg A n c z) : z.natAbs < Lm.B ^ n := by
  obtain ⟨l, hl, _, _, rfl⟩ := h
  have h1 : (sgnd neg (Lm.lv l)).natAbs = Lm.lv l := by unfold sgnd; split <;> omega
  rw [h1, ← hl.len]
  exact Lm.lv_lt hl.ok
end Go.Proofs.YtjcjphgpmpjmbaaDoor

/-! The references' floats (polestarref04): the greatest float that is not above a fraction times a power of two. -/
namespace Go.Proofs.YtjcjphgpmpjmbaaDoor
open Go.RowKit

/-- p / q times 2^s rounded down, and whether it is that. -/
def qq (P D : Nat) (s : Int) : Nat := P * 2 ^ s.toNat / (D * 2 ^ (-s).toNat)
def qb (P D : Nat) (s : Int) : Bool := decide (P * 2 ^ s.toNat % (D * 2 ^ (-s).toNat) = 0)

end Go.Proofs.YtjcjphgpmpjmbaaDoor


/-! The references' floats (polestarref04): the quotient. -/
namespace Go.Proofs.YtjcjphgpmpjmbaaDoor
open Go.RowKit

theorem frozen_alloc {w : World} (o : Obj) {g k : Nat} (h : g < w.heap.size) : (w.alloc o).frozen? ⟨g, k, none⟩ = w.frozen? ⟨g, k, none⟩ :=
  ((Below.refl w.heap.size w).alloc (Nat.le_refl _) o).frozen (p := ⟨g, k, none⟩) h

end Go.Proofs.YtjcjphgpmpjmbaaDoor
