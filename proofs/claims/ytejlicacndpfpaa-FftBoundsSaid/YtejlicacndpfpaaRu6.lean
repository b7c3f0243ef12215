/-
  The references' complex numbers (polestarref06): sums, differences, products, quotients, quarter turns; the program's likewise (cplx).
-/
import Derived.Test.YtejlicacndpfpaaTurC
namespace Go.Proofs.Ytejlicacndpfpaa
open Go.RowKit

def AddR (a b : Nat × Nat) (x y : Nat) : Prop := IsOp Ieee.double.add a.1 b.1 x ∧ IsOp Ieee.double.add a.2 b.2 y
def SubR (a b : Nat × Nat) (x y : Nat) : Prop := IsOp Ieee.double.sub a.1 b.1 x ∧ IsOp Ieee.double.sub a.2 b.2 y
end Go.Proofs.Ytejlicacndpfpaa
