/-
  TurnRound: turns more or less, mirrored, turned by a quarter.
-/
import Derived.Test.YtejlicacndpfpaaTurA
namespace Go.Proofs.Ytejlicacndpfpaa
open Go.RowKit

/-! ### worths -/
theorem four {q : Nat} (h : q < 4) : q = 0 ∨ q = 1 ∨ q = 2 ∨ q = 3 := by omega
/-! ### places -/
end Go.Proofs.Ytejlicacndpfpaa
