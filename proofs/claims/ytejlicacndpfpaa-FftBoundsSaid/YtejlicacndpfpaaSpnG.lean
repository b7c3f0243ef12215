/-
  Spans, plainly: what is done to greater spans.
-/
import Derived.Test.YtejlicacndpfpaaSpnR
namespace Go.Proofs.Ytejlicacndpfpaa
open Go.RowKit

/-! ### products of what lies between -/
def sqrC (la ha : Nat) : List (Int × Nat) := [(Flt.sv la * Flt.sv la, 2 ^ Flt.K74), (Flt.sv ha * Flt.sv ha, 2 ^ Flt.K74)]
/-! ### quotients -/
/-! ### sums, squares -/
end Go.Proofs.Ytejlicacndpfpaa
