/-
  Spans: quotients (span.Quo).
-/
import Derived.Test.YtejlicacndpfpaaSpnM
namespace Go.Proofs.Ytejlicacndpfpaa
open Go.RowKit

/-- Has the divisor nought? -/
def zB (lb hb : Nat) : Bool := leB lb 0 && (Ieee.double.order hb 0 == some .gt || Ieee.double.order hb 0 == some .eq)
end Go.Proofs.Ytejlicacndpfpaa
