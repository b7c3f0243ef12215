/-
  Spans: the reference's In, plain, lesser, greater, Meet, Join.
-/
import Derived.Test.YtcjpocepgkfkaaaSpnY
namespace Go.Proofs.Ytcjpocepgkfkaaa
open Go.RowKit

theorem okI_cases (lo hi : Nat) : (okS lo hi = true ∧ okI lo hi = 0) ∨ (okS lo hi = false ∧ okI lo hi = 1) := by
  unfold okI; cases okS lo hi <;> simp

theorem pz_same {x y : Nat} (hx : x < 2 ^ 64) (hy : y < 2 ^ 64) (h : Flt.sv x = Flt.sv y) : pz x = pz y := by
  by_cases h0 : Flt.sv x = 0
  · unfold pz
    rw [if_pos (Flt.sv_zero_iff.1 h0), if_pos (Flt.sv_zero_iff.1 (by omega))]
  · rw [Flt.fin_eq hx hy h h0]
end Go.Proofs.Ytcjpocepgkfkaaa
