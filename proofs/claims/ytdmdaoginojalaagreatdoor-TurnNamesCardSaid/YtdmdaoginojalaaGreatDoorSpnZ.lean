/-
  Spans: the reference's In, plain, lesser, greater, Meet, Join.
-/
import Derived.Test.YtdmdaoginojalaaGreatDoorSpnW
namespace Go.Proofs.YtdmdaoginojalaaGreatDoor
open Go.RowKit

theorem pz_same {x y : Nat} (hx : x < 2 ^ 64) (hy : y < 2 ^ 64) (h : Flt.sv x = Flt.sv y) : pz x = pz y := by
  by_cases h0 : Flt.sv x = 0
  · unfold pz
    rw [if_pos (Flt.sv_zero_iff.1 h0), if_pos (Flt.sv_zero_iff.1 (by omega))]
  · rw [Flt.fin_eq hx hy h h0]
end Go.Proofs.YtdmdaoginojalaaGreatDoor
