/-
  Spans: whether two are the same; the chapter's examples (polestarlaw05.lives).
-/
import Derived.Test.YtdmdaoginojalaaGreatDoorSpnD
import Derived.Test.YtdmdaoginojalaaGreatDoorSpnZ
import Derived.Test.YtdmdaoginojalaaGreatDoorRndU
namespace Go.Proofs.YtdmdaoginojalaaGreatDoor
open Go.RowKit

/-! ### the examples -/
def UU : Int := ((2 ^ Flt.K74 : Nat) : Int)
theorem UU_pos : 0 < UU := by unfold UU; have := Nat.two_pow_pos Flt.K74; omega
theorem endsF_at {lo hi t s : Nat} (h1 : Flt.sv lo = Flt.sv t ∧ Flt.Fin lo ∧ lo < 2 ^ 64) (h2 : Flt.sv hi = Flt.sv s ∧ Flt.Fin hi ∧ hi < 2 ^ 64) (ht : t < 2 ^ 64) (hs : s < 2 ^ 64) : endsF lo hi = (pz t, pz s, 0) := by
  unfold endsF
  rw [Flt.finB_iff.2 h1.2.1, Flt.finB_iff.2 h2.2.1, pz_same h1.2.2 ht h1.1, pz_same h2.2.2 hs h2.1]
  rfl
theorem fin_dec {x : Nat} (h : Flt.finB x = true) : Flt.Fin x := Flt.finB_iff.1 h
end Go.Proofs.YtdmdaoginojalaaGreatDoor
