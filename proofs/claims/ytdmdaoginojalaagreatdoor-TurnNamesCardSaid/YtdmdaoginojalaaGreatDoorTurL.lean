/-
  TurnRound: the same complex numbers, no signs of noughts, the chapter's examples.
-/
import Derived.Test.YtdmdaoginojalaaGreatDoorTurP
import Derived.Test.YtdmdaoginojalaaGreatDoorRndU
namespace Go.Proofs.YtdmdaoginojalaaGreatDoor
open Go.RowKit

theorem live1 : jF 1 2 = 16384 ∧ uF 16384 = (0, one) := by constructor <;> decide +kernel
theorem live2 : jF 2 2 = 32768 ∧ uF 32768 = (13830554455654793216, 0) := by constructor <;> decide +kernel
set_option maxRecDepth 100000 in
set_option maxHeartbeats 800000 in
theorem lives17 (w : World) : Calls Tryz.prog 12 #[] w (RetV w (.bool true)) := by
  have E1 : (Ieee.double.order 0 0 == some .eq) = true := by decide +kernel
  have E2 : (Ieee.double.order 4607182418800017408 4607182418800017408 == some .eq) = true := by decide +kernel
  have E3 : (Ieee.double.order 13830554455654793216 13830554455654793216 == some .eq) = true := by decide +kernel
  go_enter Tryz.func12, Tryz.ntmps12
  go_wp2_with fail
  refine (unit_ok 1 2 (by decide) _).mono ?_
  rintro e1 w1 ⟨rfl, hb1⟩
  rw [live1.1, live1.2]
  go_wp2_with fail
  refine (unit_ok 2 2 (by decide) _).mono ?_
  rintro e2 w2 ⟨rfl, hb2⟩
  rw [live2.1, live2.2]
  go_wp2_with fail
  refine (unit_no 0 (-1) (by decide) _).mono ?_
  rintro e3 w3 ⟨rfl, rfl⟩
  rw [show cntF (-1) = 1 from rfl]
  go_wp2_with fail
  refine (unit_no 0 17 (by decide) _).mono ?_
  rintro e4 w4 ⟨rfl, rfl⟩
  rw [show cntF 17 = 4 from rfl]
  have hbw := below_next hb1 hb2
  go_wp2_with fail
  go_ret
  exact ⟨rfl, hbw⟩
end Go.Proofs.YtdmdaoginojalaaGreatDoor
