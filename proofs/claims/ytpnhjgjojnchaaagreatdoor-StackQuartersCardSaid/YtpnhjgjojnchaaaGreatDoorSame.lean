/-
  Whether floats are the same (polestarlaw01.SameFloat, polestarlaw04.same).
-/
import Derived.Test.YtpnhjgjojnchaaaGreatDoorRndU
namespace Go.Proofs.YtpnhjgjojnchaaaGreatDoor
open Go.RowKit

set_option maxHeartbeats 800000 in
theorem law_sameFloat (x y : Nat) (w : World) : Calls Tryz.prog 111 #[.float .f64 x, .float .f64 y] w fun e w' => e = .returned (.bool (Flt.sameB x y)) ∧ w = w' := by
  by_cases h : x = y
  · subst h
    have hs : Hid (Flt.sameB x x = true) := Lib.hid (by unfold Flt.sameB; simp)
    rw [hs.out]
    go_enter Tryz.func111, Tryz.ntmps111
    go_wp2_with (go_at_call 167; refine (isNaN_any _ _).mono ?_; rintro e w' ⟨rfl, rfl⟩)
    go_ret
    exact ⟨rfl, rfl⟩
  · have hb : ((x : Int) == (y : Int)) = false := by rw [beq_eq_false_iff_ne]; omega
    have hs : Hid (Flt.sameB x y = (Flt.nanB x && Flt.nanB y)) := Lib.hid (by unfold Flt.sameB; rw [show (x == y) = false from by simp [h]]; rfl)
    rw [hs.out]
    have HB := Lib.hid hb
    clear hb
    cases hx : Flt.nanB x with
    | true =>
      go_enter Tryz.func111, Tryz.ntmps111
      go_wp2_with (first | (go_at_call 167; (with_reducible refine (isNaN_any x _).mono ?_); rintro e w' ⟨rfl, rfl⟩; rw [hx]) | (go_at_call 167; (with_reducible refine (isNaN_any y _).mono ?_); rintro e w' ⟨rfl, rfl⟩))
      go_ret
      exact ⟨by show Ending.returned (.bool (((x : Int) == (y : Int)) || Flt.nanB y)) = _; rw [HB.out]; rfl, rfl⟩
    | false =>
      go_enter Tryz.func111, Tryz.ntmps111
      go_wp2_with (first | (go_at_call 167; (with_reducible refine (isNaN_any x _).mono ?_); rintro e w' ⟨rfl, rfl⟩; rw [hx]) | (go_at_call 167; (with_reducible refine (isNaN_any y _).mono ?_); rintro e w' ⟨rfl, rfl⟩))
      go_ret
      exact ⟨by show Ending.returned (.bool ((x : Int) == (y : Int))) = _; rw [HB.out]; rfl, rfl⟩

end Go.Proofs.YtpnhjgjojnchaaaGreatDoor
