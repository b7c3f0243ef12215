/-
  Films by floats: what is asked of one number (stack.index, cplx.Finite, polestarref19.index, May, finite); sums, differences, quotients (cplx).
-/
import Derived.Test.YtpnhjgjojnchaaaGreatDoorTurU
import Derived.Test.YtpnhjgjojnchaaaGreatDoorRndU
import Derived.Test.YtpnhjgjojnchaaaGreatDoorPrdU
import Derived.Test.YtpnhjgjojnchaaaGreatDoorRefV
import Derived.Test.YtpnhjgjojnchaaaGreatDoorRefW
import Derived.Test.YtpnhjgjojnchaaaGreatDoorFlt
import Derived.Test.YtpnhjgjojnchaaaGreatDoorSto
import Derived.Test.YtpnhjgjojnchaaaGreatDoorZero
import Derived.Test.YtpnhjgjojnchaaaGreatDoorShelf
import Derived.Laws.MathBits
import Derived.Test.YtpnhjgjojnchaaaGreatDoorTurP
namespace Go.Proofs.YtpnhjgjojnchaaaGreatDoor
open Go.RowKit

/-- Is it finite, above nought? -/
def idxF (x : Nat) : Bool := (Ieee.double.order x 0 == some .gt) && !Flt.infB x
theorem stack_index_any (x : Nat) (hx : x < 2 ^ 64) (w : World) : Calls Tryz.prog 55 #[.float .f64 x] w fun e w' => e = .returned (.bool (idxF x)) ∧ w = w' := by
  cases g : (Ieee.double.order x 0 == some .gt) with
  | false =>
    have HI : Hid (idxF x = false) := Lib.hid (by unfold idxF; rw [g]; rfl)
    rw [HI.out]
    go_enter Tryz.func55, Tryz.ntmps55
    go_wp2_with fail
    go_ret
    exact ⟨rfl, rfl⟩
  | true =>
    have HI : Hid (idxF x = !Flt.infB x) := Lib.hid (by unfold idxF; rw [g]; rfl)
    rw [HI.out]
    go_enter Tryz.func55, Tryz.ntmps55
    go_wp2_with (go_at_call 166; (with_reducible refine (isInf0_any x hx _).mono ?_); rintro e1 w1 ⟨rfl, rfl⟩)
    go_ret
    exact ⟨rfl, rfl⟩
theorem gt_nan {x : Nat} (h : Flt.nanB x = true) : (Ieee.double.order x 0 == some .gt) = false := by
  cases g : (Ieee.double.order x 0 == some .gt) with
  | false => rfl
  | true =>
    exfalso
    rw [Flt.order_nan_left (Flt.nanB_iff.1 h)] at g
    exact absurd g (by decide)
theorem ref19_index_any (x : Nat) (hx : x < 2 ^ 64) (w : World) : Calls Tryz.prog 56 #[.float .f64 x] w fun e w' => e = .returned (.bool (idxF x)) ∧ w = w' := by
  cases n : Flt.nanB x with
  | true =>
    have HI : Hid (idxF x = false) := Lib.hid (by unfold idxF; rw [gt_nan n]; rfl)
    rw [HI.out]
    go_enter Tryz.func56, Tryz.ntmps56
    go_wp2_with (go_at_call 167; (with_reducible refine (isNaN_any x _).mono ?_); rintro e1 w1 ⟨rfl, rfl⟩; rw [n])
    go_ret
    exact ⟨rfl, rfl⟩
  | false =>
    cases i : Flt.infB x with
    | true =>
      have HI : Hid (idxF x = false) := Lib.hid (by unfold idxF; rw [i]; simp)
      rw [HI.out]
      go_enter Tryz.func56, Tryz.ntmps56
      go_wp2_with (first | (go_at_call 167; (with_reducible refine (isNaN_any x _).mono ?_); rintro e1 w1 ⟨rfl, rfl⟩; rw [n]) | (go_at_call 166; (with_reducible refine (isInf0_any x hx _).mono ?_); rintro e1 w1 ⟨rfl, rfl⟩; rw [i]))
      go_ret
      exact ⟨rfl, rfl⟩
    | false =>
      have HI : Hid (idxF x = (Ieee.double.order x 0 == some .gt)) := Lib.hid (by unfold idxF; rw [i]; simp)
      rw [HI.out]
      go_enter Tryz.func56, Tryz.ntmps56
      go_wp2_with (first | (go_at_call 167; (with_reducible refine (isNaN_any x _).mono ?_); rintro e1 w1 ⟨rfl, rfl⟩; rw [n]) | (go_at_call 166; (with_reducible refine (isInf0_any x hx _).mono ?_); rintro e1 w1 ⟨rfl, rfl⟩; rw [i]))
      go_ret
      exact ⟨rfl, rfl⟩
end Go.Proofs.YtpnhjgjojnchaaaGreatDoor
