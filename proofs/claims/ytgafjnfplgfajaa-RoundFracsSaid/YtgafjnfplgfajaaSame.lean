/-
  Whether floats are the same (polestarlaw01.SameFloat, polestarlaw04.same).
-/
import Derived.Test.YtgafjnfplgfajaaRndU
namespace Go.Proofs.Ytgafjnfplgfajaa
open Go.RowKit

set_option maxHeartbeats 800000 in
theorem law_sameFloat (x y : Nat) (w : World) : Calls Try.prog 39 #[.float .f64 x, .float .f64 y] w fun e w' => e = .returned (.bool (Flt.sameB x y)) ∧ w = w' := by
  by_cases h : x = y
  · subst h
    have hs : Hid (Flt.sameB x x = true) := Lib.hid (by unfold Flt.sameB; simp)
    rw [hs.out]
    go_enter Try.func39, Try.ntmps39
    go_wp2_with (go_at_call 65; refine (isNaN_any _ _).mono ?_; rintro e w' ⟨rfl, rfl⟩)
    go_ret
    exact ⟨rfl, rfl⟩
  · have hb : ((x : Int) == (y : Int)) = false := by rw [beq_eq_false_iff_ne]; omega
    have hs : Hid (Flt.sameB x y = (Flt.nanB x && Flt.nanB y)) := Lib.hid (by unfold Flt.sameB; rw [show (x == y) = false from by simp [h]]; rfl)
    rw [hs.out]
    have HB := Lib.hid hb
    clear hb
    cases hx : Flt.nanB x with
    | true =>
      go_enter Try.func39, Try.ntmps39
      go_wp2_with (first | (go_at_call 65; (with_reducible refine (isNaN_any x _).mono ?_); rintro e w' ⟨rfl, rfl⟩; rw [hx]) | (go_at_call 65; (with_reducible refine (isNaN_any y _).mono ?_); rintro e w' ⟨rfl, rfl⟩))
      go_ret
      exact ⟨by show Ending.returned (.bool (((x : Int) == (y : Int)) || Flt.nanB y)) = _; rw [HB.out]; rfl, rfl⟩
    | false =>
      go_enter Try.func39, Try.ntmps39
      go_wp2_with (first | (go_at_call 65; (with_reducible refine (isNaN_any x _).mono ?_); rintro e w' ⟨rfl, rfl⟩; rw [hx]) | (go_at_call 65; (with_reducible refine (isNaN_any y _).mono ?_); rintro e w' ⟨rfl, rfl⟩))
      go_ret
      exact ⟨by show Ending.returned (.bool ((x : Int) == (y : Int))) = _; rw [HB.out]; rfl, rfl⟩

theorem law_same (a b c d : Nat) (w : World) : Calls Try.prog 16 #[.float .f64 a, .float .f64 b, .float .f64 c, .float .f64 d] w fun e w' => e = .returned (.bool (Flt.sameB a c && Flt.sameB b d)) ∧ w = w' := by
  cases h : Flt.sameB a c with
  | true =>
    go_enter Try.func16, Try.ntmps16
    go_wp2_with (first | (go_at_call 39; (with_reducible refine (law_sameFloat a c _).mono ?_); rintro e w' ⟨rfl, rfl⟩; rw [h]) | (go_at_call 39; (with_reducible refine (law_sameFloat b d _).mono ?_); rintro e w' ⟨rfl, rfl⟩))
    go_ret
    exact ⟨rfl, rfl⟩
  | false =>
    go_enter Try.func16, Try.ntmps16
    go_wp2_with (first | (go_at_call 39; (with_reducible refine (law_sameFloat a c _).mono ?_); rintro e w' ⟨rfl, rfl⟩; rw [h]) | (go_at_call 39; (with_reducible refine (law_sameFloat b d _).mono ?_); rintro e w' ⟨rfl, rfl⟩))
    go_ret
    exact ⟨rfl, rfl⟩
end Go.Proofs.Ytgafjnfplgfajaa
