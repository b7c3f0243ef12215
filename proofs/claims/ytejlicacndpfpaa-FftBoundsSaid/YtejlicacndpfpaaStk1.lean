/-
  Films by floats: what is asked of one number (stack.index, cplx.Finite, polestarref19.index, May, finite); sums, differences, quotients (cplx).
-/
import Derived.Test.YtejlicacndpfpaaRu6
import Derived.Test.YtejlicacndpfpaaTurP
namespace Go.Proofs.Ytejlicacndpfpaa
open Go.RowKit

theorem finB_split (x : Nat) : Flt.finB x = (!Flt.nanB x && !Flt.infB x) := Flt.finB_eq x
theorem cplx_finite_any (x : Nat) (hx : x < 2 ^ 64) (w : World) : Calls Try.prog 113 #[.float .f64 x] w fun e w' => e = .returned (.bool (Flt.finB x)) ∧ w = w' := by
  have hs := finB_split x
  cases i : Flt.infB x with
  | true =>
    have HI : Hid (Flt.finB x = false) := Lib.hid (by rw [hs, i]; simp)
    rw [HI.out]
    clear hs
    go_enter Try.func113, Try.ntmps113
    go_wp2_with (go_at_call 136; (with_reducible refine (isInf0_any x hx _).mono ?_); rintro e1 w1 ⟨rfl, rfl⟩; rw [i])
    go_ret
    exact ⟨rfl, rfl⟩
  | false =>
    have HI : Hid (Flt.finB x = !Flt.nanB x) := Lib.hid (by rw [hs, i]; simp)
    rw [HI.out]
    clear hs
    go_enter Try.func113, Try.ntmps113
    go_wp2_with (first | (go_at_call 136; (with_reducible refine (isInf0_any x hx _).mono ?_); rintro e1 w1 ⟨rfl, rfl⟩; rw [i]) | (go_at_call 137; (with_reducible refine (isNaN_any x _).mono ?_); rintro e2 w2 ⟨rfl, rfl⟩))
    go_ret
    exact ⟨rfl, rfl⟩
def fin2 (z : Nat × Nat) : Bool := Flt.finB z.1 && Flt.finB z.2
theorem cplx_Finite_any (a b : Nat) (ha : a < 2 ^ 64) (hb : b < 2 ^ 64) (w : World) : Calls Try.prog 73 #[.complex .f64 a b] w fun e w' => e = .returned (.bool (fin2 (a, b))) ∧ w = w' := by
  cases i : Flt.finB a with
  | false =>
    have HI : Hid (fin2 (a, b) = false) := Lib.hid (by unfold fin2; rw [i]; rfl)
    rw [HI.out]
    go_enter Try.func73, Try.ntmps73
    go_wp2_with (go_at_call 113; (with_reducible refine (cplx_finite_any a ha _).mono ?_); rintro e1 w1 ⟨rfl, rfl⟩; rw [i])
    go_ret
    exact ⟨rfl, rfl⟩
  | true =>
    have HI : Hid (fin2 (a, b) = Flt.finB b) := Lib.hid (by unfold fin2; rw [i]; rfl)
    rw [HI.out]
    go_enter Try.func73, Try.ntmps73
    go_wp2_with (first | (go_at_call 113; (with_reducible refine (cplx_finite_any a ha _).mono ?_); rintro e1 w1 ⟨rfl, rfl⟩; rw [i]) | (go_at_call 113; (with_reducible refine (cplx_finite_any b hb _).mono ?_); rintro e1 w1 ⟨rfl, rfl⟩))
    go_ret
    exact ⟨rfl, rfl⟩
theorem cplx_add_any (a b c d : Nat) (w : World) : Calls Try.prog 126 #[.complex .f64 a b, .complex .f64 c d] w (RetCx w (AddR (a, b) (c, d))) := by
  go_enter Try.func126, Try.ntmps126
  go_wp2_with (first
    | (refine wpList_fadd _ rfl rfl ?_; intro x k1 h1; with_reducible have H1 : Hid (IsOp Ieee.double.add a c x) := Lib.hid h1; clear h1)
    | (refine wpList_fadd _ rfl rfl ?_; intro y k2 h2; with_reducible have H2 : Hid (IsOp Ieee.double.add b d y) := Lib.hid h2; clear h2))
  go_ret
  exact ⟨x, y, rfl, ⟨H1.out, H2.out⟩, _, rfl⟩
theorem cplx_sub_any (a b c d : Nat) (w : World) : Calls Try.prog 127 #[.complex .f64 a b, .complex .f64 c d] w (RetCx w (SubR (a, b) (c, d))) := by
  go_enter Try.func127, Try.ntmps127
  go_wp2_with (first
    | (refine wpList_fsub _ rfl rfl ?_; intro x k1 h1; with_reducible have H1 : Hid (IsOp Ieee.double.sub a c x) := Lib.hid h1; clear h1)
    | (refine wpList_fsub _ rfl rfl ?_; intro y k2 h2; with_reducible have H2 : Hid (IsOp Ieee.double.sub b d y) := Lib.hid h2; clear h2))
  go_ret
  exact ⟨x, y, rfl, ⟨H1.out, H2.out⟩, _, rfl⟩
end Go.Proofs.Ytejlicacndpfpaa
