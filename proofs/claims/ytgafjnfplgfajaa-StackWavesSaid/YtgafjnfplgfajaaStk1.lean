/-
  Films by floats: what is asked of one number (stack.index, cplx.Finite, polestarref19.index, May, finite); sums, differences, quotients (cplx).
-/
import Derived.Test.YtgafjnfplgfajaaRux
namespace Go.Proofs.Ytgafjnfplgfajaa
open Go.RowKit

/-- Is it finite, above nought? -/
def idxF (x : Nat) : Bool := (Ieee.double.order x 0 == some .gt) && !Flt.infB x
theorem stack_index_any (x : Nat) (hx : x < 2 ^ 64) (w : World) : Calls Try.prog 53 #[.float .f64 x] w fun e w' => e = .returned (.bool (idxF x)) ∧ w = w' := by
  cases g : (Ieee.double.order x 0 == some .gt) with
  | false =>
    have HI : Hid (idxF x = false) := Lib.hid (by unfold idxF; rw [g]; rfl)
    rw [HI.out]
    go_enter Try.func53, Try.ntmps53
    go_wp2_with fail
    go_ret
    exact ⟨rfl, rfl⟩
  | true =>
    have HI : Hid (idxF x = !Flt.infB x) := Lib.hid (by unfold idxF; rw [g]; rfl)
    rw [HI.out]
    go_enter Try.func53, Try.ntmps53
    go_wp2_with (go_at_call 66; (with_reducible refine (isInf0_any x hx _).mono ?_); rintro e1 w1 ⟨rfl, rfl⟩)
    go_ret
    exact ⟨rfl, rfl⟩
theorem gt_nan {x : Nat} (h : Flt.nanB x = true) : (Ieee.double.order x 0 == some .gt) = false := by
  cases g : (Ieee.double.order x 0 == some .gt) with
  | false => rfl
  | true =>
    exfalso
    rw [Flt.order_nan_left (Flt.nanB_iff.1 h)] at g
    exact absurd g (by decide)
theorem ref19_index_any (x : Nat) (hx : x < 2 ^ 64) (w : World) : Calls Try.prog 60 #[.float .f64 x] w fun e w' => e = .returned (.bool (idxF x)) ∧ w = w' := by
  cases n : Flt.nanB x with
  | true =>
    have HI : Hid (idxF x = false) := Lib.hid (by unfold idxF; rw [gt_nan n]; rfl)
    rw [HI.out]
    go_enter Try.func60, Try.ntmps60
    go_wp2_with (go_at_call 65; (with_reducible refine (isNaN_any x _).mono ?_); rintro e1 w1 ⟨rfl, rfl⟩; rw [n])
    go_ret
    exact ⟨rfl, rfl⟩
  | false =>
    cases i : Flt.infB x with
    | true =>
      have HI : Hid (idxF x = false) := Lib.hid (by unfold idxF; rw [i]; simp)
      rw [HI.out]
      go_enter Try.func60, Try.ntmps60
      go_wp2_with (first | (go_at_call 65; (with_reducible refine (isNaN_any x _).mono ?_); rintro e1 w1 ⟨rfl, rfl⟩; rw [n]) | (go_at_call 66; (with_reducible refine (isInf0_any x hx _).mono ?_); rintro e1 w1 ⟨rfl, rfl⟩; rw [i]))
      go_ret
      exact ⟨rfl, rfl⟩
    | false =>
      have HI : Hid (idxF x = (Ieee.double.order x 0 == some .gt)) := Lib.hid (by unfold idxF; rw [i]; simp)
      rw [HI.out]
      go_enter Try.func60, Try.ntmps60
      go_wp2_with (first | (go_at_call 65; (with_reducible refine (isNaN_any x _).mono ?_); rintro e1 w1 ⟨rfl, rfl⟩; rw [n]) | (go_at_call 66; (with_reducible refine (isInf0_any x hx _).mono ?_); rintro e1 w1 ⟨rfl, rfl⟩; rw [i]))
      go_ret
      exact ⟨rfl, rfl⟩
theorem finB_split (x : Nat) : Flt.finB x = (!Flt.nanB x && !Flt.infB x) := Flt.finB_eq x
theorem cplx_finite_any (x : Nat) (hx : x < 2 ^ 64) (w : World) : Calls Try.prog 59 #[.float .f64 x] w fun e w' => e = .returned (.bool (Flt.finB x)) ∧ w = w' := by
  have hs := finB_split x
  cases i : Flt.infB x with
  | true =>
    have HI : Hid (Flt.finB x = false) := Lib.hid (by rw [hs, i]; simp)
    rw [HI.out]
    clear hs
    go_enter Try.func59, Try.ntmps59
    go_wp2_with (go_at_call 66; (with_reducible refine (isInf0_any x hx _).mono ?_); rintro e1 w1 ⟨rfl, rfl⟩; rw [i])
    go_ret
    exact ⟨rfl, rfl⟩
  | false =>
    have HI : Hid (Flt.finB x = !Flt.nanB x) := Lib.hid (by rw [hs, i]; simp)
    rw [HI.out]
    clear hs
    go_enter Try.func59, Try.ntmps59
    go_wp2_with (first | (go_at_call 66; (with_reducible refine (isInf0_any x hx _).mono ?_); rintro e1 w1 ⟨rfl, rfl⟩; rw [i]) | (go_at_call 65; (with_reducible refine (isNaN_any x _).mono ?_); rintro e2 w2 ⟨rfl, rfl⟩))
    go_ret
    exact ⟨rfl, rfl⟩
def fin2 (z : Nat × Nat) : Bool := Flt.finB z.1 && Flt.finB z.2
theorem cplx_Finite_any (a b : Nat) (ha : a < 2 ^ 64) (hb : b < 2 ^ 64) (w : World) : Calls Try.prog 31 #[.complex .f64 a b] w fun e w' => e = .returned (.bool (fin2 (a, b))) ∧ w = w' := by
  cases i : Flt.finB a with
  | false =>
    have HI : Hid (fin2 (a, b) = false) := Lib.hid (by unfold fin2; rw [i]; rfl)
    rw [HI.out]
    go_enter Try.func31, Try.ntmps31
    go_wp2_with (go_at_call 59; (with_reducible refine (cplx_finite_any a ha _).mono ?_); rintro e1 w1 ⟨rfl, rfl⟩; rw [i])
    go_ret
    exact ⟨rfl, rfl⟩
  | true =>
    have HI : Hid (fin2 (a, b) = Flt.finB b) := Lib.hid (by unfold fin2; rw [i]; rfl)
    rw [HI.out]
    go_enter Try.func31, Try.ntmps31
    go_wp2_with (first | (go_at_call 59; (with_reducible refine (cplx_finite_any a ha _).mono ?_); rintro e1 w1 ⟨rfl, rfl⟩; rw [i]) | (go_at_call 59; (with_reducible refine (cplx_finite_any b hb _).mono ?_); rintro e1 w1 ⟨rfl, rfl⟩))
    go_ret
    exact ⟨rfl, rfl⟩
set_option maxHeartbeats 1600000 in
theorem ref19_finite_any (a b : Nat) (ha : a < 2 ^ 64) (hb : b < 2 ^ 64) (w : World) : Calls Try.prog 38 #[.complex .f64 a b] w fun e w' => e = .returned (.bool (fin2 (a, b))) ∧ w = w' := by
  have HF : Hid (fin2 (a, b) = ((!Flt.nanB a && !Flt.infB a) && (!Flt.nanB b && !Flt.infB b))) := Lib.hid (by unfold fin2; rw [finB_split, finB_split])
  cases n1 : Flt.nanB a <;> cases i1 : Flt.infB a <;> cases n2 : Flt.nanB b <;> cases i2 : Flt.infB b
  all_goals
    rw [n1, i1, n2, i2] at HF
    rw [HF.out]
    go_enter Try.func38, Try.ntmps38
    go_wp2_with (first
      | (go_at_call 65; (with_reducible refine (isNaN_any a _).mono ?_); rintro e1 w1 ⟨rfl, rfl⟩; rw [n1])
      | (go_at_call 65; (with_reducible refine (isNaN_any b _).mono ?_); rintro e1 w1 ⟨rfl, rfl⟩; rw [n2])
      | (go_at_call 66; (with_reducible refine (isInf0_any a ha _).mono ?_); rintro e1 w1 ⟨rfl, rfl⟩; rw [i1])
      | (go_at_call 66; (with_reducible refine (isInf0_any b hb _).mono ?_); rintro e1 w1 ⟨rfl, rfl⟩; rw [i2]))
    go_ret
    exact ⟨rfl, rfl⟩
theorem cplx_add_any (a b c d : Nat) (w : World) : Calls Try.prog 27 #[.complex .f64 a b, .complex .f64 c d] w (RetCx w (AddR (a, b) (c, d))) := by
  go_enter Try.func27, Try.ntmps27
  go_wp2_with (first
    | (refine wpList_fadd _ rfl rfl ?_; intro x k1 h1; with_reducible have H1 : Hid (IsOp Ieee.double.add a c x) := Lib.hid h1; clear h1)
    | (refine wpList_fadd _ rfl rfl ?_; intro y k2 h2; with_reducible have H2 : Hid (IsOp Ieee.double.add b d y) := Lib.hid h2; clear h2))
  go_ret
  exact ⟨x, y, rfl, ⟨H1.out, H2.out⟩, _, rfl⟩
theorem cplx_sub_any (a b c d : Nat) (w : World) : Calls Try.prog 28 #[.complex .f64 a b, .complex .f64 c d] w (RetCx w (SubR (a, b) (c, d))) := by
  go_enter Try.func28, Try.ntmps28
  go_wp2_with (first
    | (refine wpList_fsub _ rfl rfl ?_; intro x k1 h1; with_reducible have H1 : Hid (IsOp Ieee.double.sub a c x) := Lib.hid h1; clear h1)
    | (refine wpList_fsub _ rfl rfl ?_; intro y k2 h2; with_reducible have H2 : Hid (IsOp Ieee.double.sub b d y) := Lib.hid h2; clear h2))
  go_ret
  exact ⟨x, y, rfl, ⟨H1.out, H2.out⟩, _, rfl⟩
set_option maxRecDepth 100000 in
set_option maxHeartbeats 800000 in
theorem cplx_quo_any (a b c d : Nat) (w : World) : Calls Try.prog 30 #[.complex .f64 a b, .complex .f64 c d] w (RetCx w (QuoR (a, b) (c, d))) := by
  go_enter Try.func30, Try.ntmps30
  go_wp2_with fail
  refine (dot_any c c d d _).mono ?_
  rintro e1 w1 ⟨p, rfl, hp, k1, rfl⟩
  have HP := Lib.hid hp
  clear hp
  go_wp2_with fail
  refine (dot_any a c b d _).mono ?_
  rintro e2 w2 ⟨n, rfl, hn, k2, rfl⟩
  have HN := Lib.hid hn
  clear hn
  go_wp2_with (refine wpList_fquo _ rfl rfl ?_; intro x k3 h3; with_reducible have H3 : Hid (IsOp Ieee.double.div n p x) := Lib.hid h3; clear h3)
  refine (cross_any b c a d _).mono ?_
  rintro e3 w3 ⟨m, rfl, hm, k4, rfl⟩
  have HM := Lib.hid hm
  clear hm
  go_wp2_with (refine wpList_fquo _ rfl rfl ?_; intro y k5 h5; with_reducible have H5 : Hid (IsOp Ieee.double.div m p y) := Lib.hid h5; clear h5)
  go_ret
  exact ⟨x, y, rfl, ⟨p, n, m, HP.out, HN.out, HM.out, H3.out, H5.out⟩, _, rfl⟩
theorem waves1_any (v : Nat) (w : World) : Calls Try.prog 24 #[.float .f64 v] w fun e w' => e = .returned (.complex .f64 v 0) ∧ w = w' := by
  go_enter Try.func24, Try.ntmps24
  go_wp2_with fail
  go_ret
  exact ⟨rfl, rfl⟩
end Go.Proofs.Ytgafjnfplgfajaa
