/-
  The references' complex numbers (polestarref06): sums, differences, products, quotients, quarter turns; the program's likewise (cplx).
-/
import Derived.Test.YtgafjnfplgfajaaTurC
namespace Go.Proofs.Ytgafjnfplgfajaa
open Go.RowKit

def AddR (a b : Nat × Nat) (x y : Nat) : Prop := IsOp Ieee.double.add a.1 b.1 x ∧ IsOp Ieee.double.add a.2 b.2 y
def SubR (a b : Nat × Nat) (x y : Nat) : Prop := IsOp Ieee.double.sub a.1 b.1 x ∧ IsOp Ieee.double.sub a.2 b.2 y
def QuoR (a b : Nat × Nat) (x y : Nat) : Prop :=
  ∃ d n m, DotR b.1 b.1 b.2 b.2 d ∧ DotR a.1 b.1 a.2 b.2 n ∧ CrossR a.2 b.1 a.1 b.2 m ∧ IsOp Ieee.double.div n d x ∧ IsOp Ieee.double.div m d y
set_option maxHeartbeats 800000 in
theorem ref6_add_any (a b c d : Nat) (w : World) : Calls Try.prog 34 #[.complex .f64 a b, .complex .f64 c d] w (RetCx w (AddR (a, b) (c, d))) := by
  go_enter Try.func34, Try.ntmps34
  go_wp2_with (first
    | (refine wpList_fadd _ rfl rfl ?_; intro x k1 h1; with_reducible have H1 : Hid (IsOp Ieee.double.add a c x) := Lib.hid h1; clear h1)
    | (refine wpList_fadd _ rfl rfl ?_; intro y k2 h2; with_reducible have H2 : Hid (IsOp Ieee.double.add b d y) := Lib.hid h2; clear h2))
  go_ret
  exact ⟨x, y, rfl, ⟨H1.out, H2.out⟩, _, rfl⟩
set_option maxHeartbeats 800000 in
theorem ref6_sub_any (a b c d : Nat) (w : World) : Calls Try.prog 37 #[.complex .f64 a b, .complex .f64 c d] w (RetCx w (SubR (a, b) (c, d))) := by
  go_enter Try.func37, Try.ntmps37
  go_wp2_with (first
    | (refine wpList_fsub _ rfl rfl ?_; intro x k1 h1; with_reducible have H1 : Hid (IsOp Ieee.double.sub a c x) := Lib.hid h1; clear h1)
    | (refine wpList_fsub _ rfl rfl ?_; intro y k2 h2; with_reducible have H2 : Hid (IsOp Ieee.double.sub b d y) := Lib.hid h2; clear h2))
  go_ret
  exact ⟨x, y, rfl, ⟨H1.out, H2.out⟩, _, rfl⟩
set_option maxHeartbeats 800000 in
theorem ref6_mul_any (a b c d : Nat) (w : World) : Calls Try.prog 35 #[.complex .f64 a b, .complex .f64 c d] w (RetCx w (MulR (a, b) (c, d))) := by
  go_enter Try.func35, Try.ntmps35
  go_wp2_with (first
    | (refine wpList_fmul _ rfl rfl ?_; intro p k1 h1; with_reducible have H1 : Hid (IsOp Ieee.double.mul a c p) := Lib.hid h1; clear h1)
    | (refine wpList_fmul _ rfl rfl ?_; intro q k2 h2; with_reducible have H2 : Hid (IsOp Ieee.double.mul b d q) := Lib.hid h2; clear h2)
    | (refine wpList_fmul _ rfl rfl ?_; intro s k3 h3; with_reducible have H3 : Hid (IsOp Ieee.double.mul a d s) := Lib.hid h3; clear h3)
    | (refine wpList_fmul _ rfl rfl ?_; intro t k4 h4; with_reducible have H4 : Hid (IsOp Ieee.double.mul b c t) := Lib.hid h4; clear h4)
    | (refine wpList_fsub _ rfl rfl ?_; intro x k5 h5; with_reducible have H5 : Hid (IsOp Ieee.double.sub p q x) := Lib.hid h5; clear h5)
    | (refine wpList_fadd _ rfl rfl ?_; intro y k6 h6; with_reducible have H6 : Hid (IsOp Ieee.double.add s t y) := Lib.hid h6; clear h6))
  go_ret
  exact ⟨x, y, rfl, ⟨⟨p, q, H1.out, H2.out, H5.out⟩, ⟨s, t, H3.out, H4.out, H6.out⟩⟩, _, rfl⟩
set_option maxHeartbeats 1600000 in
theorem ref6_quo_any (a b c d : Nat) (w : World) : Calls Try.prog 36 #[.complex .f64 a b, .complex .f64 c d] w (RetCx w (QuoR (a, b) (c, d))) := by
  go_enter Try.func36, Try.ntmps36
  go_wp2_with (first
    | (refine wpList_fmul _ rfl rfl ?_; intro p k h; have H := Lib.hid h; clear h)
    | (refine wpList_fadd _ rfl rfl ?_; intro p k h; have H := Lib.hid h; clear h)
    | (refine wpList_fsub _ rfl rfl ?_; intro p k h; have H := Lib.hid h; clear h)
    | (refine wpList_fquo _ rfl rfl ?_; intro p k h; have H := Lib.hid h; clear h))
  rename_i p1 k1 H1 p2 k2 H2 p3 k3 H3 p4 k4 H4 p5 k5 H5 p6 k6 H6 p7 k7 H7 p8 k8 H8 p9 k9 H9 x k10 H10
  go_ret
  exact ⟨x, p, rfl, ⟨p3, p6, p9, ⟨p1, p2, H1.out, H2.out, H3.out⟩, ⟨p4, p5, H4.out, H5.out, H6.out⟩, ⟨p7, p8, H7.out, H8.out, H9.out⟩, H10.out, H.out⟩, _, rfl⟩
theorem opp_opp {y : Nat} (h : y < 2 ^ 64) : Flt.opp (Flt.opp y) = y := by
  have h1 := Flt.word_eq y h
  have h2 := Flt.word_eq (Flt.opp (Flt.opp y)) (Flt.opp_lt _)
  rw [Flt.rg_opp, Flt.rg_opp, Flt.sgn_opp, Flt.sgn_opp, Bool.not_not] at h2
  exact h2.symm.trans h1
theorem turnF_at (a b : Nat) (hb : b < 2 ^ 64) : turnF (a, b) 0 = (a, b) ∧ turnF (a, b) 1 = (Flt.opp b, a) ∧ turnF (a, b) 2 = (Flt.opp a, Flt.opp b) ∧ turnF (a, b) 3 = (b, Flt.opp a) := by
  refine ⟨rfl, rfl, rfl, ?_⟩
  show (Flt.opp (Flt.opp b), Flt.opp a) = _
  rw [opp_opp hb]
set_option maxHeartbeats 1600000 in
theorem ref6_turn_any (a b q : Nat) (ha : a < 2 ^ 64) (hb : b < 2 ^ 64) (hq : q < 4) (w : World) :
    Calls Try.prog 99 #[.complex .f64 a b, .int .i64 (q : Int)] w fun e w' => e = .returned (.complex .f64 (turnF (a, b) q).1 (turnF (a, b) q).2) ∧ w = w' := by
  have NA := Lib.hid (neg64_eq a ha)
  have NB := Lib.hid (neg64_eq b hb)
  obtain ⟨t0, t1, t2, t3⟩ := turnF_at a b hb
  have T0 := Lib.hid t0
  have T1 := Lib.hid t1
  have T2 := Lib.hid t2
  have T3 := Lib.hid t3
  clear t0 t1 t2 t3
  match q, hq with
  | 0, _ =>
    rw [T0.out]
    go_enter Try.func99, Try.ntmps99
    go_wp2_with fail
    go_ret
    exact ⟨rfl, rfl⟩
  | 1, _ =>
    rw [T1.out]
    go_enter Try.func99, Try.ntmps99
    go_wp2_with fail
    go_ret
    exact ⟨by rw [← NB.out]; rfl, rfl⟩
  | 2, _ =>
    rw [T2.out]
    go_enter Try.func99, Try.ntmps99
    go_wp2_with fail
    go_ret
    exact ⟨by rw [← NB.out, ← NA.out]; rfl, rfl⟩
  | 3, _ =>
    rw [T3.out]
    go_enter Try.func99, Try.ntmps99
    go_wp2_with fail
    go_ret
    exact ⟨by rw [← NA.out]; rfl, rfl⟩
end Go.Proofs.Ytgafjnfplgfajaa
