/-
  The references' complex numbers (polestarref06): sums, differences, products, quotients, quarter turns; the program's likewise (cplx).
-/
import Derived.Test.YtpnhjgjojnchaaaGreatDoorTurC
namespace Go.Proofs.YtpnhjgjojnchaaaGreatDoor
open Go.RowKit

set_option maxHeartbeats 800000 in
theorem ref6_mul_any (a b c d : Nat) (w : World) : Calls Tryz.prog 114 #[.complex .f64 a b, .complex .f64 c d] w (RetCx w (MulR (a, b) (c, d))) := by
  go_enter Tryz.func114, Tryz.ntmps114
  go_wp2_with (first
    | (refine wpList_fmul _ rfl rfl ?_; intro p k1 h1; with_reducible have H1 : Hid (IsOp Ieee.double.mul a c p) := Lib.hid h1; clear h1)
    | (refine wpList_fmul _ rfl rfl ?_; intro q k2 h2; with_reducible have H2 : Hid (IsOp Ieee.double.mul b d q) := Lib.hid h2; clear h2)
    | (refine wpList_fmul _ rfl rfl ?_; intro s k3 h3; with_reducible have H3 : Hid (IsOp Ieee.double.mul a d s) := Lib.hid h3; clear h3)
    | (refine wpList_fmul _ rfl rfl ?_; intro t k4 h4; with_reducible have H4 : Hid (IsOp Ieee.double.mul b c t) := Lib.hid h4; clear h4)
    | (refine wpList_fsub _ rfl rfl ?_; intro x k5 h5; with_reducible have H5 : Hid (IsOp Ieee.double.sub p q x) := Lib.hid h5; clear h5)
    | (refine wpList_fadd _ rfl rfl ?_; intro y k6 h6; with_reducible have H6 : Hid (IsOp Ieee.double.add s t y) := Lib.hid h6; clear h6))
  go_ret
  exact ⟨x, y, rfl, ⟨⟨p, q, H1.out, H2.out, H5.out⟩, ⟨s, t, H3.out, H4.out, H6.out⟩⟩, _, rfl⟩
theorem opp_opp {y : Nat} (h : y < 2 ^ 64) : Flt.opp (Flt.opp y) = y := by
  have h1 := Flt.word_eq y h
  have h2 := Flt.word_eq (Flt.opp (Flt.opp y)) (Flt.opp_lt _)
  rw [Flt.rg_opp, Flt.rg_opp, Flt.sgn_opp, Flt.sgn_opp, Bool.not_not] at h2
  exact h2.symm.trans h1
theorem turnF_at (a b : Nat) (hb : b < 2 ^ 64) : turnF (a, b) 0 = (a, b) ∧ turnF (a, b) 1 = (Flt.opp b, a) ∧ turnF (a, b) 2 = (Flt.opp a, Flt.opp b) ∧ turnF (a, b) 3 = (b, Flt.opp a) := by
  refine ⟨rfl, rfl, rfl, ?_⟩
  show (Flt.opp (Flt.opp b), Flt.opp a) = _
  rw [opp_opp hb]
set_option maxHeartbeats 1600000 in
theorem ref6_turn_any (a b q : Nat) (ha : a < 2 ^ 64) (hb : b < 2 ^ 64) (hq : q < 4) (w : World) :
    Calls Tryz.prog 206 #[.complex .f64 a b, .int .i64 (q : Int)] w fun e w' => e = .returned (.complex .f64 (turnF (a, b) q).1 (turnF (a, b) q).2) ∧ w = w' := by
  have NA := Lib.hid (neg64_eq a ha)
  have NB := Lib.hid (neg64_eq b hb)
  obtain ⟨t0, t1, t2, t3⟩ := turnF_at a b hb
  have T0 := Lib.hid t0
  have T1 := Lib.hid t1
  have T2 := Lib.hid t2
  have T3 := Lib.hid t3
  clear t0 t1 t2 t3
  match q, hq with
  | 0, _ =>
    rw [T0.out]
    go_enter Tryz.func206, Tryz.ntmps206
    go_wp2_with fail
    go_ret
    exact ⟨rfl, rfl⟩
  | 1, _ =>
    rw [T1.out]
    go_enter Tryz.func206, Tryz.ntmps206
    go_wp2_with fail
    go_ret
    exact ⟨by rw [← NB.out]; rfl, rfl⟩
  | 2, _ =>
    rw [T2.out]
    go_enter Tryz.func206, Tryz.ntmps206
    go_wp2_with fail
    go_ret
    exact ⟨by rw [← NB.out, ← NA.out]; rfl, rfl⟩
  | 3, _ =>
    rw [T3.out]
    go_enter Tryz.func206, Tryz.ntmps206
    go_wp2_with fail
    go_ret
    exact ⟨by rw [← NA.out]; rfl, rfl⟩
end Go.Proofs.YtpnhjgjojnchaaaGreatDoor
