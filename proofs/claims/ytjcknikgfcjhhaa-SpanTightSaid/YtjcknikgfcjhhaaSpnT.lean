/-
  SpanTight: the float above (math.Nextafter towards infinity); spans of one float each are no wider than two floats beside.
-/
import Derived.Test.YtjcknikgfcjhhaaSpnLw
import Derived.Test.YtjcknikgfcjhhaaKept
import Derived.Test.YtjcknikgfcjhhaaBesP
namespace Go.Proofs.Ytjcknikgfcjhhaa
open Go.RowKit

theorem inf1_of (w : World) : Calls Try.prog 49 #[.int .i64 1] w fun e w' => e = .returned (.float .f64 9218868437227405312) ∧ w = w' := by
  go_enter Try.func49, Try.ntmps49
  go_wp2
  go_ret
  exact ⟨rfl, rfl⟩
theorem nan_infc : Flt.nanB 9218868437227405312 = false := by decide +kernel
theorem sv_infc : Flt.sv 9218868437227405312 = Flt.val Flt.inf := by
  have h : Flt.rg 9218868437227405312 = Flt.inf := by rw [Flt.inf_eq]; rfl
  rw [sv_inf h]
  rfl
theorem not_nan_infc : ¬ Flt.Nan 9218868437227405312 := fun h => by have := Flt.nanB_iff.2 h; rw [nan_infc] at this; exact absurd this (by simp)

theorem copysign_one (w : World) : Calls Try.prog 83 #[.float .f64 1, .float .f64 9218868437227405312] w fun e w' => e = .returned (.float .f64 1) ∧ w = w' := by
  go_enter Try.func83, Try.ntmps83
  go_wp2
  go_ret
  exact ⟨rfl, rfl⟩
set_option maxHeartbeats 1600000 in
theorem nextafter_up (x : Nat) (hx : x < 2 ^ 64) (hf : Flt.Fin x) (w : World) : Calls Try.prog 48 #[.float .f64 x, .float .f64 9218868437227405312] w fun e w' => e = .returned (.float .f64 (nxt x true)) ∧ w = w' := by
  have hn := fin_not_nan hf
  have hn' : ¬ Flt.Nan x := fun h => Flt.not_fin_nan h hf
  have hE : (Ieee.double.order x 9218868437227405312 == some .eq) = false := by
    rw [Flt.eq_spec hn' not_nan_infc, sv_infc]
    have := (sv_fin hf).2
    exact decide_eq_false (by omega)
  have hG : (Ieee.double.order 9218868437227405312 x == some .gt) = true := by
    rw [Flt.gt_spec not_nan_infc hn', sv_infc]
    exact decide_eq_true (sv_fin hf).2
  have ho := eq_zero hn
  have hb : Flt.infB x = false := by unfold Flt.infB; unfold Flt.Fin at hf; exact decide_eq_false (by omega)
  by_cases h0 : Flt.rg x = 0
  · rw [decide_eq_true h0] at ho
    have hv : Hid (nxt x true = 1) := Lib.hid (by unfold nxt; rw [hn]; simp [h0])
    rw [hv.out]
    clear h0 hf hn' hb
    go_enter Try.func48, Try.ntmps48
    go_wp2_with (first | (go_at_call 60; (with_reducible refine (isNaN_any x _).mono ?_); rintro e w' ⟨rfl, rfl⟩; rw [hn]) | (go_at_call 60; (with_reducible refine (isNaN_any 9218868437227405312 _).mono ?_); rintro e w' ⟨rfl, rfl⟩; rw [nan_infc]))
    refine (copysign_one _).mono ?_
    rintro e2 w2 ⟨rfl, rfl⟩
    go_wp2_with fail
    go_ret
    exact ⟨rfl, rfl⟩
  · rw [decide_eq_false h0] at ho
    have hg := gt_zero hn h0
    have hxr : x ≤ 2 ^ 63 + Flt.inf := by
      have : ¬ Flt.inf < Flt.rg x := by unfold Flt.nanB at hn; exact of_decide_eq_false hn
      unfold Flt.rg at this; rw [Flt.inf_eq] at this ⊢; omega
    have hx0 : 0 < x := by rcases Nat.eq_zero_or_pos x with h | h; · subst h; exact absurd rfl h0
                           · exact h
    have e1 : IntKind.u64.wrap ((x : Int) + 1) = (x : Int) + 1 := IntWalk.u64_in _ (by rw [Flt.inf_eq] at hxr; omega)
    have e2 : IntKind.u64.wrap ((x : Int) - 1) = (x : Int) - 1 := IntWalk.u64_in _ (by omega)
    have t1 : Hid (((x : Int) + 1).toNat = x + 1) := Lib.hid (by omega)
    have t2 : Hid (((x : Int) - 1).toNat = x - 1) := Lib.hid (by omega)
    have hv : nxt x true = if (!Flt.sgn x) == true then x + 1 else x - 1 := by
      unfold nxt; rw [hn, if_neg (by simp), if_neg h0, hb]; rfl
    cases hs : Flt.sgn x <;>
    (rw [hs] at hv
     have HV := Lib.hid hv
     rw [hs] at hg
     clear hv hxr h0 hf hn'
     go_enter Try.func48, Try.ntmps48
     go_wp2_with (first | (go_at_call 60; (with_reducible refine (isNaN_any x _).mono ?_); rintro e w' ⟨rfl, rfl⟩; rw [hn]) | (go_at_call 60; (with_reducible refine (isNaN_any 9218868437227405312 _).mono ?_); rintro e w' ⟨rfl, rfl⟩; rw [nan_infc]))
     go_ret
     refine ⟨?_, rfl⟩
     first
       | (rw [HV.out]; rfl)
       | (rw [HV.out]; show Ending.returned (.float .f64 ((x : Int) + 1).toNat) = _; rw [t1.out]; rfl)
       | (rw [HV.out]; show Ending.returned (.float .f64 ((x : Int) - 1).toNat) = _; rw [t2.out]; rfl))
end Go.Proofs.Ytjcknikgfcjhhaa
