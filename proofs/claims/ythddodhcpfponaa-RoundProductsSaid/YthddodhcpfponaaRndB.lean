/-
  Floats, rounded down and up (round): the float beside.
-/
import Derived.Test.YthddodhcpfponaaRndA
import Derived.Test.YthddodhcpfponaaBrk
namespace Go.Proofs.Ythddodhcpfponaa
open Go.RowKit

theorem isInf1_any (x : Nat) (w : World) : Calls Try.prog 66 #[.float .f64 x, .int .i64 1] w fun e w' => e = .returned (.bool (Flt.infB x && !Flt.sgn x)) ∧ w = w' := by
  go_enter Try.func66, Try.ntmps66
  go_wp2
  go_ret
  exact ⟨by rw [← Flt.order_max]; rfl, rfl⟩
theorem isInf2_any (x : Nat) (hx : x < 2 ^ 64) (w : World) : Calls Try.prog 66 #[.float .f64 x, .int .i64 (-1)] w fun e w' => e = .returned (.bool (Flt.infB x && Flt.sgn x)) ∧ w = w' := by
  have e1 : (Flt.infB x && Flt.sgn x) = (Flt.infB (neg64 x) && !Flt.sgn (neg64 x)) := by
    rw [neg64_eq x hx, Flt.sgn_opp]; unfold Flt.infB; rw [Flt.rg_opp, Bool.not_not]
  have E := Lib.hid e1
  clear e1
  rw [E.out]
  go_enter Try.func66, Try.ntmps66
  go_wp2
  go_ret
  exact ⟨by rw [← Flt.order_max]; rfl, rfl⟩

theorem nan_zero : ¬ Flt.Nan 0 := by unfold Flt.Nan Flt.rg; rw [Flt.inf_eq]; omega
theorem sv_zero : Flt.sv 0 = 0 := Flt.sv_zero_iff.2 rfl
theorem eq_zero {x : Nat} (h : Flt.nanB x = false) : (Ieee.double.order x 0 == some .eq) = decide (Flt.rg x = 0) := by
  have hx : ¬ Flt.Nan x := fun k => by rw [Flt.nanB_iff.2 k] at h; cases h
  rw [Flt.eq_spec hx nan_zero, sv_zero]
  congr 1
  rw [eq_iff_iff]
  exact Flt.sv_zero_iff
theorem gt_zero {x : Nat} (h : Flt.nanB x = false) (h0 : Flt.rg x ≠ 0) : (Ieee.double.order x 0 == some .gt) = !Flt.sgn x := by
  have hx : ¬ Flt.Nan x := fun k => by rw [Flt.nanB_iff.2 k] at h; cases h
  rw [Flt.gt_spec hx nan_zero, sv_zero]
  have hv : 0 < Flt.val (Flt.rg x) := by have := Flt.le_val (Flt.rg x); omega
  unfold Flt.sv
  cases Flt.sgn x
  · simp <;> omega
  · simp <;> omega

set_option maxHeartbeats 3200000 in
theorem rnd_next_any (x : Nat) (hx : x < 2 ^ 64) (up : Bool) (w : World) : Calls Try.prog 23 #[.float .f64 x, .bool up] w fun e w' => e = .returned (.float .f64 (nxt x up)) ∧ w = w' := by
  cases hn : Flt.nanB x with
  | true =>
    have hv : Hid (nxt x up = x) := Lib.hid (by unfold nxt; rw [hn]; rfl)
    rw [hv.out]
    go_enter Try.func23, Try.ntmps23
    go_wp2_with (go_at_call 64; refine (isNaN_any _ _).mono ?_; rintro e w' ⟨rfl, rfl⟩; rw [hn])
    go_ret
    exact ⟨rfl, rfl⟩
  | false =>
    have ho := eq_zero hn
    by_cases h0 : Flt.rg x = 0
    · rw [decide_eq_true h0] at ho
      cases up with
      | true =>
        have hv : Hid (nxt x true = 1) := Lib.hid (by unfold nxt; rw [hn]; simp [h0])
        rw [hv.out]
        clear h0
        go_enter Try.func23, Try.ntmps23
        go_wp2_with (go_at_call 64; refine (isNaN_any _ _).mono ?_; rintro e w' ⟨rfl, rfl⟩; rw [hn])
        go_ret
        exact ⟨rfl, rfl⟩
      | false =>
        have hv : Hid (nxt x false = 2 ^ 63 + 1) := Lib.hid (by unfold nxt; rw [hn]; simp [h0])
        rw [hv.out]
        clear h0
        go_enter Try.func23, Try.ntmps23
        go_wp2_with (go_at_call 64; refine (isNaN_any _ _).mono ?_; rintro e w' ⟨rfl, rfl⟩; rw [hn])
        go_ret
        exact ⟨rfl, rfl⟩
    · rw [decide_eq_false h0] at ho
      have hg := gt_zero hn h0
      have hxr : x ≤ 2 ^ 63 + Flt.inf := by
        have : ¬ Flt.inf < Flt.rg x := by unfold Flt.nanB at hn; exact of_decide_eq_false hn
        unfold Flt.rg at this; rw [Flt.inf_eq] at this ⊢; omega
      have hx0 : 0 < x := by rcases Nat.eq_zero_or_pos x with h | h; · subst h; exact absurd rfl h0
                             · exact h
      have e1 : IntKind.u64.wrap ((x : Int) + 1) = (x : Int) + 1 := IntWalk.u64_in _ (by rw [Flt.inf_eq] at hxr; omega)
      have e2 : IntKind.u64.wrap ((x : Int) - 1) = (x : Int) - 1 := IntWalk.u64_in _ (by omega)
      have t1 : Hid (((x : Int) + 1).toNat = x + 1) := Lib.hid (by omega)
      have t2 : Hid (((x : Int) - 1).toNat = x - 1) := Lib.hid (by omega)
      have hnx : ∀ up, nxt x up = if Flt.infB x && (Flt.sgn x != up) then x else if (!Flt.sgn x) == up then x + 1 else x - 1 := by
        intro up; unfold nxt; rw [hn, if_neg (by simp), if_neg h0]
      have hv := hnx up
      clear hnx
      cases hi : Flt.infB x <;> cases hs : Flt.sgn x <;> cases up <;>
      (rw [hi, hs] at hv
       have HV := Lib.hid hv
       rw [hs] at hg
       clear hv hxr h0
       go_enter Try.func23, Try.ntmps23
       go_wp2_with (first | (go_at_call 64; refine (isNaN_any _ _).mono ?_; rintro e w' ⟨rfl, rfl⟩; rw [hn]) | (go_at_call 66; (with_reducible refine (isInf1_any x _).mono ?_); rintro e w' ⟨rfl, rfl⟩; rw [hi, hs]) | (go_at_call 66; (with_reducible refine (isInf2_any x hx _).mono ?_); rintro e w' ⟨rfl, rfl⟩; rw [hi, hs]))
       go_ret
       refine ⟨?_, rfl⟩
       first
         | (rw [HV.out]; rfl)
         | (rw [HV.out]; show Ending.returned (.float .f64 ((x : Int) + 1).toNat) = _; rw [t1.out]; rfl)
         | (rw [HV.out]; show Ending.returned (.float .f64 ((x : Int) - 1).toNat) = _; rw [t2.out]; rfl))
end Go.Proofs.Ythddodhcpfponaa
