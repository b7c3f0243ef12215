/-
  Spans, plainly: the least and the greatest of two floats, noughts without a sign.
-/
import Derived.Test.YtejlicacndpfpaaRefX
import Derived.Test.YtejlicacndpfpaaSto
namespace Go.Proofs.Ytejlicacndpfpaa
open Go.RowKit

section
variable {P : Program} (w : World)
end

theorem fin_zero : Flt.Fin 0 := by unfold Flt.Fin Flt.rg; rw [Flt.inf_eq]; decide
/-- A float without a nought's sign. -/
def pz (v : Nat) : Nat := if Flt.rg v = 0 then 0 else v
theorem add_nought {v : Nat} (hv : v < 2 ^ 64) (h : Flt.Fin v) : Ieee.double.add v 0 = some (pz v) := by
  have h1 : Flt.rg v < Flt.inf := h
  have e := Flt.add_exact (x := v) (y := 0) (r := Flt.rg v) h fin_zero h1 (by rw [sv_zero, Int.add_zero, sv_abs])
  rw [sv_zero, Int.add_zero] at e
  rw [e]
  unfold pz
  by_cases h0 : Flt.rg v = 0
  · rw [if_pos h0, if_pos (Flt.sv_zero_iff.2 h0), h0]
    have : Flt.sgn 0 = false := by decide
    rw [this, Bool.and_false]
    rfl
  · rw [if_neg h0, if_neg (fun k => h0 (Flt.sv_zero_iff.1 k)), sv_neg h0, Flt.word_eq v hv]
theorem isOp_nought {v t : Nat} (hv : v < 2 ^ 64) (h : Flt.Fin v) (ht : IsOp Ieee.double.add v 0 t) : t = pz v := by
  have := ht.2
  rw [add_nought hv h] at this
  exact this
/-- v - v == 0 asks whether v is finite. -/
theorem sub_self {v t : Nat} (ht : IsOp Ieee.double.sub v v t) : (Ieee.double.order t 0 == some .eq) = Flt.finB v := by
  obtain ⟨_, h⟩ := ht
  rw [Flt.sub_eq] at h
  by_cases hf : Flt.Fin v
  · have e := Flt.add_exact (x := v) (y := Flt.opp v) (r := 0) hf (Flt.fin_opp.2 hf) (by rw [Flt.inf_eq]; omega) (by rw [Flt.sv_opp, Int.add_right_neg, Flt.val_zero]; rfl)
    rw [Flt.sv_opp, Int.add_right_neg, if_pos rfl, Flt.sgn_opp] at e
    rw [e] at h
    have h0 : t = 0 := by rw [show t = _ from h]; cases Flt.sgn v <;> rfl
    rw [h0, Flt.finB_iff.2 hf, Flt.eq_spec nan_zero nan_zero]
    simp
  · rw [Flt.finB_false.2 hf]
    have hn : Flt.Nan t := by
      by_cases hi : Flt.rg v = Flt.inf
      · rw [Flt.add_inf_both hi (by rw [Flt.rg_opp]; exact hi), Flt.sgn_opp, if_neg (by cases Flt.sgn v <;> simp)] at h
        exact h
      · rw [Flt.add_nan_left (by unfold Flt.Fin at hf; unfold Flt.Nan; omega)] at h
        exact h
    rw [Flt.order_nan_left hn]
    rfl

/-- May a span be? -/
def okS (lo hi : Nat) : Bool := Flt.finB lo && Flt.finB hi && !(Ieee.double.order lo hi == some .gt)
theorem okS_iff {lo hi : Nat} : okS lo hi = true ↔ Flt.Fin lo ∧ Flt.Fin hi ∧ Flt.sv lo ≤ Flt.sv hi := by
  unfold okS
  constructor
  · intro h
    rw [Bool.and_eq_true, Bool.and_eq_true] at h
    obtain ⟨⟨h1, h2⟩, h3⟩ := h
    have f1 := Flt.finB_iff.1 h1
    have f2 := Flt.finB_iff.1 h2
    rw [Flt.gt_spec (fun k => Flt.not_fin_nan k f1) (fun k => Flt.not_fin_nan k f2), Bool.not_eq_true', decide_eq_false_iff_not] at h3
    exact ⟨f1, f2, by omega⟩
  · rintro ⟨f1, f2, h3⟩
    rw [Flt.finB_iff.2 f1, Flt.finB_iff.2 f2, Flt.gt_spec (fun k => Flt.not_fin_nan k f1) (fun k => Flt.not_fin_nan k f2), decide_eq_false (by omega)]
    rfl
/-- Is the one float not above the other? -/
def leB (x y : Nat) : Bool := Ieee.double.order x y == some .lt || Ieee.double.order x y == some .eq
/-- What is told of the ends. -/
def endsF (lo hi : Nat) : Nat × Nat × Int := if Flt.finB lo && Flt.finB hi then (pz lo, pz hi, 0) else (0, 0, 6)
end Go.Proofs.Ytejlicacndpfpaa
