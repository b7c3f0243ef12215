/-
  Floats stored into memory: the laws that the kit has for integers, Booleans, slices.
  Spans, plainly: the least and the greatest of two floats, noughts without a sign.
  Spans, plainly: floats rounded down and up from a fraction, the least and the greatest of several, what is done to greater spans.
-/
import Derived.Test.YtdmdaoginojalaaZero
import Derived.Test.YtdmdaoginojalaaRoot
namespace Go.Proofs.Ytdmdaoginojalaa
open Go.RowKit

@[go_sem] theorem run_store_float {P : Program} {w : World} {a : Addr} {m : Mode} (k : FloatKind) (x : Nat) : (store a (.float k x) m).run P w = stored P w a (.float k x) m := run_store P w a _ m rfl
end Go.Proofs.Ytdmdaoginojalaa

namespace Go.Proofs.Ytdmdaoginojalaa
open Go.RowKit

section
variable {P : Program} (w : World)
end

/-- v - v == 0 asks whether v is finite. -/
theorem sub_self {v t : Nat} (ht : IsOp Ieee.double.sub v v t) : (Ieee.double.order t 0 == some .eq) = Flt.finB v := by
  obtain ⟨_, h⟩ := ht
  rw [Flt.sub_eq] at h
  by_cases hf : Flt.Fin v
  · have e := Flt.add_exact (x := v) (y := Flt.opp v) (r := 0) hf (Flt.fin_opp.2 hf) (by rw [Flt.inf_eq]; omega) (by rw [Flt.sv_opp, Int.add_right_neg, Flt.val_zero]; rfl)
    rw [Flt.sv_opp, Int.add_right_neg, if_pos rfl, Flt.sgn_opp] at e
    rw [e] at h
    have h0 : t = 0 := by rw [show t = _ from h]; cases Flt.sgn v <;> rfl
    rw [h0, Flt.finB_iff.2 hf, Flt.eq_spec nan_zero nan_zero]
    simp
  · rw [Flt.finB_false.2 hf]
    have hn : Flt.Nan t := by
      by_cases hi : Flt.rg v = Flt.inf
      · rw [Flt.add_inf_both hi (by rw [Flt.rg_opp]; exact hi), Flt.sgn_opp, if_neg (by cases Flt.sgn v <;> simp)] at h
        exact h
      · rw [Flt.add_nan_left (by unfold Flt.Fin at hf; unfold Flt.Nan; omega)] at h
        exact h
    rw [Flt.order_nan_left hn]
    rfl

end Go.Proofs.Ytdmdaoginojalaa

namespace Go.Proofs.Ytdmdaoginojalaa
open Go.RowKit

/-- The float is what num / den comes to when it is rounded down; up. -/
def Down (num : Int) (den d : Nat) : Prop :=
  d < 2 ^ 64 ∧ Flt.rg d ≤ Flt.inf ∧ (Flt.Fin d → Flt.sv d * den ≤ num) ∧ (Flt.rg d = Flt.inf → Flt.sgn d = true) ∧ ∀ t, Flt.Fin t → Flt.sv t * den ≤ num → Flt.sv t ≤ Flt.sv d
def Up (num : Int) (den u : Nat) : Prop :=
  u < 2 ^ 64 ∧ Flt.rg u ≤ Flt.inf ∧ (Flt.Fin u → num ≤ Flt.sv u * den) ∧ (Flt.rg u = Flt.inf → Flt.sgn u = false) ∧ ∀ t, Flt.Fin t → num ≤ Flt.sv t * den → Flt.sv u ≤ Flt.sv t

theorem fin_or_inf {x : Nat} (h : Flt.rg x ≤ Flt.inf) : Flt.Fin x ∨ Flt.rg x = Flt.inf := by unfold Flt.Fin; omega
theorem sv_inf {x : Nat} (h : Flt.rg x = Flt.inf) : Flt.sv x = if Flt.sgn x then -(Flt.val Flt.inf : Int) else Flt.val Flt.inf := by unfold Flt.sv; rw [h]
theorem sv_fin {x : Nat} (h : Flt.Fin x) : -(Flt.val Flt.inf : Int) < Flt.sv x ∧ Flt.sv x < Flt.val Flt.inf := by
  have := Flt.val_inf_gt h
  unfold Flt.sv
  split <;> omega
theorem mul_cut {a b : Int} {d : Nat} (hd : 0 < d) : a * d ≤ b * d ↔ a ≤ b := by
  constructor
  · intro h
    exact Int.le_of_mul_le_mul_right h (by omega)
  · intro h
    exact Int.mul_le_mul_of_nonneg_right h (by omega)

theorem Down.turn {num : Int} {den d : Nat} (h : Down num den d) : Up (-num) den (Flt.opp d) := by
  obtain ⟨h1, h2, h3, h4, h5⟩ := h
  refine ⟨Flt.opp_lt _, by rw [Flt.rg_opp]; exact h2, fun hf => ?_, fun hi => ?_, fun t ht hle => ?_⟩
  · have := h3 (Flt.fin_opp.1 hf)
    rw [Flt.sv_opp, Int.neg_mul]
    omega
  · rw [Flt.rg_opp] at hi
    rw [Flt.sgn_opp, h4 hi]; rfl
  · have := h5 (Flt.opp t) (Flt.fin_opp.2 ht) (by rw [Flt.sv_opp, Int.neg_mul]; omega)
    rw [Flt.sv_opp] at this ⊢
    omega
theorem Up.turn {num : Int} {den u : Nat} (h : Up num den u) : Down (-num) den (Flt.opp u) := by
  obtain ⟨h1, h2, h3, h4, h5⟩ := h
  refine ⟨Flt.opp_lt _, by rw [Flt.rg_opp]; exact h2, fun hf => ?_, fun hi => ?_, fun t ht hle => ?_⟩
  · have := h3 (Flt.fin_opp.1 hf)
    rw [Flt.sv_opp, Int.neg_mul]
    omega
  · rw [Flt.rg_opp] at hi
    rw [Flt.sgn_opp, h4 hi]; rfl
  · have := h5 (Flt.opp t) (Flt.fin_opp.2 ht) (by rw [Flt.sv_opp, Int.neg_mul]; omega)
    rw [Flt.sv_opp] at this ⊢
    omega

/-- What is greater comes to no less. -/
theorem Down.mono {z z' : Int} {n n' d d' : Nat} (h : Down z n d) (k : Down z' n' d') (hn : 0 < n) (hn' : 0 < n') (hle : z * n' ≤ z' * n) : Flt.sv d ≤ Flt.sv d' := by
  rcases fin_or_inf h.2.1 with hf | hi
  · refine k.2.2.2.2 d hf ?_
    have h1 := h.2.2.1 hf
    have h2 : Flt.sv d * n * n' ≤ z * n' := Int.mul_le_mul_of_nonneg_right h1 (by omega)
    have h3 : Flt.sv d * n' * n ≤ z' * n := by
      have : Flt.sv d * (n' : Int) * n = Flt.sv d * n * n' := by rw [Int.mul_assoc, Int.mul_comm (n' : Int), ← Int.mul_assoc]
      omega
    exact (mul_cut hn).1 h3
  · have := (Flt.sv_fin_lt k.2.1).1
    rw [sv_inf hi, h.2.2.2.1 hi, if_pos rfl]
    exact this
theorem Up.mono {z z' : Int} {n n' u u' : Nat} (h : Up z n u) (k : Up z' n' u') (hn : 0 < n) (hn' : 0 < n') (hle : z * n' ≤ z' * n) : Flt.sv u ≤ Flt.sv u' := by
  have := Down.mono k.turn h.turn hn' hn (by rw [Int.neg_mul, Int.neg_mul]; omega)
  rw [Flt.sv_opp, Flt.sv_opp] at this
  omega
/-- Of what a float is worth that float comes. -/
theorem Down.exact {z : Int} {n d t : Nat} (h : Down z n d) (hn : 0 < n) (ht : Flt.Fin t) (hz : Flt.sv t * n = z) : Flt.sv d = Flt.sv t := by
  have h1 := h.2.2.2.2 t ht (by omega)
  rcases fin_or_inf h.2.1 with hf | hi
  · have h2 := h.2.2.1 hf
    have := (mul_cut hn).1 (show Flt.sv d * n ≤ Flt.sv t * n by omega)
    omega
  · have := (sv_fin ht).1
    rw [sv_inf hi, h.2.2.2.1 hi, if_pos rfl] at h1
    omega
theorem Up.exact {z : Int} {n u t : Nat} (h : Up z n u) (hn : 0 < n) (ht : Flt.Fin t) (hz : Flt.sv t * n = z) : Flt.sv u = Flt.sv t := by
  have := Down.exact h.turn hn (Flt.fin_opp.2 ht) (by rw [Flt.sv_opp, Int.neg_mul]; omega)
  rw [Flt.sv_opp, Flt.sv_opp] at this
  omega
theorem Down.finite {z : Int} {n d t : Nat} (h : Down z n d) (ht : Flt.Fin t) (hle : Flt.sv t ≤ Flt.sv d) : Flt.Fin d := by
  rcases fin_or_inf h.2.1 with hf | hi
  · exact hf
  · exfalso
    have := (sv_fin ht).1
    rw [sv_inf hi, h.2.2.2.1 hi, if_pos rfl] at hle
    omega
theorem Up.finite {z : Int} {n u t : Nat} (h : Up z n u) (ht : Flt.Fin t) (hle : Flt.sv u ≤ Flt.sv t) : Flt.Fin u := by
  rcases fin_or_inf h.2.1 with hf | hi
  · exact hf
  · exfalso
    have := (sv_fin ht).2
    rw [sv_inf hi, h.2.2.2.1 hi, if_neg (by simp)] at hle
    omega

/-! ### of the pairs that are told -/
/-! ### the least and the greatest of several -/
def LowOf (L : List (Int × Nat)) (d : Nat) : Prop := (∃ c ∈ L, Down c.1 c.2 d) ∧ ∀ c ∈ L, ∃ e, Down c.1 c.2 e ∧ Flt.sv d ≤ Flt.sv e
def HighOf (L : List (Int × Nat)) (u : Nat) : Prop := (∃ c ∈ L, Up c.1 c.2 u) ∧ ∀ c ∈ L, ∃ e, Up c.1 c.2 e ∧ Flt.sv e ≤ Flt.sv u
def Dens (L : List (Int × Nat)) : Prop := ∀ c ∈ L, 0 < c.2
theorem LowOf.mono {L M : List (Int × Nat)} {d e : Nat} (hL : Dens L) (hM : Dens M) (h : LowOf L d) (k : LowOf M e) (hlm : ∀ c ∈ M, ∃ c' ∈ L, c'.1 * c.2 ≤ c.1 * c'.2) : Flt.sv d ≤ Flt.sv e := by
  obtain ⟨c, hc, h1⟩ := k.1
  obtain ⟨c', hc', h2⟩ := hlm c hc
  obtain ⟨f, h3, h4⟩ := h.2 c' hc'
  exact Int.le_trans h4 (Down.mono h3 h1 (hL c' hc') (hM c hc) h2)
theorem HighOf.mono {L M : List (Int × Nat)} {d e : Nat} (hL : Dens L) (hM : Dens M) (h : HighOf L d) (k : HighOf M e) (hlm : ∀ c ∈ M, ∃ c' ∈ L, c.1 * c'.2 ≤ c'.1 * c.2) : Flt.sv e ≤ Flt.sv d := by
  obtain ⟨c, hc, h1⟩ := k.1
  obtain ⟨c', hc', h2⟩ := hlm c hc
  obtain ⟨f, h3, h4⟩ := h.2 c' hc'
  exact Int.le_trans (Up.mono h1 h3 (hM c hc) (hL c' hc') h2) h4
end Go.Proofs.Ytdmdaoginojalaa
