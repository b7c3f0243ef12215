/-
  Floats stored into memory: the laws that the kit has for integers, Booleans, slices. Spans, plainly: the least and the greatest of two floats, noughts without a sign. Spans, plainly: floats rounded down and up from a fraction, the least and the greatest of several, what is done to greater spans.
-/
import Derived.Test.YtjcjphgpmpjmbaaDoorZero
import Derived.Test.YtjcjphgpmpjmbaaDoorRefX
import Derived.Test.YtjcjphgpmpjmbaaDoorRootW
namespace Go.Proofs.YtjcjphgpmpjmbaaDoor
open Go.RowKit

@[go_sem] theorem run_store_float {P : Program} {w : World} {a : Addr} {m : Mode} (k : FloatKind) (x : Nat) : (store a (.float k x) m).run P w = stored P w a (.float k x) m := run_store P w a _ m rfl
end Go.Proofs.YtjcjphgpmpjmbaaDoor

namespace Go.Proofs.YtjcjphgpmpjmbaaDoor
open Go.RowKit

def mn (x y : Nat) : Nat := if Flt.sv x < Flt.sv y then x else if Flt.sv y < Flt.sv x then y else if Flt.sgn x then x else y
section
variable {P : Program} (w : World)
end

/-- v - v == 0 asks whether v is finite. -/
theorem sub_self {v t : Nat} (ht : IsOp Ieee.double.sub v v t) : (Ieee.double.order t 0 == some .eq) = Flt.finB v := by
  obtain ⟨_, h⟩ := ht
  rw [Flt.sub_eq] at h
  by_cases hf : Flt.Fin v
  · have e := Flt.add_exact (x := v) (y := Flt.opp v) (r := 0) hf (Flt.fin_opp.2 hf) (by rw [Flt.inf_eq]; omega) (by rw [Flt.sv_opp, Int.add_right_neg, Flt.val_zero]; rfl)
    rw [Flt.sv_opp, Int.add_right_neg, if_pos rfl, Flt.sgn_opp] at e
    rw [e] at h
    have h0 : t = 0 := by rw [show t = _ from h]; cases Flt.sgn v <;> rfl
    rw [h0, Flt.finB_iff.2 hf, Flt.eq_spec nan_zero nan_zero]
    simp
  · rw [Flt.finB_false.2 hf]
    have hn : Flt.Nan t := by
      by_cases hi : Flt.rg v = Flt.inf
      · rw [Flt.add_inf_both hi (by rw [Flt.rg_opp]; exact hi), Flt.sgn_opp, if_neg (by cases Flt.sgn v <;> simp)] at h
        exact h
      · rw [Flt.add_nan_left (by unfold Flt.Fin at hf; unfold Flt.Nan; omega)] at h
        exact h
    rw [Flt.order_nan_left hn]
    rfl

end Go.Proofs.YtjcjphgpmpjmbaaDoor

namespace Go.Proofs.YtjcjphgpmpjmbaaDoor
open Go.RowKit

/-- The float is what num / den comes to when it is rounded down; up. -/
def Down (num : Int) (den d : Nat) : Prop :=
  d < 2 ^ 64 ∧ Flt.rg d ≤ Flt.inf ∧ (Flt.Fin d → Flt.sv d * den ≤ num) ∧ (Flt.rg d = Flt.inf → Flt.sgn d = true) ∧ ∀ t, Flt.Fin t → Flt.sv t * den ≤ num → Flt.sv t ≤ Flt.sv d
def Up (num : Int) (den u : Nat) : Prop :=
  u < 2 ^ 64 ∧ Flt.rg u ≤ Flt.inf ∧ (Flt.Fin u → num ≤ Flt.sv u * den) ∧ (Flt.rg u = Flt.inf → Flt.sgn u = false) ∧ ∀ t, Flt.Fin t → num ≤ Flt.sv t * den → Flt.sv u ≤ Flt.sv t

theorem fin_or_inf {x : Nat} (h : Flt.rg x ≤ Flt.inf) : Flt.Fin x ∨ Flt.rg x = Flt.inf := by unfold Flt.Fin; omega
theorem sv_inf {x : Nat} (h : Flt.rg x = Flt.inf) : Flt.sv x = if Flt.sgn x then -(Flt.val Flt.inf : Int) else Flt.val Flt.inf := by unfold Flt.sv; rw [h]
theorem sv_fin {x : Nat} (h : Flt.Fin x) : -(Flt.val Flt.inf : Int) < Flt.sv x ∧ Flt.sv x < Flt.val Flt.inf := by
  have := Flt.val_inf_gt h
  unfold Flt.sv
  split <;> omega
theorem mul_cut {a b : Int} {d : Nat} (hd : 0 < d) : a * d ≤ b * d ↔ a ≤ b := by
  constructor
  · intro h
    exact Int.le_of_mul_le_mul_right h (by omega)
  · intro h
    exact Int.mul_le_mul_of_nonneg_right h (by omega)

theorem Down.turn {num : Int} {den d : Nat} (h : Down num den d) : Up (-num) den (Flt.opp d) := by
  obtain ⟨h1, h2, h3, h4, h5⟩ := h
  refine ⟨Flt.opp_lt _, by rw [Flt.rg_opp]; exact h2, fun hf => ?_, fun hi => ?_, fun t ht hle => ?_⟩
  · have := h3 (Flt.fin_opp.1 hf)
    rw [Flt.sv_opp, Int.neg_mul]
    omega
  · rw [Flt.rg_opp] at hi
    rw [Flt.sgn_opp, h4 hi]; rfl
  · have := h5 (Flt.opp t) (Flt.fin_opp.2 ht) (by rw [Flt.sv_opp, Int.neg_mul]; omega)
    rw [Flt.sv_opp] at this ⊢
    omega
theorem Up.turn {num : Int} {den u : Nat} (h : Up num den u) : Down (-num) den (Flt.opp u) := by
  obtain ⟨h1, h2, h3, h4, h5⟩ := h
  refine ⟨Flt.opp_lt _, by rw [Flt.rg_opp]; exact h2, fun hf => ?_, fun hi => ?_, fun t ht hle => ?_⟩
  · have := h3 (Flt.fin_opp.1 hf)
    rw [Flt.sv_opp, Int.neg_mul]
    omega
  · rw [Flt.rg_opp] at hi
    rw [Flt.sgn_opp, h4 hi]; rfl
  · have := h5 (Flt.opp t) (Flt.fin_opp.2 ht) (by rw [Flt.sv_opp, Int.neg_mul]; omega)
    rw [Flt.sv_opp] at this ⊢
    omega

/-- What is greater comes to no less. -/
theorem Down.mono {z z' : Int} {n n' d d' : Nat} (h : Down z n d) (k : Down z' n' d') (hn : 0 < n) (hn' : 0 < n') (hle : z * n' ≤ z' * n) : Flt.sv d ≤ Flt.sv d' := by
  rcases fin_or_inf h.2.1 with hf | hi
  · refine k.2.2.2.2 d hf ?_
    have h1 := h.2.2.1 hf
    have h2 : Flt.sv d * n * n' ≤ z * n' := Int.mul_le_mul_of_nonneg_right h1 (by omega)
    have h3 : Flt.sv d * n' * n ≤ z' * n := by
      have : Flt.sv d * (n' : Int) * n = Flt.sv d * n * n' := by rw [Int.mul_assoc, Int.mul_comm (n' : Int), ← Int.mul_assoc]
      omega
    exact (mul_cut hn).1 h3
  · have := (Flt.sv_fin_lt k.2.1).1
    rw [sv_inf hi, h.2.2.2.1 hi, if_pos rfl]
    exact this
theorem Up.mono {z z' : Int} {n n' u u' : Nat} (h : Up z n u) (k : Up z' n' u') (hn : 0 < n) (hn' : 0 < n') (hle : z * n' ≤ z' * n) : Flt.sv u ≤ Flt.sv u' := by
  have := Down.mono k.turn h.turn hn' hn (by rw [Int.neg_mul, Int.neg_mul]; omega)
  rw [Flt.sv_opp, Flt.sv_opp] at this
  omega
/-- Of what a float is worth that float comes. -/
theorem Down.exact {z : Int} {n d t : Nat} (h : Down z n d) (hn : 0 < n) (ht : Flt.Fin t) (hz : Flt.sv t * n = z) : Flt.sv d = Flt.sv t := by
  have h1 := h.2.2.2.2 t ht (by omega)
  rcases fin_or_inf h.2.1 with hf | hi
  · have h2 := h.2.2.1 hf
    have := (mul_cut hn).1 (show Flt.sv d * n ≤ Flt.sv t * n by omega)
    omega
  · have := (sv_fin ht).1
    rw [sv_inf hi, h.2.2.2.1 hi, if_pos rfl] at h1
    omega
theorem Up.exact {z : Int} {n u t : Nat} (h : Up z n u) (hn : 0 < n) (ht : Flt.Fin t) (hz : Flt.sv t * n = z) : Flt.sv u = Flt.sv t := by
  have := Down.exact h.turn hn (Flt.fin_opp.2 ht) (by rw [Flt.sv_opp, Int.neg_mul]; omega)
  rw [Flt.sv_opp, Flt.sv_opp] at this
  omega
theorem Down.finite {z : Int} {n d t : Nat} (h : Down z n d) (ht : Flt.Fin t) (hle : Flt.sv t ≤ Flt.sv d) : Flt.Fin d := by
  rcases fin_or_inf h.2.1 with hf | hi
  · exact hf
  · exfalso
    have := (sv_fin ht).1
    rw [sv_inf hi, h.2.2.2.1 hi, if_pos rfl] at hle
    omega
theorem Up.finite {z : Int} {n u t : Nat} (h : Up z n u) (ht : Flt.Fin t) (hle : Flt.sv u ≤ Flt.sv t) : Flt.Fin u := by
  rcases fin_or_inf h.2.1 with hf | hi
  · exact hf
  · exfalso
    have := (sv_fin ht).2
    rw [sv_inf hi, h.2.2.2.1 hi, if_neg (by simp)] at hle
    omega

/-! ### of the pairs that are told -/
theorem dn_down {num den r : Nat} (hd : 0 < den) (h : Flt.Dn num den r) : Down (num : Int) den (Flt.word false r) ∧ Up (num : Int) den (Flt.word false (hiR num den r)) := by
  have hr := h.1
  have hil := Flt.inf_lt
  have hh := hiR_le (num := num) (den := den) hr
  have e1 : Flt.rg (Flt.word false r) = r := Flt.rg_word _ _ (by omega)
  have e2 : Flt.rg (Flt.word false (hiR num den r)) = hiR num den r := Flt.rg_word _ _ (by omega)
  have s1 : Flt.sgn (Flt.word false r) = false := Flt.sgn_word _ _ (by omega)
  have s2 : Flt.sgn (Flt.word false (hiR num den r)) = false := Flt.sgn_word _ _ (by omega)
  have v1 : Flt.sv (Flt.word false r) = Flt.val r := by rw [Flt.sv_word (by omega)]; rfl
  have v2 : Flt.sv (Flt.word false (hiR num den r)) = Flt.val (hiR num den r) := by rw [Flt.sv_word (by omega)]; rfl
  have q1 : (Flt.val r : Int) * den ≤ num := by have := h.2.1; exact_mod_cast this
  refine ⟨⟨Flt.word_lt _ (by omega), by omega, fun _ => by rw [v1]; exact q1, fun hi => by omega, fun t ht hle => ?_⟩, ⟨Flt.word_lt _ (by omega), by omega, fun hf => ?_, fun _ => s2, fun t ht hle => ?_⟩⟩
  · rw [v1]
    unfold Flt.sv at hle ⊢
    split
    · have : (0 : Int) ≤ (Flt.val (Flt.rg t) : Int) := by omega
      omega
    · rename_i hs
      rw [if_neg hs] at hle
      rcases Nat.lt_or_ge r (Flt.rg t) with hlt | hge
      · exfalso
        have ht' : Flt.rg t < Flt.inf := ht
        have h3 := h.2.2 (by omega)
        have h4 : Flt.val (r + 1) * den ≤ Flt.val (Flt.rg t) * den := Nat.mul_le_mul_right _ (Flt.val_le hlt)
        have h5 : Flt.val (Flt.rg t) * den ≤ num := by exact_mod_cast hle
        omega
      · have := Flt.val_le hge
        omega
  · rw [v2]
    have hf' : hiR num den r < Flt.inf := by have : Flt.rg (Flt.word false (hiR num den r)) < Flt.inf := hf; omega
    unfold hiR at hf' ⊢
    split
    · rename_i he
      rw [if_pos he] at hf'
      have : (num : Int) = (Flt.val r : Int) * den := by exact_mod_cast he.symm
      omega
    · rename_i he
      rw [if_neg he] at hf'
      have := h.2.2 (by omega)
      have : (num : Int) < (Flt.val (r + 1) : Int) * den := by exact_mod_cast this
      omega
  · rw [v2]
    unfold hiR
    split
    · have h4 : (Flt.val r : Int) * den ≤ Flt.sv t * den := by omega
      exact (mul_cut hd).1 h4
    · rename_i he
      have h4 : (Flt.val r : Int) * den < num := by
        have : Flt.val r * den < num := by have := h.2.1; omega
        exact_mod_cast this
      have h5 : ¬ Flt.sv t ≤ Flt.val r := fun hk => by
        have := (mul_cut (d := den) hd).2 hk
        omega
      unfold Flt.sv at h5 ⊢
      split
      · rename_i hs
        rw [if_pos hs] at h5
        omega
      · rename_i hs
        rw [if_neg hs] at h5
        have h6 : r < Flt.rg t := Flt.lt_of_val (by omega)
        have := Flt.val_le (show r + 1 ≤ Flt.rg t from h6)
        omega
theorem brk_down {s : Bool} {num den d u : Nat} {z : Int} (hd : 0 < den) (hz : z = if s then -(num : Int) else num) (h : Brk s num den d u) : Down z den d ∧ Up z den u := by
  obtain ⟨r, h1, h2, h3⟩ := h
  have k := dn_down hd h1
  have hr := h1.1
  have hil := Flt.inf_lt
  have hh := hiR_le (num := num) (den := den) hr
  cases s with
  | false =>
    rw [if_neg (by simp)] at hz h2 h3
    rw [hz, h2, h3]
    exact k
  | true =>
    rw [if_pos rfl] at hz h2 h3
    have a := k.1.turn
    have b := k.2.turn
    have w1 : Flt.opp (Flt.word false r) = u := by
      unfold Flt.opp
      rw [Flt.sgn_word _ _ (by omega), Flt.rg_word _ _ (by omega), h3]
      rfl
    have w2 : Flt.opp (Flt.word false (hiR num den r)) = d := by
      unfold Flt.opp
      rw [Flt.sgn_word _ _ (by omega), Flt.rg_word _ _ (by omega), h2]
      rfl
    rw [w1] at a
    rw [w2] at b
    rw [hz]
    exact ⟨b, a⟩
/-! ### the least and the greatest of several -/
def LowOf (L : List (Int × Nat)) (d : Nat) : Prop := (∃ c ∈ L, Down c.1 c.2 d) ∧ ∀ c ∈ L, ∃ e, Down c.1 c.2 e ∧ Flt.sv d ≤ Flt.sv e
def HighOf (L : List (Int × Nat)) (u : Nat) : Prop := (∃ c ∈ L, Up c.1 c.2 u) ∧ ∀ c ∈ L, ∃ e, Up c.1 c.2 e ∧ Flt.sv e ≤ Flt.sv u
def Dens (L : List (Int × Nat)) : Prop := ∀ c ∈ L, 0 < c.2
theorem LowOf.mono {L M : List (Int × Nat)} {d e : Nat} (hL : Dens L) (hM : Dens M) (h : LowOf L d) (k : LowOf M e) (hlm : ∀ c ∈ M, ∃ c' ∈ L, c'.1 * c.2 ≤ c.1 * c'.2) : Flt.sv d ≤ Flt.sv e := by
  obtain ⟨c, hc, h1⟩ := k.1
  obtain ⟨c', hc', h2⟩ := hlm c hc
  obtain ⟨f, h3, h4⟩ := h.2 c' hc'
  exact Int.le_trans h4 (Down.mono h3 h1 (hL c' hc') (hM c hc) h2)
theorem HighOf.mono {L M : List (Int × Nat)} {d e : Nat} (hL : Dens L) (hM : Dens M) (h : HighOf L d) (k : HighOf M e) (hlm : ∀ c ∈ M, ∃ c' ∈ L, c.1 * c'.2 ≤ c'.1 * c.2) : Flt.sv e ≤ Flt.sv d := by
  obtain ⟨c, hc, h1⟩ := k.1
  obtain ⟨c', hc', h2⟩ := hlm c hc
  obtain ⟨f, h3, h4⟩ := h.2 c' hc'
  exact Int.le_trans (Up.mono h1 h3 (hM c hc) (hL c' hc') h2) h4
end Go.Proofs.YtjcjphgpmpjmbaaDoor
