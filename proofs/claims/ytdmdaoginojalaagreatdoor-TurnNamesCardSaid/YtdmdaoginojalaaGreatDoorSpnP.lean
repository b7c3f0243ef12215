/-
  Spans, plainly: the least and the greatest of two floats, noughts without a sign.
-/
import Derived.Test.YtdmdaoginojalaaGreatDoorRefX
import Derived.Test.YtdmdaoginojalaaGreatDoorSto
namespace Go.Proofs.YtdmdaoginojalaaGreatDoor
open Go.RowKit

/-- The greatest, the least of two floats that are numbers. -/
def mx (x y : Nat) : Nat := if Flt.sv x < Flt.sv y then y else if Flt.sv y < Flt.sv x then x else if Flt.sgn x then y else x
def IsSel (f : Nat → Nat → Nat) (x y z : Nat) : Prop := z < 2 ^ 64 ∧ (¬ Flt.Nan x → ¬ Flt.Nan y → z = f x y)

theorem decode_neg (x : Nat) : (FloatKind.f64.decode x).neg = Flt.sgn x := by
  unfold FloatKind.decode
  show (Ieee.double.read x).neg = _
  by_cases h : Flt.Fin x
  · obtain ⟨m, p, h1, _⟩ := Flt.read_fin h
    rw [h1]; rfl
  · by_cases h2 : Flt.rg x = Flt.inf
    · rw [Flt.read_inf h2]; rfl
    · obtain ⟨f, h3⟩ := Flt.read_nan (x := x) (by unfold Flt.Fin at h; unfold Flt.Nan; omega)
      rw [h3]; rfl

theorem nanMinMax_cut (b : Bool) (x y t : Nat) : (Question.nanMinMax .f64 b x y).cut t < 2 ^ 64 := (nan_cut x y t).2

section
variable {P : Program} (w : World)
theorem run_fmax (ts : Array TypeId) (t : TypeId) (x y : Nat) (hx : x < 2 ^ 64) (hy : y < 2 ^ 64) : ∃ z n, (Builtin.max_ ts t #[.float .f64 x, .float .f64 y]).run P w = .ok (.float .f64 z) (w.drewN n) ∧ IsSel mx x y z := by
  have hf : FloatKind.f64.format = Ieee.double := rfl
  by_cases hnx : Flt.Nan x ∨ Flt.Nan y
  · have ho : Ieee.double.order x y = none := by rcases hnx with h | h; exact Flt.order_nan_left h; exact Flt.order_nan_right h
    have e : (Question.nanMinMax .f64 true x y).forced = false := rfl
    refine ⟨(Question.nanMinMax .f64 true x y).cut (w.tape w.drawn (Question.nanMinMax .f64 true x y)), 1, ?_, nanMinMax_cut _ _ _ _, fun a b => absurd hnx (by rintro (h | h); exact a h; exact b h)⟩
    simp [Builtin.max_, Builtin.max2, hf, ho, e]
    rfl
  · have h1 : ¬ Flt.Nan x := fun h => hnx (.inl h)
    have h2 : ¬ Flt.Nan y := fun h => hnx (.inr h)
    have ho := Flt.order_spec h1 h2
    refine ⟨mx x y, 0, ?_, by unfold mx; split <;> (try split) <;> (try split) <;> assumption, fun _ _ => rfl⟩
    rw [World.drewN_zero]
    unfold mx
    rcases Int.lt_trichotomy (Flt.sv x) (Flt.sv y) with h | h | h
    · rw [show compare (Flt.sv x) (Flt.sv y) = .lt by first | exact (Flt.cmp_lt).2 h | (simp only [Flt.cmp_lt]; exact h)] at ho
      simp [Builtin.max_, Builtin.max2, hf, ho, h]
    · rw [show compare (Flt.sv x) (Flt.sv y) = .eq by first | exact (Flt.cmp_eq).2 h | (simp only [Flt.cmp_eq]; exact h)] at ho
      simp [Builtin.max_, Builtin.max2, hf, ho, h, decode_neg]
    · rw [show compare (Flt.sv x) (Flt.sv y) = .gt by first | exact (Flt.cmp_gt).2 h | (simp only [Flt.cmp_gt]; exact h)] at ho
      have h' : ¬ Flt.sv x < Flt.sv y := by omega
      simp [Builtin.max_, Builtin.max2, hf, ho, h, h']
end

theorem fin_zero : Flt.Fin 0 := by unfold Flt.Fin Flt.rg; rw [Flt.inf_eq]; decide
/-- A float without a nought's sign. -/
def pz (v : Nat) : Nat := if Flt.rg v = 0 then 0 else v
theorem pz_lt {v : Nat} (h : v < 2 ^ 64) : pz v < 2 ^ 64 := by unfold pz; split <;> omega
theorem sv_pz (v : Nat) : Flt.sv (pz v) = Flt.sv v := by
  unfold pz
  split
  · rename_i h; rw [sv_zero, Flt.sv_zero_iff.2 h]
  · rfl
theorem fin_pz {v : Nat} (h : Flt.Fin v) : Flt.Fin (pz v) := by
  unfold pz; split
  · exact fin_zero
  · exact h
theorem add_nought {v : Nat} (hv : v < 2 ^ 64) (h : Flt.Fin v) : Ieee.double.add v 0 = some (pz v) := by
  have h1 : Flt.rg v < Flt.inf := h
  have e := Flt.add_exact (x := v) (y := 0) (r := Flt.rg v) h fin_zero h1 (by rw [sv_zero, Int.add_zero, sv_abs])
  rw [sv_zero, Int.add_zero] at e
  rw [e]
  unfold pz
  by_cases h0 : Flt.rg v = 0
  · rw [if_pos h0, if_pos (Flt.sv_zero_iff.2 h0), h0]
    have : Flt.sgn 0 = false := by decide
    rw [this, Bool.and_false]
    rfl
  · rw [if_neg h0, if_neg (fun k => h0 (Flt.sv_zero_iff.1 k)), sv_neg h0, Flt.word_eq v hv]
theorem isOp_nought {v t : Nat} (hv : v < 2 ^ 64) (h : Flt.Fin v) (ht : IsOp Ieee.double.add v 0 t) : t = pz v := by
  have := ht.2
  rw [add_nought hv h] at this
  exact this
/-- v - v == 0 asks whether v is finite. -/
theorem sub_self {v t : Nat} (ht : IsOp Ieee.double.sub v v t) : (Ieee.double.order t 0 == some .eq) = Flt.finB v := by
  obtain ⟨_, h⟩ := ht
  rw [Flt.sub_eq] at h
  by_cases hf : Flt.Fin v
  · have e := Flt.add_exact (x := v) (y := Flt.opp v) (r := 0) hf (Flt.fin_opp.2 hf) (by rw [Flt.inf_eq]; omega) (by rw [Flt.sv_opp, Int.add_right_neg, Flt.val_zero]; rfl)
    rw [Flt.sv_opp, Int.add_right_neg, if_pos rfl, Flt.sgn_opp] at e
    rw [e] at h
    have h0 : t = 0 := by rw [show t = _ from h]; cases Flt.sgn v <;> rfl
    rw [h0, Flt.finB_iff.2 hf, Flt.eq_spec nan_zero nan_zero]
    simp
  · rw [Flt.finB_false.2 hf]
    have hn : Flt.Nan t := by
      by_cases hi : Flt.rg v = Flt.inf
      · rw [Flt.add_inf_both hi (by rw [Flt.rg_opp]; exact hi), Flt.sgn_opp, if_neg (by cases Flt.sgn v <;> simp)] at h
        exact h
      · rw [Flt.add_nan_left (by unfold Flt.Fin at hf; unfold Flt.Nan; omega)] at h
        exact h
    rw [Flt.order_nan_left hn]
    rfl

/-- May a span be? -/
def okS (lo hi : Nat) : Bool := Flt.finB lo && Flt.finB hi && !(Ieee.double.order lo hi == some .gt)
theorem okS_iff {lo hi : Nat} : okS lo hi = true ↔ Flt.Fin lo ∧ Flt.Fin hi ∧ Flt.sv lo ≤ Flt.sv hi := by
  unfold okS
  constructor
  · intro h
    rw [Bool.and_eq_true, Bool.and_eq_true] at h
    obtain ⟨⟨h1, h2⟩, h3⟩ := h
    have f1 := Flt.finB_iff.1 h1
    have f2 := Flt.finB_iff.1 h2
    rw [Flt.gt_spec (fun k => Flt.not_fin_nan k f1) (fun k => Flt.not_fin_nan k f2), Bool.not_eq_true', decide_eq_false_iff_not] at h3
    exact ⟨f1, f2, by omega⟩
  · rintro ⟨f1, f2, h3⟩
    rw [Flt.finB_iff.2 f1, Flt.finB_iff.2 f2, Flt.gt_spec (fun k => Flt.not_fin_nan k f1) (fun k => Flt.not_fin_nan k f2), decide_eq_false (by omega)]
    rfl
/-- Is the one float not above the other? -/
def leB (x y : Nat) : Bool := Ieee.double.order x y == some .lt || Ieee.double.order x y == some .eq
theorem leB_iff {x y : Nat} (hx : Flt.Fin x) (hy : Flt.Fin y) : leB x y = decide (Flt.sv x ≤ Flt.sv y) := by
  unfold leB
  rw [Flt.lt_spec (fun k => Flt.not_fin_nan k hx) (fun k => Flt.not_fin_nan k hy), Flt.eq_spec (fun k => Flt.not_fin_nan k hx) (fun k => Flt.not_fin_nan k hy)]
  by_cases h : Flt.sv x < Flt.sv y
  · rw [decide_eq_true h, decide_eq_true (show Flt.sv x ≤ Flt.sv y by omega)]; rfl
  · by_cases h2 : Flt.sv x = Flt.sv y
    · rw [decide_eq_true h2, decide_eq_true (show Flt.sv x ≤ Flt.sv y by omega)]; simp
    · rw [decide_eq_false h, decide_eq_false h2, decide_eq_false (by omega)]; rfl
/-- What is told of the ends. -/
def endsF (lo hi : Nat) : Nat × Nat × Int := if Flt.finB lo && Flt.finB hi then (pz lo, pz hi, 0) else (0, 0, 6)
end Go.Proofs.YtdmdaoginojalaaGreatDoor
