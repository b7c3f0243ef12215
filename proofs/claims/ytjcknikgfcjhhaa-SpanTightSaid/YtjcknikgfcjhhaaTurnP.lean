/-
  What becomes of pairs of floats beside when signs are turned.
-/
import Derived.Test.YtjcknikgfcjhhaaRoot
namespace Go.Proofs.Ytjcknikgfcjhhaa
open Go.RowKit

namespace Flt
open Ieee

/-! ### operations and signs -/
theorem nearest_neg (s : Bool) (m : Nat) (p : Int) : ∃ r, r ≤ inf ∧ ∀ t, double.nearest t m p = word t r := by
  by_cases hm : m = 0
  · exact ⟨0, by omega, fun t => by unfold Format.nearest; rw [if_pos hm, double_word]⟩
  · refine ⟨min ((max (p + (m.log2 : Int) - double.fractionBits) double.leastPlace - double.leastPlace).toNat * double.binade + Toward.even.cut s (m <<< (p - max (p + (m.log2 : Int) - double.fractionBits) double.leastPlace).toNat) (max (p + (m.log2 : Int) - double.fractionBits) double.leastPlace - p).toNat) double.infRung, ?_, fun t => ?_⟩
    · rw [infRung_double]; omega
    · unfold Format.nearest
      rw [if_neg hm, double_word]
      rfl
/-- What a datum other than NaN is written as: a word whose sign is the datum's own. -/
theorem write_sign (d : Datum) (h : d.isNaN = false) : ∃ r, r ≤ inf ∧ double.write d = word d.neg r ∧ double.write d.opposite = word (!d.neg) r := by
  cases d with
  | number s m p =>
    obtain ⟨r, h1, h2⟩ := nearest_neg true m p
    exact ⟨r, h1, h2 s, h2 (!s)⟩
  | infinity s => exact ⟨inf, Nat.le_refl _, by show double.word s double.infRung = _; rw [double_word, infRung_double]; rfl, by show double.word (!s) double.infRung = _; rw [double_word, infRung_double]; rfl⟩
  | nan s f => cases h
theorem not_nan_word {s : Bool} {r : Nat} (h : r ≤ inf) : ¬ Nan (word s r) := by
  have := inf_lt
  unfold Nan
  rw [rg_word _ _ (by omega)]; omega
theorem opp_word {s : Bool} {r : Nat} (h : r ≤ inf) : opp (word s r) = word (!s) r := by
  have := inf_lt
  unfold opp
  rw [sgn_word _ _ (by omega), rg_word _ _ (by omega)]
/-- An operation with the other sign in one place. -/
theorem turn_op {d d' : Option Datum} (hd : ∀ e, d = some e → e.isNaN = false) (h : d' = d.map Datum.opposite) :
    (∀ z, d.map double.write = some z → d'.map double.write = some (opp z) ∧ ¬ Nan z ∧ ¬ Nan (opp z)) ∧ (d.map double.write = none → d'.map double.write = none) := by
  cases d with
  | none => subst h; exact ⟨fun z hz => (by cases hz), fun _ => rfl⟩
  | some e =>
    subst h
    refine ⟨fun z hz => ?_, fun h => by cases h⟩
    obtain ⟨r, h1, h2, h3⟩ := write_sign e (hd e rfl)
    have hz' : z = word e.neg r := by
      have : double.write e = z := by simpa using hz
      rw [← this, h2]
    subst hz'
    exact ⟨by simp [h3, opp_word h1], not_nan_word h1, by rw [opp_word h1]; exact not_nan_word h1⟩

theorem product_nan (d e : Datum) : ∀ f, d.product e = some f → f.isNaN = false := by
  intro f h
  cases d <;> cases e <;> simp only [Datum.product] at h <;> (try split at h) <;> cases h <;> rfl
theorem product_opp (d e : Datum) : d.opposite.product e = (d.product e).map Datum.opposite := by
  cases d <;> cases e <;> simp only [Datum.product, Datum.opposite] <;> (try split) <;> simp [Datum.opposite]
theorem product_comm (d e : Datum) : d.product e = e.product d := by
  cases d <;> cases e <;> simp [Datum.product, Bool.xor_comm, Nat.mul_comm, Int.add_comm]
theorem sum_comm (d e : Datum) : d.sum e = e.sum d := by
  cases d with
  | nan => cases e <;> rfl
  | infinity s =>
    cases e with
    | nan => rfl
    | infinity t =>
      simp only [Datum.sum]
      by_cases h : s = t
      · subst h; rfl
      · rw [if_neg h, if_neg (fun h' => h h'.symm)]
    | number => rfl
  | number s m i =>
    cases e with
    | nan => rfl
    | infinity t => rfl
    | number t n j =>
      simp only [Datum.sum]
      rw [Int.min_comm j i, Int.add_comm (signed t n _), Bool.and_comm t s]

theorem mul_opp (x y : Nat) : (∀ z, double.mul x y = some z → double.mul (opp x) y = some (opp z) ∧ ¬ Nan z ∧ ¬ Nan (opp z)) ∧ (double.mul x y = none → double.mul (opp x) y = none) := by
  unfold Format.mul
  rw [← read_opp]
  exact turn_op (product_nan _ _) (product_opp _ _)
theorem mul_comm (x y : Nat) : double.mul x y = double.mul y x := by unfold Format.mul; rw [product_comm]
theorem add_comm (x y : Nat) : double.add x y = double.add y x := by unfold Format.add; rw [sum_comm]
end Flt

/-- The one pair is the other one with the other sign; or none of the four is a number. -/
def Turned (d u e v : Nat) : Prop :=
  (Flt.Nan d ∧ Flt.Nan u ∧ Flt.Nan e ∧ Flt.Nan v) ∨ (¬ Flt.Nan d ∧ ¬ Flt.Nan u ∧ ¬ Flt.Nan e ∧ ¬ Flt.Nan v ∧ Flt.sv d = - Flt.sv v ∧ Flt.sv u = - Flt.sv e)

theorem hiR_le' {num den r : Nat} (h : Flt.Dn num den r) : hiR num den r ≤ Flt.inf := by have := h.1; unfold hiR; split <;> omega
theorem Brk.turned {s : Bool} {num den d u e v : Nat} (h : Brk s num den d u) (k : Brk (!s) num den e v) : Turned d u e v := by
  obtain ⟨r, h1, rfl, rfl⟩ := h
  obtain ⟨r', k1, rfl, rfl⟩ := k
  have := h1.unique k1
  subst this
  have hr : r ≤ Flt.inf := by have := h1.1; omega
  have hh := hiR_le' h1
  have hi := Flt.inf_lt
  have w : ∀ (t : Bool) (a b : Nat), (if t then 2 ^ 63 + a else b) = if t then Flt.word true a else Flt.word false b := fun t a b => by cases t <;> rfl
  simp only [w]
  right
  cases s <;> simp only [Bool.not_false, Bool.not_true, Bool.false_eq_true, ↓reduceIte]
  · exact ⟨Flt.not_nan_word hr, Flt.not_nan_word hh, Flt.not_nan_word hh, Flt.not_nan_word hr, by simp [Flt.sv_word (show r < 2 ^ 63 by omega)], by simp [Flt.sv_word (show hiR num den r < 2 ^ 63 by omega)]⟩
  · exact ⟨Flt.not_nan_word hh, Flt.not_nan_word hr, Flt.not_nan_word hr, Flt.not_nan_word hh, by simp [Flt.sv_word (show hiR num den r < 2 ^ 63 by omega)], by simp [Flt.sv_word (show r < 2 ^ 63 by omega)]⟩

theorem sum_comm {x y d u : Nat} (h : IsSum x y d u) : IsSum y x d u := by
  obtain ⟨s, h1, h2, h3⟩ := h
  refine ⟨s, ⟨h1.1, by rw [Flt.add_comm]; exact h1.2⟩, fun k => h2 ?_, fun a b k => ?_⟩
  · rcases k with k | k
    · exact .inl (fun h => k ⟨h.2, h.1⟩)
    · exact .inr (by omega)
  · rw [Int.add_comm] at k ⊢
    exact h3 b a k

end Go.Proofs.Ytjcknikgfcjhhaa
