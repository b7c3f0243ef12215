/-
  What becomes of pairs of floats beside when signs are turned, in plain Lean.
-/
import Derived.Test.YthddodhcpfponaaRoot
namespace Go.Proofs.Ythddodhcpfponaa
open Go.RowKit

namespace Flt
open Ieee

/-! ### operations and signs -/
theorem nearest_neg (s : Bool) (m : Nat) (p : Int) : ∃ r, r ≤ inf ∧ ∀ t, double.nearest t m p = word t r := by
  by_cases hm : m = 0
  · exact ⟨0, by omega, fun t => by unfold Format.nearest; rw [if_pos hm, double_word]⟩
  · refine ⟨min ((max (p + (m.log2 : Int) - double.fractionBits) double.leastPlace - double.leastPlace).toNat * double.binade + Toward.even.cut s (m <<< (p - max (p + (m.log2 : Int) - double.fractionBits) double.leastPlace).toNat) (max (p + (m.log2 : Int) - double.fractionBits) double.leastPlace - p).toNat) double.infRung, ?_, fun t => ?_⟩
    · rw [infRung_double]; omega
    · unfold Format.nearest
      rw [if_neg hm, double_word]
      rfl
/-- What a datum other than NaN is written as: a word whose sign is the datum's own. -/
theorem write_sign (d : Datum) (h : d.isNaN = false) : ∃ r, r ≤ inf ∧ double.write d = word d.neg r ∧ double.write d.opposite = word (!d.neg) r := by
  cases d with
  | number s m p =>
    obtain ⟨r, h1, h2⟩ := nearest_neg true m p
    exact ⟨r, h1, h2 s, h2 (!s)⟩
  | infinity s => exact ⟨inf, Nat.le_refl _, by show double.word s double.infRung = _; rw [double_word, infRung_double]; rfl, by show double.word (!s) double.infRung = _; rw [double_word, infRung_double]; rfl⟩
  | nan s f => cases h
theorem not_nan_word {s : Bool} {r : Nat} (h : r ≤ inf) : ¬ Nan (word s r) := by
  have := inf_lt
  unfold Nan
  rw [rg_word _ _ (by omega)]; omega
theorem opp_word {s : Bool} {r : Nat} (h : r ≤ inf) : opp (word s r) = word (!s) r := by
  have := inf_lt
  unfold opp
  rw [sgn_word _ _ (by omega), rg_word _ _ (by omega)]
/-- An operation with the other sign in one place. -/
theorem turn_op {d d' : Option Datum} (hd : ∀ e, d = some e → e.isNaN = false) (h : d' = d.map Datum.opposite) :
    (∀ z, d.map double.write = some z → d'.map double.write = some (opp z) ∧ ¬ Nan z ∧ ¬ Nan (opp z)) ∧ (d.map double.write = none → d'.map double.write = none) := by
  cases d with
  | none => subst h; exact ⟨fun z hz => (by cases hz), fun _ => rfl⟩
  | some e =>
    subst h
    refine ⟨fun z hz => ?_, fun h => by cases h⟩
    obtain ⟨r, h1, h2, h3⟩ := write_sign e (hd e rfl)
    have hz' : z = word e.neg r := by
      have : double.write e = z := by simpa using hz
      rw [← this, h2]
    subst hz'
    exact ⟨by simp [h3, opp_word h1], not_nan_word h1, by rw [opp_word h1]; exact not_nan_word h1⟩

theorem product_nan (d e : Datum) : ∀ f, d.product e = some f → f.isNaN = false := by
  intro f h
  cases d <;> cases e <;> simp only [Datum.product] at h <;> (try split at h) <;> cases h <;> rfl
theorem product_opp (d e : Datum) : d.opposite.product e = (d.product e).map Datum.opposite := by
  cases d <;> cases e <;> simp only [Datum.product, Datum.opposite] <;> (try split) <;> simp [Datum.opposite]
theorem product_comm (d e : Datum) : d.product e = e.product d := by
  cases d <;> cases e <;> simp [Datum.product, Bool.xor_comm, Nat.mul_comm, Int.add_comm]
theorem quotient_nan (k : Nat) (d e : Datum) : ∀ f, d.quotient k e = some f → f.isNaN = false := by
  intro f h
  cases d <;> cases e <;> simp only [Datum.quotient] at h <;> (try split at h) <;> (try split at h) <;> cases h <;> rfl
theorem quotient_opp (k : Nat) (d e : Datum) : d.quotient k e.opposite = (d.quotient k e).map Datum.opposite := by
  cases d <;> cases e <;> simp only [Datum.quotient, Datum.opposite] <;> (try split) <;> (try split) <;> simp [Datum.opposite]
theorem sum_comm (d e : Datum) : d.sum e = e.sum d := by
  cases d with
  | nan => cases e <;> rfl
  | infinity s =>
    cases e with
    | nan => rfl
    | infinity t =>
      simp only [Datum.sum]
      by_cases h : s = t
      · subst h; rfl
      · rw [if_neg h, if_neg (fun h' => h h'.symm)]
    | number => rfl
  | number s m i =>
    cases e with
    | nan => rfl
    | infinity t => rfl
    | number t n j =>
      simp only [Datum.sum]
      rw [Int.min_comm j i, Int.add_comm (signed t n _), Bool.and_comm t s]

theorem mul_opp (x y : Nat) : (∀ z, double.mul x y = some z → double.mul (opp x) y = some (opp z) ∧ ¬ Nan z ∧ ¬ Nan (opp z)) ∧ (double.mul x y = none → double.mul (opp x) y = none) := by
  unfold Format.mul
  rw [← read_opp]
  exact turn_op (product_nan _ _) (product_opp _ _)
theorem mul_comm (x y : Nat) : double.mul x y = double.mul y x := by unfold Format.mul; rw [product_comm]
theorem div_opp (x y : Nat) : (∀ z, double.div x y = some z → double.div x (opp y) = some (opp z) ∧ ¬ Nan z ∧ ¬ Nan (opp z)) ∧ (double.div x y = none → double.div x (opp y) = none) := by
  unfold Format.div
  rw [← read_opp]
  exact turn_op (quotient_nan _ _ _) (quotient_opp _ _ _)
theorem add_comm (x y : Nat) : double.add x y = double.add y x := by unfold Format.add; rw [sum_comm]
theorem opp_opp {x : Nat} (h : x < 2 ^ 64) : opp (opp x) = x := by
  have h1 : opp (opp x) = word (!sgn (opp x)) (rg (opp x)) := rfl
  rw [h1, sgn_opp, rg_opp, Bool.not_not, word_eq x h]
end Flt

/-- The one pair is the other one with the other sign; or none of the four is a number. -/
def Turned (d u e v : Nat) : Prop :=
  (Flt.Nan d ∧ Flt.Nan u ∧ Flt.Nan e ∧ Flt.Nan v) ∨ (¬ Flt.Nan d ∧ ¬ Flt.Nan u ∧ ¬ Flt.Nan e ∧ ¬ Flt.Nan v ∧ Flt.sv d = - Flt.sv v ∧ Flt.sv u = - Flt.sv e)

theorem hiR_le' {num den r : Nat} (h : Flt.Dn num den r) : hiR num den r ≤ Flt.inf := by have := h.1; unfold hiR; split <;> omega
theorem Brk.turned {s : Bool} {num den d u e v : Nat} (h : Brk s num den d u) (k : Brk (!s) num den e v) : Turned d u e v := by
  obtain ⟨r, h1, rfl, rfl⟩ := h
  obtain ⟨r', k1, rfl, rfl⟩ := k
  have := h1.unique k1
  subst this
  have hr : r ≤ Flt.inf := by have := h1.1; omega
  have hh := hiR_le' h1
  have hi := Flt.inf_lt
  have w : ∀ (t : Bool) (a b : Nat), (if t then 2 ^ 63 + a else b) = if t then Flt.word true a else Flt.word false b := fun t a b => by cases t <;> rfl
  simp only [w]
  right
  cases s <;> simp only [Bool.not_false, Bool.not_true, Bool.false_eq_true, ↓reduceIte]
  · exact ⟨Flt.not_nan_word hr, Flt.not_nan_word hh, Flt.not_nan_word hh, Flt.not_nan_word hr, by simp [Flt.sv_word (show r < 2 ^ 63 by omega)], by simp [Flt.sv_word (show hiR num den r < 2 ^ 63 by omega)]⟩
  · exact ⟨Flt.not_nan_word hh, Flt.not_nan_word hr, Flt.not_nan_word hr, Flt.not_nan_word hh, by simp [Flt.sv_word (show hiR num den r < 2 ^ 63 by omega)], by simp [Flt.sv_word (show r < 2 ^ 63 by omega)]⟩

/-- The own answers, turned. -/
theorem turned_own {f : Nat → Nat → Option Nat} {x y x' y' z t : Nat} (hf : (∀ z, f x y = some z → f x' y' = some (Flt.opp z) ∧ ¬ Flt.Nan z ∧ ¬ Flt.Nan (Flt.opp z)) ∧ (f x y = none → f x' y' = none)) (h : IsOp f x y z) (k : IsOp f x' y' t) : Turned z z t t := by
  have a := h.2
  have b := k.2
  cases hz : f x y with
  | none =>
    rw [hz] at a
    rw [hf.2 hz] at b
    exact .inl ⟨a, a, b, b⟩
  | some w =>
    obtain ⟨h1, h2, h3⟩ := hf.1 w hz
    rw [hz] at a
    rw [h1] at b
    have a : z = w := a
    have b : t = Flt.opp w := b
    subst a b
    refine .inr ⟨h2, h2, h3, h3, ?_, ?_⟩ <;> rw [Flt.sv_opp] <;> omega

theorem whole_opp_left {x y : Nat} : Whole2 (Flt.opp x) y ↔ Whole2 x y := by unfold Whole2; rw [Flt.fin_opp, Flt.rg_opp]
theorem whole_opp_right {x y : Nat} : Whole2 x (Flt.opp y) ↔ Whole2 x y := by unfold Whole2; rw [Flt.fin_opp, Flt.rg_opp]
theorem prod_turned {x y d u e v : Nat} (h : IsProd x y d u) (k : IsProd (Flt.opp x) y e v) : Turned d u e v := by
  by_cases hw : Whole2 x y
  · have a := h.2 hw
    have b := k.2 (whole_opp_left.2 hw)
    rw [Flt.sgn_opp, Flt.rg_opp, show ((!Flt.sgn x) ^^ Flt.sgn y) = !(Flt.sgn x ^^ Flt.sgn y) by cases Flt.sgn x <;> cases Flt.sgn y <;> rfl] at b
    exact a.turned b
  · obtain ⟨z, h1, rfl, rfl⟩ := h.1 hw
    obtain ⟨t, k1, rfl, rfl⟩ := k.1 (fun h' => hw (whole_opp_left.1 h'))
    exact turned_own (Flt.mul_opp x y) h1 k1
theorem div_turned {x y d u e v : Nat} (h : IsDiv x y d u) (k : IsDiv x (Flt.opp y) e v) : Turned d u e v := by
  by_cases hw : Whole2 x y
  · have a := h.2 hw
    have b := k.2 (whole_opp_right.2 hw)
    rw [Flt.sgn_opp, Flt.rg_opp, show (Flt.sgn x ^^ !Flt.sgn y) = !(Flt.sgn x ^^ Flt.sgn y) by cases Flt.sgn x <;> cases Flt.sgn y <;> rfl] at b
    exact a.turned b
  · obtain ⟨z, h1, rfl, rfl⟩ := h.1 hw
    obtain ⟨t, k1, rfl, rfl⟩ := k.1 (fun h' => hw (whole_opp_right.1 h'))
    exact turned_own (Flt.div_opp x y) h1 k1
theorem prod_comm {x y d u : Nat} (h : IsProd x y d u) : IsProd y x d u := by
  have hw : Whole2 y x ↔ Whole2 x y := by unfold Whole2; constructor <;> rintro ⟨a, b, c, d⟩ <;> exact ⟨b, a, d, c⟩
  refine ⟨fun k => ?_, fun k => ?_⟩
  · obtain ⟨z, h1, h2, h3⟩ := h.1 (fun h' => k (hw.2 h'))
    refine ⟨z, ⟨h1.1, ?_⟩, h2, h3⟩
    rw [Flt.mul_comm]
    exact h1.2
  · rw [Bool.xor_comm, Nat.mul_comm]
    exact h.2 (hw.1 k)
theorem sum_comm {x y d u : Nat} (h : IsSum x y d u) : IsSum y x d u := by
  obtain ⟨s, h1, h2, h3⟩ := h
  refine ⟨s, ⟨h1.1, by rw [Flt.add_comm]; exact h1.2⟩, fun k => h2 ?_, fun a b k => ?_⟩
  · rcases k with k | k
    · exact .inl (fun h => k ⟨h.2, h.1⟩)
    · exact .inr (by omega)
  · rw [Int.add_comm] at k ⊢
    exact h3 b a k

/-- A sum of opposite numbers. -/
theorem sum_turned {x y d u e v : Nat} (h : IsSum x y d u) (k : IsSum (Flt.opp x) (Flt.opp y) e v) : Turned d u e v := by
  obtain ⟨s, h1, h2, h3⟩ := h
  obtain ⟨t, k1, k2, k3⟩ := k
  rw [Flt.fin_opp, Flt.fin_opp, Flt.sv_opp, Flt.sv_opp] at k2
  rw [Flt.fin_opp, Flt.fin_opp, Flt.sv_opp, Flt.sv_opp] at k3
  by_cases hf : Flt.Fin x ∧ Flt.Fin y
  · by_cases hz : Flt.sv x + Flt.sv y = 0
    · obtain ⟨rfl, rfl⟩ := h2 (.inr hz)
      obtain ⟨rfl, rfl⟩ := k2 (.inr (by omega))
      have z0 : ∀ {a b c : Nat}, Flt.IsAdd a b c → Flt.Fin a → Flt.Fin b → Flt.sv a + Flt.sv b = 0 → ¬ Flt.Nan c ∧ Flt.sv c = 0 := by
        intro a b c ha hfa hfb hab
        obtain ⟨z, hz', r, hw, hn⟩ := Flt.add_fin hfa hfb
        have hc : c = z := by have := ha.2; rw [hz'] at this; exact this
        have hr : r = 0 := Flt.near_eq hn (by omega) (by rw [hab]; exact Flt.val_zero)
        subst hr
        have hi := Flt.inf_lt
        rw [hc, hw]
        refine ⟨Flt.not_nan_word (by omega), ?_⟩
        rw [Flt.sv_word (by decide), Flt.val_zero]; split <;> split <;> rfl
      obtain ⟨n1, s1⟩ := z0 h1 hf.1 hf.2 hz
      obtain ⟨n2, s2⟩ := z0 k1 (Flt.fin_opp.2 hf.1) (Flt.fin_opp.2 hf.2) (by rw [Flt.sv_opp, Flt.sv_opp]; omega)
      exact .inr ⟨n1, n1, n2, n2, by omega, by omega⟩
    · have a := h3 hf.1 hf.2 hz
      have b := k3 hf.1 hf.2 (by omega)
      have e1 : (-Flt.sv x + -Flt.sv y).natAbs = (Flt.sv x + Flt.sv y).natAbs := by omega
      have e2 : decide (-Flt.sv x + -Flt.sv y < 0) = !decide (Flt.sv x + Flt.sv y < 0) := by
        by_cases h' : Flt.sv x + Flt.sv y < 0
        · rw [decide_eq_true h', decide_eq_false (by omega)]; rfl
        · rw [decide_eq_false h', decide_eq_true (by omega)]; rfl
      rw [e1, e2] at b
      exact a.turned b
  · obtain ⟨rfl, rfl⟩ := h2 (.inl hf)
    obtain ⟨rfl, rfl⟩ := k2 (.inl hf)
    -- one of them is not finite
    have nan : ∀ {a b c : Nat}, Flt.IsAdd a b c → Ieee.double.add a b = none → Flt.Nan c := fun ha hn => by
      have := ha.2; rw [hn] at this; exact this
    have some' : ∀ {a b c z : Nat}, Flt.IsAdd a b c → Ieee.double.add a b = some z → c = z := fun ha hz => by
      have := ha.2; rw [hz] at this; exact this
    rcases Flt.kinds x with hx | hx | hx
    · rcases Flt.kinds y with hy | hy | hy
      · exact absurd ⟨hx, hy⟩ hf
      · have a := some' h1 (Flt.add_inf_right hx hy)
        have b := some' k1 (Flt.add_inf_right (Flt.fin_opp.2 hx) (by rw [Flt.rg_opp]; exact hy))
        rw [Flt.sgn_opp] at b
        have hi := Flt.inf_lt
        rw [a, b]
        refine .inr ⟨Flt.not_nan_word (Nat.le_refl _), Flt.not_nan_word (Nat.le_refl _), Flt.not_nan_word (Nat.le_refl _), Flt.not_nan_word (Nat.le_refl _), ?_, ?_⟩ <;> (rw [Flt.sv_word hi, Flt.sv_word hi]; cases Flt.sgn y <;> simp)
      · exact .inl ⟨nan h1 (Flt.add_nan_right hy), nan h1 (Flt.add_nan_right hy), nan k1 (Flt.add_nan_right (Flt.nan_opp.2 hy)), nan k1 (Flt.add_nan_right (Flt.nan_opp.2 hy))⟩
    · rcases Flt.kinds y with hy | hy | hy
      · have a := some' h1 (Flt.add_inf_left hx hy)
        have b := some' k1 (Flt.add_inf_left (by rw [Flt.rg_opp]; exact hx) (Flt.fin_opp.2 hy))
        rw [Flt.sgn_opp] at b
        have hi := Flt.inf_lt
        rw [a, b]
        refine .inr ⟨Flt.not_nan_word (Nat.le_refl _), Flt.not_nan_word (Nat.le_refl _), Flt.not_nan_word (Nat.le_refl _), Flt.not_nan_word (Nat.le_refl _), ?_, ?_⟩ <;> (rw [Flt.sv_word hi, Flt.sv_word hi]; cases Flt.sgn x <;> simp)
      · have a := Flt.add_inf_both hx hy
        have b := Flt.add_inf_both (x := Flt.opp x) (y := Flt.opp y) (by rw [Flt.rg_opp]; exact hx) (by rw [Flt.rg_opp]; exact hy)
        rw [Flt.sgn_opp, Flt.sgn_opp] at b
        by_cases hs : Flt.sgn x = Flt.sgn y
        · rw [if_pos hs] at a
          rw [if_pos (by rw [hs])] at b
          have a := some' h1 a
          have b := some' k1 b
          have hi := Flt.inf_lt
          rw [a, b]
          refine .inr ⟨Flt.not_nan_word (Nat.le_refl _), Flt.not_nan_word (Nat.le_refl _), Flt.not_nan_word (Nat.le_refl _), Flt.not_nan_word (Nat.le_refl _), ?_, ?_⟩ <;> (rw [Flt.sv_word hi, Flt.sv_word hi]; cases Flt.sgn x <;> simp)
        · rw [if_neg hs] at a
          rw [if_neg (fun h => hs (by cases h1 : Flt.sgn x <;> cases h2 : Flt.sgn y <;> simp_all))] at b
          exact .inl ⟨nan h1 a, nan h1 a, nan k1 b, nan k1 b⟩
      · exact .inl ⟨nan h1 (Flt.add_nan_right hy), nan h1 (Flt.add_nan_right hy), nan k1 (Flt.add_nan_right (Flt.nan_opp.2 hy)), nan k1 (Flt.add_nan_right (Flt.nan_opp.2 hy))⟩
    · exact .inl ⟨nan h1 (Flt.add_nan_left hx), nan h1 (Flt.add_nan_left hx), nan k1 (Flt.add_nan_left (Flt.nan_opp.2 hx)), nan k1 (Flt.add_nan_left (Flt.nan_opp.2 hx))⟩
end Go.Proofs.Ythddodhcpfponaa
