/-
  Floats, plainly.
-/
import Ieee.Arith
namespace Go.Proofs.YtmmplomkginadaaGreatDoor.Flt
open Ieee

def inf : Nat := 2047 * 2 ^ 52
theorem inf_eq : inf = 9218868437227405312 := by decide

/-- The worth of a rung, counted in the least float above nought. -/
def val (r : Nat) : Nat := (if r < 2 ^ 52 then r else 2 ^ 52 + r % 2 ^ 52) * 2 ^ (r / 2 ^ 52 - 1)
def ulp (r : Nat) : Nat := 2 ^ (r / 2 ^ 52 - 1)

theorem ulp_pos (r : Nat) : 0 < ulp r := Nat.two_pow_pos _

theorem val_mk (q m : Nat) (h : m < 2 ^ 52) : val (q * 2 ^ 52 + m) = (if q = 0 then m else 2 ^ 52 + m) * 2 ^ (q - 1) := by
  have h1 : (q * 2 ^ 52 + m) / 2 ^ 52 = q := by omega
  have h2 : (q * 2 ^ 52 + m) % 2 ^ 52 = m := by omega
  unfold val
  rw [h1, h2]
  by_cases hq : q = 0
  · subst hq
    simp [h]
  · rw [if_neg (by omega), if_neg hq]

theorem ulp_mk (q m : Nat) (h : m < 2 ^ 52) : ulp (q * 2 ^ 52 + m) = 2 ^ (q - 1) := by
  unfold ulp
  rw [show (q * 2 ^ 52 + m) / 2 ^ 52 = q by omega]

theorem split52 (r : Nat) : ∃ q m, r = q * 2 ^ 52 + m ∧ m < 2 ^ 52 := ⟨r / 2 ^ 52, r % 2 ^ 52, by omega, by omega⟩

theorem val_succ (r : Nat) : val (r + 1) = val r + ulp r := by
  obtain ⟨q, m, rfl, hm⟩ := split52 r
  rw [ulp_mk q m hm, val_mk q m hm]
  by_cases h : m + 1 < 2 ^ 52
  · rw [show q * 2 ^ 52 + m + 1 = q * 2 ^ 52 + (m + 1) by omega, val_mk q (m + 1) h]
    split
    · rw [Nat.add_mul, Nat.one_mul]
    · rw [← Nat.add_assoc, Nat.add_mul, Nat.one_mul]
  · have hm' : m = 2 ^ 52 - 1 := by omega
    rw [show q * 2 ^ 52 + m + 1 = (q + 1) * 2 ^ 52 + 0 by omega, val_mk (q + 1) 0 (by decide)]
    subst hm'
    cases q with
    | zero => simp
    | succ q =>
      have h2 : 2 ^ (q + 1) = 2 * 2 ^ q := by rw [Nat.pow_succ, Nat.mul_comm]
      simp only [Nat.add_sub_cancel, if_neg (Nat.succ_ne_zero _)]
      rw [h2]
      generalize 2 ^ q = p
      omega

theorem val_lt_succ (r : Nat) : val r < val (r + 1) := by have := val_succ r; have := ulp_pos r; omega

theorem val_lt {r s : Nat} (h : r < s) : val r < val s := by
  induction s with
  | zero => omega
  | succ s ih =>
    by_cases hs : r = s
    · subst hs; exact val_lt_succ r
    · exact Nat.lt_trans (ih (by omega)) (val_lt_succ s)

theorem val_le {r s : Nat} (h : r ≤ s) : val r ≤ val s := by
  rcases Nat.lt_or_eq_of_le h with h | h
  · exact Nat.le_of_lt (val_lt h)
  · subst h; exact Nat.le_refl _

theorem le_of_val {r s : Nat} (h : val r ≤ val s) : r ≤ s := by
  rcases Nat.lt_or_ge s r with h' | h'
  · exact absurd (val_lt h') (by omega)
  · exact h'
theorem val_inj {r s : Nat} (h : val r = val s) : r = s := by
  have h1 := le_of_val (r := r) (s := s) (by omega)
  have h2 := le_of_val (r := s) (s := r) (by omega)
  omega
theorem val_zero : val 0 = 0 := by simp [val]
theorem le_val (r : Nat) : r ≤ val r := by
  induction r with
  | zero => omega
  | succ r ih => have := val_lt_succ r; omega

/-- Rung r is the nearest one to num / den (counted in the least float), ties to even. -/
def Near (num den r : Nat) : Prop :=
  r ≤ inf ∧ (r < inf → 2 * num ≤ (val r + val (r + 1)) * den ∧ (r % 2 = 1 → 2 * num < (val r + val (r + 1)) * den)) ∧
  (0 < r → (val (r - 1) + val r) * den ≤ 2 * num ∧ (r % 2 = 1 → (val (r - 1) + val r) * den < 2 * num))

theorem Near.unique {num den r s : Nat} (hd : 0 < den) (h : Near num den r) (k : Near num den s) : r = s := by
  have key : ∀ {r s : Nat}, Near num den r → Near num den s → ¬ r < s := by
    intro r s h k hlt
    obtain ⟨h1, h2, -⟩ := h
    obtain ⟨k1, -, k3⟩ := k
    obtain ⟨a1, a2⟩ := h2 (by omega)
    obtain ⟨b1, b2⟩ := k3 (by omega)
    have m1 : val r ≤ val (s - 1) := val_le (by omega)
    have m2 : val (r + 1) ≤ val s := val_le (by omega)
    have hle : (val r + val (r + 1)) * den ≤ (val (s - 1) + val s) * den := Nat.mul_le_mul_right _ (by omega)
    by_cases hrs : r + 1 = s
    · subst hrs
      by_cases hp : r % 2 = 1
      · have := a2 hp; omega
      · have := b2 (by omega); omega
    · have m3 : val r < val (s - 1) := val_lt (by omega)
      have hlt' : (val r + val (r + 1)) * den < (val (s - 1) + val s) * den := Nat.mul_lt_mul_of_pos_right (by omega) hd
      omega
  have := key h k
  have := key k h
  omega

theorem leastPlace_double : double.leastPlace = -1074 := by decide
theorem infRung_double : double.infRung = inf := by decide
theorem binade_double : double.binade = 2 ^ 52 := by decide
theorem signWeight_double : double.signWeight = 2 ^ 63 := by decide

end Go.Proofs.YtmmplomkginadaaGreatDoor.Flt

namespace Go.Proofs.YtmmplomkginadaaGreatDoor.Flt
open Ieee

def sgn (x : Nat) : Bool := x / 2 ^ 63 % 2 == 1
def rg (x : Nat) : Nat := x % 2 ^ 63
def Fin (x : Nat) : Prop := rg x < inf
def Nan (x : Nat) : Prop := inf < rg x
/-- The worth of a finite float, counted in the least float above nought. -/
def sv (x : Nat) : Int := if sgn x then -(val (rg x) : Int) else (val (rg x) : Int)
def word (neg : Bool) (r : Nat) : Nat := if neg then 2 ^ 63 + r else r

theorem word_eq (x : Nat) (h : x < 2 ^ 64) : word (sgn x) (rg x) = x := by
  unfold word sgn rg
  by_cases hx : x / 2 ^ 63 % 2 = 1
  · simp only [hx, beq_self_eq_true, if_true]; omega
  · have : (x / 2 ^ 63 % 2 == 1) = false := by simpa using hx
    simp only [this]; simp; omega

/-- What a word is read as. -/
theorem read_fin {x : Nat} (h : Fin x) : ∃ m : Nat, ∃ p : Nat, double.read x = .number (sgn x) m ((p : Int) - 1074) ∧ m * 2 ^ p = val (rg x) := by
  unfold Format.read
  simp only [signWeight_double, binade_double, infRung_double, leastPlace_double]
  unfold Fin rg at h
  unfold rg
  generalize hr : x % 2 ^ 63 = r at *
  by_cases h1 : r < 2 ^ 52
  · rw [if_pos h1]
    refine ⟨r, 0, rfl, ?_⟩
    unfold val
    rw [if_pos h1, show r / 2 ^ 52 - 1 = 0 by omega]
  · rw [if_neg h1, if_pos h]
    refine ⟨2 ^ 52 + r % 2 ^ 52, r / 2 ^ 52 - 1, ?_, ?_⟩
    · rfl
    · unfold val
      rw [if_neg h1]
theorem read_inf {x : Nat} (h : rg x = inf) : double.read x = .infinity (sgn x) := by
  unfold Format.read
  simp only [signWeight_double, binade_double, infRung_double]
  unfold rg at h
  rw [h, if_neg (by rw [inf_eq]; decide), if_neg (Nat.lt_irrefl _), if_pos rfl]
  rfl
theorem signed_scale (s : Bool) (m a : Nat) : signed s m a = (if s then -((m * 2 ^ a : Nat) : Int) else ((m * 2 ^ a : Nat) : Int)) := by
  unfold signed; rw [Nat.shiftLeft_eq]

end Go.Proofs.YtmmplomkginadaaGreatDoor.Flt

namespace Go.Proofs.YtmmplomkginadaaGreatDoor.Flt
open Ieee

/-! ### the order -/
theorem cmp_lt {a b : Int} : (compare a b = .lt) ↔ a < b := by
  simp [compare, compareOfLessAndEq]; split <;> (try split) <;> simp_all
theorem cmp_eq {a b : Int} : (compare a b = .eq) ↔ a = b := by
  simp [compare, compareOfLessAndEq]; split <;> (try split) <;> simp_all <;> omega
theorem cmp_gt {a b : Int} : (compare a b = .gt) ↔ b < a := by
  simp [compare, compareOfLessAndEq]; split <;> (try split) <;> simp_all <;> omega

theorem cmp_scale (a b : Int) (p : Int) (hp : 0 < p) : compare (a * p) (b * p) = compare a b := by
  rcases Int.lt_trichotomy a b with h | h | h
  · rw [cmp_lt.2 h, cmp_lt.2 (Int.mul_lt_mul_of_pos_right h hp)]
  · rw [h]; rw [cmp_eq.2 rfl, cmp_eq.2 rfl]
  · rw [cmp_gt.2 h, cmp_gt.2 (Int.mul_lt_mul_of_pos_right h hp)]

theorem order_num (s t : Bool) (m n i j : Nat) :
    Datum.order (.number s m ((i : Int) - 1074)) (.number t n ((j : Int) - 1074)) =
      some (compare (if s then -((m * 2 ^ i : Nat) : Int) else ((m * 2 ^ i : Nat) : Int)) (if t then -((n * 2 ^ j : Nat) : Int) else ((n * 2 ^ j : Nat) : Int))) := by
  unfold Datum.order
  simp only
  have : min ((i : Int) - 1074) ((j : Int) - 1074) = ((min i j : Nat) : Int) - 1074 := by omega
  rw [this]
  have e1 : ((i : Int) - 1074 - (((min i j : Nat) : Int) - 1074)).toNat = i - min i j := by omega
  have e2 : ((j : Int) - 1074 - (((min i j : Nat) : Int) - 1074)).toNat = j - min i j := by omega
  rw [e1, e2, signed_scale, signed_scale]
  have hp : (0 : Int) < ((2 ^ (min i j) : Nat) : Int) := by have := Nat.two_pow_pos (min i j); omega
  rw [← cmp_scale _ _ _ hp]
  have h1 : m * 2 ^ i = m * 2 ^ (i - min i j) * 2 ^ (min i j) := by rw [Nat.mul_assoc, ← Nat.pow_add]; congr 2; omega
  have h2 : n * 2 ^ j = n * 2 ^ (j - min i j) * 2 ^ (min i j) := by rw [Nat.mul_assoc, ← Nat.pow_add]; congr 2; omega
  rw [h1, h2]
  generalize 2 ^ (min i j) = p
  generalize m * 2 ^ (i - min i j) = u
  generalize n * 2 ^ (j - min i j) = v
  congr 2
  · split <;> simp [Int.neg_mul]
  · split <;> simp [Int.neg_mul]

theorem order_fin {x y : Nat} (hx : Fin x) (hy : Fin y) : double.order x y = some (compare (sv x) (sv y)) := by
  obtain ⟨m, i, hm, hmv⟩ := read_fin hx
  obtain ⟨n, j, hn, hnv⟩ := read_fin hy
  unfold Format.order
  rw [hm, hn, order_num, hmv, hnv]; rfl

theorem val_inf_gt {x : Nat} (h : Fin x) : val (rg x) < val inf := val_lt h

theorem order_spec {x y : Nat} (hx : ¬ Nan x) (hy : ¬ Nan y) : double.order x y = some (compare (sv x) (sv y)) := by
  unfold Nan at hx hy
  by_cases fx : Fin x
  · by_cases fy : Fin y
    · exact order_fin fx fy
    · have iy : rg y = inf := by unfold Fin at fy; omega
      obtain ⟨m, i, hm, hmv⟩ := read_fin fx
      have hv := val_inf_gt fx
      unfold Format.order
      rw [hm, read_inf iy]
      unfold Datum.order
      have hsx : -(val inf : Int) < sv x ∧ sv x < val inf := by unfold sv; split <;> omega
      have hy' : sv y = if sgn y then -(val inf : Int) else val inf := by unfold sv; rw [iy]
      rw [hy']
      cases sgn y
      · simp only [Bool.false_eq_true, if_false]; rw [cmp_lt.2 hsx.2]
      · simp only [if_true]; rw [cmp_gt.2 hsx.1]
  · have ix : rg x = inf := by unfold Fin at fx; omega
    have hx' : sv x = if sgn x then -(val inf : Int) else val inf := by unfold sv; rw [ix]
    by_cases fy : Fin y
    · obtain ⟨n, j, hn, hnv⟩ := read_fin fy
      have hv := val_inf_gt fy
      unfold Format.order
      rw [hn, read_inf ix]
      unfold Datum.order
      have hsy : -(val inf : Int) < sv y ∧ sv y < val inf := by unfold sv; split <;> omega
      rw [hx']
      cases sgn x
      · simp only [Bool.false_eq_true, if_false]; rw [cmp_gt.2 hsy.2]
      · simp only [if_true]; rw [cmp_lt.2 hsy.1]
    · have iy : rg y = inf := by unfold Fin at fy; omega
      have hy' : sv y = if sgn y then -(val inf : Int) else val inf := by unfold sv; rw [iy]
      have hp : 0 < val inf := by have := val_lt (show 0 < inf by rw [inf_eq]; omega); omega
      unfold Format.order
      rw [read_inf iy, read_inf ix, hx', hy']
      unfold Datum.order
      cases sgn x <;> cases sgn y <;> simp only [Bool.false_eq_true, if_false, if_true, Bool.toNat_true, Bool.toNat_false]
      · rw [cmp_eq.2 rfl]; rfl
      · rw [cmp_gt.2 (by omega)]; rfl
      · rw [cmp_lt.2 (by omega)]; rfl
      · rw [cmp_eq.2 rfl]; rfl

theorem ord_beq (c d : Ordering) : ((some c : Option Ordering) == some d) = decide (c = d) := by cases c <;> cases d <;> rfl

theorem lt_spec {x y : Nat} (hx : ¬ Nan x) (hy : ¬ Nan y) : (double.order x y == some .lt) = decide (sv x < sv y) := by
  rw [order_spec hx hy, ord_beq]; simp only [cmp_lt]
theorem gt_spec {x y : Nat} (hx : ¬ Nan x) (hy : ¬ Nan y) : (double.order x y == some .gt) = decide (sv y < sv x) := by
  rw [order_spec hx hy, ord_beq]; simp only [cmp_gt]

/-! ### exactness -/
theorem Near.exact {r : Nat} (h : r ≤ inf) : Near (val r) 1 r := by
  refine ⟨h, fun hr => ?_, fun hr => ?_⟩
  · have := val_lt_succ r; omega
  · have := val_lt (show r - 1 < r by omega); omega

end Go.Proofs.YtmmplomkginadaaGreatDoor.Flt

namespace Go.Proofs.YtmmplomkginadaaGreatDoor.Flt
open Ieee

/-! ### the opposite; the difference -/
/-- What an addition gives, for the relation of contracts: the word, or anything that is no number. -/
def IsAdd (x y z : Nat) : Prop := z < 2 ^ 64 ∧ (match double.add x y with | some r => z = r | none => Nan z)

/-- The sum and what it has lost. -/
def IsTwo (x y s l : Nat) : Prop := IsAdd x y s ∧ l < 2 ^ 64 ∧ (Fin s → Fin l ∧ sv l = sv x + sv y - sv s ∧ (sv l = 0 → l = 0)) ∧ (¬ Fin s → l = 0)

def Same (a b : Nat) : Prop := a = b ∨ Nan a ∧ Nan b

theorem IsAdd.same {x y z t : Nat} (h : IsAdd x y z) (k : IsAdd x y t) : Same z t := by
  unfold IsAdd at h k
  cases e : double.add x y with
  | none => rw [e] at h k; exact Or.inr ⟨h.2, k.2⟩
  | some r => rw [e] at h k; exact Or.inl (h.2.trans k.2.symm)

theorem not_fin_nan {x : Nat} (h : Nan x) : ¬ Fin x := by unfold Nan at h; unfold Fin; omega

theorem sv_zero_iff {x : Nat} : sv x = 0 ↔ rg x = 0 := by
  have h : val (rg x) = 0 ↔ rg x = 0 := by
    constructor
    · intro h; have := le_val (rg x); omega
    · intro h; rw [h, val_zero]
  unfold sv
  split <;> omega
theorem fin_eq {x y : Nat} (hx : x < 2 ^ 64) (hy : y < 2 ^ 64) (hs : sv x = sv y) (h0 : sv x ≠ 0) : x = y := by
  rw [← word_eq x hx, ← word_eq y hy]
  have hx0 : 0 < val (rg x) := by
    rcases Nat.eq_zero_or_pos (val (rg x)) with h | h
    · exfalso; apply h0; unfold sv; rw [h]; split <;> rfl
    · exact h
  unfold sv at hs
  cases hsx : sgn x <;> cases hsy : sgn y <;> rw [hsx, hsy] at hs <;> simp only [Bool.false_eq_true, if_false, if_true] at hs
  · rw [val_inj (r := rg x) (s := rg y) (by omega)]
  · omega
  · omega
  · rw [val_inj (r := rg x) (s := rg y) (by omega)]

theorem IsTwo.same {x y s l t m : Nat} (h : IsTwo x y s l) (k : IsTwo x y t m) : Same s t ∧ Same l m := by
  have hs := h.1.same k.1
  refine ⟨hs, Or.inl ?_⟩
  rcases hs with rfl | ⟨hn, kn⟩
  · by_cases hf : Fin s
    · obtain ⟨_, a2, a3⟩ := h.2.2.1 hf
      obtain ⟨_, b2, b3⟩ := k.2.2.1 hf
      by_cases h0 : sv l = 0
      · rw [a3 h0, b3 (by omega)]
      · exact fin_eq h.2.1 k.2.1 (by omega) h0
    · rw [h.2.2.2 hf, k.2.2.2 hf]
  · rw [h.2.2.2 (not_fin_nan hn), k.2.2.2 (not_fin_nan kn)]

/-! ### tests, as Bools -/
end Go.Proofs.YtmmplomkginadaaGreatDoor.Flt

namespace Go.Proofs.YtmmplomkginadaaGreatDoor.Flt

/-! ### rounding down -/
/-- The greatest finite rung that is not above num / den. -/
def Dn (num den r : Nat) : Prop := r < inf ∧ val r * den ≤ num ∧ (r < inf - 1 → num < val (r + 1) * den)

theorem Dn.unique {num den r s : Nat} (h : Dn num den r) (k : Dn num den s) : r = s := by
  have key : ∀ {r s : Nat}, Dn num den r → Dn num den s → ¬ r < s := by
    intro r s h k hlt
    have h1 := h.2.2 (by have := k.1; omega)
    have h2 : val (r + 1) * den ≤ val s * den := Nat.mul_le_mul_right _ (val_le hlt)
    have := k.2.1
    omega
  have := key h k
  have := key k h
  omega

end Go.Proofs.YtmmplomkginadaaGreatDoor.Flt

/-! Floats, plainly: products, quotients and roots, rounded to the nearest. -/
namespace Go.Proofs.YtmmplomkginadaaGreatDoor.Flt
open Ieee

/-- The exponent of the least float above nought, turned. -/
def K74 : Nat := 1074
/-! ### a digit that is 1 where something is left over -/
/-! ### roots -/
end Go.Proofs.YtmmplomkginadaaGreatDoor.Flt

/-! Floats, plainly: rounding down of a fraction that is known up to a whole number of units. -/
namespace Go.Proofs.YtmmplomkginadaaGreatDoor.Flt
open Ieee

/-! ### the word of a whole number below 2^53, and a step of two's powers -/
/-- The digits of a whole number behind the first one. -/
def tail52 (m : Nat) : Nat := m * 2 ^ (52 - m.log2) - 2 ^ 52
/-- A whole number below 2^53 as a float. -/
def whole (m : Nat) : Nat := if m = 0 then 0 else (m.log2 + 1023) * 2 ^ 52 + tail52 m
end Go.Proofs.YtmmplomkginadaaGreatDoor.Flt

/-! Floats, plainly: the root, rounded to the nearest; a product and a sum, rounded once; products by a power of two. -/
namespace Go.Proofs.YtmmplomkginadaaGreatDoor.Flt
open Ieee

/-! ### a product and a sum, rounded once -/
end Go.Proofs.YtmmplomkginadaaGreatDoor.Flt
