/-
  Fractions, plainly: the greatest common divisor by halving, lowest terms, what is held against one another.
-/
import Derived.Test.YtdmdaoginojalaaGreatDoorZero
namespace Go.Proofs.YtdmdaoginojalaaGreatDoor
open Go.RowKit

/-! ### lowest terms -/
/-- Turned, if the denominator is below nought. -/
def tn (q : Int) (z : Int) : Int := if q < 0 then -z else z
theorem low_num {p q : Int} (hq : q ≠ 0) {g : Nat} (hg : g = Nat.gcd p.natAbs q.natAbs) : tn q (p.tdiv (g : Int)) = (Rat.divInt p q).num := by
  have hg0 : 0 < g := by rw [hg]; exact Nat.gcd_pos_of_pos_right _ (by omega)
  have e : (Int.gcd q p) = g := by rw [hg, Int.gcd_comm]; rfl
  have hd : (g : Int) ∣ p := by rw [hg]; exact Int.ofNat_dvd_left.2 (Nat.gcd_dvd_left _ _)
  rw [Rat.num_divInt, e]
  obtain ⟨k, hk⟩ := hd
  rw [hk, Int.mul_tdiv_cancel_left _ (by omega)]
  unfold tn
  by_cases h : q < 0
  · rw [if_pos h, Int.sign_eq_neg_one_of_neg h]
    rw [show -1 * ((g : Int) * k) = (g : Int) * (-k) by rw [Int.mul_neg]; omega, Int.mul_ediv_cancel_left _ (by omega)]
  · rw [if_neg h, Int.sign_eq_one_of_pos (by omega), Int.one_mul, Int.mul_ediv_cancel_left _ (by omega)]
theorem low_den {p q : Int} (hq : q ≠ 0) {g : Nat} (hg : g = Nat.gcd p.natAbs q.natAbs) : tn q (q.tdiv (g : Int)) = ((Rat.divInt p q).den : Int) := by
  have hg0 : 0 < g := by rw [hg]; exact Nat.gcd_pos_of_pos_right _ (by omega)
  have e : (Int.gcd q p) = g := by rw [hg, Int.gcd_comm]; rfl
  have hd : (g : Int) ∣ q := by rw [hg]; exact Int.ofNat_dvd_left.2 (Nat.gcd_dvd_right _ _)
  rw [Rat.den_divInt, e, if_neg hq]
  obtain ⟨k, hk⟩ := hd
  rw [hk, Int.mul_tdiv_cancel_left _ (by omega), Int.natAbs_mul, Int.natAbs_natCast, Nat.mul_div_cancel_left _ hg0]
  have hk' : 0 < (g : Int) := by omega
  unfold tn
  by_cases h : (g : Int) * k < 0
  · rw [if_pos h]
    have : k < 0 := by
      rcases Int.lt_or_le k 0 with hn | hn
      · exact hn
      · exact absurd (Int.mul_nonneg (Int.le_of_lt hk') hn) (by omega)
    omega
  · rw [if_neg h]
    have : 0 ≤ k := by
      rcases Int.lt_or_le k 0 with hn | hn
      · exact absurd (Int.mul_neg_of_pos_of_neg hk' hn) h
      · exact hn
    omega
theorem tdiv_small (z : Int) (g : Nat) : (z.tdiv (g : Int)).natAbs ≤ z.natAbs := by
  rw [Int.natAbs_tdiv]
  exact Nat.div_le_self _ _
theorem tn_abs (q z : Int) : (tn q z).natAbs = z.natAbs := by unfold tn; split <;> omega
theorem low_small {p q : Int} (hq : q ≠ 0) : (Rat.divInt p q).num.natAbs ≤ p.natAbs ∧ (Rat.divInt p q).den ≤ q.natAbs := by
  have h1 := low_num (p := p) hq rfl
  have h2 := low_den (p := p) hq rfl
  have a1 := tdiv_small p (Nat.gcd p.natAbs q.natAbs)
  have a2 := tdiv_small q (Nat.gcd p.natAbs q.natAbs)
  rw [← tn_abs q, h1] at a1
  rw [← tn_abs q, h2] at a2
  exact ⟨a1, by omega⟩

/-! ### how long numbers are -/
/-- Both numbers of a fraction have m limbs at most. -/
def Sz (x : Rat) (m : Nat) : Prop := x.num.natAbs < 2 ^ (32 * m) ∧ x.den < 2 ^ (32 * m)
theorem mul_lt_pow {a b m n : Nat} (ha : a < 2 ^ (32 * m)) (hb : b < 2 ^ (32 * n)) : a * b < 2 ^ (32 * (m + n)) := by
  rw [show 32 * (m + n) = 32 * m + 32 * n by omega, Nat.pow_add]
  rcases Nat.eq_zero_or_pos b with h | h
  · subst h
    rw [Nat.mul_zero]
    exact Nat.mul_pos (Nat.two_pow_pos _) (Nat.two_pow_pos _)
  · exact Nat.lt_of_lt_of_le (Nat.mul_lt_mul_of_pos_right ha h) (Nat.mul_le_mul_left _ (Nat.le_of_lt hb))
theorem add_lt_pow {a b k : Nat} (ha : a < 2 ^ (32 * k)) (hb : b < 2 ^ (32 * k)) : a + b < 2 ^ (32 * (k + 1)) := by
  rw [show 32 * (k + 1) = 32 * k + 32 by omega, Nat.pow_add]
  have := Nat.two_pow_pos (32 * k)
  omega
theorem Sz.mono {x : Rat} {m n : Nat} (h : Sz x m) (hmn : m ≤ n) : Sz x n :=
  ⟨Nat.lt_of_lt_of_le h.1 (Nat.pow_le_pow_right (by decide) (by omega)), Nat.lt_of_lt_of_le h.2 (Nat.pow_le_pow_right (by decide) (by omega))⟩
theorem Sz.divInt {p q : Int} {m : Nat} (hq : q ≠ 0) (hp : p.natAbs < 2 ^ (32 * m)) (hb : q.natAbs < 2 ^ (32 * m)) : Sz (Rat.divInt p q) m := by
  obtain ⟨h1, h2⟩ := low_small (p := p) hq
  exact ⟨by omega, by omega⟩
theorem den_ne (x : Rat) : (x.den : Int) ≠ 0 := by have := x.den_nz; omega
theorem add_frac (x y : Rat) : Rat.divInt (x.num * (y.den : Int) + y.num * (x.den : Int)) ((x.den : Int) * (y.den : Int)) = x + y := by
  rw [← Rat.divInt_add_divInt _ _ (den_ne x) (den_ne y), Rat.num_divInt_den, Rat.num_divInt_den]
theorem mul_frac (x y : Rat) : Rat.divInt (x.num * y.num) ((x.den : Int) * (y.den : Int)) = x * y := by
  rw [← Rat.divInt_mul_divInt, Rat.num_divInt_den, Rat.num_divInt_den]
theorem div_frac (x y : Rat) (hy : y ≠ 0) : Rat.divInt (x.num * (y.den : Int)) ((x.den : Int) * y.num) = x / y := by
  have hn : y.num ≠ 0 := fun h => hy (Rat.num_eq_zero.1 h)
  rw [← Rat.divInt_mul_divInt, Rat.num_divInt_den, Rat.div_def, Rat.inv_def]
theorem den_mul_ne (x y : Rat) : (x.den : Int) * (y.den : Int) ≠ 0 := Int.mul_ne_zero (den_ne x) (den_ne y)
theorem Sz.mul {x y : Rat} {m n : Nat} (hx : Sz x m) (hy : Sz y n) : Sz (x * y) (m + n) := by
  rw [← mul_frac]
  refine Sz.divInt (den_mul_ne x y) ?_ ?_
  · rw [Int.natAbs_mul]; exact mul_lt_pow hx.1 hy.1
  · rw [Int.natAbs_mul, Int.natAbs_natCast, Int.natAbs_natCast]; exact mul_lt_pow hx.2 hy.2
theorem Sz.add {x y : Rat} {m n : Nat} (hx : Sz x m) (hy : Sz y n) : Sz (x + y) (m + n + 1) := by
  rw [← add_frac]
  refine Sz.divInt (den_mul_ne x y) ?_ ?_
  · have h1 := mul_lt_pow hx.1 hy.2
    have h2 := mul_lt_pow hy.1 hx.2
    rw [Nat.add_comm n m] at h2
    have h3 := add_lt_pow h1 h2
    have h4 := Int.natAbs_add_le (x.num * (y.den : Int)) (y.num * (x.den : Int))
    rw [Int.natAbs_mul, Int.natAbs_mul, Int.natAbs_natCast, Int.natAbs_natCast] at h4
    omega
  · rw [Int.natAbs_mul, Int.natAbs_natCast, Int.natAbs_natCast]
    exact Nat.lt_of_lt_of_le (mul_lt_pow hx.2 hy.2) (Nat.pow_le_pow_right (by decide) (by omega))
theorem num_neg (x : Rat) : (-x).num = -x.num := rfl
theorem Sz.neg {x : Rat} {m : Nat} (hx : Sz x m) : Sz (-x) m := by
  refine ⟨?_, hx.2⟩
  rw [num_neg, Int.natAbs_neg]
  exact hx.1
theorem Sz.sub {x y : Rat} {m n : Nat} (hx : Sz x m) (hy : Sz y n) : Sz (x - y) (m + n + 1) := by
  rw [Rat.sub_eq_add_neg]
  exact hx.add hy.neg
theorem Sz.div {x y : Rat} {m n : Nat} (hx : Sz x m) (hy : Sz y n) (h0 : y ≠ 0) : Sz (x / y) (m + n) := by
  have hn : y.num ≠ 0 := fun h => h0 (Rat.num_eq_zero.1 h)
  rw [← div_frac x y h0]
  refine Sz.divInt (Int.mul_ne_zero (den_ne x) hn) ?_ ?_
  · rw [Int.natAbs_mul, Int.natAbs_natCast]; exact mul_lt_pow hx.1 hy.2
  · rw [Int.natAbs_mul, Int.natAbs_natCast]; exact mul_lt_pow hx.2 hy.1

/-! ### held against one another -/
end Go.Proofs.YtdmdaoginojalaaGreatDoor
