/-
  Fractions, plainly: the greatest common divisor by halving, lowest terms, what is held against one another. What a float is worth as a fraction, plainly. How long the fraction of a finite float is. What a float is worth, plainly: its whole part shifted down by the noughts at its end.
-/
import Derived.Test.YtjcjphgpmpjmbaaDoorZero
import Derived.Test.YtjcjphgpmpjmbaaDoorFlt
import Derived.Lib.TrailingZeros
namespace Go.Proofs.YtjcjphgpmpjmbaaDoor
open Go.RowKit

/-! ### lowest terms -/
/-- Turned, if the denominator is below nought. -/
def tn (q : Int) (z : Int) : Int := if q < 0 then -z else z
theorem low_num {p q : Int} (hq : q ≠ 0) {g : Nat} (hg : g = Nat.gcd p.natAbs q.natAbs) : tn q (p.tdiv (g : Int)) = (Rat.divInt p q).num := by
  have hg0 : 0 < g := by rw [hg]; exact Nat.gcd_pos_of_pos_right _ (by omega)
  have e : (Int.gcd q p) = g := by rw [hg, Int.gcd_comm]; rfl
  have hd : (g : Int) ∣ p := by rw [hg]; exact Int.ofNat_dvd_left.2 (Nat.gcd_dvd_left _ _)
  rw [Rat.num_divInt, e]
  obtain ⟨k, hk⟩ := hd
  rw [hk, Int.mul_tdiv_cancel_left _ (by omega)]
  unfold tn
  by_cases h : q < 0
  · rw [if_pos h, Int.sign_eq_neg_one_of_neg h]
    rw [show -1 * ((g : Int) * k) = (g : Int) * (-k) by rw [Int.mul_neg]; omega, Int.mul_ediv_cancel_left _ (by omega)]
  · rw [if_neg h, Int.sign_eq_one_of_pos (by omega), Int.one_mul, Int.mul_ediv_cancel_left _ (by omega)]
theorem low_den {p q : Int} (hq : q ≠ 0) {g : Nat} (hg : g = Nat.gcd p.natAbs q.natAbs) : tn q (q.tdiv (g : Int)) = ((Rat.divInt p q).den : Int) := by
  have hg0 : 0 < g := by rw [hg]; exact Nat.gcd_pos_of_pos_right _ (by omega)
  have e : (Int.gcd q p) = g := by rw [hg, Int.gcd_comm]; rfl
  have hd : (g : Int) ∣ q := by rw [hg]; exact Int.ofNat_dvd_left.2 (Nat.gcd_dvd_right _ _)
  rw [Rat.den_divInt, e, if_neg hq]
  obtain ⟨k, hk⟩ := hd
  rw [hk, Int.mul_tdiv_cancel_left _ (by omega), Int.natAbs_mul, Int.natAbs_natCast, Nat.mul_div_cancel_left _ hg0]
  have hk' : 0 < (g : Int) := by omega
  unfold tn
  by_cases h : (g : Int) * k < 0
  · rw [if_pos h]
    have : k < 0 := by
      rcases Int.lt_or_le k 0 with hn | hn
      · exact hn
      · exact absurd (Int.mul_nonneg (Int.le_of_lt hk') hn) (by omega)
    omega
  · rw [if_neg h]
    have : 0 ≤ k := by
      rcases Int.lt_or_le k 0 with hn | hn
      · exact absurd (Int.mul_neg_of_pos_of_neg hk' hn) h
      · exact hn
    omega
theorem tdiv_small (z : Int) (g : Nat) : (z.tdiv (g : Int)).natAbs ≤ z.natAbs := by
  rw [Int.natAbs_tdiv]
  exact Nat.div_le_self _ _
theorem tn_abs (q z : Int) : (tn q z).natAbs = z.natAbs := by unfold tn; split <;> omega
theorem low_small {p q : Int} (hq : q ≠ 0) : (Rat.divInt p q).num.natAbs ≤ p.natAbs ∧ (Rat.divInt p q).den ≤ q.natAbs := by
  have h1 := low_num (p := p) hq rfl
  have h2 := low_den (p := p) hq rfl
  have a1 := tdiv_small p (Nat.gcd p.natAbs q.natAbs)
  have a2 := tdiv_small q (Nat.gcd p.natAbs q.natAbs)
  rw [← tn_abs q, h1] at a1
  rw [← tn_abs q, h2] at a2
  exact ⟨a1, by omega⟩

/-! ### how long numbers are -/
/-- Both numbers of a fraction have m limbs at most. -/
def Sz (x : Rat) (m : Nat) : Prop := x.num.natAbs < 2 ^ (32 * m) ∧ x.den < 2 ^ (32 * m)
theorem mul_lt_pow {a b m n : Nat} (ha : a < 2 ^ (32 * m)) (hb : b < 2 ^ (32 * n)) : a * b < 2 ^ (32 * (m + n)) := by
  rw [show 32 * (m + n) = 32 * m + 32 * n by omega, Nat.pow_add]
  rcases Nat.eq_zero_or_pos b with h | h
  · subst h
    rw [Nat.mul_zero]
    exact Nat.mul_pos (Nat.two_pow_pos _) (Nat.two_pow_pos _)
  · exact Nat.lt_of_lt_of_le (Nat.mul_lt_mul_of_pos_right ha h) (Nat.mul_le_mul_left _ (Nat.le_of_lt hb))
theorem add_lt_pow {a b k : Nat} (ha : a < 2 ^ (32 * k)) (hb : b < 2 ^ (32 * k)) : a + b < 2 ^ (32 * (k + 1)) := by
  rw [show 32 * (k + 1) = 32 * k + 32 by omega, Nat.pow_add]
  have := Nat.two_pow_pos (32 * k)
  omega
theorem Sz.mono {x : Rat} {m n : Nat} (h : Sz x m) (hmn : m ≤ n) : Sz x n :=
  ⟨Nat.lt_of_lt_of_le h.1 (Nat.pow_le_pow_right (by decide) (by omega)), Nat.lt_of_lt_of_le h.2 (Nat.pow_le_pow_right (by decide) (by omega))⟩
theorem Sz.divInt {p q : Int} {m : Nat} (hq : q ≠ 0) (hp : p.natAbs < 2 ^ (32 * m)) (hb : q.natAbs < 2 ^ (32 * m)) : Sz (Rat.divInt p q) m := by
  obtain ⟨h1, h2⟩ := low_small (p := p) hq
  exact ⟨by omega, by omega⟩
theorem den_ne (x : Rat) : (x.den : Int) ≠ 0 := by have := x.den_nz; omega
theorem add_frac (x y : Rat) : Rat.divInt (x.num * (y.den : Int) + y.num * (x.den : Int)) ((x.den : Int) * (y.den : Int)) = x + y := by
  rw [← Rat.divInt_add_divInt _ _ (den_ne x) (den_ne y), Rat.num_divInt_den, Rat.num_divInt_den]
theorem mul_frac (x y : Rat) : Rat.divInt (x.num * y.num) ((x.den : Int) * (y.den : Int)) = x * y := by
  rw [← Rat.divInt_mul_divInt, Rat.num_divInt_den, Rat.num_divInt_den]
theorem div_frac (x y : Rat) (hy : y ≠ 0) : Rat.divInt (x.num * (y.den : Int)) ((x.den : Int) * y.num) = x / y := by
  have hn : y.num ≠ 0 := fun h => hy (Rat.num_eq_zero.1 h)
  rw [← Rat.divInt_mul_divInt, Rat.num_divInt_den, Rat.div_def, Rat.inv_def]
theorem den_mul_ne (x y : Rat) : (x.den : Int) * (y.den : Int) ≠ 0 := Int.mul_ne_zero (den_ne x) (den_ne y)
theorem Sz.mul {x y : Rat} {m n : Nat} (hx : Sz x m) (hy : Sz y n) : Sz (x * y) (m + n) := by
  rw [← mul_frac]
  refine Sz.divInt (den_mul_ne x y) ?_ ?_
  · rw [Int.natAbs_mul]; exact mul_lt_pow hx.1 hy.1
  · rw [Int.natAbs_mul, Int.natAbs_natCast, Int.natAbs_natCast]; exact mul_lt_pow hx.2 hy.2
theorem Sz.add {x y : Rat} {m n : Nat} (hx : Sz x m) (hy : Sz y n) : Sz (x + y) (m + n + 1) := by
  rw [← add_frac]
  refine Sz.divInt (den_mul_ne x y) ?_ ?_
  · have h1 := mul_lt_pow hx.1 hy.2
    have h2 := mul_lt_pow hy.1 hx.2
    rw [Nat.add_comm n m] at h2
    have h3 := add_lt_pow h1 h2
    have h4 := Int.natAbs_add_le (x.num * (y.den : Int)) (y.num * (x.den : Int))
    rw [Int.natAbs_mul, Int.natAbs_mul, Int.natAbs_natCast, Int.natAbs_natCast] at h4
    omega
  · rw [Int.natAbs_mul, Int.natAbs_natCast, Int.natAbs_natCast]
    exact Nat.lt_of_lt_of_le (mul_lt_pow hx.2 hy.2) (Nat.pow_le_pow_right (by decide) (by omega))
theorem num_neg (x : Rat) : (-x).num = -x.num := rfl
theorem Sz.neg {x : Rat} {m : Nat} (hx : Sz x m) : Sz (-x) m := by
  refine ⟨?_, hx.2⟩
  rw [num_neg, Int.natAbs_neg]
  exact hx.1
theorem Sz.sub {x y : Rat} {m n : Nat} (hx : Sz x m) (hy : Sz y n) : Sz (x - y) (m + n + 1) := by
  rw [Rat.sub_eq_add_neg]
  exact hx.add hy.neg
theorem Sz.div {x y : Rat} {m n : Nat} (hx : Sz x m) (hy : Sz y n) (h0 : y ≠ 0) : Sz (x / y) (m + n) := by
  have hn : y.num ≠ 0 := fun h => h0 (Rat.num_eq_zero.1 h)
  rw [← div_frac x y h0]
  refine Sz.divInt (Int.mul_ne_zero (den_ne x) hn) ?_ ?_
  · rw [Int.natAbs_mul, Int.natAbs_natCast]; exact mul_lt_pow hx.1 hy.2
  · rw [Int.natAbs_mul, Int.natAbs_natCast]; exact mul_lt_pow hx.2 hy.1

/-! ### held against one another -/
def rcmp (x y : Rat) : Int := if x < y then -1 else if y < x then 1 else 0
theorem rcmp_sign (x y : Rat) : (x.num * (y.den : Int) - y.num * (x.den : Int)).sign = rcmp x y := by
  unfold rcmp
  by_cases h : x < y
  · rw [if_pos h]
    have := (Rat.lt_iff _ _).1 h
    exact Int.sign_eq_neg_one_of_neg (by omega)
  · rw [if_neg h]
    by_cases k : y < x
    · rw [if_pos k]
      have := (Rat.lt_iff _ _).1 k
      exact Int.sign_eq_one_of_pos (by omega)
    · rw [if_neg k]
      have h1 : ¬ x.num * (y.den : Int) < y.num * (x.den : Int) := fun e => h ((Rat.lt_iff _ _).2 e)
      have h2 : ¬ y.num * (x.den : Int) < x.num * (y.den : Int) := fun e => k ((Rat.lt_iff _ _).2 e)
      rw [show x.num * (y.den : Int) - y.num * (x.den : Int) = 0 by omega]
      rfl
end Go.Proofs.YtjcjphgpmpjmbaaDoor

namespace Go.Proofs.YtjcjphgpmpjmbaaDoor
open Go.RowKit

theorem frac_is {s D n : Int} {d : Nat} (hd : d ≠ 0) (hD : D ≠ 0) (hc : Nat.Coprime n.natAbs d) (h : n * D = s * (d : Int)) : (Rat.divInt s D).num = n ∧ (Rat.divInt s D).den = d := by
  have e : (⟨n, d, hd, hc⟩ : Rat) = Rat.divInt s D := by
    rw [← Rat.num_divInt_den ⟨n, d, hd, hc⟩]
    exact (Rat.divInt_eq_divInt_iff (by show (d : Int) ≠ 0; omega) hD).2 h
  rw [← e]
  exact ⟨rfl, rfl⟩
/-- What a finite float is worth. -/
def fr (v : Nat) : Rat := Rat.divInt (Flt.sv v) ((2 ^ Flt.K74 : Nat) : Int)
theorem unit_ne : ((2 ^ Flt.K74 : Nat) : Int) ≠ 0 := by have := Nat.two_pow_pos Flt.K74; omega
theorem fr_whole {v : Nat} {z : Int} {E : Nat} (h : z * ((2 ^ E : Nat) : Int) = Flt.sv v) (hE : Flt.K74 ≤ E) : (fr v).num = z * ((2 ^ (E - Flt.K74) : Nat) : Int) ∧ (fr v).den = 1 := by
  refine frac_is (by decide) unit_ne (Nat.coprime_one_right _) ?_
  rw [← h, Int.mul_assoc, ← Int.natCast_mul, ← Nat.pow_add, show E - Flt.K74 + Flt.K74 = E by omega]
  omega
theorem odd_coprime {m : Nat} (h : m % 2 = 1) (k : Nat) : Nat.Coprime m (2 ^ k) := by
  apply Nat.Coprime.pow_right
  rw [Nat.coprime_iff_gcd_eq_one, Nat.gcd_comm, Nat.gcd_rec, h]
  exact Nat.gcd_one_left 2
theorem fr_odd {v : Nat} {z : Int} {E : Nat} (h : z * ((2 ^ E : Nat) : Int) = Flt.sv v) (hE : E < Flt.K74) (ho : z.natAbs % 2 = 1) : (fr v).num = z ∧ (fr v).den = 2 ^ (Flt.K74 - E) := by
  refine frac_is (by have := Nat.two_pow_pos (Flt.K74 - E); omega) unit_ne (odd_coprime ho _) ?_
  rw [← h, Int.mul_assoc, ← Int.natCast_mul, ← Nat.pow_add, show E + (Flt.K74 - E) = Flt.K74 by omega]
theorem fr_nought {v : Nat} (h : Flt.sv v = 0) : (fr v).num = 0 ∧ (fr v).den = 1 := by
  refine frac_is (by decide) unit_ne (Nat.coprime_one_right _) ?_
  rw [h, Int.zero_mul, Int.zero_mul]
/-- Of two fractions with one denominator above nought. -/
theorem divInt_lt {a b D : Int} (hD : 0 < D) : Rat.divInt a D < Rat.divInt b D ↔ a < b := by
  have h1 : (0 : Rat) < (D : Rat) := Rat.intCast_pos.2 hD
  rw [Rat.divInt_eq_div, Rat.divInt_eq_div, Rat.div_lt_iff h1, Rat.div_mul_cancel (fun h => by rw [h] at h1; exact absurd h1 (by decide)), Rat.intCast_lt_intCast]
end Go.Proofs.YtjcjphgpmpjmbaaDoor

namespace Go.Proofs.YtjcjphgpmpjmbaaDoor
open Go.RowKit

theorem fr_sz {v : Nat} (h : Flt.Fin v) : Sz (fr v) 67 := by
  have hq : Flt.rg v / 2 ^ 52 - 1 ≤ 2046 := by
    have := h
    unfold Flt.Fin at this
    rw [Flt.inf_eq] at this
    omega
  have hv : Flt.val (Flt.rg v) < 2 ^ (32 * 67) := by
    unfold Flt.val
    have h1 : (if Flt.rg v < 2 ^ 52 then Flt.rg v else 2 ^ 52 + Flt.rg v % 2 ^ 52) < 2 ^ 53 := by split <;> omega
    have h2 : (if Flt.rg v < 2 ^ 52 then Flt.rg v else 2 ^ 52 + Flt.rg v % 2 ^ 52) * 2 ^ (Flt.rg v / 2 ^ 52 - 1) < 2 ^ 53 * 2 ^ (Flt.rg v / 2 ^ 52 - 1) := Nat.mul_lt_mul_of_pos_right h1 (Nat.two_pow_pos _)
    rw [← Nat.pow_add] at h2
    obtain ⟨M, hM⟩ : ∃ M, 32 * 67 = M := ⟨_, rfl⟩
    rw [hM]
    have hM2 : 2144 = M := hM
    exact Nat.lt_of_lt_of_le h2 (Nat.pow_le_pow_right (by decide) (by omega))
  unfold fr
  refine Sz.divInt unit_ne ?_ ?_
  · have : (Flt.sv v).natAbs = Flt.val (Flt.rg v) := by unfold Flt.sv; split <;> omega
    rw [this]
    exact hv
  · rw [Int.natAbs_natCast]
    obtain ⟨M, hM⟩ : ∃ M, 32 * 67 = M := ⟨_, rfl⟩
    rw [hM]
    have hM2 : 2144 = M := hM
    exact Nat.pow_lt_pow_right (by decide) (by rw [← hM2]; unfold Flt.K74; decide)
end Go.Proofs.YtjcjphgpmpjmbaaDoor

namespace Go.Proofs.YtjcjphgpmpjmbaaDoor
open Go.RowKit

theorem ctzFrom_of : ∀ (j f m : Nat), j < f → Lib.ctzFrom f (2 ^ j * (2 * m + 1)) = j
  | j, 0, m, h => by omega
  | 0, f + 1, m, _ => by
    unfold Lib.ctzFrom
    rw [if_pos (by rw [Nat.pow_zero, Nat.one_mul]; omega)]
  | j + 1, f + 1, m, h => by
    unfold Lib.ctzFrom
    have e : 2 ^ (j + 1) * (2 * m + 1) = 2 * (2 ^ j * (2 * m + 1)) := by rw [Nat.pow_succ, Nat.mul_comm (2 ^ j) 2, Nat.mul_assoc]
    rw [if_neg (by rw [e]; omega), e, Nat.mul_div_cancel_left _ (by decide), ctzFrom_of j f m (by omega)]
    omega
theorem ctz_spec {Z : Nat} (h0 : 0 < Z) (h : Z < 2 ^ 64) : ∃ m, Z = 2 ^ Lib.ctz 64 Z * (2 * m + 1) ∧ Lib.ctz 64 Z < 64 := by
  have := Lib.ctzFrom_spec 64 Z h0 h
  unfold Lib.ctz
  rw [if_neg (by omega)]
  exact this
theorem ctzFrom_turned {n Z : Nat} (h0 : 0 < Z) (h : Z < 2 ^ n) : Lib.ctzFrom n (2 ^ n - Z) = Lib.ctzFrom n Z := by
  obtain ⟨m, hm, hk⟩ := Lib.ctzFrom_spec n Z h0 h
  generalize Lib.ctzFrom n Z = k at hm hk ⊢
  obtain ⟨d, rfl⟩ : ∃ d, n = k + (d + 1) := ⟨n - k - 1, by omega⟩
  rw [hm] at h
  have hlt : 2 * m + 1 < 2 ^ (d + 1) := by
    rw [Nat.pow_add] at h
    exact Nat.lt_of_mul_lt_mul_left h
  have e : 2 ^ (k + (d + 1)) - Z = 2 ^ k * (2 * (2 ^ d - m - 1) + 1) := by
    rw [hm, Nat.pow_add, ← Nat.mul_sub]
    congr 1
    rw [Nat.pow_succ] at hlt ⊢
    omega
  rw [e]
  exact ctzFrom_of k _ _ (by omega)
theorem ctz_turned {Z : Nat} (h0 : 0 < Z) (h : Z < 2 ^ 64) : Lib.ctz 64 (2 ^ 64 - Z) = Lib.ctz 64 Z := by
  unfold Lib.ctz
  rw [if_neg (by omega), if_neg (by omega)]
  exact ctzFrom_turned h0 h
/-- Of a float below 2 ^ 1074 units: its fraction in lowest terms. -/
theorem float_low {s : Bool} {x Z E k : Nat} (h : sgnd s Z * ((2 ^ E : Nat) : Int) = Flt.sv x) (h0 : 0 < Z) (hZ : Z < 2 ^ 64) (hE : E < 1074) (hk : k = min (Lib.ctz 64 Z) (1074 - E)) :
    (fr x).num = sgnd s Z / ((2 ^ k : Nat) : Int) ∧ (fr x).den = 2 ^ (1074 - E - k) := by
  obtain ⟨m, hm, hc⟩ := ctz_spec h0 hZ
  generalize Lib.ctz 64 Z = c at hm hc hk
  have hkc : k ≤ c := by omega
  obtain ⟨z, hz⟩ : ∃ z, Z = 2 ^ k * z := ⟨2 ^ (c - k) * (2 * m + 1), by rw [← Nat.mul_assoc, ← Nat.pow_add, show k + (c - k) = c by omega]; exact hm⟩
  have hp := Nat.two_pow_pos k
  have e1 : sgnd s Z = sgnd s z * ((2 ^ k : Nat) : Int) := by
    rw [hz, Nat.mul_comm]
    unfold sgnd
    cases s
    · simp [Int.natCast_mul]
    · simp [Int.natCast_mul, Int.neg_mul]
  have e2 : sgnd s Z / ((2 ^ k : Nat) : Int) = sgnd s z := by
    rw [e1]
    exact Int.mul_ediv_cancel _ (by omega)
  have e3 : sgnd s z * ((2 ^ (E + k) : Nat) : Int) = Flt.sv x := by
    rw [← h, e1, Int.mul_assoc, ← Int.natCast_mul, ← Nat.pow_add, Nat.add_comm k E]
  have e74 : Flt.K74 = 1074 := rfl
  rw [e2]
  rcases Nat.lt_or_ge (E + k) 1074 with hlt | hge
  · have hk2 : k = c := by omega
    have hodd : z = 2 * m + 1 := by
      rw [hz, hk2] at hm
      exact Nat.eq_of_mul_eq_mul_left (Nat.two_pow_pos c) hm
    obtain ⟨a, b⟩ := fr_odd e3 (by rw [e74]; exact hlt) (by unfold sgnd; cases s <;> simp <;> omega)
    refine ⟨a, ?_⟩
    rw [b, e74, Nat.sub_sub]
  · obtain ⟨a, b⟩ := fr_whole e3 (by rw [e74]; exact hge)
    have e5 : E + k = 1074 := by omega
    rw [e74, e5] at a
    refine ⟨by rw [a]; simp, ?_⟩
    rw [b, show 1074 - E - k = 0 by omega]
end Go.Proofs.YtjcjphgpmpjmbaaDoor
