/-
  Floats in plain Lean: rounding down of a fraction that is known up to a whole number of units.
-/
import Derived.Test.YthddodhcpfponaaFltF

namespace Go.Proofs.Ythddodhcpfponaa.Flt
open Ieee

/-- The whole part in units of 2^E tells the greatest float that is not above. -/
theorem dn_of {num den E Q : Nat} (hQ : Q < 2 ^ 53) (hE : E = 0 ∨ 2 ^ 52 ≤ Q) (hE2 : E ≤ 2045) (h1 : Q * (den * 2 ^ E) ≤ num) (h2 : num < (Q + 1) * (den * 2 ^ E)) :
    Dn num den (E * 2 ^ 52 + Q) ∧ (val (E * 2 ^ 52 + Q) * den = num ↔ Q * (den * 2 ^ E) = num) := by
  have v1 := val_at E Q (by omega) hE
  have v2 := val_at E (Q + 1) (by omega) (by omega)
  have e1 : val (E * 2 ^ 52 + Q) * den = Q * (den * 2 ^ E) := by rw [v1, Nat.mul_assoc, Nat.mul_comm (2 ^ E)]
  have e2 : val (E * 2 ^ 52 + Q + 1) * den = (Q + 1) * (den * 2 ^ E) := by rw [Nat.add_assoc, v2, Nat.mul_assoc, Nat.mul_comm (2 ^ E)]
  refine ⟨⟨by rw [inf_eq]; omega, by rw [e1]; exact h1, fun _ => by rw [e2]; exact h2⟩, by rw [e1]⟩

/-- Beyond all finite floats. -/
theorem dn_of_big {num den E Q : Nat} (hd : 0 < den) (hQ : 2 ^ 52 ≤ Q) (hE2 : 2046 ≤ E) (h1 : Q * (den * 2 ^ E) ≤ num) :
    Dn num den (inf - 1) ∧ val (inf - 1) * den < num := by
  obtain ⟨E0, hE0⟩ : ∃ E0 : Nat, E0 = 2046 := ⟨_, rfl⟩
  have hinf : val inf = 2 ^ 52 * 2 ^ E0 := by
    rw [← val_at E0 (2 ^ 52) (by omega) (Or.inr (Nat.le_refl _))]
    congr 1
    rw [inf_eq]; omega
  have hlt : val (inf - 1) * den < val inf * den := Nat.mul_lt_mul_of_pos_right (val_lt (by rw [inf_eq]; omega)) hd
  have h3 : val inf * den ≤ Q * (den * 2 ^ E) := by
    rw [hinf, Nat.mul_assoc, Nat.mul_comm (2 ^ E0)]
    exact Nat.mul_le_mul hQ (Nat.mul_le_mul_left _ (Nat.pow_le_pow_right (by decide) (by omega)))
  exact ⟨⟨by rw [inf_eq]; omega, by omega, fun h => absurd h (by omega)⟩, by omega⟩

/-- p / q times 2^e, whose whole part in units of 2^k is Q. -/
theorem cut_dn {p q Q a b u v E : Nat} {e k : Int} (hq : 0 < q) (ha : a = (e - k).toNat) (hb : b = (k - e).toNat) (hu : u = (e + 1074).toNat) (hv : v = (-(e + 1074)).toNat) (hE : E = (k + 1074).toNat) (hk : -1074 ≤ k)
    (h1 : Q * (q * 2 ^ b) ≤ p * 2 ^ a) (h2 : p * 2 ^ a < (Q + 1) * (q * 2 ^ b)) :
    (k ≤ 971 → Q < 2 ^ 53 → (k = -1074 ∨ 2 ^ 52 ≤ Q) → Dn (p * 2 ^ u) (q * 2 ^ v) (E * 2 ^ 52 + Q) ∧ (val (E * 2 ^ 52 + Q) * (q * 2 ^ v) = p * 2 ^ u ↔ Q * (q * 2 ^ b) = p * 2 ^ a)) ∧
    (971 < k → 2 ^ 52 ≤ Q → Dn (p * 2 ^ u) (q * 2 ^ v) (inf - 1) ∧ val (inf - 1) * (q * 2 ^ v) < p * 2 ^ u) := by
  have hexp : u + b = a + E + v := by omega
  have hB : 0 < 2 ^ b := Nat.two_pow_pos _
  have hEV : 0 < 2 ^ E * 2 ^ v := Nat.mul_pos (Nat.two_pow_pos _) (Nat.two_pow_pos _)
  have hden : 0 < q * 2 ^ v := Nat.mul_pos hq (Nat.two_pow_pos _)
  have e1 : p * 2 ^ u * 2 ^ b = p * 2 ^ a * (2 ^ E * 2 ^ v) := by
    rw [Nat.mul_assoc, ← Nat.pow_add, hexp, Nat.mul_assoc, ← Nat.pow_add, ← Nat.pow_add, Nat.add_assoc]
  have e2 : ∀ R : Nat, R * (q * 2 ^ v * 2 ^ E) * 2 ^ b = R * (q * 2 ^ b) * (2 ^ E * 2 ^ v) := fun R => by
    generalize 2 ^ E = x
    generalize 2 ^ v = y
    generalize 2 ^ b = z
    simp only [Nat.mul_comm, Nat.mul_left_comm]
  have g1 : Q * (q * 2 ^ v * 2 ^ E) ≤ p * 2 ^ u := by
    apply Nat.le_of_mul_le_mul_right (c := 2 ^ b) _ hB
    rw [e1, e2]
    exact Nat.mul_le_mul_right _ h1
  have g2 : p * 2 ^ u < (Q + 1) * (q * 2 ^ v * 2 ^ E) := by
    apply Nat.lt_of_mul_lt_mul_right (a := 2 ^ b)
    rw [e1, e2]
    exact Nat.mul_lt_mul_of_pos_right h2 hEV
  refine ⟨fun hk2 hQ hn => ?_, fun hk2 hQ => dn_of_big hden hQ (by omega) g1⟩
  obtain ⟨d1, d2⟩ := dn_of hQ (by omega) (by omega) g1 g2
  refine ⟨d1, d2.trans ⟨fun h => ?_, fun h => ?_⟩⟩
  · apply Nat.eq_of_mul_eq_mul_right hEV
    rw [← e1, ← e2, h]
  · apply Nat.eq_of_mul_eq_mul_right hB
    rw [e1, e2, h]

/-- The whole part of p / q in units, from that of the whole number N below it. -/
theorem cut_whole {p q N Q a b : Nat} (hN : N * q ≤ p) (hN2 : p < (N + 1) * q) (hm : p = N * q ∨ a = 0) (h1 : Q * 2 ^ b ≤ N * 2 ^ a) (h2 : N * 2 ^ a < (Q + 1) * 2 ^ b) (hq : 0 < q) :
    Q * (q * 2 ^ b) ≤ p * 2 ^ a ∧ p * 2 ^ a < (Q + 1) * (q * 2 ^ b) ∧ (Q * (q * 2 ^ b) = p * 2 ^ a ↔ p = N * q ∧ Q * 2 ^ b = N * 2 ^ a) := by
  have s : ∀ R : Nat, R * (q * 2 ^ b) = R * 2 ^ b * q := fun R => by rw [Nat.mul_comm q, ← Nat.mul_assoc]
  have t : ∀ R : Nat, R * q * 2 ^ a = R * 2 ^ a * q := fun R => Nat.mul_right_comm _ _ _
  simp only [s]
  have l1 : Q * 2 ^ b * q ≤ N * q * 2 ^ a := by rw [t]; exact Nat.mul_le_mul_right _ h1
  have l2 : N * q * 2 ^ a ≤ p * 2 ^ a := Nat.mul_le_mul_right _ hN
  refine ⟨by omega, ?_, ?_⟩
  · rcases hm with h | h
    · rw [h, t]; exact Nat.mul_lt_mul_of_pos_right h2 hq
    · subst h
      rw [Nat.pow_zero, Nat.mul_one] at h2 ⊢
      have : (N + 1) * q ≤ (Q + 1) * 2 ^ b * q := Nat.mul_le_mul_right _ h2
      omega
  · constructor
    · intro h
      have e1 : N * q * 2 ^ a = p * 2 ^ a := by omega
      have e2 : Q * 2 ^ b * q = N * q * 2 ^ a := by omega
      rw [t] at e2
      exact ⟨(Nat.eq_of_mul_eq_mul_right (Nat.two_pow_pos a) e1).symm, Nat.eq_of_mul_eq_mul_right hq e2⟩
    · rintro ⟨h, h'⟩
      rw [h, t, h']

/-! ### the word of a whole number below 2^53, and a step of two's powers -/
theorem two_log {m : Nat} (h : m ≠ 0) : 2 ^ m.log2 ≤ m ∧ m < 2 ^ (m.log2 + 1) := ⟨Nat.log2_self_le h, Nat.lt_log2_self⟩
theorem log_52 {m : Nat} (h : m ≠ 0) (hm : m < 2 ^ 53) : m.log2 ≤ 52 := by
  have h1 := (two_log h).1
  rcases Nat.lt_or_ge 52 m.log2 with h2 | h2
  · have : 2 ^ 53 ≤ 2 ^ m.log2 := Nat.pow_le_pow_right (by decide) h2
    omega
  · exact h2
/-- The digits of a whole number behind the first one. -/
def tail52 (m : Nat) : Nat := m * 2 ^ (52 - m.log2) - 2 ^ 52
theorem tail52_spec {m : Nat} (h : m ≠ 0) (hm : m < 2 ^ 53) : tail52 m < 2 ^ 52 ∧ 2 ^ 52 + tail52 m = m * 2 ^ (52 - m.log2) := by
  have h1 := two_log h
  have h2 := log_52 h hm
  have l1 : 2 ^ m.log2 * 2 ^ (52 - m.log2) ≤ m * 2 ^ (52 - m.log2) := Nat.mul_le_mul_right _ h1.1
  have l2 : m * 2 ^ (52 - m.log2) < 2 ^ (m.log2 + 1) * 2 ^ (52 - m.log2) := Nat.mul_lt_mul_of_pos_right h1.2 (Nat.two_pow_pos _)
  rw [← Nat.pow_add] at l1 l2
  rw [show m.log2 + (52 - m.log2) = 52 by omega] at l1
  rw [show m.log2 + 1 + (52 - m.log2) = 53 by omega] at l2
  unfold tail52
  omega
/-- The worth of such digits with an exponent. -/
theorem val_tail {m : Nat} (h : m ≠ 0) (hm : m < 2 ^ 53) (E : Nat) : val ((E + 1) * 2 ^ 52 + tail52 m) = m * 2 ^ (52 - m.log2 + E) := by
  obtain ⟨h1, h2⟩ := tail52_spec h hm
  rw [val_mk (E + 1) _ h1, if_neg (by omega), h2, Nat.add_sub_cancel, Nat.pow_add, Nat.mul_assoc]
/-- A whole number below 2^53 as a float. -/
def whole (m : Nat) : Nat := if m = 0 then 0 else (m.log2 + 1023) * 2 ^ 52 + tail52 m
theorem val_whole {m : Nat} (hm : m < 2 ^ 53) : val (whole m) = m * 2 ^ K74 := by
  unfold whole
  by_cases h : m = 0
  · rw [if_pos h, h, val_zero, Nat.zero_mul]
  · rw [if_neg h, show m.log2 + 1023 = (m.log2 + 1022) + 1 by omega, val_tail h hm]
    have := log_52 h hm
    rw [show 52 - m.log2 + (m.log2 + 1022) = K74 by rw [K74_eq]; omega]
theorem whole_lt {m : Nat} (hm : m < 2 ^ 53) : whole m < inf := by
  unfold whole
  by_cases h : m = 0
  · rw [if_pos h, inf_eq]; omega
  · rw [if_neg h, inf_eq]
    have := log_52 h hm
    have := (tail52_spec h hm).1
    omega
/-- Times 1 all stays; 2^-53 takes 53 from the exponent. -/
theorem mul_one_pow {y c r : Nat} (hy : y < inf) (hc : c < inf) (hr : r < inf) (hv : val y * val c = val r * 2 ^ K74) : double.mul c y = some r := by
  have il := inf_lt
  have rgy : rg y = y := by unfold rg; omega
  have rgc : rg c = c := by unfold rg; omega
  have sy : sgn y = false := by have := sgn_word false y (by omega); exact this
  have sc : sgn c = false := by have := sgn_word false c (by omega); exact this
  obtain ⟨z, h1, h2⟩ := mul_fin (x := c) (y := y) (by unfold Fin; omega) (by unfold Fin; omega)
  rw [rgy, rgc, Nat.mul_comm, hv] at h2
  have h3 : Near (val r * 2 ^ K74) (1 * 2 ^ K74) r := (Near.scale (2 ^ K74) (Nat.two_pow_pos _)).2 (Near.exact (by omega))
  rw [Nat.one_mul] at h3
  rw [h1, sy, sc, h2.unique (Nat.two_pow_pos _) h3]
  rfl
end Go.Proofs.Ythddodhcpfponaa.Flt
