/-
  The floats beside a fraction, plainly: it does not hang on how the fraction is written; a quotient of 64 or 65 bits.
-/
import Derived.Test.YtgafjnfplgfajaaEdgU
namespace Go.Proofs.Ytgafjnfplgfajaa
open Go.RowKit

theorem Dn_cross {num den num' den' r : Nat} (hd : 0 < den) (hd' : 0 < den') (h : num * den' = num' * den) (k : Flt.Dn num den r) : Flt.Dn num' den' r := by
  refine ⟨k.1, ?_, fun h1 => ?_⟩
  · have a1 := Nat.mul_le_mul_right den' k.2.1
    rw [h, Nat.mul_right_comm] at a1
    exact Nat.le_of_mul_le_mul_right a1 hd
  · have a1 := Nat.mul_lt_mul_of_pos_right (k.2.2 h1) hd'
    rw [h, Nat.mul_right_comm] at a1
    exact Nat.lt_of_mul_lt_mul_right a1
theorem hiR_cross {num den num' den' r : Nat} (hd : 0 < den) (hd' : 0 < den') (h : num * den' = num' * den) : hiR num den r = hiR num' den' r := by
  have e : (Flt.val r * den = num) ↔ (Flt.val r * den' = num') := by
    constructor
    · intro k
      have a1 : Flt.val r * den' * den = num' * den := by rw [Nat.mul_right_comm, k, h]
      exact Nat.eq_of_mul_eq_mul_right hd a1
    · intro k
      have a1 : Flt.val r * den * den' = num * den' := by rw [Nat.mul_right_comm, k, h]
      exact Nat.eq_of_mul_eq_mul_right hd' a1
  unfold hiR
  by_cases k : Flt.val r * den = num
  · rw [if_pos k, if_pos (e.1 k)]
  · rw [if_neg k, if_neg (fun q => k (e.2 q))]
theorem Brk_cross {s : Bool} {num den num' den' d u : Nat} (hd : 0 < den) (hd' : 0 < den') (h : num * den' = num' * den) (k : Brk s num den d u) : Brk s num' den' d u := by
  obtain ⟨r, h1, h2, h3⟩ := k
  rw [hiR_cross hd hd' h] at h2 h3
  exact ⟨r, Dn_cross hd hd' h h1, h2, h3⟩
/-- A quotient of numbers of so many bits. -/
theorem quo_bits {P Q b N : Nat} (hb : 1 ≤ b) (hP1 : 2 ^ (b + 63) ≤ P) (hP2 : P < 2 ^ (b + 64)) (hQ1 : 2 ^ (b - 1) ≤ Q) (hQ2 : Q < 2 ^ b) (hN : P / Q = N) :
    0 < Q ∧ N * Q ≤ P ∧ P < (N + 1) * Q ∧ 2 ^ 63 ≤ N ∧ N < 2 ^ 65 := by
  have hQ0 : 0 < Q := Nat.lt_of_lt_of_le (Nat.two_pow_pos _) hQ1
  subst hN
  refine ⟨hQ0, Nat.div_mul_le_self _ _, ?_, ?_, ?_⟩
  · have h1 := Nat.lt_div_mul_add (a := P) (b := Q) hQ0
    rw [Nat.add_mul, Nat.one_mul]
    exact h1
  · rw [Nat.le_div_iff_mul_le hQ0]
    refine Nat.le_trans (Nat.mul_le_mul_left _ (Nat.le_of_lt hQ2)) ?_
    rw [← Nat.pow_add, Nat.add_comm]
    exact hP1
  · rw [Nat.div_lt_iff_lt_mul hQ0]
    refine Nat.lt_of_lt_of_le hP2 ?_
    refine Nat.le_trans ?_ (Nat.mul_le_mul_left _ hQ1)
    rw [← Nat.pow_add]
    exact Nat.pow_le_pow_right (by decide) (by omega)
/-- The shifted parts, and what is told of them. -/
theorem at_cross {z D s : Nat} (_hz : 0 < z) (hD : 0 < D) (sgn : Bool) (d u : Nat) :
    (Brk sgn (z * 2 ^ s * 2 ^ (-(s : Int) + 1074).toNat) (D * 2 ^ (-(-(s : Int) + 1074)).toNat) d u → Brk sgn (z * 2 ^ Flt.K74) D d u) ∧
    (Brk sgn (z * 2 ^ ((s : Int) + 1074).toNat) (D * 2 ^ s * 2 ^ (-((s : Int) + 1074)).toNat) d u → Brk sgn (z * 2 ^ Flt.K74) D d u) := by
  have hK : Flt.K74 = 1074 := rfl
  refine ⟨fun h => ?_, fun h => ?_⟩
  · refine Brk_cross (Nat.mul_pos hD (Nat.two_pow_pos _)) hD ?_ h
    rw [Nat.mul_assoc z, ← Nat.pow_add]
    rcases Nat.le_total s 1074 with k | k
    · rw [show s + (-(s : Int) + 1074).toNat = Flt.K74 by rw [hK]; omega, show (-(-(s : Int) + 1074)).toNat = 0 by omega, Nat.pow_zero, Nat.mul_one]
    · rw [show s + (-(s : Int) + 1074).toNat = Flt.K74 + (-(-(s : Int) + 1074)).toNat by rw [hK]; omega, Nat.pow_add]
      generalize 2 ^ (-(-(s : Int) + 1074)).toNat = K
      generalize 2 ^ Flt.K74 = L
      grind
  · refine Brk_cross (Nat.mul_pos (Nat.mul_pos hD (Nat.two_pow_pos _)) (Nat.two_pow_pos _)) hD ?_ h
    rw [show ((s : Int) + 1074).toNat = s + Flt.K74 by rw [hK]; omega, show (-((s : Int) + 1074)).toNat = 0 by omega, Nat.pow_zero, Nat.mul_one, Nat.pow_add]
    generalize 2 ^ s = K
    generalize 2 ^ Flt.K74 = L
    grind
end Go.Proofs.Ytgafjnfplgfajaa
