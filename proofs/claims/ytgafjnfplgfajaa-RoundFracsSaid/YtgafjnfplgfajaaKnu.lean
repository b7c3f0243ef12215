/-
  The quotient of limbs by limbs, plainly: how far a limb that is guessed by two limbs of the divisor may be off; taking away; adding back.
-/
import Derived.Test.YtgafjnfplgfajaaZero
namespace Go.Proofs.Ytgafjnfplgfajaa

/-- What is not more than the quotient is not refused by the test on three limbs. -/
theorem guess_low {q D P D2 T3 K D0 P0 : Nat} (h : q * D ≤ P) (hD : D = D2 * K + D0) (hP : P = T3 * K + P0) (hP0 : P0 < K) : q * D2 ≤ T3 := by
  rcases Nat.lt_or_ge T3 (q * D2) with hlt | hge
  · exfalso
    have h1 : (T3 + 1) * K ≤ q * D2 * K := Nat.mul_le_mul_right K hlt
    have h2 : q * (D2 * K) ≤ q * D := Nat.mul_le_mul_left q (by omega)
    rw [← Nat.mul_assoc] at h2
    rw [Nat.add_mul, Nat.one_mul] at h1
    omega
  · exact hge
/-- A guess that the test lets is too great by one at the most. -/
theorem guess_high {g D P D2 T3 K D0 P0 : Nat} (h : g * D2 ≤ T3) (hD : D = D2 * K + D0) (hD0 : D0 < K) (hP : P = T3 * K + P0) (hg : g * K ≤ D) : g * D ≤ P + D := by
  have h1 : g * D2 * K ≤ T3 * K := Nat.mul_le_mul_right K h
  have h2 : g * D = g * D2 * K + g * D0 := by rw [hD, Nat.mul_add, Nat.mul_assoc]
  have h3 : g * D0 ≤ g * K := Nat.mul_le_mul_left g (Nat.le_of_lt hD0)
  omega
/-- One limb of taking q times d away: v the divisor's limb, b what is borrowed, x the limb. -/
theorem less_limb {q v b x : Nat} (hq : q < 4294967296) (hv : v < 4294967296) (hb : b < 4294967296) (hx : x < 4294967296) :
    b + q * v < 18446744073709551616 ∧
    (∀ y c, (y, c) = (if x < (b + q * v) % 4294967296 then (x + 4294967296 - (b + q * v) % 4294967296, (b + q * v) / 4294967296 + 1) else (x - (b + q * v) % 4294967296, (b + q * v) / 4294967296)) →
      y < 4294967296 ∧ c < 4294967296 ∧ y + b + q * v = x + 4294967296 * c) := by
  have h1 : q * v ≤ 4294967295 * 4294967295 := Nat.mul_le_mul (by omega) (by omega)
  obtain ⟨p, hp⟩ : ∃ p, q * v = p := ⟨_, rfl⟩
  rw [hp] at h1 ⊢
  refine ⟨by omega, fun y c h => ?_⟩
  split at h
  · injection h with h2 h3
    omega
  · injection h with h2 h3
    omega
end Go.Proofs.Ytgafjnfplgfajaa
