/-
  What a float is worth as a fraction, plainly.
-/
import Derived.Test.YtjcjphgpmpjmbaaGreatDoorFrp
import Derived.Test.YtjcjphgpmpjmbaaGreatDoorFlt
namespace Go.Proofs.YtjcjphgpmpjmbaaGreatDoor
open Go.RowKit

theorem frac_is {s D n : Int} {d : Nat} (hd : d ≠ 0) (hD : D ≠ 0) (hc : Nat.Coprime n.natAbs d) (h : n * D = s * (d : Int)) : (Rat.divInt s D).num = n ∧ (Rat.divInt s D).den = d := by
  have e : (⟨n, d, hd, hc⟩ : Rat) = Rat.divInt s D := by
    rw [← Rat.num_divInt_den ⟨n, d, hd, hc⟩]
    exact (Rat.divInt_eq_divInt_iff (by show (d : Int) ≠ 0; omega) hD).2 h
  rw [← e]
  exact ⟨rfl, rfl⟩
/-- What a finite float is worth. -/
def fr (v : Nat) : Rat := Rat.divInt (Flt.sv v) ((2 ^ Flt.K74 : Nat) : Int)
theorem unit_ne : ((2 ^ Flt.K74 : Nat) : Int) ≠ 0 := by have := Nat.two_pow_pos Flt.K74; omega
theorem fr_whole {v : Nat} {z : Int} {E : Nat} (h : z * ((2 ^ E : Nat) : Int) = Flt.sv v) (hE : Flt.K74 ≤ E) : (fr v).num = z * ((2 ^ (E - Flt.K74) : Nat) : Int) ∧ (fr v).den = 1 := by
  refine frac_is (by decide) unit_ne (Nat.coprime_one_right _) ?_
  rw [← h, Int.mul_assoc, ← Int.natCast_mul, ← Nat.pow_add, show E - Flt.K74 + Flt.K74 = E by omega]
  omega
theorem odd_coprime {m : Nat} (h : m % 2 = 1) (k : Nat) : Nat.Coprime m (2 ^ k) := by
  apply Nat.Coprime.pow_right
  rw [Nat.coprime_iff_gcd_eq_one, Nat.gcd_comm, Nat.gcd_rec, h]
  exact Nat.gcd_one_left 2
theorem fr_odd {v : Nat} {z : Int} {E : Nat} (h : z * ((2 ^ E : Nat) : Int) = Flt.sv v) (hE : E < Flt.K74) (ho : z.natAbs % 2 = 1) : (fr v).num = z ∧ (fr v).den = 2 ^ (Flt.K74 - E) := by
  refine frac_is (by have := Nat.two_pow_pos (Flt.K74 - E); omega) unit_ne (odd_coprime ho _) ?_
  rw [← h, Int.mul_assoc, ← Int.natCast_mul, ← Nat.pow_add, show E + (Flt.K74 - E) = Flt.K74 by omega]
theorem fr_nought {v : Nat} (h : Flt.sv v = 0) : (fr v).num = 0 ∧ (fr v).den = 1 := by
  refine frac_is (by decide) unit_ne (Nat.coprime_one_right _) ?_
  rw [h, Int.zero_mul, Int.zero_mul]
theorem halve_worth {z z' S : Int} {E : Nat} (h : z * ((2 ^ E : Nat) : Int) = S) (hz : z = 2 * z') : z' * ((2 ^ (E + 1) : Nat) : Int) = S := by
  rw [← h, hz, Nat.pow_succ, Int.natCast_mul]
  rw [Int.mul_comm ((2 ^ E : Nat) : Int), ← Int.mul_assoc, Int.mul_comm z']
  rfl
end Go.Proofs.YtjcjphgpmpjmbaaGreatDoor
