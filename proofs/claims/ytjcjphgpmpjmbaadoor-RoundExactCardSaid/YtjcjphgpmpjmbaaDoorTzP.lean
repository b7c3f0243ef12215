/-
  What a float is worth, plainly: its whole part shifted down by the noughts at its end.
-/
import Derived.Test.YtjcjphgpmpjmbaaDoorFrf
import Derived.Lib.TrailingZeros
namespace Go.Proofs.YtjcjphgpmpjmbaaDoor
open Go.RowKit

theorem ctzFrom_of : ∀ (j f m : Nat), j < f → Lib.ctzFrom f (2 ^ j * (2 * m + 1)) = j
  | j, 0, m, h => by omega
  | 0, f + 1, m, _ => by
    unfold Lib.ctzFrom
    rw [if_pos (by rw [Nat.pow_zero, Nat.one_mul]; omega)]
  | j + 1, f + 1, m, h => by
    unfold Lib.ctzFrom
    have e : 2 ^ (j + 1) * (2 * m + 1) = 2 * (2 ^ j * (2 * m + 1)) := by rw [Nat.pow_succ, Nat.mul_comm (2 ^ j) 2, Nat.mul_assoc]
    rw [if_neg (by rw [e]; omega), e, Nat.mul_div_cancel_left _ (by decide), ctzFrom_of j f m (by omega)]
    omega
theorem ctz_spec {Z : Nat} (h0 : 0 < Z) (h : Z < 2 ^ 64) : ∃ m, Z = 2 ^ Lib.ctz 64 Z * (2 * m + 1) ∧ Lib.ctz 64 Z < 64 := by
  have := Lib.ctzFrom_spec 64 Z h0 h
  unfold Lib.ctz
  rw [if_neg (by omega)]
  exact this
theorem ctzFrom_turned {n Z : Nat} (h0 : 0 < Z) (h : Z < 2 ^ n) : Lib.ctzFrom n (2 ^ n - Z) = Lib.ctzFrom n Z := by
  obtain ⟨m, hm, hk⟩ := Lib.ctzFrom_spec n Z h0 h
  generalize Lib.ctzFrom n Z = k at hm hk ⊢
  obtain ⟨d, rfl⟩ : ∃ d, n = k + (d + 1) := ⟨n - k - 1, by omega⟩
  rw [hm] at h
  have hlt : 2 * m + 1 < 2 ^ (d + 1) := by
    rw [Nat.pow_add] at h
    exact Nat.lt_of_mul_lt_mul_left h
  have e : 2 ^ (k + (d + 1)) - Z = 2 ^ k * (2 * (2 ^ d - m - 1) + 1) := by
    rw [hm, Nat.pow_add, ← Nat.mul_sub]
    congr 1
    rw [Nat.pow_succ] at hlt ⊢
    omega
  rw [e]
  exact ctzFrom_of k _ _ (by omega)
theorem ctz_turned {Z : Nat} (h0 : 0 < Z) (h : Z < 2 ^ 64) : Lib.ctz 64 (2 ^ 64 - Z) = Lib.ctz 64 Z := by
  unfold Lib.ctz
  rw [if_neg (by omega), if_neg (by omega)]
  exact ctzFrom_turned h0 h
/-- Of a float below 2 ^ 1074 units: its fraction in lowest terms. -/
theorem float_low {s : Bool} {x Z E k : Nat} (h : sgnd s Z * ((2 ^ E : Nat) : Int) = Flt.sv x) (h0 : 0 < Z) (hZ : Z < 2 ^ 64) (hE : E < 1074) (hk : k = min (Lib.ctz 64 Z) (1074 - E)) :
    (fr x).num = sgnd s Z / ((2 ^ k : Nat) : Int) ∧ (fr x).den = 2 ^ (1074 - E - k) := by
  obtain ⟨m, hm, hc⟩ := ctz_spec h0 hZ
  generalize Lib.ctz 64 Z = c at hm hc hk
  have hkc : k ≤ c := by omega
  obtain ⟨z, hz⟩ : ∃ z, Z = 2 ^ k * z := ⟨2 ^ (c - k) * (2 * m + 1), by rw [← Nat.mul_assoc, ← Nat.pow_add, show k + (c - k) = c by omega]; exact hm⟩
  have hp := Nat.two_pow_pos k
  have e1 : sgnd s Z = sgnd s z * ((2 ^ k : Nat) : Int) := by
    rw [hz, Nat.mul_comm]
    unfold sgnd
    cases s
    · simp [Int.natCast_mul]
    · simp [Int.natCast_mul, Int.neg_mul]
  have e2 : sgnd s Z / ((2 ^ k : Nat) : Int) = sgnd s z := by
    rw [e1]
    exact Int.mul_ediv_cancel _ (by omega)
  have e3 : sgnd s z * ((2 ^ (E + k) : Nat) : Int) = Flt.sv x := by
    rw [← h, e1, Int.mul_assoc, ← Int.natCast_mul, ← Nat.pow_add, Nat.add_comm k E]
  have e74 : Flt.K74 = 1074 := rfl
  rw [e2]
  rcases Nat.lt_or_ge (E + k) 1074 with hlt | hge
  · have hk2 : k = c := by omega
    have hodd : z = 2 * m + 1 := by
      rw [hz, hk2] at hm
      exact Nat.eq_of_mul_eq_mul_left (Nat.two_pow_pos c) hm
    obtain ⟨a, b⟩ := fr_odd e3 (by rw [e74]; exact hlt) (by unfold sgnd; cases s <;> simp <;> omega)
    refine ⟨a, ?_⟩
    rw [b, e74, Nat.sub_sub]
  · obtain ⟨a, b⟩ := fr_whole e3 (by rw [e74]; exact hge)
    have e5 : E + k = 1074 := by omega
    rw [e74, e5] at a
    refine ⟨by rw [a]; simp, ?_⟩
    rw [b, show 1074 - E - k = 0 by omega]
end Go.Proofs.YtjcjphgpmpjmbaaDoor
