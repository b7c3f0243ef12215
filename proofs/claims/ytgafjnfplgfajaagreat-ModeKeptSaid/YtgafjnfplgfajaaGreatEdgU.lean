/-
  The floats straight below and above a number (edge).
-/
import Derived.Test.YtgafjnfplgfajaaGreatFlt
import Derived.Test.YtgafjnfplgfajaaGreatZero
import Derived.Test.YtgafjnfplgfajaaGreatShelf
import Derived.Laws.MathBits
import Derived.Test.YtgafjnfplgfajaaGreatRndU
/-! The program's floats straight below and above a number (edge): under. -/
namespace Go.Proofs.YtgafjnfplgfajaaGreat
open Go.RowKit

theorem bitLen_spec {x : Nat} (h : x ≠ 0) : 1 ≤ bitLen x ∧ 2 ^ (bitLen x - 1) ≤ x ∧ x < 2 ^ bitLen x := by
  unfold bitLen
  rw [if_neg h]
  exact ⟨by omega, Nat.log2_self_le h, Nat.lt_log2_self⟩
theorem bitLen_step {x : Nat} (h : x ≠ 0) : bitLen x = 1 + bitLen (x / 2) := by
  by_cases h1 : x / 2 = 0
  · have : x = 1 := by omega
    subst this; rfl
  · have := bitLen_shift x 1 (by simpa using h1)
    rw [Nat.pow_one] at this
    omega
theorem lib_bitLenAux : ∀ (f x : Nat), x < 2 ^ f → Lib.bitLenAux f x = bitLen x
  | 0, x, h => by
    have : x = 0 := by simpa using h
    subst this; rfl
  | f + 1, x, h => by
    unfold Lib.bitLenAux
    by_cases h0 : x = 0
    · subst h0; rfl
    · rw [if_neg h0, lib_bitLenAux f (x / 2) (by rw [Nat.pow_succ] at h; omega), bitLen_step h0]
theorem lib_bitLen {x : Nat} (h : x < 2 ^ 64) : Lib.bitLen x = bitLen x := lib_bitLenAux 64 x h
end Go.Proofs.YtgafjnfplgfajaaGreat

