/-
  TurnRound: turns more or less, mirrored, turned by a quarter.
-/
import Derived.Test.YtpnhjgjojnchaaaGreatDoorTurA
namespace Go.Proofs.YtpnhjgjojnchaaaGreatDoor
open Go.RowKit

/-! ### worths -/
theorem four {q : Nat} (h : q < 4) : q = 0 ∨ q = 1 ∨ q = 2 ∨ q = 3 := by omega
/-! ### places -/
theorem emod_same {a b : Int} {n : Nat} (h : a % ((2 ^ n : Nat) : Int) = b % ((2 ^ n : Nat) : Int)) : jF a n = jF b n := by unfold jF; rw [h]
theorem jF_rem (k : Int) (n : Nat) : jF (k.tmod ((2 ^ n : Nat) : Int)) n = jF k n := by
  apply emod_same
  have h := Int.tmod_add_mul_tdiv k ((2 ^ n : Nat) : Int)
  have e : k.tmod ((2 ^ n : Nat) : Int) = k + ((2 ^ n : Nat) : Int) * (-(k.tdiv ((2 ^ n : Nat) : Int))) := by rw [Int.mul_neg]; omega
  rw [e, Int.add_mul_emod_self_left]
theorem jF_more (k : Int) (n : Nat) : jF (k + ((2 ^ n : Nat) : Int)) n = jF k n := emod_same (by rw [Int.add_emod_right])
end Go.Proofs.YtpnhjgjojnchaaaGreatDoor
