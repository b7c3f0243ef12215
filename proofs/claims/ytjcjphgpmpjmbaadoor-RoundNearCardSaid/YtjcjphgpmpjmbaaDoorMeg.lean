/-
  A walk's memory: blocks of eight and of sixteen cells; complex numbers of two fractions.
-/
import Derived.Test.YtjcjphgpmpjmbaaDoorMem
import Derived.Test.YtjcjphgpmpjmbaaDoorFrR
namespace Go.Proofs.YtjcjphgpmpjmbaaDoor
open Go.RowKit

theorem Sz.zero : Sz 0 1 := ⟨by decide, by decide⟩
theorem Sz.one : Sz 1 1 := ⟨by decide, by decide⟩
theorem sz_of {w w' : World} {neg neg' : Bool} {A A' : Option Addr} {n c n' c' : Nat} {x : Rat} (h : IsInt w neg A n c x.num) (k : IsInt w' neg' A' n' c' (x.den : Int)) {M : Nat} (hn : n ≤ M) (hn' : n' ≤ M) : Sz x M := by
  have h1 := isInt_lt h
  have h2 := isInt_lt k
  rw [show Lm.B ^ n = 2 ^ (32 * n) by rw [Nat.pow_mul]] at h1
  rw [show Lm.B ^ n' = 2 ^ (32 * n') by rw [Nat.pow_mul]] at h2
  exact ⟨Nat.lt_of_lt_of_le h1 (Nat.pow_le_pow_right (by decide) (by omega)), by rw [Int.natAbs_natCast] at h2; exact Nat.lt_of_lt_of_le h2 (Nat.pow_le_pow_right (by decide) (by omega))⟩
end Go.Proofs.YtjcjphgpmpjmbaaDoor
