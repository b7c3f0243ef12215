/-
  Products and quotients (round).
-/
import Derived.Test.YtpnhjgjojnchaaaGreatDoorFlt
import Derived.Test.YtpnhjgjojnchaaaGreatDoorZero
import Derived.Test.YtpnhjgjojnchaaaGreatDoorShelf
import Derived.Laws.MathBits
import Derived.Test.YtpnhjgjojnchaaaGreatDoorRndU
/-! Products, rounded down and up (round.Mul). -/
namespace Go.Proofs.YtpnhjgjojnchaaaGreatDoor
open Go.RowKit

/-! ### plain: pairs beside a fraction, however that is written -/
theorem IsOp.same {f : Nat → Nat → Option Nat} {x y s t : Nat} (h : IsOp f x y s) (k : IsOp f x y t) : Flt.Same s t := by
  have a := h.2
  have b := k.2
  cases hf : f x y with
  | some z => rw [hf] at a b; exact .inl (a.trans b.symm)
  | none => rw [hf] at a b; exact .inr ⟨a, b⟩

/-- The pair that is told of an operation: its own answer twice, or the floats beside. -/
def IsPair (f : Nat → Nat → Option Nat) (W : Prop) (x y : Nat) (s : Bool) (num den d u : Nat) : Prop :=
  (¬ W → ∃ z, IsOp f x y z ∧ d = z ∧ u = z) ∧ (W → Brk s num den d u)
theorem IsPair.same {f : Nat → Nat → Option Nat} {W : Prop} {x y : Nat} {s : Bool} {num den d u d' u' : Nat} (h : IsPair f W x y s num den d u) (k : IsPair f W x y s num den d' u') : Flt.Same d d' ∧ Flt.Same u u' := by
  by_cases hw : W
  · obtain ⟨a, b⟩ := (h.2 hw).unique (k.2 hw)
    exact ⟨.inl a, .inl b⟩
  · obtain ⟨z, h1, rfl, rfl⟩ := h.1 hw
    obtain ⟨t, k1, rfl, rfl⟩ := k.1 hw
    exact ⟨h1.same k1, h1.same k1⟩
/-! ### parts of a float; its sign -/
end Go.Proofs.YtpnhjgjojnchaaaGreatDoor

/-! math/bits.Div64 of a number of 64 bits with 64 noughts behind it. -/
namespace Go.Proofs.YtpnhjgjojnchaaaGreatDoor
open Go.RowKit

/-! ### plain: one digit of 32 bits -/
/-- What holds of the digit that is tried. -/
structure Dig (Y Y1 Y0 U q r : Nat) : Prop where
  y : Y = Y1 * 4294967296 + Y0
  y1 : 2147483648 ≤ Y1
  y2 : Y1 < 4294967296
  y3 : Y0 < 4294967296
  u : U < Y
  sum : q * Y1 + r = U
  most : q ≤ 4294967297
  low : U * 4294967296 / Y ≤ q

theorem Dig.prod {Y Y1 Y0 U q r : Nat} (h : Dig Y Y1 Y0 U q r) : q * Y + r * 4294967296 = U * 4294967296 + q * Y0 := by
  rw [h.y, ← h.sum, Nat.mul_add, ← Nat.mul_assoc, Nat.add_mul]
  omega
theorem Dig.lt {Y Y1 Y0 U q r : Nat} (h : Dig Y Y1 Y0 U q r) : U * 4294967296 / Y < 4294967296 := by
  have := h.u
  rw [Nat.div_lt_iff_lt_mul (by omega), Nat.mul_comm]
  omega
theorem Dig.stop {Y Y1 Y0 U q r : Nat} (h : Dig Y Y1 Y0 U q r) (hc : q * Y0 ≤ 4294967296 * r) : q = U * 4294967296 / Y := by
  have hp := h.prod
  have hY : 0 < Y := by have := h.u; omega
  have : q ≤ U * 4294967296 / Y := by
    rw [Nat.le_div_iff_mul_le hY]; omega
  have := h.low
  omega
theorem Dig.far {Y Y1 Y0 U q r : Nat} (h : Dig Y Y1 Y0 U q r) (hq : q ≤ 4294967296) (hr : 4294967296 ≤ r) : q = U * 4294967296 / Y := by
  refine h.stop ?_
  have h1 : q * Y0 ≤ 4294967296 * 4294967296 := Nat.mul_le_mul hq (Nat.le_of_lt h.y3)
  omega
end Go.Proofs.YtpnhjgjojnchaaaGreatDoor

