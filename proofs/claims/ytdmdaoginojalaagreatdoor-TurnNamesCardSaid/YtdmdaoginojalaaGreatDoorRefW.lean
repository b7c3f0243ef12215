/-
  The references floats (polestarref04): worth, the floats beside, Two.
-/
import Derived.Test.YtdmdaoginojalaaGreatDoorRefV
import Derived.Test.YtdmdaoginojalaaGreatDoorFlt
import Derived.Deep.CutRange
/-! The references' floats (polestarref04): what a float is worth. -/
namespace Go.Proofs.YtdmdaoginojalaaGreatDoor
open Go.RowKit

/-- The two fields of a float's bits, and its sign, as the walk spells them. -/
theorem frac_bits (x : Nat) (h : x < 2 ^ 64) : bits .and .u64 (x : Int) 4503599627370495 = ((x % 2 ^ 52 : Nat) : Int) := by
  have := u64_and_nat x 4503599627370495 (by omega) (by omega)
  rw [show ((4503599627370495 : Nat) : Int) = 4503599627370495 from rfl] at this
  rw [this]
  congr 1
  exact Nat.and_two_pow_sub_one_eq_mod x 52
theorem expo_bits (x : Nat) (h : x < 2 ^ 64) : bits .and .u64 ((x : Int) / 4503599627370496) 2047 = ((x / 2 ^ 52 % 2048 : Nat) : Int) := by
  have := u64_and_nat (x / 2 ^ 52) 2047 (by omega) (by omega)
  rw [show ((2047 : Nat) : Int) = 2047 from rfl, show ((x / 2 ^ 52 : Nat) : Int) = (x : Int) / 4503599627370496 by omega] at this
  rw [this]
  congr 1
  exact Nat.and_two_pow_sub_one_eq_mod _ 11
end Go.Proofs.YtdmdaoginojalaaGreatDoor




/-! The references' floats (polestarref04): signs, the least exponent, the floats beside. -/
namespace Go.Proofs.YtdmdaoginojalaaGreatDoor
open Go.RowKit

def hiR (num den r : Nat) : Nat := if Flt.val r * den = num then r else r + 1
end Go.Proofs.YtdmdaoginojalaaGreatDoor

/-! The references' floats (polestarref04): the sum and what it has lost. -/
namespace Go.Proofs.YtdmdaoginojalaaGreatDoor
open Go.RowKit

theorem two_zero {x y s : Nat} (hA : Flt.IsAdd x y s) (h : Flt.Fin s → Flt.sv x + Flt.sv y - Flt.sv s = 0) : Flt.IsTwo x y s 0 := by
  refine ⟨hA, by decide, fun hs => ⟨by unfold Flt.Fin Flt.rg; rw [Flt.inf_eq]; omega, ?_, fun _ => rfl⟩, fun _ => rfl⟩
  rw [h hs]
  unfold Flt.sv Flt.rg
  rw [show 0 % 2 ^ 63 = 0 from rfl, Flt.val_zero]; split <;> rfl

theorem cell_alloc {w : World} (o : Obj) {g : Nat} {k : Nat} (v : Value) (hg : g < w.heap.size) (h : w.cell? ⟨g, k, none⟩ = some v) : (w.alloc o).cell? ⟨g, k, none⟩ = some v := by
  rw [(bcell ((Below.refl w.heap.size w).alloc (Nat.le_refl _) o)).1 g k hg]; exact h
theorem p2 (k : Nat) : (2 : Int) ^ k = ((2 ^ k : Nat) : Int) := by rw [Int.natCast_pow]; rfl
def RetTwo4 (W : World) (x y : Nat) (e : Ending) (w' : World) : Prop :=
  ∃ s l, e = .returned (.tuple #[.float .f64 s, .float .f64 l]) ∧ Flt.IsTwo x y s l ∧ Below W.heap.size W w'

theorem upon_fadd {P : Program} {w : World} {o : Oper} {a : Act} {next : Act → World → Prop} {Q : Exit → Act → World → Prop} {t : TypeId} {x y : Nat}
    (hK : ∀ z n, IsOp Ieee.double.add x y z → next (a.put o.dst (.float .f64 z)) (w.drewN n)) :
    o.upon P a next Q (((binOp .add t (.float .f64 x) (.float .f64 y)).run P w).andThen fun v w' => .ok (.value v) w') := by
  obtain ⟨z, n, hrun, hz⟩ := run_fop (P := P) w .add Ieee.double.add (.inl ⟨rfl, rfl⟩) t x y
  rw [hrun]
  exact hK z n hz

end Go.Proofs.YtdmdaoginojalaaGreatDoor
