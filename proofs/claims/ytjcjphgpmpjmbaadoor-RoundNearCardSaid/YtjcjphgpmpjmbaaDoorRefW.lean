/-
  The references floats (polestarref04): worth, the floats beside, Two.
-/
import Derived.Test.YtjcjphgpmpjmbaaDoorRefV
import Derived.Test.YtjcjphgpmpjmbaaDoorFlt
import Derived.Deep.CutRange
/-! The references' floats (polestarref04): what a float is worth. -/
namespace Go.Proofs.YtjcjphgpmpjmbaaDoor
open Go.RowKit

/-- The two fields of a float's bits, and its sign, as the walk spells them. -/
theorem frac_bits (x : Nat) (h : x < 2 ^ 64) : bits .and .u64 (x : Int) 4503599627370495 = ((x % 2 ^ 52 : Nat) : Int) := by
  have := u64_and_nat x 4503599627370495 (by omega) (by omega)
  rw [show ((4503599627370495 : Nat) : Int) = 4503599627370495 from rfl] at this
  rw [this]
  congr 1
  exact Nat.and_two_pow_sub_one_eq_mod x 52
theorem expo_bits (x : Nat) (h : x < 2 ^ 64) : bits .and .u64 ((x : Int) / 4503599627370496) 2047 = ((x / 2 ^ 52 % 2048 : Nat) : Int) := by
  have := u64_and_nat (x / 2 ^ 52) 2047 (by omega) (by omega)
  rw [show ((2047 : Nat) : Int) = 2047 from rfl, show ((x / 2 ^ 52 : Nat) : Int) = (x : Int) / 4503599627370496 by omega] at this
  rw [this]
  congr 1
  exact Nat.and_two_pow_sub_one_eq_mod _ 11
theorem worth_sv {x m q : Nat} (hm : m = x % 2 ^ 52) (hq : q = x / 2 ^ 52 % 2048) (s : Bool) (hs : s = Flt.sgn x) {z : Int} (hz : z = (if s then -1 else 1) * (if q = 0 then (m : Int) else 4503599627370496 + m)) :
    z * ((2 ^ (q - 1) : Nat) : Int) = Flt.sv x ∧ z.natAbs < 2 ^ 53 ∧ q - 1 ≤ 2046 := by
  have hr : Flt.rg x = q * 2 ^ 52 + m := by unfold Flt.rg; omega
  have hv := Flt.val_mk q m (by omega)
  refine ⟨?_, ?_, by omega⟩
  · unfold Flt.sv
    rw [hr, hv, ← hs, hz]
    generalize 2 ^ (q - 1) = p
    by_cases h0 : q = 0
    · simp only [h0, if_true]
      cases s
      · simp
      · simp [Int.neg_mul]
    · simp only [h0, if_false]
      cases s
      · simp
      · simp [Int.neg_mul]
  · rw [hz]
    split <;> split <;> omega

end Go.Proofs.YtjcjphgpmpjmbaaDoor



/-! The references' floats (polestarref04): the greatest float that is not above a number times a power of two. -/
namespace Go.Proofs.YtjcjphgpmpjmbaaDoor
open Go.RowKit

theorem dn_zero (den : Nat) (hd : 0 < den) : Flt.Dn 0 den 0 ∧ true = decide (Flt.val 0 * den = 0) := by
  refine ⟨⟨by rw [Flt.inf_eq]; omega, by rw [Flt.val_zero]; omega, fun _ => ?_⟩, by rw [Flt.val_zero]; simp⟩
  have : 0 < Flt.val (0 + 1) := by have := Flt.val_lt (show 0 < 0 + 1 by omega); omega
  exact Nat.mul_pos this hd

end Go.Proofs.YtjcjphgpmpjmbaaDoor

/-! The references' floats (polestarref04): signs, the least exponent, the floats beside. -/
namespace Go.Proofs.YtjcjphgpmpjmbaaDoor
open Go.RowKit

def hiR (num den r : Nat) : Nat := if Flt.val r * den = num then r else r + 1
end Go.Proofs.YtjcjphgpmpjmbaaDoor

/-! The references' floats (polestarref04): the sum and what it has lost. -/
namespace Go.Proofs.YtjcjphgpmpjmbaaDoor
open Go.RowKit

theorem two_zero {x y s : Nat} (hA : Flt.IsAdd x y s) (h : Flt.Fin s → Flt.sv x + Flt.sv y - Flt.sv s = 0) : Flt.IsTwo x y s 0 := by
  refine ⟨hA, by decide, fun hs => ⟨by unfold Flt.Fin Flt.rg; rw [Flt.inf_eq]; omega, ?_, fun _ => rfl⟩, fun _ => rfl⟩
  rw [h hs]
  unfold Flt.sv Flt.rg
  rw [show 0 % 2 ^ 63 = 0 from rfl, Flt.val_zero]; split <;> rfl

theorem cell_alloc {w : World} (o : Obj) {g : Nat} {k : Nat} (v : Value) (hg : g < w.heap.size) (h : w.cell? ⟨g, k, none⟩ = some v) : (w.alloc o).cell? ⟨g, k, none⟩ = some v := by
  rw [(bcell ((Below.refl w.heap.size w).alloc (Nat.le_refl _) o)).1 g k hg]; exact h
theorem p2 (k : Nat) : (2 : Int) ^ k = ((2 ^ k : Nat) : Int) := by rw [Int.natCast_pow]; rfl
theorem shifted {z g L v S : Int} {E : Nat} (hg : (E : Int) - 1074 = g) (hz : z * ((2 ^ E : Nat) : Int) = S) (h : z = 0 ∨ 0 ≤ g - L) (hL : -1074 ≤ L) (hv : v = z * 2 ^ (g - L).toNat) :
    v * ((2 ^ (L + 1074).toNat : Nat) : Int) = S := by
  rcases h with rfl | h
  · rw [hv, ← hz]; simp
  · rw [hv, ← hz, Int.mul_assoc, p2, ← Int.natCast_mul, ← Nat.pow_add]
    congr 3
    omega
def RetTwo4 (W : World) (x y : Nat) (e : Ending) (w' : World) : Prop :=
  ∃ s l, e = .returned (.tuple #[.float .f64 s, .float .f64 l]) ∧ Flt.IsTwo x y s l ∧ Below W.heap.size W w'

theorem upon_fadd {P : Program} {w : World} {o : Oper} {a : Act} {next : Act → World → Prop} {Q : Exit → Act → World → Prop} {t : TypeId} {x y : Nat}
    (hK : ∀ z n, IsOp Ieee.double.add x y z → next (a.put o.dst (.float .f64 z)) (w.drewN n)) :
    o.upon P a next Q (((binOp .add t (.float .f64 x) (.float .f64 y)).run P w).andThen fun v w' => .ok (.value v) w') := by
  obtain ⟨z, n, hrun, hz⟩ := run_fop (P := P) w .add Ieee.double.add (.inl ⟨rfl, rfl⟩) t x y
  rw [hrun]
  exact hK z n hz

end Go.Proofs.YtjcjphgpmpjmbaaDoor
