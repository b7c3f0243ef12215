/-
  The references floats (polestarref04): worth, the floats beside, Two.
  Floats rounded down and up (round): Two, Next, Add, Sub.
  The floats straight below and above a number (edge).
  Products and quotients (round).
  The references floats (polestarref04): Add, Mul, Quo.
  Roots, rounded down and up (round.Sqrt).
-/
import Derived.Test.YtdmdaoginojalaaRefV
import Derived.Test.YtdmdaoginojalaaFlt
import Derived.Deep.CutRange
import Derived.Test.YtdmdaoginojalaaZero
import Derived.Test.YtdmdaoginojalaaShelf
import Derived.Laws.MathBits
/-! The references' floats (polestarref04): one; quotients by a power of two. -/
namespace Go.Proofs.Ytdmdaoginojalaa
open Go.RowKit

theorem isInt_len_mono {w w' : World} {neg neg' : Bool} {A A' : Option Addr} {n c n' c' : Nat} {x y : Int} (h : IsInt w neg A n c x) (k : IsInt w' neg' A' n' c' y) (e : x.natAbs ≤ y.natAbs) : n ≤ n' := by
  refine isInt_len_le h ?_
  obtain ⟨b, hb, cb, _, rfl⟩ := k
  have h1 : ∀ (s : Bool) (m : Nat), (sgnd s m).natAbs = m := by intro s m; unfold sgnd; split <;> omega
  rw [h1] at e
  have := Lm.lv_lt hb.ok
  rw [hb.len] at this
  omega
end Go.Proofs.Ytdmdaoginojalaa



/-! The references' floats (polestarref04): signs, the least exponent, the floats beside. -/
namespace Go.Proofs.Ytdmdaoginojalaa
open Go.RowKit

def hiR (num den r : Nat) : Nat := if Flt.val r * den = num then r else r + 1
end Go.Proofs.Ytdmdaoginojalaa

/-! The references' floats (polestarref04): the sum and what it has lost. -/
namespace Go.Proofs.Ytdmdaoginojalaa
open Go.RowKit

theorem cell_alloc {w : World} (o : Obj) {g : Nat} {k : Nat} (v : Value) (hg : g < w.heap.size) (h : w.cell? ⟨g, k, none⟩ = some v) : (w.alloc o).cell? ⟨g, k, none⟩ = some v := by
  rw [(bcell ((Below.refl w.heap.size w).alloc (Nat.le_refl _) o)).1 g k hg]; exact h
theorem p2 (k : Nat) : (2 : Int) ^ k = ((2 ^ k : Nat) : Int) := by rw [Int.natCast_pow]; rfl
theorem shifted {z g L v S : Int} {E : Nat} (hg : (E : Int) - 1074 = g) (hz : z * ((2 ^ E : Nat) : Int) = S) (h : z = 0 ∨ 0 ≤ g - L) (hL : -1074 ≤ L) (hv : v = z * 2 ^ (g - L).toNat) :
    v * ((2 ^ (L + 1074).toNat : Nat) : Int) = S := by
  rcases h with rfl | h
  · rw [hv, ← hz]; simp
  · rw [hv, ← hz, Int.mul_assoc, p2, ← Int.natCast_mul, ← Nat.pow_add]
    congr 3
    omega
end Go.Proofs.Ytdmdaoginojalaa

/-! Floats beside an exact value: the pair that is told of a fraction, and the pair that a nearest float and what it has lost give. -/
namespace Go.Proofs.Ytdmdaoginojalaa
open Go.RowKit

def Brk (s : Bool) (num den d u : Nat) : Prop :=
  ∃ r, Flt.Dn num den r ∧ d = (if s then 2 ^ 63 + hiR num den r else r) ∧ u = (if s then 2 ^ 63 + r else hiR num den r)
theorem Brk.unique {s : Bool} {num den d u d' u' : Nat} (h : Brk s num den d u) (k : Brk s num den d' u') : d = d' ∧ u = u' := by
  obtain ⟨r, h1, rfl, rfl⟩ := h
  obtain ⟨r', k1, rfl, rfl⟩ := k
  have := h1.unique k1
  subst this
  exact ⟨rfl, rfl⟩

end Go.Proofs.Ytdmdaoginojalaa

/-! What is told of a sum. -/
namespace Go.Proofs.Ytdmdaoginojalaa
open Go.RowKit

def IsSum (x y d u : Nat) : Prop :=
  ∃ s, Flt.IsAdd x y s ∧ ((¬ (Flt.Fin x ∧ Flt.Fin y) ∨ Flt.sv x + Flt.sv y = 0) → d = s ∧ u = s) ∧
    (Flt.Fin x → Flt.Fin y → Flt.sv x + Flt.sv y ≠ 0 → Brk (decide (Flt.sv x + Flt.sv y < 0)) (Flt.sv x + Flt.sv y).natAbs 1 d u)
theorem IsSum.same {x y d u d' u' : Nat} (h : IsSum x y d u) (k : IsSum x y d' u') : Flt.Same d d' ∧ Flt.Same u u' := by
  obtain ⟨s, h1, h2, h3⟩ := h
  obtain ⟨t, k1, k2, k3⟩ := k
  have hst := h1.same k1
  by_cases hc : ¬ (Flt.Fin x ∧ Flt.Fin y) ∨ Flt.sv x + Flt.sv y = 0
  · obtain ⟨rfl, rfl⟩ := h2 hc
    obtain ⟨rfl, rfl⟩ := k2 hc
    exact ⟨hst, hst⟩
  · have hf : Flt.Fin x ∧ Flt.Fin y := by
      by_cases hf : Flt.Fin x ∧ Flt.Fin y
      · exact hf
      · exact absurd (Or.inl hf) hc
    have hz : Flt.sv x + Flt.sv y ≠ 0 := fun e => hc (Or.inr e)
    obtain ⟨rfl, rfl⟩ := (h3 hf.1 hf.2 hz).unique (k3 hf.1 hf.2 hz)
    exact ⟨Or.inl rfl, Or.inl rfl⟩

end Go.Proofs.Ytdmdaoginojalaa


/-! Floats, rounded down and up (round): the float beside. -/
namespace Go.Proofs.Ytdmdaoginojalaa
open Go.RowKit

theorem nan_zero : ¬ Flt.Nan 0 := by unfold Flt.Nan Flt.rg; rw [Flt.inf_eq]; omega
end Go.Proofs.Ytdmdaoginojalaa

/-! The program's floats straight below and above a number (edge): under. -/
namespace Go.Proofs.Ytdmdaoginojalaa
open Go.RowKit

theorem bitLen_step {x : Nat} (h : x ≠ 0) : bitLen x = 1 + bitLen (x / 2) := by
  by_cases h1 : x / 2 = 0
  · have : x = 1 := by omega
    subst this; rfl
  · have := bitLen_shift x 1 (by simpa using h1)
    rw [Nat.pow_one] at this
    omega
theorem lib_bitLenAux : ∀ (f x : Nat), x < 2 ^ f → Lib.bitLenAux f x = bitLen x
  | 0, x, h => by
    have : x = 0 := by simpa using h
    subst this; rfl
  | f + 1, x, h => by
    unfold Lib.bitLenAux
    by_cases h0 : x = 0
    · subst h0; rfl
    · rw [if_neg h0, lib_bitLenAux f (x / 2) (by rw [Nat.pow_succ] at h; omega), bitLen_step h0]
theorem lib_bitLen {x : Nat} (h : x < 2 ^ 64) : Lib.bitLen x = bitLen x := lib_bitLenAux 64 x h
end Go.Proofs.Ytdmdaoginojalaa

/-! Products, rounded down and up (round.Mul). -/
namespace Go.Proofs.Ytdmdaoginojalaa
open Go.RowKit

/-! ### plain: pairs beside a fraction, however that is written -/
theorem IsOp.same {f : Nat → Nat → Option Nat} {x y s t : Nat} (h : IsOp f x y s) (k : IsOp f x y t) : Flt.Same s t := by
  have a := h.2
  have b := k.2
  cases hf : f x y with
  | some z => rw [hf] at a b; exact .inl (a.trans b.symm)
  | none => rw [hf] at a b; exact .inr ⟨a, b⟩

/-- The pair that is told of an operation: its own answer twice, or the floats beside. -/
def IsPair (f : Nat → Nat → Option Nat) (W : Prop) (x y : Nat) (s : Bool) (num den d u : Nat) : Prop :=
  (¬ W → ∃ z, IsOp f x y z ∧ d = z ∧ u = z) ∧ (W → Brk s num den d u)
theorem IsPair.same {f : Nat → Nat → Option Nat} {W : Prop} {x y : Nat} {s : Bool} {num den d u d' u' : Nat} (h : IsPair f W x y s num den d u) (k : IsPair f W x y s num den d' u') : Flt.Same d d' ∧ Flt.Same u u' := by
  by_cases hw : W
  · obtain ⟨a, b⟩ := (h.2 hw).unique (k.2 hw)
    exact ⟨.inl a, .inl b⟩
  · obtain ⟨z, h1, rfl, rfl⟩ := h.1 hw
    obtain ⟨t, k1, rfl, rfl⟩ := k.1 hw
    exact ⟨h1.same k1, h1.same k1⟩
/-! ### parts of a float; its sign -/
end Go.Proofs.Ytdmdaoginojalaa

/-! math/bits.Div64 of a number of 64 bits with 64 noughts behind it. -/
namespace Go.Proofs.Ytdmdaoginojalaa
open Go.RowKit

/-! ### plain: one digit of 32 bits -/
/-- What holds of the digit that is tried. -/
structure Dig (Y Y1 Y0 U q r : Nat) : Prop where
  y : Y = Y1 * 4294967296 + Y0
  y1 : 2147483648 ≤ Y1
  y2 : Y1 < 4294967296
  y3 : Y0 < 4294967296
  u : U < Y
  sum : q * Y1 + r = U
  most : q ≤ 4294967297
  low : U * 4294967296 / Y ≤ q

theorem Dig.start {Y Y1 Y0 U : Nat} (y : Y = Y1 * 4294967296 + Y0) (y1 : 2147483648 ≤ Y1) (y2 : Y1 < 4294967296) (y3 : Y0 < 4294967296) (u : U < Y) : Dig Y Y1 Y0 U (U / Y1) (U % Y1) := by
  have hp : 0 < Y1 := by omega
  refine ⟨y, y1, y2, y3, u, by rw [Nat.mul_comm]; exact Nat.div_add_mod U Y1, ?_, ?_⟩
  · have : U / Y1 < 4294967298 := by
      rw [Nat.div_lt_iff_lt_mul hp]; omega
    omega
  · rw [Nat.le_div_iff_mul_le hp]
    have hY : 0 < Y := by omega
    have h1 := Nat.div_mul_le_self (U * 4294967296) Y
    have h2 : U * 4294967296 / Y * (Y1 * 4294967296) ≤ U * 4294967296 / Y * Y := Nat.mul_le_mul_left _ (by omega)
    rw [← Nat.mul_assoc] at h2
    omega
theorem Dig.prod {Y Y1 Y0 U q r : Nat} (h : Dig Y Y1 Y0 U q r) : q * Y + r * 4294967296 = U * 4294967296 + q * Y0 := by
  rw [h.y, ← h.sum, Nat.mul_add, ← Nat.mul_assoc, Nat.add_mul]
  omega
theorem Dig.lt {Y Y1 Y0 U q r : Nat} (h : Dig Y Y1 Y0 U q r) : U * 4294967296 / Y < 4294967296 := by
  have := h.u
  rw [Nat.div_lt_iff_lt_mul (by omega), Nat.mul_comm]
  omega
theorem Dig.less {Y Y1 Y0 U q r : Nat} (h : Dig Y Y1 Y0 U q r) (hc : 4294967296 ≤ q ∨ 4294967296 * r < q * Y0) : 1 ≤ q ∧ Dig Y Y1 Y0 U (q - 1) (r + Y1) := by
  have hq : U * 4294967296 / Y ≤ q - 1 ∧ 1 ≤ q := by
    rcases hc with hc | hc
    · have := h.lt; omega
    · have hp := h.prod
      have hY : 0 < Y := by have := h.u; omega
      have : U * 4294967296 / Y < q := by
        rw [Nat.div_lt_iff_lt_mul hY]; omega
      exact ⟨Nat.le_sub_one_of_lt this, Nat.lt_of_le_of_lt (Nat.zero_le _) this⟩
  refine ⟨hq.2, h.y, h.y1, h.y2, h.y3, h.u, ?_, by have := h.most; omega, hq.1⟩
  have hs := h.sum
  obtain ⟨t, rfl⟩ : ∃ t, q = t + 1 := ⟨q - 1, by omega⟩
  rw [Nat.add_mul] at hs
  simp only [Nat.add_sub_cancel]
  omega
theorem Dig.stop {Y Y1 Y0 U q r : Nat} (h : Dig Y Y1 Y0 U q r) (hc : q * Y0 ≤ 4294967296 * r) : q = U * 4294967296 / Y := by
  have hp := h.prod
  have hY : 0 < Y := by have := h.u; omega
  have : q ≤ U * 4294967296 / Y := by
    rw [Nat.le_div_iff_mul_le hY]; omega
  have := h.low
  omega
theorem Dig.far {Y Y1 Y0 U q r : Nat} (h : Dig Y Y1 Y0 U q r) (hq : q ≤ 4294967296) (hr : 4294967296 ≤ r) : q = U * 4294967296 / Y := by
  refine h.stop ?_
  have h1 : q * Y0 ≤ 4294967296 * 4294967296 := Nat.mul_le_mul hq (Nat.le_of_lt h.y3)
  omega
end Go.Proofs.Ytdmdaoginojalaa

/-! The references' whole numbers and floats: Divide by any number; quotients by any number. -/
namespace Go.Proofs.Ytdmdaoginojalaa
open Go.RowKit

theorem isInt_lt {w : World} {neg : Bool} {A : Option Addr} {n c : Nat} {z : Int} (h : IsInt w neg A n c z) : z.natAbs < Lm.B ^ n := by
  obtain ⟨l, hl, _, _, rfl⟩ := h
  have h1 : (sgnd neg (Lm.lv l)).natAbs = Lm.lv l := by unfold sgnd; split <;> omega
  rw [h1, ← hl.len]
  exact Lm.lv_lt hl.ok
end Go.Proofs.Ytdmdaoginojalaa

/-! The references' floats (polestarref04): the greatest float that is not above a fraction times a power of two. -/
namespace Go.Proofs.Ytdmdaoginojalaa
open Go.RowKit

def qb (P D : Nat) (s : Int) : Bool := decide (P * 2 ^ s.toNat % (D * 2 ^ (-s).toNat) = 0)

end Go.Proofs.Ytdmdaoginojalaa


/-! The references' floats (polestarref04): the quotient. -/
namespace Go.Proofs.Ytdmdaoginojalaa
open Go.RowKit

theorem frozen_alloc {w : World} (o : Obj) {g k : Nat} (h : g < w.heap.size) : (w.alloc o).frozen? ⟨g, k, none⟩ = w.frozen? ⟨g, k, none⟩ :=
  ((Below.refl w.heap.size w).alloc (Nat.le_refl _) o).frozen (p := ⟨g, k, none⟩) h

end Go.Proofs.Ytdmdaoginojalaa

namespace Go.Proofs.Ytdmdaoginojalaa
open Go.RowKit

/-! ### plain -/
/-- The greatest float whose square is not above V. -/
def DnSq (V r : Nat) : Prop := r < Flt.inf ∧ Flt.val r * Flt.val r ≤ V ∧ V < Flt.val (r + 1) * Flt.val (r + 1)
theorem DnSq.unique {V r s : Nat} (h : DnSq V r) (k : DnSq V s) : r = s := by
  have key : ∀ {r s : Nat}, DnSq V r → DnSq V s → ¬ r < s := by
    intro r s h k hlt
    have h1 : Flt.val (r + 1) * Flt.val (r + 1) ≤ Flt.val s * Flt.val s := Nat.mul_le_mul (Flt.val_le hlt) (Flt.val_le hlt)
    have := h.2.2
    have := k.2.1
    omega
  have := key h k
  have := key k h
  omega
/-- What the machine's root may give. -/
def IsSq (x z : Nat) : Prop := z < 2 ^ 64 ∧ (match Ieee.double.sqrt x with | some r => z = r | none => Flt.Nan z)
theorem IsSq.same {x s t : Nat} (h : IsSq x s) (k : IsSq x t) : Flt.Same s t := by
  have a := h.2
  have b := k.2
  cases hf : Ieee.double.sqrt x with
  | some z => rw [hf] at a b; exact .inl (a.trans b.symm)
  | none => rw [hf] at a b; exact .inr ⟨a, b⟩
def Pos (x : Nat) : Prop := Flt.Fin x ∧ Flt.sgn x = false ∧ Flt.rg x ≠ 0
/-- The pair that is told of a root. -/
def IsRoot (x d u : Nat) : Prop :=
  (¬ Pos x → ∃ z, IsSq x z ∧ d = z ∧ u = z) ∧
  (Pos x → ∃ r, DnSq (Flt.val (Flt.rg x) * 2 ^ Flt.K74) r ∧ d = r ∧ u = if Flt.val r * Flt.val r = Flt.val (Flt.rg x) * 2 ^ Flt.K74 then r else r + 1)
theorem IsRoot.same {x d u d' u' : Nat} (h : IsRoot x d u) (k : IsRoot x d' u') : Flt.Same d d' ∧ Flt.Same u u' := by
  by_cases hw : Pos x
  · obtain ⟨r, h1, rfl, rfl⟩ := h.2 hw
    obtain ⟨s, k1, rfl, rfl⟩ := k.2 hw
    have := h1.unique k1
    subst this
    exact ⟨.inl rfl, .inl rfl⟩
  · obtain ⟨z, h1, rfl, rfl⟩ := h.1 hw
    obtain ⟨t, k1, rfl, rfl⟩ := k.1 hw
    exact ⟨h1.same k1, h1.same k1⟩

end Go.Proofs.Ytdmdaoginojalaa
