/-
  Products and quotients (round).
  The references floats (polestarref04): Add, Mul, Quo.
  Roots, rounded down and up (round.Sqrt).
  The references' roots: of whole numbers (polestarref01), of floats (polestarref04).
  The references' whole numbers (polestarref01): the greatest number that goes into both, by halving.
-/
import Derived.Test.YtejlicacndpfpaaEdgU
import Derived.Test.YtejlicacndpfpaaRndU
import Derived.Test.YtejlicacndpfpaaRefV
import Derived.Test.YtejlicacndpfpaaFlt
import Derived.Deep.LoopGhost
import Derived.Test.YtejlicacndpfpaaMem
/-! Products, rounded down and up (round.Mul). -/
namespace Go.Proofs.Ytejlicacndpfpaa
open Go.RowKit

/-! ### plain: pairs beside a fraction, however that is written -/
theorem dn_cross {num den num' den' r : Nat} (hd : 0 < den) (hd' : 0 < den') (he : num * den' = num' * den) (h : Flt.Dn num den r) : Flt.Dn num' den' r := by
  refine ⟨h.1, ?_, fun hr => ?_⟩
  · apply Nat.le_of_mul_le_mul_right _ hd
    rw [← he, Nat.mul_right_comm]
    exact Nat.mul_le_mul_right _ h.2.1
  · apply Nat.lt_of_mul_lt_mul_right (a := den)
    rw [← he, Nat.mul_right_comm]
    exact Nat.mul_lt_mul_of_pos_right (h.2.2 hr) hd'
theorem exact_cross {num den num' den' r : Nat} (hd : 0 < den) (hd' : 0 < den') (he : num * den' = num' * den) : Flt.val r * den = num ↔ Flt.val r * den' = num' := by
  constructor
  · intro h
    apply Nat.eq_of_mul_eq_mul_right hd
    rw [← he, ← h, Nat.mul_right_comm]
  · intro h
    apply Nat.eq_of_mul_eq_mul_right hd'
    rw [he, ← h, Nat.mul_right_comm]
theorem Brk.cross {s : Bool} {num den num' den' d u : Nat} (hd : 0 < den) (hd' : 0 < den') (he : num * den' = num' * den) (h : Brk s num den d u) : Brk s num' den' d u := by
  obtain ⟨r, h1, h2, h3⟩ := h
  have e : hiR num den r = hiR num' den' r := by
    unfold hiR
    by_cases h' : Flt.val r * den = num
    · rw [if_pos h', if_pos ((exact_cross hd hd' he).1 h')]
    · rw [if_neg h', if_neg (fun h'' => h' ((exact_cross hd hd' he).2 h''))]
  exact ⟨r, dn_cross hd hd' he h1, by rw [h2, e], by rw [h3, e]⟩

theorem IsOp.same {f : Nat → Nat → Option Nat} {x y s t : Nat} (h : IsOp f x y s) (k : IsOp f x y t) : Flt.Same s t := by
  have a := h.2
  have b := k.2
  cases hf : f x y with
  | some z => rw [hf] at a b; exact .inl (a.trans b.symm)
  | none => rw [hf] at a b; exact .inr ⟨a, b⟩

/-- The pair that is told of an operation: its own answer twice, or the floats beside. -/
def IsPair (f : Nat → Nat → Option Nat) (W : Prop) (x y : Nat) (s : Bool) (num den d u : Nat) : Prop :=
  (¬ W → ∃ z, IsOp f x y z ∧ d = z ∧ u = z) ∧ (W → Brk s num den d u)
theorem IsPair.same {f : Nat → Nat → Option Nat} {W : Prop} {x y : Nat} {s : Bool} {num den d u d' u' : Nat} (h : IsPair f W x y s num den d u) (k : IsPair f W x y s num den d' u') : Flt.Same d d' ∧ Flt.Same u u' := by
  by_cases hw : W
  · obtain ⟨a, b⟩ := (h.2 hw).unique (k.2 hw)
    exact ⟨.inl a, .inl b⟩
  · obtain ⟨z, h1, rfl, rfl⟩ := h.1 hw
    obtain ⟨t, k1, rfl, rfl⟩ := k.1 hw
    exact ⟨h1.same k1, h1.same k1⟩
/-! ### parts of a float; its sign -/
end Go.Proofs.Ytejlicacndpfpaa

/-! math/bits.Div64 of a number of 64 bits with 64 noughts behind it. -/
namespace Go.Proofs.Ytejlicacndpfpaa
open Go.RowKit

/-! ### plain: one digit of 32 bits -/
/-- What holds of the digit that is tried. -/
structure Dig (Y Y1 Y0 U q r : Nat) : Prop where
  y : Y = Y1 * 4294967296 + Y0
  y1 : 2147483648 ≤ Y1
  y2 : Y1 < 4294967296
  y3 : Y0 < 4294967296
  u : U < Y
  sum : q * Y1 + r = U
  most : q ≤ 4294967297
  low : U * 4294967296 / Y ≤ q

theorem Dig.prod {Y Y1 Y0 U q r : Nat} (h : Dig Y Y1 Y0 U q r) : q * Y + r * 4294967296 = U * 4294967296 + q * Y0 := by
  rw [h.y, ← h.sum, Nat.mul_add, ← Nat.mul_assoc, Nat.add_mul]
  omega
theorem Dig.lt {Y Y1 Y0 U q r : Nat} (h : Dig Y Y1 Y0 U q r) : U * 4294967296 / Y < 4294967296 := by
  have := h.u
  rw [Nat.div_lt_iff_lt_mul (by omega), Nat.mul_comm]
  omega
theorem Dig.less {Y Y1 Y0 U q r : Nat} (h : Dig Y Y1 Y0 U q r) (hc : 4294967296 ≤ q ∨ 4294967296 * r < q * Y0) : 1 ≤ q ∧ Dig Y Y1 Y0 U (q - 1) (r + Y1) := by
  have hq : U * 4294967296 / Y ≤ q - 1 ∧ 1 ≤ q := by
    rcases hc with hc | hc
    · have := h.lt; omega
    · have hp := h.prod
      have hY : 0 < Y := by have := h.u; omega
      have : U * 4294967296 / Y < q := by
        rw [Nat.div_lt_iff_lt_mul hY]; omega
      exact ⟨Nat.le_sub_one_of_lt this, Nat.lt_of_le_of_lt (Nat.zero_le _) this⟩
  refine ⟨hq.2, h.y, h.y1, h.y2, h.y3, h.u, ?_, by have := h.most; omega, hq.1⟩
  have hs := h.sum
  obtain ⟨t, rfl⟩ : ∃ t, q = t + 1 := ⟨q - 1, by omega⟩
  rw [Nat.add_mul] at hs
  simp only [Nat.add_sub_cancel]
  omega
theorem Dig.stop {Y Y1 Y0 U q r : Nat} (h : Dig Y Y1 Y0 U q r) (hc : q * Y0 ≤ 4294967296 * r) : q = U * 4294967296 / Y := by
  have hp := h.prod
  have hY : 0 < Y := by have := h.u; omega
  have : q ≤ U * 4294967296 / Y := by
    rw [Nat.le_div_iff_mul_le hY]; omega
  have := h.low
  omega
theorem Dig.far {Y Y1 Y0 U q r : Nat} (h : Dig Y Y1 Y0 U q r) (hq : q ≤ 4294967296) (hr : 4294967296 ≤ r) : q = U * 4294967296 / Y := by
  refine h.stop ?_
  have h1 : q * Y0 ≤ 4294967296 * 4294967296 := Nat.mul_le_mul hq (Nat.le_of_lt h.y3)
  omega
end Go.Proofs.Ytejlicacndpfpaa

/-! The references' whole numbers and floats: Divide by any number; quotients by any number. -/
namespace Go.Proofs.Ytejlicacndpfpaa
open Go.RowKit

theorem isInt_lt {w : World} {neg : Bool} {A : Option Addr} {n c : Nat} {z : Int} (h : IsInt w neg A n c z) : z.natAbs < Lm.B ^ n := by
  obtain ⟨l, hl, _, _, rfl⟩ := h
  have h1 : (sgnd neg (Lm.lv l)).natAbs = Lm.lv l := by unfold sgnd; split <;> omega
  rw [h1, ← hl.len]
  exact Lm.lv_lt hl.ok
end Go.Proofs.Ytejlicacndpfpaa

/-! The references' floats (polestarref04): the greatest float that is not above a fraction times a power of two. -/
namespace Go.Proofs.Ytejlicacndpfpaa
open Go.RowKit

def qb (P D : Nat) (s : Int) : Bool := decide (P * 2 ^ s.toNat % (D * 2 ^ (-s).toNat) = 0)

end Go.Proofs.Ytejlicacndpfpaa


/-! The references' floats (polestarref04): the quotient. -/
namespace Go.Proofs.Ytejlicacndpfpaa
open Go.RowKit

theorem frozen_alloc {w : World} (o : Obj) {g k : Nat} (h : g < w.heap.size) : (w.alloc o).frozen? ⟨g, k, none⟩ = w.frozen? ⟨g, k, none⟩ :=
  ((Below.refl w.heap.size w).alloc (Nat.le_refl _) o).frozen (p := ⟨g, k, none⟩) h

end Go.Proofs.Ytejlicacndpfpaa

namespace Go.Proofs.Ytejlicacndpfpaa
open Go.RowKit

/-! ### plain -/
/-- The greatest float whose square is not above V. -/
def DnSq (V r : Nat) : Prop := r < Flt.inf ∧ Flt.val r * Flt.val r ≤ V ∧ V < Flt.val (r + 1) * Flt.val (r + 1)
theorem DnSq.unique {V r s : Nat} (h : DnSq V r) (k : DnSq V s) : r = s := by
  have key : ∀ {r s : Nat}, DnSq V r → DnSq V s → ¬ r < s := by
    intro r s h k hlt
    have h1 : Flt.val (r + 1) * Flt.val (r + 1) ≤ Flt.val s * Flt.val s := Nat.mul_le_mul (Flt.val_le hlt) (Flt.val_le hlt)
    have := h.2.2
    have := k.2.1
    omega
  have := key h k
  have := key k h
  omega
/-- What the machine's root may give. -/
def IsSq (x z : Nat) : Prop := z < 2 ^ 64 ∧ (match Ieee.double.sqrt x with | some r => z = r | none => Flt.Nan z)
theorem IsSq.same {x s t : Nat} (h : IsSq x s) (k : IsSq x t) : Flt.Same s t := by
  have a := h.2
  have b := k.2
  cases hf : Ieee.double.sqrt x with
  | some z => rw [hf] at a b; exact .inl (a.trans b.symm)
  | none => rw [hf] at a b; exact .inr ⟨a, b⟩
def Pos (x : Nat) : Prop := Flt.Fin x ∧ Flt.sgn x = false ∧ Flt.rg x ≠ 0
/-- The pair that is told of a root. -/
def IsRoot (x d u : Nat) : Prop :=
  (¬ Pos x → ∃ z, IsSq x z ∧ d = z ∧ u = z) ∧
  (Pos x → ∃ r, DnSq (Flt.val (Flt.rg x) * 2 ^ Flt.K74) r ∧ d = r ∧ u = if Flt.val r * Flt.val r = Flt.val (Flt.rg x) * 2 ^ Flt.K74 then r else r + 1)
theorem IsRoot.same {x d u d' u' : Nat} (h : IsRoot x d u) (k : IsRoot x d' u') : Flt.Same d d' ∧ Flt.Same u u' := by
  by_cases hw : Pos x
  · obtain ⟨r, h1, rfl, rfl⟩ := h.2 hw
    obtain ⟨s, k1, rfl, rfl⟩ := k.2 hw
    have := h1.unique k1
    subst this
    exact ⟨.inl rfl, .inl rfl⟩
  · obtain ⟨z, h1, rfl, rfl⟩ := h.1 hw
    obtain ⟨t, k1, rfl, rfl⟩ := k.1 hw
    exact ⟨h1.same k1, h1.same k1⟩

end Go.Proofs.Ytejlicacndpfpaa

namespace Go.Proofs.Ytejlicacndpfpaa
open Go.RowKit

/-! ### plain -/
/-! ### half, Root -/
/-- The world of the loop: the number, its root so far, the result's place. -/
def RtIn (w : World) (A : Option Addr) (n c k R : Nat) (wx : World) : Prop :=
  ∃ negr Ar nr cr, wx.cell? ⟨R, 0, none⟩ = some (.bool negr) ∧ wx.cell? ⟨R, 1, none⟩ = some (.slice Ar nr cr) ∧ IsInt wx negr Ar nr cr (k : Int) ∧
    wx.cell? ⟨w.heap.size, 0, none⟩ = some (.bool false) ∧ wx.cell? ⟨w.heap.size, 1, none⟩ = some (.slice A n c) ∧
    wx.cell? ⟨w.heap.size + 1, 0, none⟩ = some (.bool false) ∧ wx.cell? ⟨w.heap.size + 1, 1, none⟩ = some (.slice none 0 0) ∧ R < wx.heap.size ∧ w.heap.size + 1 < R ∧ Below w.heap.size w wx ∧
    wx.frozen? ⟨R, 0, none⟩ = false ∧ wx.frozen? ⟨R, 1, none⟩ = false ∧ wx.frozen? ⟨w.heap.size + 1, 0, none⟩ = false ∧ wx.frozen? ⟨w.heap.size + 1, 1, none⟩ = false
theorem RtIn.set {w wx : World} {A : Option Addr} {n c k R : Nat} {b0 : Bool} {a0 : Option Addr} {n0 c0 : Nat} {neg' : Bool} {A' : Option Addr} {n' c' : Nat}
    (hI : IsInt wx neg' A' n' c' (k : Int)) (h0 : wx.cell? ⟨R, 0, none⟩ = some (.bool b0)) (h1 : wx.cell? ⟨R, 1, none⟩ = some (.slice a0 n0 c0))
    (x0 : wx.cell? ⟨w.heap.size, 0, none⟩ = some (.bool false)) (x1 : wx.cell? ⟨w.heap.size, 1, none⟩ = some (.slice A n c))
    (x2 : wx.cell? ⟨w.heap.size + 1, 0, none⟩ = some (.bool false)) (x3 : wx.cell? ⟨w.heap.size + 1, 1, none⟩ = some (.slice none 0 0)) (hR : R < wx.heap.size) (hs : w.heap.size + 1 < R) (hb : Below w.heap.size w wx)
    (f0 : wx.frozen? ⟨R, 0, none⟩ = false) (f1 : wx.frozen? ⟨R, 1, none⟩ = false) (f2 : wx.frozen? ⟨w.heap.size + 1, 0, none⟩ = false) (f3 : wx.frozen? ⟨w.heap.size + 1, 1, none⟩ = false) :
    RtIn w A n c k R ((wx.setCell ⟨R, 0, none⟩ (.bool neg')).setCell ⟨R, 1, none⟩ (.slice A' n' c')) := by
  refine ⟨neg', A', n', c', by simp [go_sem, h0], by simp [go_sem, h1], isInt_result hI h0 h1 _ _, ?_, ?_, ?_, ?_, ?_, hs, below_result hb (by omega) _ _, by simpa using f0, by simpa using f1, by simpa using f2, by simpa using f3⟩
  · exact (cell_far wx R _ _ ⟨w.heap.size, 0, none⟩ (show ¬ w.heap.size = R by omega)).trans x0
  · exact (cell_far wx R _ _ ⟨w.heap.size, 1, none⟩ (show ¬ w.heap.size = R by omega)).trans x1
  · exact (cell_far wx R _ _ ⟨w.heap.size + 1, 0, none⟩ (show ¬ w.heap.size + 1 = R by omega)).trans x2
  · exact (cell_far wx R _ _ ⟨w.heap.size + 1, 1, none⟩ (show ¬ w.heap.size + 1 = R by omega)).trans x3
  · simpa [World.setCell] using hR
theorem RtIn.new {w wx : World} {A : Option Addr} {n c k : Nat} {neg' : Bool} {A' : Option Addr} {n' c' : Nat} (t : TypeId)
    (hI : IsInt wx neg' A' n' c' (k : Int))
    (x0 : wx.cell? ⟨w.heap.size, 0, none⟩ = some (.bool false)) (x1 : wx.cell? ⟨w.heap.size, 1, none⟩ = some (.slice A n c))
    (x2 : wx.cell? ⟨w.heap.size + 1, 0, none⟩ = some (.bool false)) (x3 : wx.cell? ⟨w.heap.size + 1, 1, none⟩ = some (.slice none 0 0)) (hs : w.heap.size + 1 < wx.heap.size) (hb : Below w.heap.size w wx) (f2 : wx.frozen? ⟨w.heap.size + 1, 0, none⟩ = false) (f3 : wx.frozen? ⟨w.heap.size + 1, 1, none⟩ = false) :
    RtIn w A n c k wx.heap.size (wx.alloc (.cells #[.bool neg', .slice A' n' c'] t)) :=
  ⟨neg', A', n', c', by simp [go_sem], by simp [go_sem], hI.alloc _, cell_alloc _ _ (by omega) x0, cell_alloc _ _ (by omega) x1, cell_alloc _ _ (by omega) x2, cell_alloc _ _ (by omega) x3, by simp, hs, hb.alloc hb.size _, by simp [go_sem], by simp [go_sem], (frozen_alloc _ (by omega)).trans f2, (frozen_alloc _ (by omega)).trans f3⟩
end Go.Proofs.Ytejlicacndpfpaa

namespace Go.Proofs.Ytejlicacndpfpaa
open Go.RowKit

/-- Limbs that are worth X, the last one not 0. -/
def Lv (w : World) (A : Option Addr) (n c X : Nat) : Prop := ∃ l, Sl w A n c l ∧ Lm.canon l ∧ Lm.lv l = X
theorem Lv.below {w w' : World} {A : Option Addr} {n c X : Nat} (h : Lv w A n c X) (hb : Below w.heap.size w w') : Lv w' A n c X := by
  obtain ⟨l, h1, h2⟩ := h
  exact ⟨l, h1.below hb, h2⟩
theorem Lv.drewN {w : World} {A : Option Addr} {n c X : Nat} (h : Lv w A n c X) (j : Nat) : Lv (w.drewN j) A n c X := h.below (below_drewN (Below.refl _ _) j)
theorem Lv.zero {w : World} {A : Option Addr} {n c X : Nat} (h : Lv w A n c X) : n = 0 ↔ X = 0 := by
  obtain ⟨l, h1, h2, rfl⟩ := h
  rw [Lm.lv_zero h2, ← h1.len]
  exact List.length_eq_zero_iff
theorem Lv.lt {w : World} {A : Option Addr} {n c X : Nat} (h : Lv w A n c X) : X < 2 ^ (32 * n) := by
  obtain ⟨l, h1, h2, rfl⟩ := h
  have := Lm.lv_lt h1.ok
  rw [h1.len] at this
  rw [Nat.pow_mul]
  exact this
theorem lv_of_int {w : World} {neg : Bool} {A : Option Addr} {n c : Nat} {z : Int} (h : IsInt w neg A n c z) : Lv w A n c z.natAbs := by
  obtain ⟨l, h1, h2, _, rfl⟩ := h
  refine ⟨l, h1, h2, ?_⟩
  unfold sgnd
  split <;> omega
theorem Lv.int {w : World} {A : Option Addr} {n c X : Nat} (h : Lv w A n c X) : IsInt w false A n c (X : Int) := by
  obtain ⟨l, h1, h2, rfl⟩ := h
  exact ⟨l, h1, h2, fun _ => rfl, rfl⟩
end Go.Proofs.Ytejlicacndpfpaa
