/-
  Roots, rounded down and up (round.Sqrt).
-/
import Derived.Test.YtpnhjgjojnchaaaGreatDoorPrdU
namespace Go.Proofs.YtpnhjgjojnchaaaGreatDoor
open Go.RowKit

/-! ### plain -/
/-- The greatest float whose square is not above V. -/
def DnSq (V r : Nat) : Prop := r < Flt.inf ∧ Flt.val r * Flt.val r ≤ V ∧ V < Flt.val (r + 1) * Flt.val (r + 1)
theorem DnSq.unique {V r s : Nat} (h : DnSq V r) (k : DnSq V s) : r = s := by
  have key : ∀ {r s : Nat}, DnSq V r → DnSq V s → ¬ r < s := by
    intro r s h k hlt
    have h1 : Flt.val (r + 1) * Flt.val (r + 1) ≤ Flt.val s * Flt.val s := Nat.mul_le_mul (Flt.val_le hlt) (Flt.val_le hlt)
    have := h.2.2
    have := k.2.1
    omega
  have := key h k
  have := key k h
  omega
/-- What the machine's root may give. -/
def IsSq (x z : Nat) : Prop := z < 2 ^ 64 ∧ (match Ieee.double.sqrt x with | some r => z = r | none => Flt.Nan z)
theorem IsSq.same {x s t : Nat} (h : IsSq x s) (k : IsSq x t) : Flt.Same s t := by
  have a := h.2
  have b := k.2
  cases hf : Ieee.double.sqrt x with
  | some z => rw [hf] at a b; exact .inl (a.trans b.symm)
  | none => rw [hf] at a b; exact .inr ⟨a, b⟩
def Pos (x : Nat) : Prop := Flt.Fin x ∧ Flt.sgn x = false ∧ Flt.rg x ≠ 0
/-- The pair that is told of a root. -/
def IsRoot (x d u : Nat) : Prop :=
  (¬ Pos x → ∃ z, IsSq x z ∧ d = z ∧ u = z) ∧
  (Pos x → ∃ r, DnSq (Flt.val (Flt.rg x) * 2 ^ Flt.K74) r ∧ d = r ∧ u = if Flt.val r * Flt.val r = Flt.val (Flt.rg x) * 2 ^ Flt.K74 then r else r + 1)
theorem IsRoot.same {x d u d' u' : Nat} (h : IsRoot x d u) (k : IsRoot x d' u') : Flt.Same d d' ∧ Flt.Same u u' := by
  by_cases hw : Pos x
  · obtain ⟨r, h1, rfl, rfl⟩ := h.2 hw
    obtain ⟨s, k1, rfl, rfl⟩ := k.2 hw
    have := h1.unique k1
    subst this
    exact ⟨.inl rfl, .inl rfl⟩
  · obtain ⟨z, h1, rfl, rfl⟩ := h.1 hw
    obtain ⟨t, k1, rfl, rfl⟩ := k.1 hw
    exact ⟨h1.same k1, h1.same k1⟩

end Go.Proofs.YtpnhjgjojnchaaaGreatDoor
