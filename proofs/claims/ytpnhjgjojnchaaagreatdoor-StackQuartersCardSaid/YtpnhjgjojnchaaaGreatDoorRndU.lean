/-
  Floats rounded down and up (round): Two, Next, Add, Sub.
-/
import Derived.Test.YtpnhjgjojnchaaaGreatDoorRefW
/-! Floats beside an exact value: the pair that is told of a fraction, and the pair that a nearest float and what it has lost give. -/
namespace Go.Proofs.YtpnhjgjojnchaaaGreatDoor
open Go.RowKit

def Brk (s : Bool) (num den d u : Nat) : Prop :=
  ∃ r, Flt.Dn num den r ∧ d = (if s then 2 ^ 63 + hiR num den r else r) ∧ u = (if s then 2 ^ 63 + r else hiR num den r)
theorem Brk.unique {s : Bool} {num den d u d' u' : Nat} (h : Brk s num den d u) (k : Brk s num den d' u') : d = d' ∧ u = u' := by
  obtain ⟨r, h1, rfl, rfl⟩ := h
  obtain ⟨r', k1, rfl, rfl⟩ := k
  have := h1.unique k1
  subst this
  exact ⟨rfl, rfl⟩

end Go.Proofs.YtpnhjgjojnchaaaGreatDoor

/-! What is told of a sum. -/
namespace Go.Proofs.YtpnhjgjojnchaaaGreatDoor
open Go.RowKit

def IsSum (x y d u : Nat) : Prop :=
  ∃ s, Flt.IsAdd x y s ∧ ((¬ (Flt.Fin x ∧ Flt.Fin y) ∨ Flt.sv x + Flt.sv y = 0) → d = s ∧ u = s) ∧
    (Flt.Fin x → Flt.Fin y → Flt.sv x + Flt.sv y ≠ 0 → Brk (decide (Flt.sv x + Flt.sv y < 0)) (Flt.sv x + Flt.sv y).natAbs 1 d u)
theorem IsSum.same {x y d u d' u' : Nat} (h : IsSum x y d u) (k : IsSum x y d' u') : Flt.Same d d' ∧ Flt.Same u u' := by
  obtain ⟨s, h1, h2, h3⟩ := h
  obtain ⟨t, k1, k2, k3⟩ := k
  have hst := h1.same k1
  by_cases hc : ¬ (Flt.Fin x ∧ Flt.Fin y) ∨ Flt.sv x + Flt.sv y = 0
  · obtain ⟨rfl, rfl⟩ := h2 hc
    obtain ⟨rfl, rfl⟩ := k2 hc
    exact ⟨hst, hst⟩
  · have hf : Flt.Fin x ∧ Flt.Fin y := by
      by_cases hf : Flt.Fin x ∧ Flt.Fin y
      · exact hf
      · exact absurd (Or.inl hf) hc
    have hz : Flt.sv x + Flt.sv y ≠ 0 := fun e => hc (Or.inr e)
    obtain ⟨rfl, rfl⟩ := (h3 hf.1 hf.2 hz).unique (k3 hf.1 hf.2 hz)
    exact ⟨Or.inl rfl, Or.inl rfl⟩

end Go.Proofs.YtpnhjgjojnchaaaGreatDoor



