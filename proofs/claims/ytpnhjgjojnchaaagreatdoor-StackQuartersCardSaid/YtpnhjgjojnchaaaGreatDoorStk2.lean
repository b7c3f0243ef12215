/-
  Films by floats: lists of coats; what all calls refuse first (stack.check, polestarref19.Check).
-/
import Derived.Test.YtpnhjgjojnchaaaGreatDoorStk1
namespace Go.Proofs.YtpnhjgjojnchaaaGreatDoor
open Go.RowKit

abbrev Coat := Nat × Int × Int
/-- The slice value reads as coats. -/
def Cs (w : World) (A : Option Addr) (n : Nat) (C : Nat → Coat) : Prop :=
  0 < n → ∃ g o, A = some ⟨g, o, none⟩ ∧ g < w.heap.size ∧ ∀ i, i < n → w.cell? ⟨g, o + i * 3, none⟩ = some (.float .f64 (C i).1) ∧ w.cell? ⟨g, o + i * 3 + 1, none⟩ = some (.int .i64 (C i).2.1) ∧ w.cell? ⟨g, o + i * 3 + 2, none⟩ = some (.int .i64 (C i).2.2) ∧ (C i).1 < 2 ^ 64
theorem Cs.below {w w' : World} {A : Option Addr} {n : Nat} {C : Nat → Coat} (h : Cs w A n C) (hb : Below w.heap.size w w') : Cs w' A n C := fun h0 => by
  obtain ⟨g, o, rfl, hg, hc⟩ := h h0
  obtain ⟨bc, _⟩ := bcell hb
  exact ⟨g, o, rfl, Nat.lt_of_lt_of_le hg hb.size, fun i hi => ⟨(bc _ _ hg).trans (hc i hi).1, (bc _ _ hg).trans (hc i hi).2.1, (bc _ _ hg).trans (hc i hi).2.2.1, (hc i hi).2.2.2⟩⟩
theorem Cs.drewN {w : World} {A : Option Addr} {n : Nat} {C : Nat → Coat} (h : Cs w A n C) (k : Nat) : Cs (w.drewN k) A n C := h.below (below_drewN (Below.refl _ _) k)
end Go.Proofs.YtpnhjgjojnchaaaGreatDoor
