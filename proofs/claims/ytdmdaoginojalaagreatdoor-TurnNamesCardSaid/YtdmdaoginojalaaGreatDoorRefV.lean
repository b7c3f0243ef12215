/-
  The references whole numbers (polestarref01): shifts, bits, quotients.
-/
import Derived.Test.YtdmdaoginojalaaGreatDoorRefU
import Derived.Test.YtdmdaoginojalaaGreatDoorZero
/-! The references' whole numbers (polestarref01): differences, products. -/
namespace Go.Proofs.YtdmdaoginojalaaGreatDoor
open Go.RowKit

theorem IsInt.drewN {w : World} {neg : Bool} {A : Option Addr} {n c : Nat} {z : Int} (h : IsInt w neg A n c z) (k : Nat) : IsInt (w.drewN k) neg A n c z := h

end Go.Proofs.YtdmdaoginojalaaGreatDoor




/-! The references' whole numbers (polestarref01): bits; halved so many times. -/
namespace Go.Proofs.YtdmdaoginojalaaGreatDoor
open Go.RowKit

theorem Sl.cut {w : World} {n c : Nat} {A : Option Addr} {l : List Nat} (h : Sl w A n c l) {k : Nat} (hk : k ≤ n) : Sl w (if c = k then A else A.map (·.add k)) (n - k) (c - k) (l.drop k) :=
  ⟨by have := h.1.cut (cap := c) hk h.cap; unfold u32s at this ⊢; rwa [List.map_drop], by have := h.cap; omega, Lm.ok_drop h.ok k⟩

end Go.Proofs.YtdmdaoginojalaaGreatDoor

/-! The references' whole numbers (polestarref01): quotients: by one limb; what the call answers. -/
namespace Go.Proofs.YtdmdaoginojalaaGreatDoor
open Go.RowKit

theorem cell_far (w : World) (g : Nat) (u v : Value) (p : Addr) (h : ¬ p.block = g) : ((w.setCell ⟨g, 0, none⟩ u).setCell ⟨g, 1, none⟩ v).cell? p = w.cell? p := by
  rw [World.cell?_setCell_other _ ⟨g, 1, none⟩ p v (by rintro rfl; exact h rfl), World.cell?_setCell_other _ ⟨g, 0, none⟩ p u (by rintro rfl; exact h rfl)]
end Go.Proofs.YtdmdaoginojalaaGreatDoor
