/-
  The references' whole numbers (polestarref01): the greatest number that goes into both, by halving.
-/
import Derived.Test.YtdmdaoginojalaaGreatDoorMem
import Derived.Test.YtdmdaoginojalaaGreatDoorFrp
import Derived.Test.YtdmdaoginojalaaGreatDoorRootR
namespace Go.Proofs.YtdmdaoginojalaaGreatDoor
open Go.RowKit

/-- Limbs that are worth X, the last one not 0. -/
def Lv (w : World) (A : Option Addr) (n c X : Nat) : Prop := ∃ l, Sl w A n c l ∧ Lm.canon l ∧ Lm.lv l = X
theorem Lv.below {w w' : World} {A : Option Addr} {n c X : Nat} (h : Lv w A n c X) (hb : Below w.heap.size w w') : Lv w' A n c X := by
  obtain ⟨l, h1, h2⟩ := h
  exact ⟨l, h1.below hb, h2⟩
theorem Lv.drewN {w : World} {A : Option Addr} {n c X : Nat} (h : Lv w A n c X) (j : Nat) : Lv (w.drewN j) A n c X := h.below (below_drewN (Below.refl _ _) j)
theorem Lv.zero {w : World} {A : Option Addr} {n c X : Nat} (h : Lv w A n c X) : n = 0 ↔ X = 0 := by
  obtain ⟨l, h1, h2, rfl⟩ := h
  rw [Lm.lv_zero h2, ← h1.len]
  exact List.length_eq_zero_iff
theorem Lv.lt {w : World} {A : Option Addr} {n c X : Nat} (h : Lv w A n c X) : X < 2 ^ (32 * n) := by
  obtain ⟨l, h1, h2, rfl⟩ := h
  have := Lm.lv_lt h1.ok
  rw [h1.len] at this
  rw [Nat.pow_mul]
  exact this
theorem Lv.int {w : World} {A : Option Addr} {n c X : Nat} (h : Lv w A n c X) : IsInt w false A n c (X : Int) := by
  obtain ⟨l, h1, h2, rfl⟩ := h
  exact ⟨l, h1, h2, fun _ => rfl, rfl⟩
end Go.Proofs.YtdmdaoginojalaaGreatDoor
