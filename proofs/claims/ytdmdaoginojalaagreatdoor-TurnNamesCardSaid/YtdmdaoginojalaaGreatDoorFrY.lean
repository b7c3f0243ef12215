/-
  The references' spans (polestarref05): the least and the greatest of some fractions.
-/
import Derived.Test.YtdmdaoginojalaaGreatDoorCom
import Derived.Test.YtdmdaoginojalaaGreatDoorFrp
import Derived.Test.YtdmdaoginojalaaGreatDoorFlt
import Derived.Test.YtdmdaoginojalaaGreatDoorRefX
import Derived.Test.YtdmdaoginojalaaGreatDoorSpnR
import Derived.Test.YtdmdaoginojalaaGreatDoorSpnW
import Derived.Test.YtdmdaoginojalaaGreatDoorSpnA
namespace Go.Proofs.YtdmdaoginojalaaGreatDoor
open Go.RowKit

/-- A fraction in memory: its two numbers' values, and what it is worth. -/
abbrev FrE := (Bool × Option Addr × Nat × Nat) × (Bool × Option Addr × Nat × Nat) × Rat
def FrE.vs (f : FrE) : List Value := [.bool f.1.1, .slice f.1.2.1 f.1.2.2.1 f.1.2.2.2, .bool f.2.1.1, .slice f.2.1.2.1 f.2.1.2.2.1 f.2.1.2.2.2]
def FrE.at_ (wr : World) (f : FrE) : Prop := IsInt wr f.1.1 f.1.2.1 f.1.2.2.1 f.1.2.2.2 f.2.2.num ∧ IsInt wr f.2.1.1 f.2.1.2.1 f.2.1.2.2.1 f.2.1.2.2.2 (f.2.2.den : Int)
/-- A block that holds fractions. -/
def Frs (wr : World) (g N : Nat) (F : Nat → FrE) : Prop :=
  g < wr.heap.size ∧ ∀ i, i < N → (wr.cell? ⟨g, i * 4, none⟩ = some (.bool (F i).1.1) ∧ wr.cell? ⟨g, i * 4 + 1, none⟩ = some (.slice (F i).1.2.1 (F i).1.2.2.1 (F i).1.2.2.2) ∧
    wr.cell? ⟨g, i * 4 + 2, none⟩ = some (.bool (F i).2.1.1) ∧ wr.cell? ⟨g, i * 4 + 3, none⟩ = some (.slice (F i).2.1.2.1 (F i).2.1.2.2.1 (F i).2.1.2.2.2)) ∧ FrE.at_ wr (F i)
theorem Frs.next {wr w' : World} {g N : Nat} {F : Nat → FrE} (h : Frs wr g N F) (hb : Below wr.heap.size wr w') : Frs w' g N F := by
  refine ⟨Nat.lt_of_lt_of_le h.1 hb.size, fun i hi => ?_⟩
  obtain ⟨⟨h0, h1, h2, h3⟩, h4⟩ := h.2 i hi
  obtain ⟨hc, _⟩ := bcell hb
  exact ⟨⟨(hc _ _ h.1).trans h0, (hc _ _ h.1).trans h1, (hc _ _ h.1).trans h2, (hc _ _ h.1).trans h3⟩, h4.1.below hb, h4.2.below hb⟩
theorem Frs.drewN {wr : World} {g N : Nat} {F : Nat → FrE} (h : Frs wr g N F) (j : Nat) : Frs (wr.drewN j) g N F := h.next (below_drewN (Below.refl _ _) j)
theorem Frs.store {wr : World} {g N : Nat} {F : Nat → FrE} (h : Frs wr g N F) {g' j : Nat} (hne : g' ≠ g) {u : Value} (hc : wr.cell? ⟨g', j, none⟩ = some u) (hu : ∀ x, u ≠ .int .u32 x) (v : Value) : Frs (wr.setCell ⟨g', j, none⟩ v) g N F := by
  have far : ∀ o, (wr.setCell ⟨g', j, none⟩ v).cell? ⟨g, o, none⟩ = wr.cell? ⟨g, o, none⟩ := fun o => World.cell?_setCell_other wr ⟨g', j, none⟩ ⟨g, o, none⟩ _ (by intro q; injection q with q; exact hne q)
  refine ⟨by simpa [World.setCell] using h.1, fun i hi => ?_⟩
  obtain ⟨⟨h0, h1, h2, h3⟩, h4⟩ := h.2 i hi
  exact ⟨⟨(far _).trans h0, (far _).trans h1, (far _).trans h2, (far _).trans h3⟩, IsInt.store h4.1 v hc hu, IsInt.store h4.2 v hc hu⟩
def FrE.val (f : FrE) : Value := .agg #[.bool f.1.1, .slice f.1.2.1 f.1.2.2.1 f.1.2.2.2, .bool f.2.1.1, .slice f.2.1.2.1 f.2.1.2.2.1 f.2.1.2.2.2]
end Go.Proofs.YtdmdaoginojalaaGreatDoor
