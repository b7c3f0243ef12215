/-
  Spans, plainly: what is done to greater spans.
-/
import Derived.Test.YtdmdaoginojalaaGreatDoorSpnR
namespace Go.Proofs.YtdmdaoginojalaaGreatDoor
open Go.RowKit

/-! ### products of what lies between -/
def mulC (la ha lb hb : Nat) : List (Int × Nat) :=
  [(Flt.sv la * Flt.sv lb, 2 ^ Flt.K74), (Flt.sv la * Flt.sv hb, 2 ^ Flt.K74), (Flt.sv ha * Flt.sv lb, 2 ^ Flt.K74), (Flt.sv ha * Flt.sv hb, 2 ^ Flt.K74)]
def quoC (la ha lb hb : Nat) : List (Int × Nat) :=
  [(qn la lb, Flt.val (Flt.rg lb)), (qn la hb, Flt.val (Flt.rg hb)), (qn ha lb, Flt.val (Flt.rg lb)), (qn ha hb, Flt.val (Flt.rg hb))]
theorem mulC_dens (la ha lb hb : Nat) : Dens (mulC la ha lb hb) := by
  intro c hc
  have hp : 0 < 2 ^ Flt.K74 := Nat.two_pow_pos _
  simp only [mulC, List.mem_cons, List.not_mem_nil, or_false] at hc
  rcases hc with rfl | rfl | rfl | rfl <;> exact hp
/-! ### quotients -/
/-- Both ends on the same side of nought. -/
def Side (lb hb : Nat) : Prop := 0 < Flt.sv lb ∧ 0 < Flt.sv hb ∨ Flt.sv lb < 0 ∧ Flt.sv hb < 0
theorem mem4 {α : Type} {a b c d x : α} (h : x = a ∨ x = b ∨ x = c ∨ x = d) : x ∈ [a, b, c, d] := by simpa using h
theorem side_rg {lb hb : Nat} (h : Side lb hb) : Flt.rg lb ≠ 0 ∧ Flt.rg hb ≠ 0 := by
  constructor <;> (intro k; have := Flt.sv_zero_iff.2 k; unfold Side at h; omega)
/-! ### sums, squares -/
end Go.Proofs.YtdmdaoginojalaaGreatDoor
