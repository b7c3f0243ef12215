/-
  Cells that a walk keeps: a list of them, carried from call to call.
-/
import Derived.Test.YtdmdaoginojalaaGreatDoorZero
namespace Go.Proofs.YtdmdaoginojalaaGreatDoor
open Go.RowKit

/-- The world is the old one below, and the cells hold these values. -/
def Kept (w : World) (l : List (Nat × Nat × Value)) (wr : World) : Prop :=
  Below w.heap.size w wr ∧ (∀ c ∈ l, c.1 < wr.heap.size) ∧ ∀ c ∈ l, wr.cell? ⟨c.1, c.2.1, none⟩ = some c.2.2
theorem Kept.nil (w : World) : Kept w [] w := ⟨Below.refl _ _, fun c hc => absurd hc (by simp), fun c hc => absurd hc (by simp)⟩
theorem Kept.next {w wr w' : World} {l : List (Nat × Nat × Value)} (h : Kept w l wr) (hb : Below wr.heap.size wr w') : Kept w l w' := by
  refine ⟨below_next h.1 hb, fun c hc => ?_, fun c hc => ?_⟩
  · have := h.2.1 c hc
    have := hb.size
    omega
  · rw [(bcell hb).1 _ _ (h.2.1 c hc)]
    exact h.2.2 c hc
theorem Kept.drewN {w wr : World} {l : List (Nat × Nat × Value)} (h : Kept w l wr) (n : Nat) : Kept w l (wr.drewN n) := ⟨below_drewN h.1 n, h.2.1, h.2.2⟩
theorem Kept.drew {w wr : World} {l : List (Nat × Nat × Value)} (h : Kept w l wr) : Kept w l wr.drew := ⟨⟨h.1.os, h.1.tape, h.1.output, h.1.size, h.1.block⟩, h.2.1, h.2.2⟩
theorem Kept.box {w wr : World} {l : List (Nat × Nat × Value)} (h : Kept w l wr) (o : Obj) : Kept w l (wr.alloc o) := by
  refine ⟨h.1.alloc h.1.size _, fun c hc => ?_, fun c hc => ?_⟩
  · have := h.2.1 c hc
    simp
    omega
  · rw [World.cell?_alloc_lt wr (a := ⟨c.1, _, none⟩) (h := h.2.1 c hc)]
    exact h.2.2 c hc
theorem Kept.two {w wr : World} {l : List (Nat × Nat × Value)} (h : Kept w l wr) {g : Nat} (hg : wr.heap.size = g) (u v : Value) (t : TypeId) :
    Kept w ((g, 0, u) :: (g, 1, v) :: l) (wr.alloc (.cells #[u, v] t)) := by
  subst hg
  have k := h.box (.cells #[u, v] t)
  refine ⟨k.1, fun c hc => ?_, fun c hc => ?_⟩
  · rw [List.mem_cons, List.mem_cons] at hc
    rcases hc with rfl | rfl | hc
    · simp
    · simp
    · exact k.2.1 c hc
  · rw [List.mem_cons, List.mem_cons] at hc
    rcases hc with rfl | rfl | hc
    · simp [go_sem]
    · simp [go_sem]
    · exact k.2.2 c hc
theorem Kept.one {w wr : World} {l : List (Nat × Nat × Value)} (h : Kept w l wr) {g : Nat} (hg : wr.heap.size = g) (u : Value) (t : TypeId) :
    Kept w ((g, 0, u) :: l) (wr.alloc (.cells #[u] t)) := by
  subst hg
  have k := h.box (.cells #[u] t)
  refine ⟨k.1, fun c hc => ?_, fun c hc => ?_⟩
  · rw [List.mem_cons] at hc
    rcases hc with rfl | hc
    · simp
    · exact k.2.1 c hc
  · rw [List.mem_cons] at hc
    rcases hc with rfl | hc
    · simp [go_sem]
    · exact k.2.2 c hc
end Go.Proofs.YtdmdaoginojalaaGreatDoor
