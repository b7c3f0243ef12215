/-
  Spans: the walks of package span and of its reference (floats alone).
  The references' spans (polestarref05): the least and the greatest of some fractions.
  Spans: products (span.Mul).
  Cells that a walk keeps: a list of them, carried from call to call.
-/
import Derived.Test.YtjcjphgpmpjmbaaDoorSpnP
import Derived.Test.YtjcjphgpmpjmbaaDoorFrR
import Derived.Test.YtjcjphgpmpjmbaaDoorFrf
import Derived.Test.YtjcjphgpmpjmbaaDoorRoot
import Derived.Test.YtjcjphgpmpjmbaaDoorSpnR
import Derived.Test.YtjcjphgpmpjmbaaDoorZero
namespace Go.Proofs.YtjcjphgpmpjmbaaDoor
open Go.RowKit

/-- Spans in memory, one behind the other. -/
def InSpans (w : World) (g : Nat) (l : List (Nat × Nat)) : Prop :=
  g < w.heap.size ∧ ∀ i (h : i < l.length), w.cell? ⟨g, i * 2, none⟩ = some (.float .f64 l[i].1) ∧ w.cell? ⟨g, i * 2 + 1, none⟩ = some (.float .f64 l[i].2) ∧ l[i].1 < 2 ^ 64 ∧ l[i].2 < 2 ^ 64

end Go.Proofs.YtjcjphgpmpjmbaaDoor

namespace Go.Proofs.YtjcjphgpmpjmbaaDoor
open Go.RowKit

/-- A fraction in memory: its two numbers' values, and what it is worth. -/
abbrev FrE := (Bool × Option Addr × Nat × Nat) × (Bool × Option Addr × Nat × Nat) × Rat
def FrE.vs (f : FrE) : List Value := [.bool f.1.1, .slice f.1.2.1 f.1.2.2.1 f.1.2.2.2, .bool f.2.1.1, .slice f.2.1.2.1 f.2.1.2.2.1 f.2.1.2.2.2]
def FrE.at_ (wr : World) (f : FrE) : Prop := IsInt wr f.1.1 f.1.2.1 f.1.2.2.1 f.1.2.2.2 f.2.2.num ∧ IsInt wr f.2.1.1 f.2.1.2.1 f.2.1.2.2.1 f.2.1.2.2.2 (f.2.2.den : Int)
/-- A block that holds fractions. -/
def Frs (wr : World) (g N : Nat) (F : Nat → FrE) : Prop :=
  g < wr.heap.size ∧ ∀ i, i < N → (wr.cell? ⟨g, i * 4, none⟩ = some (.bool (F i).1.1) ∧ wr.cell? ⟨g, i * 4 + 1, none⟩ = some (.slice (F i).1.2.1 (F i).1.2.2.1 (F i).1.2.2.2) ∧
    wr.cell? ⟨g, i * 4 + 2, none⟩ = some (.bool (F i).2.1.1) ∧ wr.cell? ⟨g, i * 4 + 3, none⟩ = some (.slice (F i).2.1.2.1 (F i).2.1.2.2.1 (F i).2.1.2.2.2)) ∧ FrE.at_ wr (F i)
theorem Frs.next {wr w' : World} {g N : Nat} {F : Nat → FrE} (h : Frs wr g N F) (hb : Below wr.heap.size wr w') : Frs w' g N F := by
  refine ⟨Nat.lt_of_lt_of_le h.1 hb.size, fun i hi => ?_⟩
  obtain ⟨⟨h0, h1, h2, h3⟩, h4⟩ := h.2 i hi
  obtain ⟨hc, _⟩ := bcell hb
  exact ⟨⟨(hc _ _ h.1).trans h0, (hc _ _ h.1).trans h1, (hc _ _ h.1).trans h2, (hc _ _ h.1).trans h3⟩, h4.1.below hb, h4.2.below hb⟩
theorem Frs.drewN {wr : World} {g N : Nat} {F : Nat → FrE} (h : Frs wr g N F) (j : Nat) : Frs (wr.drewN j) g N F := h.next (below_drewN (Below.refl _ _) j)
theorem Frs.store {wr : World} {g N : Nat} {F : Nat → FrE} (h : Frs wr g N F) {g' j : Nat} (hne : g' ≠ g) {u : Value} (hc : wr.cell? ⟨g', j, none⟩ = some u) (hu : ∀ x, u ≠ .int .u32 x) (v : Value) : Frs (wr.setCell ⟨g', j, none⟩ v) g N F := by
  have far : ∀ o, (wr.setCell ⟨g', j, none⟩ v).cell? ⟨g, o, none⟩ = wr.cell? ⟨g, o, none⟩ := fun o => World.cell?_setCell_other wr ⟨g', j, none⟩ ⟨g, o, none⟩ _ (by intro q; injection q with q; exact hne q)
  refine ⟨by simpa [World.setCell] using h.1, fun i hi => ?_⟩
  obtain ⟨⟨h0, h1, h2, h3⟩, h4⟩ := h.2 i hi
  exact ⟨⟨(far _).trans h0, (far _).trans h1, (far _).trans h2, (far _).trans h3⟩, IsInt.store h4.1 v hc hu, IsInt.store h4.2 v hc hu⟩
def FrE.val (f : FrE) : Value := .agg #[.bool f.1.1, .slice f.1.2.1 f.1.2.2.1 f.1.2.2.2, .bool f.2.1.1, .slice f.2.1.2.1 f.2.1.2.2.1 f.2.1.2.2.2]
end Go.Proofs.YtjcjphgpmpjmbaaDoor

namespace Go.Proofs.YtjcjphgpmpjmbaaDoor
open Go.RowKit

/-! ### the memory of an operation's walk -/
/-- The operands' cells. -/
def Opnd (w : World) (la ha lb hb : Nat) (wr : World) : Prop :=
  (wr.cell? ⟨w.heap.size, 0, none⟩ = some (.float .f64 la) ∧ wr.cell? ⟨w.heap.size, 1, none⟩ = some (.float .f64 ha) ∧ wr.cell? ⟨w.heap.size + 1, 0, none⟩ = some (.float .f64 lb) ∧ wr.cell? ⟨w.heap.size + 1, 1, none⟩ = some (.float .f64 hb)) ∧
  (wr.cell? ⟨w.heap.size + 1 + 1, 0, none⟩ = some (.float .f64 0) ∧ wr.cell? ⟨w.heap.size + 1 + 1, 1, none⟩ = some (.float .f64 0) ∧ wr.frozen? ⟨w.heap.size + 1 + 1, 0, none⟩ = false ∧ wr.frozen? ⟨w.heap.size + 1 + 1, 1, none⟩ = false) ∧
  w.heap.size + 1 + 1 < wr.heap.size ∧ Below w.heap.size w wr
theorem Opnd.next {w wr w' : World} {la ha lb hb : Nat} (h : Opnd w la ha lb hb wr) (hb' : Below wr.heap.size wr w') : Opnd w la ha lb hb w' := by
  obtain ⟨⟨a1, a2, a3, a4⟩, ⟨a5, a6, a7, a8⟩, hs, hw⟩ := h
  obtain ⟨hc, hf⟩ := bcell hb'
  refine ⟨⟨(hc _ _ (by omega)).trans a1, (hc _ _ (by omega)).trans a2, (hc _ _ (by omega)).trans a3, (hc _ _ (by omega)).trans a4⟩,
    ⟨(hc _ _ (by omega)).trans a5, (hc _ _ (by omega)).trans a6, (hf _ _ (by omega)).trans a7, (hf _ _ (by omega)).trans a8⟩, ?_, below_next hw hb'⟩
  have := hb'.size
  omega
theorem Opnd.new (w : World) (la ha lb hb : Nat) (t u v x : TypeId) (C : Array Value) {w1 : World}
    (hb1 : Below ((((w.alloc (.cells #[.float .f64 la, .float .f64 ha] t)).alloc (.cells #[.float .f64 lb, .float .f64 hb] u)).alloc (.cells #[.float .f64 0, .float .f64 0] v)).alloc (.cells C x)).heap.size
      ((((w.alloc (.cells #[.float .f64 la, .float .f64 ha] t)).alloc (.cells #[.float .f64 lb, .float .f64 hb] u)).alloc (.cells #[.float .f64 0, .float .f64 0] v)).alloc (.cells C x)) w1) : Opnd w la ha lb hb w1 := by
  obtain ⟨hc1, hf1⟩ := bcell hb1
  refine ⟨⟨?_, ?_, ?_, ?_⟩, ⟨?_, ?_, ?_, ?_⟩, ?_, below_box (below_box (below_box (below_box hb1)))⟩
  · rw [hc1 w.heap.size 0 (by simp <;> omega)]; simp [go_sem]
  · rw [hc1 w.heap.size 1 (by simp <;> omega)]; simp [go_sem]
  · rw [hc1 (w.heap.size + 1) 0 (by simp <;> omega)]; simp [go_sem]
  · rw [hc1 (w.heap.size + 1) 1 (by simp <;> omega)]; simp [go_sem]
  · rw [hc1 (w.heap.size + 1 + 1) 0 (by simp <;> omega)]; simp [go_sem]
  · rw [hc1 (w.heap.size + 1 + 1) 1 (by simp <;> omega)]; simp [go_sem]
  · rw [hf1 (w.heap.size + 1 + 1) 0 (by simp <;> omega)]; simp [go_sem]
  · rw [hf1 (w.heap.size + 1 + 1) 1 (by simp <;> omega)]; simp [go_sem]
  · have := hb1.size; simp at this; omega
end Go.Proofs.YtjcjphgpmpjmbaaDoor

namespace Go.Proofs.YtjcjphgpmpjmbaaDoor
open Go.RowKit

/-- The world is the old one below, and the cells hold these values. -/
def Kept (w : World) (l : List (Nat × Nat × Value)) (wr : World) : Prop :=
  Below w.heap.size w wr ∧ (∀ c ∈ l, c.1 < wr.heap.size) ∧ ∀ c ∈ l, wr.cell? ⟨c.1, c.2.1, none⟩ = some c.2.2
theorem Kept.nil (w : World) : Kept w [] w := ⟨Below.refl _ _, fun c hc => absurd hc (by simp), fun c hc => absurd hc (by simp)⟩
theorem Kept.next {w wr w' : World} {l : List (Nat × Nat × Value)} (h : Kept w l wr) (hb : Below wr.heap.size wr w') : Kept w l w' := by
  refine ⟨below_next h.1 hb, fun c hc => ?_, fun c hc => ?_⟩
  · have := h.2.1 c hc
    have := hb.size
    omega
  · rw [(bcell hb).1 _ _ (h.2.1 c hc)]
    exact h.2.2 c hc
theorem Kept.drewN {w wr : World} {l : List (Nat × Nat × Value)} (h : Kept w l wr) (n : Nat) : Kept w l (wr.drewN n) := ⟨below_drewN h.1 n, h.2.1, h.2.2⟩
theorem Kept.drew {w wr : World} {l : List (Nat × Nat × Value)} (h : Kept w l wr) : Kept w l wr.drew := ⟨⟨h.1.os, h.1.tape, h.1.output, h.1.size, h.1.block⟩, h.2.1, h.2.2⟩
theorem Kept.box {w wr : World} {l : List (Nat × Nat × Value)} (h : Kept w l wr) (o : Obj) : Kept w l (wr.alloc o) := by
  refine ⟨h.1.alloc h.1.size _, fun c hc => ?_, fun c hc => ?_⟩
  · have := h.2.1 c hc
    simp
    omega
  · rw [World.cell?_alloc_lt wr (a := ⟨c.1, _, none⟩) (h := h.2.1 c hc)]
    exact h.2.2 c hc
theorem Kept.two {w wr : World} {l : List (Nat × Nat × Value)} (h : Kept w l wr) {g : Nat} (hg : wr.heap.size = g) (u v : Value) (t : TypeId) :
    Kept w ((g, 0, u) :: (g, 1, v) :: l) (wr.alloc (.cells #[u, v] t)) := by
  subst hg
  have k := h.box (.cells #[u, v] t)
  refine ⟨k.1, fun c hc => ?_, fun c hc => ?_⟩
  · rw [List.mem_cons, List.mem_cons] at hc
    rcases hc with rfl | rfl | hc
    · simp
    · simp
    · exact k.2.1 c hc
  · rw [List.mem_cons, List.mem_cons] at hc
    rcases hc with rfl | rfl | hc
    · simp [go_sem]
    · simp [go_sem]
    · exact k.2.2 c hc
theorem Kept.one {w wr : World} {l : List (Nat × Nat × Value)} (h : Kept w l wr) {g : Nat} (hg : wr.heap.size = g) (u : Value) (t : TypeId) :
    Kept w ((g, 0, u) :: l) (wr.alloc (.cells #[u] t)) := by
  subst hg
  have k := h.box (.cells #[u] t)
  refine ⟨k.1, fun c hc => ?_, fun c hc => ?_⟩
  · rw [List.mem_cons] at hc
    rcases hc with rfl | hc
    · simp
    · exact k.2.1 c hc
  · rw [List.mem_cons] at hc
    rcases hc with rfl | hc
    · simp [go_sem]
    · exact k.2.2 c hc
end Go.Proofs.YtjcjphgpmpjmbaaDoor
