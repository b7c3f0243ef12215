/-
  A walk's memory: blocks of the call's own that it keeps track of, whole numbers that stay readable.
-/
import Derived.Test.YtdmdaoginojalaaGreatDoorRefV
namespace Go.Proofs.YtdmdaoginojalaaGreatDoor
open Go.RowKit

abbrev IntAt := Bool × Option Addr × Nat × Nat × Int
def IsAt (wr : World) (p : IntAt) : Prop := IsInt wr p.1 p.2.1 p.2.2.1 p.2.2.2.1 p.2.2.2.2
/-- A block of the call's own: its cells' values, none of them frozen. -/
def Blk (wr : World) (g : Nat) (vs : List Value) : Prop := g < wr.heap.size ∧ ∀ k v, vs[k]? = some v → wr.cell? ⟨g, k, none⟩ = some v ∧ wr.frozen? ⟨g, k, none⟩ = false
theorem Blk.next {wr w' : World} {g : Nat} {vs : List Value} (h : Blk wr g vs) (hb : Below wr.heap.size wr w') : Blk w' g vs :=
  ⟨Nat.lt_of_lt_of_le h.1 hb.size, fun k v hk => ⟨((bcell hb).1 _ _ h.1).trans (h.2 k v hk).1, ((bcell hb).2 _ _ h.1).trans (h.2 k v hk).2⟩⟩
theorem Blk.new (w : World) {g : Nat} (hg : w.heap.size = g) (vs : List Value) (t : TypeId) : Blk (w.alloc (.cells vs.toArray t)) g vs := by
  subst hg
  refine ⟨by simp, fun k v hk => ?_⟩
  have e : (w.alloc (.cells vs.toArray t)).heap[w.heap.size]? = some (.cells vs.toArray t (0, 0)) := heap_alloc_new w _
  refine ⟨?_, ?_⟩
  · rw [cell_of_row _ w.heap.size k vs.toArray t (0, 0) e]
    simpa using hk
  · unfold World.frozen?
    rw [e]
    simp
theorem Blk.far {wr : World} {g g' j : Nat} {vs : List Value} (h : Blk wr g vs) (hne : g' ≠ g) (u : Value) : Blk (wr.setCell ⟨g', j, none⟩ u) g vs := by
  refine ⟨by simpa [World.setCell] using h.1, fun k v hk => ?_⟩
  obtain ⟨c, f⟩ := h.2 k v hk
  refine ⟨?_, by simpa [go_sem] using f⟩
  rw [World.cell?_setCell_other wr ⟨g', j, none⟩ ⟨g, k, none⟩ _ (by intro q; injection q with q; omega)]
  exact c
theorem Blk.set {wr : World} {g j : Nat} {vs : List Value} (h : Blk wr g vs) (hj : j < vs.length) (u : Value) : Blk (wr.setCell ⟨g, j, none⟩ u) g (vs.set j u) := by
  refine ⟨by simpa [World.setCell] using h.1, fun k v hk => ?_⟩
  by_cases e : j = k
  · subst e
    obtain ⟨c, f⟩ := h.2 j vs[j] (List.getElem?_eq_getElem hj)
    rw [List.getElem?_set_self hj] at hk
    injection hk with hk
    subst hk
    exact ⟨by simp [go_sem, c], by simpa [go_sem] using f⟩
  · rw [List.getElem?_set_ne e] at hk
    obtain ⟨c, f⟩ := h.2 k v hk
    refine ⟨?_, by simpa [go_sem] using f⟩
    rw [World.cell?_setCell_other wr ⟨g, j, none⟩ ⟨g, k, none⟩ _ (by intro q; injection q with _ q; omega)]
    exact c
def Mm (w : World) (L : List (Nat × List Value)) (l : List IntAt) (wr : World) : Prop :=
  Below w.heap.size w wr ∧ (∀ b ∈ L, w.heap.size ≤ b.1 ∧ Blk wr b.1 b.2) ∧ ∀ p ∈ l, IsAt wr p
theorem Mm.nil (w : World) : Mm w [] [] w := ⟨Below.refl _ _, fun b hb => absurd hb (by simp), fun b hb => absurd hb (by simp)⟩
theorem Mm.int {w wr : World} {L : List (Nat × List Value)} {l : List IntAt} (h : Mm w L l wr) {neg : Bool} {A : Option Addr} {n c : Nat} {z : Int} (hI : IsInt wr neg A n c z) : Mm w L ((neg, A, n, c, z) :: l) wr :=
  ⟨h.1, h.2.1, fun p hp => by
    rw [List.mem_cons] at hp
    rcases hp with rfl | hp
    · exact hI
    · exact h.2.2 p hp⟩
theorem Mm.next {w wr w' : World} {L : List (Nat × List Value)} {l : List IntAt} (h : Mm w L l wr) (hb : Below wr.heap.size wr w') : Mm w L l w' :=
  ⟨below_next h.1 hb, fun b hb' => ⟨(h.2.1 b hb').1, (h.2.1 b hb').2.next hb⟩, fun p hp => IsInt.below (h.2.2 p hp) hb⟩
theorem Mm.box {w wr : World} {L : List (Nat × List Value)} {l : List IntAt} (h : Mm w L l wr) (o : Obj) : Mm w L l (wr.alloc o) := h.next ((Below.refl _ _).alloc (Nat.le_refl _) o)
theorem Mm.drewN {w wr : World} {L : List (Nat × List Value)} {l : List IntAt} (h : Mm w L l wr) (n : Nat) : Mm w L l (wr.drewN n) := h.next (below_drewN (Below.refl _ _) n)
theorem Mm.drew {w wr : World} {L : List (Nat × List Value)} {l : List IntAt} (h : Mm w L l wr) : Mm w L l wr.drew := h.next ⟨rfl, rfl, rfl, Nat.le_refl _, fun _ _ => rfl⟩
theorem Mm.var {w wr : World} {L : List (Nat × List Value)} {l : List IntAt} (h : Mm w L l wr) {g : Nat} (hg : wr.heap.size = g) (vs : List Value) (t : TypeId) : Mm w ((g, vs) :: L) l (wr.alloc (.cells vs.toArray t)) := by
  have k := h.box (.cells vs.toArray t)
  refine ⟨k.1, fun b hb => ?_, k.2.2⟩
  rw [List.mem_cons] at hb
  rcases hb with rfl | hb
  · exact ⟨by have := h.1.size; show w.heap.size ≤ g; omega, Blk.new wr hg vs t⟩
  · exact k.2.1 b hb
theorem Mm.pick {w wr : World} {L L' : List (Nat × List Value)} {l l' : List IntAt} (h : Mm w L l wr) (hL : ∀ b ∈ L', b ∈ L) (hl : ∀ p ∈ l', p ∈ l) : Mm w L' l' wr :=
  ⟨h.1, fun b hb => h.2.1 b (hL b hb), fun p hp => h.2.2 p (hl p hp)⟩
theorem isAt_store {wr : World} {p : IntAt} (h : IsAt wr p) {g j : Nat} {u : Value} (v : Value) (hc : wr.cell? ⟨g, j, none⟩ = some u) (hu : ∀ x, u ≠ .int .u32 x) : IsAt (wr.setCell ⟨g, j, none⟩ v) p := IsInt.store h v hc hu
/-- A store into the block ahead of the list. -/
theorem Mm.set {w wr : World} {L : List (Nat × List Value)} {l : List IntAt} {g : Nat} {vs : List Value} (h : Mm w ((g, vs) :: L) l wr) (hne : ∀ b ∈ L, g ≠ b.1) {j : Nat} (u0 u : Value) (hj : vs[j]? = some u0) (hu : ∀ x, u0 ≠ .int .u32 x) :
    Mm w ((g, vs.set j u) :: L) l (wr.setCell ⟨g, j, none⟩ u) := by
  obtain ⟨hg, hB⟩ := h.2.1 (g, vs) (by simp)
  have hlt : j < vs.length := by
    rcases Nat.lt_or_ge j vs.length with k | k
    · exact k
    · rw [List.getElem?_eq_none k] at hj; exact absurd hj (by simp)
  refine ⟨h.1.setCell (p := ⟨g, j, none⟩) hg _, fun b hb => ?_, fun p hp => isAt_store (h.2.2 p hp) u (hB.2 j u0 hj).1 hu⟩
  rw [List.mem_cons] at hb
  rcases hb with rfl | hb
  · exact ⟨hg, hB.set hlt u⟩
  · exact ⟨(h.2.1 b (by simp [hb])).1, (h.2.1 b (by simp [hb])).2.far (hne b hb) u⟩
theorem Mm.at_ {w wr : World} {L : List (Nat × List Value)} {l : List IntAt} (h : Mm w L l wr) {neg : Bool} {A : Option Addr} {n c : Nat} {z : Int} (hp : (neg, A, n, c, z) ∈ l) : IsInt wr neg A n c z := h.2.2 _ hp
theorem Mm.blk {w wr : World} {L : List (Nat × List Value)} {l : List IntAt} (h : Mm w L l wr) {g : Nat} {vs : List Value} (hp : (g, vs) ∈ L) : Blk wr g vs := (h.2.1 _ hp).2
/-- What the walk is to see of a block of two cells, of four. -/
theorem Blk.two {wr : World} {g : Nat} {a b : Value} (h : Blk wr g [a, b]) : wr.cell? ⟨g, 0, none⟩ = some a ∧ wr.cell? ⟨g, 1, none⟩ = some b ∧ wr.frozen? ⟨g, 0, none⟩ = false ∧ wr.frozen? ⟨g, 1, none⟩ = false ∧ g < wr.heap.size :=
  ⟨(h.2 0 a rfl).1, (h.2 1 b rfl).1, (h.2 0 a rfl).2, (h.2 1 b rfl).2, h.1⟩
theorem Blk.four {wr : World} {g : Nat} {a b c d : Value} (h : Blk wr g [a, b, c, d]) : (wr.cell? ⟨g, 0, none⟩ = some a ∧ wr.cell? ⟨g, 1, none⟩ = some b ∧ wr.cell? ⟨g, 2, none⟩ = some c ∧ wr.cell? ⟨g, 3, none⟩ = some d) ∧
    (wr.frozen? ⟨g, 0, none⟩ = false ∧ wr.frozen? ⟨g, 1, none⟩ = false ∧ wr.frozen? ⟨g, 2, none⟩ = false ∧ wr.frozen? ⟨g, 3, none⟩ = false) ∧ g < wr.heap.size :=
  ⟨⟨(h.2 0 a rfl).1, (h.2 1 b rfl).1, (h.2 2 c rfl).1, (h.2 3 d rfl).1⟩, ⟨(h.2 0 a rfl).2, (h.2 1 b rfl).2, (h.2 2 c rfl).2, (h.2 3 d rfl).2⟩, h.1⟩
end Go.Proofs.YtdmdaoginojalaaGreatDoor
