/-
  Spans: the walks of package span and of its reference (floats alone).
  The references' spans (polestarref05): the least and the greatest of some fractions.
  Spans: products (span.Mul).
  Cells that a walk keeps: a list of them, carried from call to call.
  Spans: squares (span.Square).
-/
import Derived.Test.YtdmdaoginojalaaSpnR
import Derived.Test.YtdmdaoginojalaaExB
import Derived.Test.YtdmdaoginojalaaTzF
import Derived.Test.YtdmdaoginojalaaRoot
import Derived.Test.YtdmdaoginojalaaZero
namespace Go.Proofs.Ytdmdaoginojalaa
open Go.RowKit

/-- Spans in memory, one behind the other. -/
def InSpans (w : World) (g : Nat) (l : List (Nat × Nat)) : Prop :=
  g < w.heap.size ∧ ∀ i (h : i < l.length), w.cell? ⟨g, i * 2, none⟩ = some (.float .f64 l[i].1) ∧ w.cell? ⟨g, i * 2 + 1, none⟩ = some (.float .f64 l[i].2) ∧ l[i].1 < 2 ^ 64 ∧ l[i].2 < 2 ^ 64

end Go.Proofs.Ytdmdaoginojalaa

namespace Go.Proofs.Ytdmdaoginojalaa
open Go.RowKit

/-- A fraction in memory: its two numbers' values, and what it is worth. -/
abbrev FrE := (Bool × Option Addr × Nat × Nat) × (Bool × Option Addr × Nat × Nat) × Rat
def FrE.vs (f : FrE) : List Value := [.bool f.1.1, .slice f.1.2.1 f.1.2.2.1 f.1.2.2.2, .bool f.2.1.1, .slice f.2.1.2.1 f.2.1.2.2.1 f.2.1.2.2.2]
def FrE.at_ (wr : World) (f : FrE) : Prop := IsInt wr f.1.1 f.1.2.1 f.1.2.2.1 f.1.2.2.2 f.2.2.num ∧ IsInt wr f.2.1.1 f.2.1.2.1 f.2.1.2.2.1 f.2.1.2.2.2 (f.2.2.den : Int)
/-- A block that holds fractions. -/
def Frs (wr : World) (g N : Nat) (F : Nat → FrE) : Prop :=
  g < wr.heap.size ∧ ∀ i, i < N → (wr.cell? ⟨g, i * 4, none⟩ = some (.bool (F i).1.1) ∧ wr.cell? ⟨g, i * 4 + 1, none⟩ = some (.slice (F i).1.2.1 (F i).1.2.2.1 (F i).1.2.2.2) ∧
    wr.cell? ⟨g, i * 4 + 2, none⟩ = some (.bool (F i).2.1.1) ∧ wr.cell? ⟨g, i * 4 + 3, none⟩ = some (.slice (F i).2.1.2.1 (F i).2.1.2.2.1 (F i).2.1.2.2.2)) ∧ FrE.at_ wr (F i)
theorem Frs.next {wr w' : World} {g N : Nat} {F : Nat → FrE} (h : Frs wr g N F) (hb : Below wr.heap.size wr w') : Frs w' g N F := by
  refine ⟨Nat.lt_of_lt_of_le h.1 hb.size, fun i hi => ?_⟩
  obtain ⟨⟨h0, h1, h2, h3⟩, h4⟩ := h.2 i hi
  obtain ⟨hc, _⟩ := bcell hb
  exact ⟨⟨(hc _ _ h.1).trans h0, (hc _ _ h.1).trans h1, (hc _ _ h.1).trans h2, (hc _ _ h.1).trans h3⟩, h4.1.below hb, h4.2.below hb⟩
theorem Frs.drewN {wr : World} {g N : Nat} {F : Nat → FrE} (h : Frs wr g N F) (j : Nat) : Frs (wr.drewN j) g N F := h.next (below_drewN (Below.refl _ _) j)
theorem Frs.store {wr : World} {g N : Nat} {F : Nat → FrE} (h : Frs wr g N F) {g' j : Nat} (hne : g' ≠ g) {u : Value} (hc : wr.cell? ⟨g', j, none⟩ = some u) (hu : ∀ x, u ≠ .int .u32 x) (v : Value) : Frs (wr.setCell ⟨g', j, none⟩ v) g N F := by
  have far : ∀ o, (wr.setCell ⟨g', j, none⟩ v).cell? ⟨g, o, none⟩ = wr.cell? ⟨g, o, none⟩ := fun o => World.cell?_setCell_other wr ⟨g', j, none⟩ ⟨g, o, none⟩ _ (by intro q; injection q with q; exact hne q)
  refine ⟨by simpa [World.setCell] using h.1, fun i hi => ?_⟩
  obtain ⟨⟨h0, h1, h2, h3⟩, h4⟩ := h.2 i hi
  exact ⟨⟨(far _).trans h0, (far _).trans h1, (far _).trans h2, (far _).trans h3⟩, IsInt.store h4.1 v hc hu, IsInt.store h4.2 v hc hu⟩
def FrE.val (f : FrE) : Value := .agg #[.bool f.1.1, .slice f.1.2.1 f.1.2.2.1 f.1.2.2.2, .bool f.2.1.1, .slice f.2.1.2.1 f.2.1.2.2.1 f.2.1.2.2.2]
end Go.Proofs.Ytdmdaoginojalaa

namespace Go.Proofs.Ytdmdaoginojalaa
open Go.RowKit

/-! ### the memory of an operation's walk -/
/-- The operands' cells. -/
def Opnd (w : World) (la ha lb hb : Nat) (wr : World) : Prop :=
  (wr.cell? ⟨w.heap.size, 0, none⟩ = some (.float .f64 la) ∧ wr.cell? ⟨w.heap.size, 1, none⟩ = some (.float .f64 ha) ∧ wr.cell? ⟨w.heap.size + 1, 0, none⟩ = some (.float .f64 lb) ∧ wr.cell? ⟨w.heap.size + 1, 1, none⟩ = some (.float .f64 hb)) ∧
  (wr.cell? ⟨w.heap.size + 1 + 1, 0, none⟩ = some (.float .f64 0) ∧ wr.cell? ⟨w.heap.size + 1 + 1, 1, none⟩ = some (.float .f64 0) ∧ wr.frozen? ⟨w.heap.size + 1 + 1, 0, none⟩ = false ∧ wr.frozen? ⟨w.heap.size + 1 + 1, 1, none⟩ = false) ∧
  w.heap.size + 1 + 1 < wr.heap.size ∧ Below w.heap.size w wr
theorem Opnd.next {w wr w' : World} {la ha lb hb : Nat} (h : Opnd w la ha lb hb wr) (hb' : Below wr.heap.size wr w') : Opnd w la ha lb hb w' := by
  obtain ⟨⟨a1, a2, a3, a4⟩, ⟨a5, a6, a7, a8⟩, hs, hw⟩ := h
  obtain ⟨hc, hf⟩ := bcell hb'
  refine ⟨⟨(hc _ _ (by omega)).trans a1, (hc _ _ (by omega)).trans a2, (hc _ _ (by omega)).trans a3, (hc _ _ (by omega)).trans a4⟩,
    ⟨(hc _ _ (by omega)).trans a5, (hc _ _ (by omega)).trans a6, (hf _ _ (by omega)).trans a7, (hf _ _ (by omega)).trans a8⟩, ?_, below_next hw hb'⟩
  have := hb'.size
  omega
theorem Opnd.new (w : World) (la ha lb hb : Nat) (t u v x : TypeId) (C : Array Value) {w1 : World}
    (hb1 : Below ((((w.alloc (.cells #[.float .f64 la, .float .f64 ha] t)).alloc (.cells #[.float .f64 lb, .float .f64 hb] u)).alloc (.cells #[.float .f64 0, .float .f64 0] v)).alloc (.cells C x)).heap.size
      ((((w.alloc (.cells #[.float .f64 la, .float .f64 ha] t)).alloc (.cells #[.float .f64 lb, .float .f64 hb] u)).alloc (.cells #[.float .f64 0, .float .f64 0] v)).alloc (.cells C x)) w1) : Opnd w la ha lb hb w1 := by
  obtain ⟨hc1, hf1⟩ := bcell hb1
  refine ⟨⟨?_, ?_, ?_, ?_⟩, ⟨?_, ?_, ?_, ?_⟩, ?_, below_box (below_box (below_box (below_box hb1)))⟩
  · rw [hc1 w.heap.size 0 (by simp <;> omega)]; simp [go_sem]
  · rw [hc1 w.heap.size 1 (by simp <;> omega)]; simp [go_sem]
  · rw [hc1 (w.heap.size + 1) 0 (by simp <;> omega)]; simp [go_sem]
  · rw [hc1 (w.heap.size + 1) 1 (by simp <;> omega)]; simp [go_sem]
  · rw [hc1 (w.heap.size + 1 + 1) 0 (by simp <;> omega)]; simp [go_sem]
  · rw [hc1 (w.heap.size + 1 + 1) 1 (by simp <;> omega)]; simp [go_sem]
  · rw [hf1 (w.heap.size + 1 + 1) 0 (by simp <;> omega)]; simp [go_sem]
  · rw [hf1 (w.heap.size + 1 + 1) 1 (by simp <;> omega)]; simp [go_sem]
  · have := hb1.size; simp at this; omega
end Go.Proofs.Ytdmdaoginojalaa

namespace Go.Proofs.Ytdmdaoginojalaa
open Go.RowKit

/-- The world is the old one below, and the cells hold these values. -/
def Kept (w : World) (l : List (Nat × Nat × Value)) (wr : World) : Prop :=
  Below w.heap.size w wr ∧ (∀ c ∈ l, c.1 < wr.heap.size) ∧ ∀ c ∈ l, wr.cell? ⟨c.1, c.2.1, none⟩ = some c.2.2
theorem Kept.nil (w : World) : Kept w [] w := ⟨Below.refl _ _, fun c hc => absurd hc (by simp), fun c hc => absurd hc (by simp)⟩
theorem Kept.next {w wr w' : World} {l : List (Nat × Nat × Value)} (h : Kept w l wr) (hb : Below wr.heap.size wr w') : Kept w l w' := by
  refine ⟨below_next h.1 hb, fun c hc => ?_, fun c hc => ?_⟩
  · have := h.2.1 c hc
    have := hb.size
    omega
  · rw [(bcell hb).1 _ _ (h.2.1 c hc)]
    exact h.2.2 c hc
theorem Kept.drewN {w wr : World} {l : List (Nat × Nat × Value)} (h : Kept w l wr) (n : Nat) : Kept w l (wr.drewN n) := ⟨below_drewN h.1 n, h.2.1, h.2.2⟩
theorem Kept.drew {w wr : World} {l : List (Nat × Nat × Value)} (h : Kept w l wr) : Kept w l wr.drew := ⟨⟨h.1.os, h.1.tape, h.1.output, h.1.size, h.1.block⟩, h.2.1, h.2.2⟩
theorem Kept.box {w wr : World} {l : List (Nat × Nat × Value)} (h : Kept w l wr) (o : Obj) : Kept w l (wr.alloc o) := by
  refine ⟨h.1.alloc h.1.size _, fun c hc => ?_, fun c hc => ?_⟩
  · have := h.2.1 c hc
    simp
    omega
  · rw [World.cell?_alloc_lt wr (a := ⟨c.1, _, none⟩) (h := h.2.1 c hc)]
    exact h.2.2 c hc
theorem Kept.two {w wr : World} {l : List (Nat × Nat × Value)} (h : Kept w l wr) {g : Nat} (hg : wr.heap.size = g) (u v : Value) (t : TypeId) :
    Kept w ((g, 0, u) :: (g, 1, v) :: l) (wr.alloc (.cells #[u, v] t)) := by
  subst hg
  have k := h.box (.cells #[u, v] t)
  refine ⟨k.1, fun c hc => ?_, fun c hc => ?_⟩
  · rw [List.mem_cons, List.mem_cons] at hc
    rcases hc with rfl | rfl | hc
    · simp
    · simp
    · exact k.2.1 c hc
  · rw [List.mem_cons, List.mem_cons] at hc
    rcases hc with rfl | rfl | hc
    · simp [go_sem]
    · simp [go_sem]
    · exact k.2.2 c hc
theorem Kept.one {w wr : World} {l : List (Nat × Nat × Value)} (h : Kept w l wr) {g : Nat} (hg : wr.heap.size = g) (u : Value) (t : TypeId) :
    Kept w ((g, 0, u) :: l) (wr.alloc (.cells #[u] t)) := by
  subst hg
  have k := h.box (.cells #[u] t)
  refine ⟨k.1, fun c hc => ?_, fun c hc => ?_⟩
  · rw [List.mem_cons] at hc
    rcases hc with rfl | hc
    · simp
    · exact k.2.1 c hc
  · rw [List.mem_cons] at hc
    rcases hc with rfl | hc
    · simp [go_sem]
    · exact k.2.2 c hc
end Go.Proofs.Ytdmdaoginojalaa

namespace Go.Proofs.Ytdmdaoginojalaa
open Go.RowKit

/-- A block of two cells that may be written. -/
def Free (g : Nat) (wr : World) : Prop := g < wr.heap.size ∧ wr.frozen? ⟨g, 0, none⟩ = false ∧ wr.frozen? ⟨g, 1, none⟩ = false
theorem Free.next {g : Nat} {wr w' : World} (h : Free g wr) (hb : Below wr.heap.size wr w') : Free g w' := by
  obtain ⟨_, hf⟩ := bcell hb
  exact ⟨Nat.lt_of_lt_of_le h.1 hb.size, (hf _ _ h.1).trans h.2.1, (hf _ _ h.1).trans h.2.2⟩
theorem Free.drewN {g : Nat} {wr : World} (h : Free g wr) (n : Nat) : Free g (wr.drewN n) := h
theorem Free.new (w : World) {g : Nat} (hg : w.heap.size = g) (u v : Value) (t : TypeId) : Free g (w.alloc (.cells #[u, v] t)) := by
  subst hg
  exact ⟨by simp, by simp [go_sem], by simp [go_sem]⟩

/-- The walk's memory: the operand, the result's block, and the variable's block if it is made already. -/
def St (w : World) (la ha : Nat) (o : Option Nat) (wr : World) : Prop :=
  Kept w [(w.heap.size, 0, .float .f64 la), (w.heap.size, 1, .float .f64 ha), (w.heap.size + 1, 0, .float .f64 0), (w.heap.size + 1, 1, .float .f64 0)] wr ∧ Free (w.heap.size + 1) wr ∧
  ∀ g, o = some g → Kept w [(g, 0, .float .f64 0), (g, 1, .float .f64 0)] wr ∧ Free g wr ∧ w.heap.size + 1 < g
theorem St.next {w wr w' : World} {la ha : Nat} {o : Option Nat} (h : St w la ha o wr) (hb : Below wr.heap.size wr w') : St w la ha o w' :=
  ⟨h.1.next hb, h.2.1.next hb, fun g hg => ⟨(h.2.2 g hg).1.next hb, (h.2.2 g hg).2.1.next hb, (h.2.2 g hg).2.2⟩⟩
theorem St.box {w wr : World} {la ha : Nat} {o : Option Nat} (h : St w la ha o wr) (x : Obj) : St w la ha o (wr.alloc x) := h.next ((Below.refl _ _).alloc (Nat.le_refl _) _)
theorem St.drew {w wr : World} {la ha : Nat} {o : Option Nat} (h : St w la ha o wr) : St w la ha o wr.drew :=
  ⟨h.1.drew, h.2.1, fun g hg => ⟨(h.2.2 g hg).1.drew, (h.2.2 g hg).2.1, (h.2.2 g hg).2.2⟩⟩
theorem St.drewN {w wr : World} {la ha : Nat} {o : Option Nat} (h : St w la ha o wr) (n : Nat) : St w la ha o (wr.drewN n) :=
  ⟨h.1.drewN n, h.2.1, fun g hg => ⟨(h.2.2 g hg).1.drewN n, (h.2.2 g hg).2.1, (h.2.2 g hg).2.2⟩⟩
theorem St.var {w wr : World} {la ha : Nat} (h : St w la ha none wr) {g : Nat} (hg : wr.heap.size = g) (t : TypeId) : St w la ha (some g) (wr.alloc (.cells #[.float .f64 0, .float .f64 0] t)) := by
  subst hg
  have hs : w.heap.size + 1 < wr.heap.size := h.2.1.1
  refine ⟨(h.box _).1, (h.box _).2.1, fun g hg => ?_⟩
  injection hg with hg
  subst hg
  have k := h.1.two rfl (.float .f64 0) (.float .f64 0) t
  refine ⟨⟨k.1, fun c hc => k.2.1 c (List.mem_append_left _ hc), fun c hc => k.2.2 c (List.mem_append_left _ hc)⟩, Free.new wr rfl _ _ t, hs⟩
theorem far_of {a g : Nat} (h : a + 1 < g) : ¬ a = g ∧ ¬ g = a ∧ ¬ a + 1 = g ∧ ¬ g = a + 1 := by omega
theorem St.fresh {w wr : World} {la ha : Nat} (h : St w la ha none wr) (u v : Value) (t : TypeId) :
    Kept w [(wr.heap.size, 0, u), (wr.heap.size, 1, v), (w.heap.size, 0, .float .f64 la), (w.heap.size, 1, .float .f64 ha), (w.heap.size + 1, 0, .float .f64 0), (w.heap.size + 1, 1, .float .f64 0)] (wr.alloc (.cells #[u, v] t)) ∧
    Free wr.heap.size (wr.alloc (.cells #[u, v] t)) ∧ Free (w.heap.size + 1) (wr.alloc (.cells #[u, v] t)) ∧ w.heap.size + 1 < wr.heap.size :=
  ⟨h.1.two rfl u v t, Free.new wr rfl u v t, h.2.1.next ((Below.refl _ _).alloc (Nat.le_refl _) _), h.2.1.1⟩
theorem St.stored {w wr : World} {la ha g : Nat} (h : St w la ha (some g) wr) (u v : Value) :
    Kept w [(g, 0, u), (g, 1, v), (w.heap.size, 0, .float .f64 la), (w.heap.size, 1, .float .f64 ha), (w.heap.size + 1, 0, .float .f64 0), (w.heap.size + 1, 1, .float .f64 0)] ((wr.setCell ⟨g, 0, none⟩ u).setCell ⟨g, 1, none⟩ v) ∧
    Free g ((wr.setCell ⟨g, 0, none⟩ u).setCell ⟨g, 1, none⟩ v) ∧ Free (w.heap.size + 1) ((wr.setCell ⟨g, 0, none⟩ u).setCell ⟨g, 1, none⟩ v) ∧ w.heap.size + 1 < g := by
  obtain ⟨hk, hf, hv⟩ := h
  obtain ⟨kv, fv, hlt⟩ := hv g rfl
  obtain ⟨q1, q2, q3, q4⟩ := far_of hlt
  have a := (hk).2.1
  have c := (hk).2.2
  simp only [List.mem_cons, List.not_mem_nil, or_false, forall_eq_or_imp, forall_eq] at a c
  have av := (kv).2.1
  have cv := (kv).2.2
  simp only [List.mem_cons, List.not_mem_nil, or_false, forall_eq_or_imp, forall_eq] at av cv
  obtain ⟨c1, c2, c3, c4⟩ := c
  obtain ⟨c5, c6⟩ := cv
  obtain ⟨z0, f0, f1⟩ := fv
  obtain ⟨z1, f2, f3⟩ := hf
  refine ⟨⟨below_result hk.1 (by omega) _ _, ?_, ?_⟩, ⟨by simpa [World.setCell] using z0, ?_, ?_⟩, ⟨by simpa [World.setCell] using z1, ?_, ?_⟩, hlt⟩
  · intro c hc
    have hz : ((wr.setCell ⟨g, 0, none⟩ u).setCell ⟨g, 1, none⟩ v).heap.size = wr.heap.size := by simp [World.setCell]
    rw [hz]
    simp only [List.mem_cons, List.not_mem_nil, or_false] at hc
    rcases hc with rfl | rfl | rfl | rfl | rfl | rfl <;> (simp only; omega)
  · intro c hc
    simp only [List.mem_cons, List.not_mem_nil, or_false] at hc
    rcases hc with rfl | rfl | rfl | rfl | rfl | rfl <;> simp [go_sem, *, World.cell?_setCell_far]
  all_goals simp [go_sem, *]
theorem InSpans.box {w : World} {g : Nat} {l : List (Nat × Nat)} (h : InSpans w g l) (x : Obj) : InSpans (w.alloc x) g l := by
  refine ⟨by simp; have := h.1; omega, fun i hi => ?_⟩
  obtain ⟨a, b, c, d⟩ := h.2 i hi
  exact ⟨by rw [World.cell?_alloc_lt w (a := ⟨g, _, none⟩) (h := h.1)]; exact a, by rw [World.cell?_alloc_lt w (a := ⟨g, _, none⟩) (h := h.1)]; exact b, c, d⟩
theorem InSpans.drew {w : World} {g : Nat} {l : List (Nat × Nat)} (h : InSpans w g l) : InSpans w.drew g l := h
theorem InSpans.drewN {w : World} {g : Nat} {l : List (Nat × Nat)} (h : InSpans w g l) (n : Nat) : InSpans (w.drewN n) g l := h

end Go.Proofs.Ytdmdaoginojalaa
