/-
  Spans: squares (span.Square).
-/
import Derived.Test.YtdmdaoginojalaaGreatDoorSpnD
import Derived.Test.YtdmdaoginojalaaGreatDoorKept
namespace Go.Proofs.YtdmdaoginojalaaGreatDoor
open Go.RowKit

theorem span_may_one5 (g la ha : Nat) (w : World) (b1 : la < 2 ^ 64) (b2 : ha < 2 ^ 64) (hg : g < w.heap.size)
    (c0 : w.cell? ⟨g, 0, none⟩ = some (.float .f64 la)) (c1 : w.cell? ⟨g, 1, none⟩ = some (.float .f64 ha)) :
    Calls Tryz.prog 266 #[.slice (some ⟨g, 0, none⟩) 1 1] w (RetV w (.bool (okS la ha))) := by
  refine (span_may_any g [(la, ha)] w ⟨hg, ?_⟩ (by simp)).mono ?_
  · intro i hi
    match i, hi with
    | 0, _ => exact ⟨c0, c1, b1, b2⟩
    | (k + 1), hi => exact absurd hi (by simp)
  · rintro e w' ⟨rfl, hb⟩
    exact ⟨by simp, hb⟩

/-- A block of two cells that may be written. -/
def Free (g : Nat) (wr : World) : Prop := g < wr.heap.size ∧ wr.frozen? ⟨g, 0, none⟩ = false ∧ wr.frozen? ⟨g, 1, none⟩ = false
theorem Free.next {g : Nat} {wr w' : World} (h : Free g wr) (hb : Below wr.heap.size wr w') : Free g w' := by
  obtain ⟨_, hf⟩ := bcell hb
  exact ⟨Nat.lt_of_lt_of_le h.1 hb.size, (hf _ _ h.1).trans h.2.1, (hf _ _ h.1).trans h.2.2⟩
theorem Free.drewN {g : Nat} {wr : World} (h : Free g wr) (n : Nat) : Free g (wr.drewN n) := h
theorem Free.new (w : World) {g : Nat} (hg : w.heap.size = g) (u v : Value) (t : TypeId) : Free g (w.alloc (.cells #[u, v] t)) := by
  subst hg
  exact ⟨by simp, by simp [go_sem], by simp [go_sem]⟩

/-- The walk's memory: the operand, the result's block, and the variable's block if it is made already. -/
def St (w : World) (la ha : Nat) (o : Option Nat) (wr : World) : Prop :=
  Kept w [(w.heap.size, 0, .float .f64 la), (w.heap.size, 1, .float .f64 ha), (w.heap.size + 1, 0, .float .f64 0), (w.heap.size + 1, 1, .float .f64 0)] wr ∧ Free (w.heap.size + 1) wr ∧
  ∀ g, o = some g → Kept w [(g, 0, .float .f64 0), (g, 1, .float .f64 0)] wr ∧ Free g wr ∧ w.heap.size + 1 < g
theorem St.next {w wr w' : World} {la ha : Nat} {o : Option Nat} (h : St w la ha o wr) (hb : Below wr.heap.size wr w') : St w la ha o w' :=
  ⟨h.1.next hb, h.2.1.next hb, fun g hg => ⟨(h.2.2 g hg).1.next hb, (h.2.2 g hg).2.1.next hb, (h.2.2 g hg).2.2⟩⟩
theorem St.box {w wr : World} {la ha : Nat} {o : Option Nat} (h : St w la ha o wr) (x : Obj) : St w la ha o (wr.alloc x) := h.next ((Below.refl _ _).alloc (Nat.le_refl _) _)
theorem St.drew {w wr : World} {la ha : Nat} {o : Option Nat} (h : St w la ha o wr) : St w la ha o wr.drew :=
  ⟨h.1.drew, h.2.1, fun g hg => ⟨(h.2.2 g hg).1.drew, (h.2.2 g hg).2.1, (h.2.2 g hg).2.2⟩⟩
theorem St.drewN {w wr : World} {la ha : Nat} {o : Option Nat} (h : St w la ha o wr) (n : Nat) : St w la ha o (wr.drewN n) :=
  ⟨h.1.drewN n, h.2.1, fun g hg => ⟨(h.2.2 g hg).1.drewN n, (h.2.2 g hg).2.1, (h.2.2 g hg).2.2⟩⟩
theorem St.var {w wr : World} {la ha : Nat} (h : St w la ha none wr) {g : Nat} (hg : wr.heap.size = g) (t : TypeId) : St w la ha (some g) (wr.alloc (.cells #[.float .f64 0, .float .f64 0] t)) := by
  subst hg
  have hs : w.heap.size + 1 < wr.heap.size := h.2.1.1
  refine ⟨(h.box _).1, (h.box _).2.1, fun g hg => ?_⟩
  injection hg with hg
  subst hg
  have k := h.1.two rfl (.float .f64 0) (.float .f64 0) t
  refine ⟨⟨k.1, fun c hc => k.2.1 c (List.mem_append_left _ hc), fun c hc => k.2.2 c (List.mem_append_left _ hc)⟩, Free.new wr rfl _ _ t, hs⟩
theorem far_of {a g : Nat} (h : a + 1 < g) : ¬ a = g ∧ ¬ g = a ∧ ¬ a + 1 = g ∧ ¬ g = a + 1 := by omega
theorem St.fresh {w wr : World} {la ha : Nat} (h : St w la ha none wr) (u v : Value) (t : TypeId) :
    Kept w [(wr.heap.size, 0, u), (wr.heap.size, 1, v), (w.heap.size, 0, .float .f64 la), (w.heap.size, 1, .float .f64 ha), (w.heap.size + 1, 0, .float .f64 0), (w.heap.size + 1, 1, .float .f64 0)] (wr.alloc (.cells #[u, v] t)) ∧
    Free wr.heap.size (wr.alloc (.cells #[u, v] t)) ∧ Free (w.heap.size + 1) (wr.alloc (.cells #[u, v] t)) ∧ w.heap.size + 1 < wr.heap.size :=
  ⟨h.1.two rfl u v t, Free.new wr rfl u v t, h.2.1.next ((Below.refl _ _).alloc (Nat.le_refl _) _), h.2.1.1⟩
theorem St.stored {w wr : World} {la ha g : Nat} (h : St w la ha (some g) wr) (u v : Value) :
    Kept w [(g, 0, u), (g, 1, v), (w.heap.size, 0, .float .f64 la), (w.heap.size, 1, .float .f64 ha), (w.heap.size + 1, 0, .float .f64 0), (w.heap.size + 1, 1, .float .f64 0)] ((wr.setCell ⟨g, 0, none⟩ u).setCell ⟨g, 1, none⟩ v) ∧
    Free g ((wr.setCell ⟨g, 0, none⟩ u).setCell ⟨g, 1, none⟩ v) ∧ Free (w.heap.size + 1) ((wr.setCell ⟨g, 0, none⟩ u).setCell ⟨g, 1, none⟩ v) ∧ w.heap.size + 1 < g := by
  obtain ⟨hk, hf, hv⟩ := h
  obtain ⟨kv, fv, hlt⟩ := hv g rfl
  obtain ⟨q1, q2, q3, q4⟩ := far_of hlt
  have a := (hk).2.1
  have c := (hk).2.2
  simp only [List.mem_cons, List.not_mem_nil, or_false, forall_eq_or_imp, forall_eq] at a c
  have av := (kv).2.1
  have cv := (kv).2.2
  simp only [List.mem_cons, List.not_mem_nil, or_false, forall_eq_or_imp, forall_eq] at av cv
  obtain ⟨c1, c2, c3, c4⟩ := c
  obtain ⟨c5, c6⟩ := cv
  obtain ⟨z0, f0, f1⟩ := fv
  obtain ⟨z1, f2, f3⟩ := hf
  refine ⟨⟨below_result hk.1 (by omega) _ _, ?_, ?_⟩, ⟨by simpa [World.setCell] using z0, ?_, ?_⟩, ⟨by simpa [World.setCell] using z1, ?_, ?_⟩, hlt⟩
  · intro c hc
    have hz : ((wr.setCell ⟨g, 0, none⟩ u).setCell ⟨g, 1, none⟩ v).heap.size = wr.heap.size := by simp [World.setCell]
    rw [hz]
    simp only [List.mem_cons, List.not_mem_nil, or_false] at hc
    rcases hc with rfl | rfl | rfl | rfl | rfl | rfl <;> (simp only; omega)
  · intro c hc
    simp only [List.mem_cons, List.not_mem_nil, or_false] at hc
    rcases hc with rfl | rfl | rfl | rfl | rfl | rfl <;> simp [go_sem, *, World.cell?_setCell_far]
  all_goals simp [go_sem, *]
theorem InSpans.box {w : World} {g : Nat} {l : List (Nat × Nat)} (h : InSpans w g l) (x : Obj) : InSpans (w.alloc x) g l := by
  refine ⟨by simp; have := h.1; omega, fun i hi => ?_⟩
  obtain ⟨a, b, c, d⟩ := h.2 i hi
  exact ⟨by rw [World.cell?_alloc_lt w (a := ⟨g, _, none⟩) (h := h.1)]; exact a, by rw [World.cell?_alloc_lt w (a := ⟨g, _, none⟩) (h := h.1)]; exact b, c, d⟩
theorem InSpans.drew {w : World} {g : Nat} {l : List (Nat × Nat)} (h : InSpans w g l) : InSpans w.drew g l := h
theorem InSpans.drewN {w : World} {g : Nat} {l : List (Nat × Nat)} (h : InSpans w g l) (n : Nat) : InSpans (w.drewN n) g l := h

end Go.Proofs.YtdmdaoginojalaaGreatDoor
