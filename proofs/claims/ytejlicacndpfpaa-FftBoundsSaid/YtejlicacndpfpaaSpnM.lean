/-
  Spans: products (span.Mul).
-/
import Derived.Test.YtejlicacndpfpaaSpnA
import Derived.Test.YtejlicacndpfpaaSpnG
namespace Go.Proofs.Ytejlicacndpfpaa
open Go.RowKit

theorem lwF_spec (l : List (Nat × Nat)) : ∀ k, (∀ i, i ≤ k → ¬ Flt.Nan (prA l i)) → (∃ i, i ≤ k ∧ lwF l k = prA l i) ∧ ∀ i, i ≤ k → Flt.sv (lwF l k) ≤ Flt.sv (prA l i)
  | 0, _ => ⟨⟨0, Nat.le_refl _, rfl⟩, fun i hi => by have : i = 0 := by omega
                                                     subst this; exact Int.le_refl _⟩
  | k + 1, h => by
    obtain ⟨⟨j, hj, hje⟩, h2⟩ := lwF_spec l k (fun i hi => h i (by omega))
    have hn : ¬ Flt.Nan (lwF l k) := by rw [hje]; exact h j (by omega)
    have ho := Flt.lt_spec (h (k + 1) (Nat.le_refl _)) hn
    unfold lwF
    rw [ho]
    by_cases hc : Flt.sv (prA l (k + 1)) < Flt.sv (lwF l k)
    · rw [decide_eq_true hc, if_pos rfl]
      refine ⟨⟨k + 1, Nat.le_refl _, rfl⟩, fun i hi => ?_⟩
      rcases Nat.lt_or_ge k i with hki | hki
      · have : i = k + 1 := by omega
        subst this; exact Int.le_refl _
      · have := h2 i hki
        omega
    · rw [decide_eq_false hc, if_neg (by simp)]
      refine ⟨⟨j, by omega, hje⟩, fun i hi => ?_⟩
      rcases Nat.lt_or_ge k i with hki | hki
      · have : i = k + 1 := by omega
        subst this; omega
      · exact h2 i hki
theorem hgF_spec (l : List (Nat × Nat)) : ∀ k, (∀ i, i ≤ k → ¬ Flt.Nan (prB l i)) → (∃ i, i ≤ k ∧ hgF l k = prB l i) ∧ ∀ i, i ≤ k → Flt.sv (prB l i) ≤ Flt.sv (hgF l k)
  | 0, _ => ⟨⟨0, Nat.le_refl _, rfl⟩, fun i hi => by have : i = 0 := by omega
                                                     subst this; exact Int.le_refl _⟩
  | k + 1, h => by
    obtain ⟨⟨j, hj, hje⟩, h2⟩ := hgF_spec l k (fun i hi => h i (by omega))
    have hn : ¬ Flt.Nan (hgF l k) := by rw [hje]; exact h j (by omega)
    have ho := Flt.gt_spec (h (k + 1) (Nat.le_refl _)) hn
    unfold hgF
    rw [ho]
    by_cases hc : Flt.sv (hgF l k) < Flt.sv (prB l (k + 1))
    · rw [decide_eq_true hc, if_pos rfl]
      refine ⟨⟨k + 1, Nat.le_refl _, rfl⟩, fun i hi => ?_⟩
      rcases Nat.lt_or_ge k i with hki | hki
      · have : i = k + 1 := by omega
        subst this; exact Int.le_refl _
      · have := h2 i hki
        omega
    · rw [decide_eq_false hc, if_neg (by simp)]
      refine ⟨⟨j, by omega, hje⟩, fun i hi => ?_⟩
      rcases Nat.lt_or_ge k i with hki | hki
      · have : i = k + 1 := by omega
        subst this; omega
      · exact h2 i hki
theorem down_not_nan {z : Int} {n d : Nat} (h : Down z n d) : ¬ Flt.Nan d := by have := h.2.1; unfold Flt.Nan; omega
theorem up_not_nan {z : Int} {n d : Nat} (h : Up z n d) : ¬ Flt.Nan d := by have := h.2.1; unfold Flt.Nan; omega
/-! ### the memory of an operation's walk -/
/-- The operands' cells. -/
def Opnd (w : World) (la ha lb hb : Nat) (wr : World) : Prop :=
  (wr.cell? ⟨w.heap.size, 0, none⟩ = some (.float .f64 la) ∧ wr.cell? ⟨w.heap.size, 1, none⟩ = some (.float .f64 ha) ∧ wr.cell? ⟨w.heap.size + 1, 0, none⟩ = some (.float .f64 lb) ∧ wr.cell? ⟨w.heap.size + 1, 1, none⟩ = some (.float .f64 hb)) ∧
  (wr.cell? ⟨w.heap.size + 1 + 1, 0, none⟩ = some (.float .f64 0) ∧ wr.cell? ⟨w.heap.size + 1 + 1, 1, none⟩ = some (.float .f64 0) ∧ wr.frozen? ⟨w.heap.size + 1 + 1, 0, none⟩ = false ∧ wr.frozen? ⟨w.heap.size + 1 + 1, 1, none⟩ = false) ∧
  w.heap.size + 1 + 1 < wr.heap.size ∧ Below w.heap.size w wr
theorem Opnd.next {w wr w' : World} {la ha lb hb : Nat} (h : Opnd w la ha lb hb wr) (hb' : Below wr.heap.size wr w') : Opnd w la ha lb hb w' := by
  obtain ⟨⟨a1, a2, a3, a4⟩, ⟨a5, a6, a7, a8⟩, hs, hw⟩ := h
  obtain ⟨hc, hf⟩ := bcell hb'
  refine ⟨⟨(hc _ _ (by omega)).trans a1, (hc _ _ (by omega)).trans a2, (hc _ _ (by omega)).trans a3, (hc _ _ (by omega)).trans a4⟩,
    ⟨(hc _ _ (by omega)).trans a5, (hc _ _ (by omega)).trans a6, (hf _ _ (by omega)).trans a7, (hf _ _ (by omega)).trans a8⟩, ?_, below_next hw hb'⟩
  have := hb'.size
  omega
theorem Opnd.new (w : World) (la ha lb hb : Nat) (t u v x : TypeId) (C : Array Value) {w1 : World}
    (hb1 : Below ((((w.alloc (.cells #[.float .f64 la, .float .f64 ha] t)).alloc (.cells #[.float .f64 lb, .float .f64 hb] u)).alloc (.cells #[.float .f64 0, .float .f64 0] v)).alloc (.cells C x)).heap.size
      ((((w.alloc (.cells #[.float .f64 la, .float .f64 ha] t)).alloc (.cells #[.float .f64 lb, .float .f64 hb] u)).alloc (.cells #[.float .f64 0, .float .f64 0] v)).alloc (.cells C x)) w1) : Opnd w la ha lb hb w1 := by
  obtain ⟨hc1, hf1⟩ := bcell hb1
  refine ⟨⟨?_, ?_, ?_, ?_⟩, ⟨?_, ?_, ?_, ?_⟩, ?_, below_box (below_box (below_box (below_box hb1)))⟩
  · rw [hc1 w.heap.size 0 (by simp <;> omega)]; simp [go_sem]
  · rw [hc1 w.heap.size 1 (by simp <;> omega)]; simp [go_sem]
  · rw [hc1 (w.heap.size + 1) 0 (by simp <;> omega)]; simp [go_sem]
  · rw [hc1 (w.heap.size + 1) 1 (by simp <;> omega)]; simp [go_sem]
  · rw [hc1 (w.heap.size + 1 + 1) 0 (by simp <;> omega)]; simp [go_sem]
  · rw [hc1 (w.heap.size + 1 + 1) 1 (by simp <;> omega)]; simp [go_sem]
  · rw [hf1 (w.heap.size + 1 + 1) 0 (by simp <;> omega)]; simp [go_sem]
  · rw [hf1 (w.heap.size + 1 + 1) 1 (by simp <;> omega)]; simp [go_sem]
  · have := hb1.size; simp at this; omega
end Go.Proofs.Ytejlicacndpfpaa
