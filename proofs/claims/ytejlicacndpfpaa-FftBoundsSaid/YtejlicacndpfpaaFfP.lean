/-
  Spans of noughts, threes and nines.
-/
import Derived.Test.YtejlicacndpfpaaSpnL
import Derived.Test.YtejlicacndpfpaaSpnV
namespace Go.Proofs.Ytejlicacndpfpaa
open Go.RowKit

/-- The squares of nought and of three. -/
def sq9 (v : Nat) : Nat := if v = 0 then 0 else 4621256167635550208
def Few3 (v : Nat) : Prop := v = 0 ∨ v = 4613937818241073152
def Few9 (v : Nat) : Prop := v = 0 ∨ v = 4621256167635550208
theorem few9_sq {v : Nat} (h : Few3 v) : Few9 (sq9 v) := by
  rcases h with rfl | rfl
  · exact .inl rfl
  · exact .inr rfl
theorem few9_lt {v : Nat} (h : Few9 v) : v < 2 ^ 64 := by rcases h with rfl | rfl <;> decide
theorem few3_lt {v : Nat} (h : Few3 v) : v < 2 ^ 64 := by rcases h with rfl | rfl <;> decide
theorem sqr_few {v : Nat} (hv : Few3 v) {p : Nat × Nat × Int} (h : IsSqr (okS v v) (zB v v) (sqrC v v) p) : p = (sq9 v, sq9 v, 0) := by
  rcases hv with rfl | rfl
  · obtain ⟨lo, hi, h1, h2, rfl⟩ := h.2 (by decide +kernel)
    have a := lowOf_least (t := 0) (by unfold Dens; decide +kernel) h1 (fin_dec (by decide +kernel)) (by decide +kernel) (by decide +kernel)
    have b := highOf_most (t := 0) (by unfold Dens; decide +kernel) h2 (fin_dec (by decide +kernel)) (by decide +kernel) (by decide +kernel)
    rw [endsF_at a b (by decide) (by decide)]
    decide +kernel
  · obtain ⟨lo, hi, h1, h2, rfl⟩ := h.2 (by decide +kernel)
    have a := lowOf_least (t := 4621256167635550208) (by unfold Dens; decide +kernel) h1 (fin_dec (by decide +kernel)) (by decide +kernel) (by decide +kernel)
    have b := highOf_most (t := 4621256167635550208) (by unfold Dens; decide +kernel) h2 (fin_dec (by decide +kernel)) (by decide +kernel) (by decide +kernel)
    rw [endsF_at a b (by decide) (by decide)]
    decide +kernel
theorem add_few {a b : Nat} (ha : Few9 a) (hb : Few9 b) (h0 : a = 0 ∨ b = 0) {p : Nat × Nat × Int} (h : IsSpan (okS a a && okS b b) (addL a a b b) (addH a a b b) p) : p = (a + b, a + b, 0) := by
  have key : ∀ t, Flt.finB t = true → t < 2 ^ 64 → pz t = t → Flt.sv t * ((1 : Nat) : Int) = Flt.sv a + Flt.sv b → okS a a && okS b b → p = (t, t, 0) := fun t ht hl hp he ho => by
    obtain ⟨lo, hi, h1, h2, rfl⟩ := h.2 ho
    have d : ∀ z : Int, Dens [(z, 1)] := fun z c hc => by rw [List.mem_singleton] at hc; subst hc; exact Nat.one_pos
    have a := lowOf_least (t := t) (d _) h1 (fin_dec ht) (fun c hc => by rw [List.mem_singleton] at hc; subst hc; exact Int.le_of_eq he) ⟨_, List.mem_singleton.2 rfl, he⟩
    have b := highOf_most (t := t) (d _) h2 (fin_dec ht) (fun c hc => by rw [List.mem_singleton] at hc; subst hc; exact Int.le_of_eq he.symm) ⟨_, List.mem_singleton.2 rfl, he⟩
    rw [endsF_at a b hl hl, hp]
  rcases ha with rfl | rfl <;> rcases hb with rfl | rfl
  · exact key 0 (by decide +kernel) (by decide) (by decide +kernel) (by decide +kernel) (by decide +kernel)
  · exact key 4621256167635550208 (by decide +kernel) (by decide) (by decide +kernel) (by decide +kernel) (by decide +kernel)
  · exact key 4621256167635550208 (by decide +kernel) (by decide) (by decide +kernel) (by decide +kernel) (by decide +kernel)
  · exact absurd h0 (by decide)
theorem square_few (v : Nat) (hv : Few3 v) (w : World) : Calls Try.prog 74 #[.agg #[.float .f64 v, .float .f64 v]] w (RetSpan w (sq9 v) (sq9 v) (.int .i64 0)) :=
  (span_square_any v v (few3_lt hv) (few3_lt hv) w).mono (fun e w' ⟨p, h1, h2⟩ => by rw [sqr_few hv h1] at h2; exact h2)
theorem spadd_few (a b r : Nat) (ha : Few9 a) (hb : Few9 b) (h0 : a = 0 ∨ b = 0) (hr : Hid (a + b = r)) (w : World) : Calls Try.prog 75 #[.agg #[.float .f64 a, .float .f64 a], .agg #[.float .f64 b, .float .f64 b]] w (RetSpan w r r (.int .i64 0)) :=
  (span_add_any a a b b (few9_lt ha) (few9_lt ha) (few9_lt hb) (few9_lt hb) w).mono (fun e w' ⟨p, h1, h2⟩ => by rw [add_few ha hb h0 h1, hr.out] at h2; exact h2)
end Go.Proofs.Ytejlicacndpfpaa
