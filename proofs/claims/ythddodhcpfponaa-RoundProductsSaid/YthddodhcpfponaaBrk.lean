/-
  Floats beside an exact value, in plain Lean: the pair that is told of a fraction, and the pair that a nearest float and what it has lost give.
-/
import Derived.Test.YthddodhcpfponaaRef4F
namespace Go.Proofs.Ythddodhcpfponaa
open Go.RowKit

def Brk (s : Bool) (num den d u : Nat) : Prop :=
  ∃ r, Flt.Dn num den r ∧ d = (if s then 2 ^ 63 + hiR num den r else r) ∧ u = (if s then 2 ^ 63 + r else hiR num den r)
theorem Brk.unique {s : Bool} {num den d u d' u' : Nat} (h : Brk s num den d u) (k : Brk s num den d' u') : d = d' ∧ u = u' := by
  obtain ⟨r, h1, rfl, rfl⟩ := h
  obtain ⟨r', k1, rfl, rfl⟩ := k
  have := h1.unique k1
  subst this
  exact ⟨rfl, rfl⟩

/-- The float beside, upward or downward. -/
def nxt (x : Nat) (up : Bool) : Nat :=
  if Flt.nanB x then x else if Flt.rg x = 0 then (if up then 1 else 2 ^ 63 + 1) else if Flt.infB x && (Flt.sgn x != up) then x else if (!Flt.sgn x) == up then x + 1 else x - 1
def atd (own : Nat) (k : Int) : Nat × Nat := if 0 < k then (own, nxt own true) else if k < 0 then (nxt own false, own) else (own, own)

theorem nxt_pos_up {r : Nat} (h : r < Flt.inf) : nxt (Flt.word false r) true = r + 1 := by
  have hl : r < 2 ^ 63 := by have := Flt.inf_lt; omega
  have h1 : Flt.rg r = r := by unfold Flt.rg; omega
  have h2 : Flt.sgn r = false := by unfold Flt.sgn; rw [show r / 2 ^ 63 = 0 by omega]; rfl
  have h3 : Flt.nanB r = false := by unfold Flt.nanB; rw [h1]; exact decide_eq_false (by omega)
  have h4 : Flt.infB r = false := by unfold Flt.infB; rw [h1]; exact decide_eq_false (by omega)
  unfold nxt
  rw [show Flt.word false r = r from rfl, h1, h2, h3, h4]
  by_cases h0 : r = 0
  · subst h0; rfl
  · simp [h0]
theorem nxt_pos_down {r : Nat} (h0 : 0 < r) (h : r < Flt.inf) : nxt (Flt.word false r) false = r - 1 := by
  have hl : r < 2 ^ 63 := by have := Flt.inf_lt; omega
  have h1 : Flt.rg r = r := by unfold Flt.rg; omega
  have h2 : Flt.sgn r = false := by unfold Flt.sgn; rw [show r / 2 ^ 63 = 0 by omega]; rfl
  have h3 : Flt.nanB r = false := by unfold Flt.nanB; rw [h1]; exact decide_eq_false (by omega)
  have h4 : Flt.infB r = false := by unfold Flt.infB; rw [h1]; exact decide_eq_false (by omega)
  unfold nxt
  rw [show Flt.word false r = r from rfl, h1, h2, h3, h4]
  simp [Nat.ne_of_gt h0]
theorem nxt_neg_down {r : Nat} (h : r < Flt.inf) : nxt (Flt.word true r) false = 2 ^ 63 + (r + 1) := by
  have hl : r < 2 ^ 63 := by have := Flt.inf_lt; omega
  have h1 : Flt.rg (Flt.word true r) = r := Flt.rg_word _ _ hl
  have h2 : Flt.sgn (Flt.word true r) = true := Flt.sgn_word _ _ hl
  have h3 : Flt.nanB (Flt.word true r) = false := by unfold Flt.nanB; rw [h1]; exact decide_eq_false (by omega)
  have h4 : Flt.infB (Flt.word true r) = false := by unfold Flt.infB; rw [h1]; exact decide_eq_false (by omega)
  unfold nxt
  rw [h1, h2, h3, h4]
  by_cases h0 : r = 0
  · subst h0; rfl
  · simp [h0, Flt.word, Nat.add_assoc]
theorem nxt_neg_up {r : Nat} (h0 : 0 < r) (h : r < Flt.inf) : nxt (Flt.word true r) true = 2 ^ 63 + (r - 1) := by
  have hl : r < 2 ^ 63 := by have := Flt.inf_lt; omega
  have h1 : Flt.rg (Flt.word true r) = r := Flt.rg_word _ _ hl
  have h2 : Flt.sgn (Flt.word true r) = true := Flt.sgn_word _ _ hl
  have h3 : Flt.nanB (Flt.word true r) = false := by unfold Flt.nanB; rw [h1]; exact decide_eq_false (by omega)
  have h4 : Flt.infB (Flt.word true r) = false := by unfold Flt.infB; rw [h1]; exact decide_eq_false (by omega)
  unfold nxt
  rw [h1, h2, h3, h4]
  have : r ≠ 0 := by omega
  simp [this, Flt.word]
  omega

/-- A nearest float that is not above lies just below; one that is above lies just above. -/
theorem near_dn {num den r : Nat} (hd : 0 < den) (hn : Flt.Near num den r) (hr : r < Flt.inf) (h : Flt.val r * den ≤ num) : Flt.Dn num den r := by
  refine ⟨hr, h, fun _ => ?_⟩
  have h2 := (hn.2.1 hr).1
  have h3 := Nat.mul_lt_mul_of_pos_right (Flt.val_lt (show r < r + 1 by omega)) hd
  rw [Nat.add_mul] at h2
  omega
theorem near_up {num den r : Nat} (hd : 0 < den) (hn : Flt.Near num den r) (h0 : 0 < r) (h : num < Flt.val r * den) : Flt.Dn num den (r - 1) ∧ Flt.val (r - 1) * den < num := by
  have h2 := (hn.2.2 h0).1
  have h3 := Nat.mul_lt_mul_of_pos_right (Flt.val_lt (show r - 1 < r by omega)) hd
  rw [Nat.add_mul] at h2
  have h4 : Flt.val (r - 1) * den < num := by omega
  refine ⟨⟨by have := hn.1; omega, by omega, fun _ => by rw [show r - 1 + 1 = r by omega]; exact h⟩, h4⟩
theorem near_inf {num den : Nat} (hd : 0 < den) (hn : Flt.Near num den Flt.inf) : Flt.Dn num den (Flt.inf - 1) ∧ Flt.val (Flt.inf - 1) * den < num := by
  have hi : 0 < Flt.inf := by rw [Flt.inf_eq]; omega
  have h2 := (hn.2.2 hi).1
  have h3 := Nat.mul_lt_mul_of_pos_right (Flt.val_lt (show Flt.inf - 1 < Flt.inf by omega)) hd
  rw [Nat.add_mul] at h2
  have h4 : Flt.val (Flt.inf - 1) * den < num := by omega
  exact ⟨⟨by omega, by omega, fun h => absurd h (by omega)⟩, h4⟩

theorem at_brk {Z k : Int} {den r own : Nat} (hd : 0 < den) (_hZ : Z ≠ 0) (hn : Flt.Near Z.natAbs den r) (hr : r < Flt.inf) (ho : own = Flt.word (decide (Z < 0)) r)
    (h1 : 0 < k ↔ Flt.sv own * (den : Int) < Z) (h2 : k < 0 ↔ Z < Flt.sv own * (den : Int)) : Brk (decide (Z < 0)) Z.natAbs den (atd own k).1 (atd own k).2 := by
  have hl : r < 2 ^ 63 := by have := Flt.inf_lt; omega
  have hv : ((Flt.val r * den : Nat) : Int) = (Flt.val r : Int) * den := Int.natCast_mul _ _
  have hr0 : ¬ (r = 0 ∧ Z.natAbs < Flt.val r * den) := by rintro ⟨rfl, h⟩; rw [Flt.val_zero, Nat.zero_mul] at h; omega
  by_cases hz : Z < 0
  · rw [decide_eq_true hz] at ho ⊢
    have hs : Flt.sv own = -(Flt.val r : Int) := by rw [ho, Flt.sv_word hl]; rfl
    rw [hs, Int.neg_mul, ← hv] at h1 h2
    generalize hm : Flt.val r * den = m at *
    unfold atd
    rcases Int.lt_trichotomy k 0 with hk | hk | hk
    · have hlt : m < Z.natAbs := by have := h2.1 hk; omega
      rw [if_neg (by omega), if_pos hk, ho, nxt_neg_down hr]
      have hh : hiR Z.natAbs den r = r + 1 := by unfold hiR; rw [hm, if_neg (by omega)]
      exact ⟨r, near_dn hd hn hr (by omega), by rw [hh]; rfl, rfl⟩
    · have heq : m = Z.natAbs := by
        have a : ¬ (-(m : Int) < Z) := fun h => by have := h1.2 h; omega
        have b : ¬ (Z < -(m : Int)) := fun h => by have := h2.2 h; omega
        omega
      rw [if_neg (by omega), if_neg (by omega), ho]
      have hh : hiR Z.natAbs den r = r := by unfold hiR; rw [hm, if_pos heq]
      exact ⟨r, near_dn hd hn hr (by omega), by rw [hh]; rfl, rfl⟩
    · have hlt : Z.natAbs < m := by have := h1.1 hk; omega
      have h0 : 0 < r := by
        rcases Nat.eq_zero_or_pos r with h | h
        · exact absurd ⟨h, hlt⟩ hr0
        · exact h
      rw [if_pos hk, ho, nxt_neg_up h0 hr]
      obtain ⟨a, b⟩ := near_up hd hn h0 (by rw [hm]; exact hlt)
      have hh : hiR Z.natAbs den (r - 1) = r := by unfold hiR; rw [if_neg (by omega)]; omega
      exact ⟨r - 1, a, by rw [hh]; rfl, rfl⟩
  · rw [decide_eq_false hz] at ho ⊢
    have hs : Flt.sv own = (Flt.val r : Int) := by rw [ho, Flt.sv_word hl]; rfl
    rw [hs, ← hv] at h1 h2
    generalize hm : Flt.val r * den = m at *
    unfold atd
    rcases Int.lt_trichotomy k 0 with hk | hk | hk
    · have hlt : Z.natAbs < m := by have := h2.1 hk; omega
      have h0 : 0 < r := by
        rcases Nat.eq_zero_or_pos r with h | h
        · exact absurd ⟨h, hlt⟩ hr0
        · exact h
      rw [if_neg (by omega), if_pos hk, ho, nxt_pos_down h0 hr]
      obtain ⟨a, b⟩ := near_up hd hn h0 (by rw [hm]; exact hlt)
      have hh : hiR Z.natAbs den (r - 1) = r := by unfold hiR; rw [if_neg (by omega)]; omega
      exact ⟨r - 1, a, rfl, by rw [hh]; rfl⟩
    · have heq : m = Z.natAbs := by
        have a : ¬ ((m : Int) < Z) := fun h => by have := h1.2 h; omega
        have b : ¬ (Z < (m : Int)) := fun h => by have := h2.2 h; omega
        omega
      rw [if_neg (by omega), if_neg (by omega), ho]
      have hh : hiR Z.natAbs den r = r := by unfold hiR; rw [hm, if_pos heq]
      exact ⟨r, near_dn hd hn hr (by omega), rfl, by rw [hh]; rfl⟩
    · have hlt : m < Z.natAbs := by have := h1.1 hk; omega
      rw [if_pos hk, ho, nxt_pos_up hr]
      have hh : hiR Z.natAbs den r = r + 1 := by unfold hiR; rw [hm, if_neg (by omega)]
      exact ⟨r, near_dn hd hn hr (by omega), rfl, by rw [hh]; rfl⟩

/-- Beyond all finite floats. -/
def bey (own : Nat) : Nat × Nat := if Flt.sgn own then (own, 2 ^ 63 + (Flt.inf - 1)) else (Flt.inf - 1, own)
theorem bey_brk {Z : Int} {den own : Nat} (hd : 0 < den) (hn : Flt.Near Z.natAbs den Flt.inf) (ho : own = Flt.word (decide (Z < 0)) Flt.inf) : Brk (decide (Z < 0)) Z.natAbs den (bey own).1 (bey own).2 := by
  obtain ⟨a, b⟩ := near_inf hd hn
  have hi : Flt.inf - 1 + 1 = Flt.inf := by rw [Flt.inf_eq]
  have hh : hiR Z.natAbs den (Flt.inf - 1) = Flt.inf := by unfold hiR; rw [if_neg (by omega), hi]
  have hs : Flt.sgn own = decide (Z < 0) := by rw [ho]; exact Flt.sgn_word _ _ Flt.inf_lt
  unfold bey
  rw [hs]
  refine ⟨Flt.inf - 1, a, ?_, ?_⟩
  · rw [hh, ho]; by_cases h : Z < 0 <;> simp [h, Flt.word]
  · rw [hh, ho]; by_cases h : Z < 0 <;> simp [h, Flt.word]
end Go.Proofs.Ythddodhcpfponaa
