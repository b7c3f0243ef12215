/-
  Pairs of floats beside and the own answers.
-/
import Derived.Test.YtjcknikgfcjhhaaTurnP
namespace Go.Proofs.Ytjcknikgfcjhhaa
open Go.RowKit

/-- The pair is one float, or two that follow one another, and the own answer is one of them; or none is a number. -/
def Beside (d u o : Nat) : Prop :=
  (Flt.Nan d ∧ Flt.Nan u ∧ Flt.Nan o) ∨ (¬ Flt.Nan d ∧ ¬ Flt.Nan u ∧ ¬ Flt.Nan o ∧ (Flt.sv o = Flt.sv d ∨ Flt.sv o = Flt.sv u) ∧
    (Flt.sv d = Flt.sv u ∨ (Flt.sv d < Flt.sv u ∧ ¬ Flt.Nan (nxt d true) ∧ Flt.sv (nxt d true) = Flt.sv u ∧ ¬ Flt.Nan (nxt u false) ∧ Flt.sv (nxt u false) = Flt.sv d)))

theorem nxt_pos_any {r : Nat} (h0 : 0 < r) (h : r ≤ Flt.inf) : nxt (Flt.word false r) false = r - 1 := by
  rcases Nat.lt_or_ge r Flt.inf with h' | h'
  · exact nxt_pos_down h0 h'
  · have e : r = Flt.inf := by omega
    subst e
    decide
theorem nxt_neg_any {r : Nat} (h0 : 0 < r) (h : r ≤ Flt.inf) : nxt (Flt.word true r) true = 2 ^ 63 + (r - 1) := by
  rcases Nat.lt_or_ge r Flt.inf with h' | h'
  · exact nxt_neg_up h0 h'
  · have e : r = Flt.inf := by omega
    subst e
    decide

/-- Two rungs that follow one another. -/
theorem beside_step {s : Bool} {r o : Nat} (hr : r < Flt.inf) (ho : o = Flt.word s r ∨ o = Flt.word s (r + 1)) : Beside (if s then Flt.word true (r + 1) else Flt.word false r) (if s then Flt.word true r else Flt.word false (r + 1)) o := by
  have hi := Flt.inf_lt
  have v := Flt.val_lt (show r < r + 1 by omega)
  have n1 : ∀ t : Bool, ¬ Flt.Nan (Flt.word t r) := fun t => Flt.not_nan_word (by omega)
  have n2 : ∀ t : Bool, ¬ Flt.Nan (Flt.word t (r + 1)) := fun t => Flt.not_nan_word (by omega)
  have s1 : ∀ t : Bool, Flt.sv (Flt.word t r) = if t then -(Flt.val r : Int) else Flt.val r := fun t => Flt.sv_word (by omega)
  have s2 : ∀ t : Bool, Flt.sv (Flt.word t (r + 1)) = if t then -(Flt.val (r + 1) : Int) else Flt.val (r + 1) := fun t => Flt.sv_word (by omega)
  cases s
  · have e1 := nxt_pos_up hr
    have e2 := nxt_pos_any (r := r + 1) (by omega) (by omega)
    rw [Nat.add_sub_cancel] at e2
    have e1' : nxt (Flt.word false r) true = Flt.word false (r + 1) := e1
    have e2' : nxt (Flt.word false (r + 1)) false = Flt.word false r := e2
    refine .inr ⟨n1 false, n2 false, by rcases ho with h | h <;> rw [h] <;> first | exact n1 false | exact n2 false, by rcases ho with h | h <;> rw [h] <;> first | exact .inl rfl | exact .inr rfl, .inr ⟨?_, ?_, ?_, ?_, ?_⟩⟩
    · show Flt.sv (Flt.word false r) < Flt.sv (Flt.word false (r + 1))
      rw [s1, s2]; simp; omega
    · show ¬ Flt.Nan (nxt (Flt.word false r) true)
      rw [e1']; exact n2 false
    · show Flt.sv (nxt (Flt.word false r) true) = _
      rw [e1']; rfl
    · show ¬ Flt.Nan (nxt (Flt.word false (r + 1)) false)
      rw [e2']; exact n1 false
    · show Flt.sv (nxt (Flt.word false (r + 1)) false) = _
      rw [e2']; rfl
  · have e1 := nxt_neg_down hr
    have e2 := nxt_neg_any (r := r + 1) (by omega) (by omega)
    rw [Nat.add_sub_cancel] at e2
    have e1' : nxt (Flt.word true r) false = Flt.word true (r + 1) := e1
    have e2' : nxt (Flt.word true (r + 1)) true = Flt.word true r := e2
    refine .inr ⟨n2 true, n1 true, by rcases ho with h | h <;> rw [h] <;> first | exact n1 true | exact n2 true, by rcases ho with h | h <;> rw [h] <;> first | exact .inl rfl | exact .inr rfl, .inr ⟨?_, ?_, ?_, ?_, ?_⟩⟩
    · show Flt.sv (Flt.word true (r + 1)) < Flt.sv (Flt.word true r)
      rw [s1, s2]; simp; omega
    · show ¬ Flt.Nan (nxt (Flt.word true (r + 1)) true)
      rw [e2']; exact n1 true
    · show Flt.sv (nxt (Flt.word true (r + 1)) true) = _
      rw [e2']; rfl
    · show ¬ Flt.Nan (nxt (Flt.word true r) false)
      rw [e1']; exact n2 true
    · show Flt.sv (nxt (Flt.word true r) false) = _
      rw [e1']; rfl
theorem beside_one {z o : Nat} (hz : ¬ Flt.Nan z) (ho : ¬ Flt.Nan o) (h : Flt.sv o = Flt.sv z) : Beside z z o := .inr ⟨hz, hz, ho, .inl h, .inl rfl⟩

/-- Where the nearest rung stands to the greatest that is not above. -/
theorem near_cases {num den r r0 : Nat} (hd : 0 < den) (h : Flt.Dn num den r) (hn : Flt.Near num den r0) : (r0 = r ∨ r0 = r + 1) ∧ (Flt.val r * den = num → r0 = r) := by
  rcases Nat.lt_or_ge r0 Flt.inf with hlt | hge
  · rcases Nat.lt_or_ge num (Flt.val r0 * den) with h1 | h1
    · have h0 : 0 < r0 := by
        rcases Nat.eq_zero_or_pos r0 with h2 | h2
        · rw [h2, Flt.val_zero, Nat.zero_mul] at h1; omega
        · exact h2
      obtain ⟨a, b⟩ := near_up hd hn h0 h1
      have := h.unique a
      subst this
      exact ⟨.inr (by omega), fun h' => by omega⟩
    · have := h.unique (near_dn hd hn hlt h1)
      exact ⟨.inl this.symm, fun _ => this.symm⟩
  · have e : r0 = Flt.inf := by have := hn.1; omega
    subst e
    obtain ⟨a, b⟩ := near_inf hd hn
    have := h.unique a
    subst this
    have hi := Flt.inf_eq
    exact ⟨.inr (by omega), fun h' => by omega⟩

theorem brk_beside {s : Bool} {num den d u r0 : Nat} (hd : 0 < den) (h : Brk s num den d u) (hn : Flt.Near num den r0) : Beside d u (Flt.word s r0) := by
  obtain ⟨r, h1, rfl, rfl⟩ := h
  obtain ⟨c1, c2⟩ := near_cases hd h1 hn
  have hr := h1.1
  unfold hiR
  by_cases he : Flt.val r * den = num
  · rw [if_pos he, c2 he]
    have : (if s = true then 2 ^ 63 + r else r) = Flt.word s r := by cases s <;> rfl
    rw [this]
    exact beside_one (Flt.not_nan_word (by omega)) (Flt.not_nan_word (by omega)) rfl
  · rw [if_neg he]
    have := beside_step (s := s) hr (o := Flt.word s r0) (by rcases c1 with rfl | rfl; exact .inl rfl; exact .inr rfl)
    cases s <;> exact this

theorem own_beside {f : Nat → Nat → Option Nat} {x y z o : Nat} (hf : ∀ z, f x y = some z → ¬ Flt.Nan z) (h : IsOp f x y z) (k : IsOp f x y o) : Beside z z o := by
  have a := h.2
  have b := k.2
  cases hz : f x y with
  | none => rw [hz] at a b; exact .inl ⟨a, a, b⟩
  | some t =>
    rw [hz] at a b
    have a : z = t := a
    have b : o = t := b
    subst a b
    exact beside_one (hf _ hz) (hf _ hz) rfl

theorem prod_beside {x y d u o : Nat} (h : IsProd x y d u) (k : IsOp Ieee.double.mul x y o) : Beside d u o := by
  by_cases hw : Whole2 x y
  · obtain ⟨r, h1, h2⟩ := Flt.mul_fin hw.1 hw.2.1
    have ho : o = Flt.word (Flt.sgn x ^^ Flt.sgn y) r := by have := k.2; rw [h1] at this; exact this
    rw [ho]
    exact brk_beside (Nat.two_pow_pos _) (h.2 hw) h2
  · obtain ⟨z, h1, rfl, rfl⟩ := h.1 hw
    exact own_beside (fun z hz => ((Flt.mul_opp x y).1 z hz).2.1) h1 k
theorem sum_nan (d e : Ieee.Datum) : ∀ f, d.sum e = some f → f.isNaN = false := by
  intro f h
  cases d <;> cases e <;> simp only [Ieee.Datum.sum] at h <;> (try split at h) <;> cases h <;> rfl
theorem add_not_nan {x y z : Nat} (h : Ieee.double.add x y = some z) : ¬ Flt.Nan z := by
  unfold Ieee.Format.add at h
  exact ((Flt.turn_op (sum_nan _ _) rfl).1 z h).2.1
theorem sum_beside {x y d u o : Nat} (h : IsSum x y d u) (k : Flt.IsAdd x y o) : Beside d u o := by
  obtain ⟨s, h1, h2, h3⟩ := h
  by_cases hc : ¬ (Flt.Fin x ∧ Flt.Fin y) ∨ Flt.sv x + Flt.sv y = 0
  · obtain ⟨rfl, rfl⟩ := h2 hc
    exact own_beside (f := Ieee.double.add) (fun z hz => add_not_nan hz) h1 k
  · have hf : Flt.Fin x ∧ Flt.Fin y := Classical.byContradiction fun h' => hc (.inl h')
    have hz : Flt.sv x + Flt.sv y ≠ 0 := fun h' => hc (.inr h')
    obtain ⟨r, h4, h5⟩ := isAdd_near k hf.1 hf.2 hz
    rw [h4]
    exact brk_beside (by decide) (h3 hf.1 hf.2 hz) h5
end Go.Proofs.Ytjcknikgfcjhhaa
