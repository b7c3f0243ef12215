/-
  What becomes of pairs of floats beside when signs are turned. Pairs of floats beside and the own answers. What is so of a round that rounds at all; signs turned; floats beside: the walks of the statements' own functions. RoundBeside: the law's walk.
-/
import Derived.Test.YtjcjphgpmpjmbaaDoorRootW
import Derived.Test.YtjcjphgpmpjmbaaDoorRefX
import Derived.Test.YtjcjphgpmpjmbaaDoorRndU
namespace Go.Proofs.YtjcjphgpmpjmbaaDoor
open Go.RowKit

namespace Flt
open Ieee

/-! ### operations and signs -/
theorem not_nan_word {s : Bool} {r : Nat} (h : r ≤ inf) : ¬ Nan (word s r) := by
  have := inf_lt
  unfold Nan
  rw [rg_word _ _ (by omega)]; omega
theorem product_comm (d e : Datum) : d.product e = e.product d := by
  cases d <;> cases e <;> simp [Datum.product, Bool.xor_comm, Nat.mul_comm, Int.add_comm]
theorem sum_comm (d e : Datum) : d.sum e = e.sum d := by
  cases d with
  | nan => cases e <;> rfl
  | infinity s =>
    cases e with
    | nan => rfl
    | infinity t =>
      simp only [Datum.sum]
      by_cases h : s = t
      · subst h; rfl
      · rw [if_neg h, if_neg (fun h' => h h'.symm)]
    | number => rfl
  | number s m i =>
    cases e with
    | nan => rfl
    | infinity t => rfl
    | number t n j =>
      simp only [Datum.sum]
      rw [Int.min_comm j i, Int.add_comm (signed t n _), Bool.and_comm t s]

theorem mul_comm (x y : Nat) : double.mul x y = double.mul y x := by unfold Format.mul; rw [product_comm]
theorem add_comm (x y : Nat) : double.add x y = double.add y x := by unfold Format.add; rw [sum_comm]
end Flt

/-- The one pair is the other one with the other sign; or none of the four is a number. -/
def Turned (d u e v : Nat) : Prop :=
  (Flt.Nan d ∧ Flt.Nan u ∧ Flt.Nan e ∧ Flt.Nan v) ∨ (¬ Flt.Nan d ∧ ¬ Flt.Nan u ∧ ¬ Flt.Nan e ∧ ¬ Flt.Nan v ∧ Flt.sv d = - Flt.sv v ∧ Flt.sv u = - Flt.sv e)

theorem hiR_le' {num den r : Nat} (h : Flt.Dn num den r) : hiR num den r ≤ Flt.inf := by have := h.1; unfold hiR; split <;> omega
theorem Brk.turned {s : Bool} {num den d u e v : Nat} (h : Brk s num den d u) (k : Brk (!s) num den e v) : Turned d u e v := by
  obtain ⟨r, h1, rfl, rfl⟩ := h
  obtain ⟨r', k1, rfl, rfl⟩ := k
  have := h1.unique k1
  subst this
  have hr : r ≤ Flt.inf := by have := h1.1; omega
  have hh := hiR_le' h1
  have hi := Flt.inf_lt
  have w : ∀ (t : Bool) (a b : Nat), (if t then 2 ^ 63 + a else b) = if t then Flt.word true a else Flt.word false b := fun t a b => by cases t <;> rfl
  simp only [w]
  right
  cases s <;> simp only [Bool.not_false, Bool.not_true, Bool.false_eq_true, ↓reduceIte]
  · exact ⟨Flt.not_nan_word hr, Flt.not_nan_word hh, Flt.not_nan_word hh, Flt.not_nan_word hr, by simp [Flt.sv_word (show r < 2 ^ 63 by omega)], by simp [Flt.sv_word (show hiR num den r < 2 ^ 63 by omega)]⟩
  · exact ⟨Flt.not_nan_word hh, Flt.not_nan_word hr, Flt.not_nan_word hr, Flt.not_nan_word hh, by simp [Flt.sv_word (show hiR num den r < 2 ^ 63 by omega)], by simp [Flt.sv_word (show r < 2 ^ 63 by omega)]⟩

theorem sum_comm {x y d u : Nat} (h : IsSum x y d u) : IsSum y x d u := by
  obtain ⟨s, h1, h2, h3⟩ := h
  refine ⟨s, ⟨h1.1, by rw [Flt.add_comm]; exact h1.2⟩, fun k => h2 ?_, fun a b k => ?_⟩
  · rcases k with k | k
    · exact .inl (fun h => k ⟨h.2, h.1⟩)
    · exact .inr (by omega)
  · rw [Int.add_comm] at k ⊢
    exact h3 b a k

end Go.Proofs.YtjcjphgpmpjmbaaDoor

namespace Go.Proofs.YtjcjphgpmpjmbaaDoor
open Go.RowKit

/-- The pair is one float, or two that follow one another, and the own answer is one of them; or none is a number. -/
def Beside (d u o : Nat) : Prop :=
  (Flt.Nan d ∧ Flt.Nan u ∧ Flt.Nan o) ∨ (¬ Flt.Nan d ∧ ¬ Flt.Nan u ∧ ¬ Flt.Nan o ∧ (Flt.sv o = Flt.sv d ∨ Flt.sv o = Flt.sv u) ∧
    (Flt.sv d = Flt.sv u ∨ (Flt.sv d < Flt.sv u ∧ ¬ Flt.Nan (nxt d true) ∧ Flt.sv (nxt d true) = Flt.sv u ∧ ¬ Flt.Nan (nxt u false) ∧ Flt.sv (nxt u false) = Flt.sv d)))

theorem nxt_pos_any {r : Nat} (h0 : 0 < r) (h : r ≤ Flt.inf) : nxt (Flt.word false r) false = r - 1 := by
  rcases Nat.lt_or_ge r Flt.inf with h' | h'
  · exact nxt_pos_down h0 h'
  · have e : r = Flt.inf := by omega
    subst e
    decide
theorem nxt_neg_any {r : Nat} (h0 : 0 < r) (h : r ≤ Flt.inf) : nxt (Flt.word true r) true = 2 ^ 63 + (r - 1) := by
  rcases Nat.lt_or_ge r Flt.inf with h' | h'
  · exact nxt_neg_up h0 h'
  · have e : r = Flt.inf := by omega
    subst e
    decide

/-- Two rungs that follow one another. -/
theorem beside_step {s : Bool} {r o : Nat} (hr : r < Flt.inf) (ho : o = Flt.word s r ∨ o = Flt.word s (r + 1)) : Beside (if s then Flt.word true (r + 1) else Flt.word false r) (if s then Flt.word true r else Flt.word false (r + 1)) o := by
  have hi := Flt.inf_lt
  have v := Flt.val_lt (show r < r + 1 by omega)
  have n1 : ∀ t : Bool, ¬ Flt.Nan (Flt.word t r) := fun t => Flt.not_nan_word (by omega)
  have n2 : ∀ t : Bool, ¬ Flt.Nan (Flt.word t (r + 1)) := fun t => Flt.not_nan_word (by omega)
  have s1 : ∀ t : Bool, Flt.sv (Flt.word t r) = if t then -(Flt.val r : Int) else Flt.val r := fun t => Flt.sv_word (by omega)
  have s2 : ∀ t : Bool, Flt.sv (Flt.word t (r + 1)) = if t then -(Flt.val (r + 1) : Int) else Flt.val (r + 1) := fun t => Flt.sv_word (by omega)
  cases s
  · have e1 := nxt_pos_up hr
    have e2 := nxt_pos_any (r := r + 1) (by omega) (by omega)
    rw [Nat.add_sub_cancel] at e2
    have e1' : nxt (Flt.word false r) true = Flt.word false (r + 1) := e1
    have e2' : nxt (Flt.word false (r + 1)) false = Flt.word false r := e2
    refine .inr ⟨n1 false, n2 false, by rcases ho with h | h <;> rw [h] <;> first | exact n1 false | exact n2 false, by rcases ho with h | h <;> rw [h] <;> first | exact .inl rfl | exact .inr rfl, .inr ⟨?_, ?_, ?_, ?_, ?_⟩⟩
    · show Flt.sv (Flt.word false r) < Flt.sv (Flt.word false (r + 1))
      rw [s1, s2]; simp; omega
    · show ¬ Flt.Nan (nxt (Flt.word false r) true)
      rw [e1']; exact n2 false
    · show Flt.sv (nxt (Flt.word false r) true) = _
      rw [e1']; rfl
    · show ¬ Flt.Nan (nxt (Flt.word false (r + 1)) false)
      rw [e2']; exact n1 false
    · show Flt.sv (nxt (Flt.word false (r + 1)) false) = _
      rw [e2']; rfl
  · have e1 := nxt_neg_down hr
    have e2 := nxt_neg_any (r := r + 1) (by omega) (by omega)
    rw [Nat.add_sub_cancel] at e2
    have e1' : nxt (Flt.word true r) false = Flt.word true (r + 1) := e1
    have e2' : nxt (Flt.word true (r + 1)) true = Flt.word true r := e2
    refine .inr ⟨n2 true, n1 true, by rcases ho with h | h <;> rw [h] <;> first | exact n1 true | exact n2 true, by rcases ho with h | h <;> rw [h] <;> first | exact .inl rfl | exact .inr rfl, .inr ⟨?_, ?_, ?_, ?_, ?_⟩⟩
    · show Flt.sv (Flt.word true (r + 1)) < Flt.sv (Flt.word true r)
      rw [s1, s2]; simp; omega
    · show ¬ Flt.Nan (nxt (Flt.word true (r + 1)) true)
      rw [e2']; exact n1 true
    · show Flt.sv (nxt (Flt.word true (r + 1)) true) = _
      rw [e2']; rfl
    · show ¬ Flt.Nan (nxt (Flt.word true r) false)
      rw [e1']; exact n2 true
    · show Flt.sv (nxt (Flt.word true r) false) = _
      rw [e1']; rfl
theorem beside_one {z o : Nat} (hz : ¬ Flt.Nan z) (ho : ¬ Flt.Nan o) (h : Flt.sv o = Flt.sv z) : Beside z z o := .inr ⟨hz, hz, ho, .inl h, .inl rfl⟩

end Go.Proofs.YtjcjphgpmpjmbaaDoor

namespace Go.Proofs.YtjcjphgpmpjmbaaDoor
open Go.RowKit

/-! ### the constants -/
theorem third_brk : Brk false (Flt.val (Flt.rg 4607182418800017408) * 2 ^ Flt.K74) (Flt.val (Flt.rg 4613937818241073152)) 4599676419421066581 4599676419421066582 := by
  refine ⟨4599676419421066581, ⟨?_, ?_, fun _ => ?_⟩, rfl, ?_⟩
  · decide +kernel
  · decide +kernel
  · decide +kernel
  · decide +kernel
theorem alive_quo {d u : Nat} (h : IsDiv 4607182418800017408 4613937818241073152 d u) : d = 4599676419421066581 ∧ u = 4599676419421066582 := by
  have hw : Whole2 4607182418800017408 4613937818241073152 := by unfold Whole2 Flt.Fin; decide +kernel
  have h1 := h.2 hw
  exact h1.unique third_brk
theorem alive_two {s l : Nat} (h : Flt.IsTwo 4607182418800017408 4363988038922010624 s l) : s = 4607182418800017408 ∧ l = 4363988038922010624 := by
  have e : Ieee.double.add 4607182418800017408 4363988038922010624 = some 4607182418800017408 := by decide +kernel
  have hs : s = 4607182418800017408 := by have := h.1.2; rw [e] at this; exact this
  subst hs
  have hf : Flt.Fin 4607182418800017408 := by unfold Flt.Fin; decide +kernel
  obtain ⟨h1, h2, _⟩ := h.2.2.1 hf
  refine ⟨rfl, Flt.fin_eq h.2.1 (by decide) (by omega) ?_⟩
  have h0 : Flt.sv 4363988038922010624 ≠ 0 := fun h' => by have := Flt.sv_zero_iff.1 h'; revert this; decide
  omega
theorem alive_root {d u : Nat} (h : IsRoot 4616189618054758400 d u) : d = 4611686018427387904 ∧ u = 4611686018427387904 := by
  have hp : Pos 4616189618054758400 := by unfold Pos Flt.Fin; decide +kernel
  obtain ⟨r, h1, rfl, rfl⟩ := h.2 hp
  have k : DnSq (Flt.val (Flt.rg 4616189618054758400) * 2 ^ Flt.K74) 4611686018427387904 := by unfold DnSq; decide +kernel
  have := h1.unique k
  subst this
  refine ⟨rfl, if_pos ?_⟩
  decide +kernel

def RetTrue (W : World) (e : Ending) (w' : World) : Prop := e = .returned (.bool true) ∧ Below W.heap.size W w'

set_option maxRecDepth 100000 in
set_option maxHeartbeats 800000 in
theorem law_alive (w : World) : Calls Tryd.prog 6 #[] w (RetTrue w) := by
  have f1 : (Ieee.double.order 4607182418800017408 4607182418800017408 == some .eq) = true := by decide +kernel
  have f2 : (Ieee.double.order 4363988038922010624 4363988038922010624 == some .eq) = true := by decide +kernel
  have f3 : (Ieee.double.order 4611686018427387904 4611686018427387904 == some .eq) = true := by decide +kernel
  go_enter Tryd.func6, Tryd.ntmps6
  go_wp2_with fail
  refine (rnd_quo_any _ _ (by decide) (by decide) _).mono ?_
  rintro e1 w1 ⟨d, u, rfl, h, hb1⟩
  obtain ⟨rfl, rfl⟩ := alive_quo h
  clear h
  go_wp2_with fail
  refine (rnd_two_any _ _ (by decide) (by decide) _).mono ?_
  rintro e2 w2 ⟨s, l, rfl, h, hb2⟩
  obtain ⟨rfl, rfl⟩ := alive_two h
  clear h
  go_wp2_with fail
  refine (rnd_sqrt_any _ (by decide) _).mono ?_
  rintro e3 w3 ⟨a, b, rfl, h, hb3⟩
  obtain ⟨rfl, rfl⟩ := alive_root h
  clear h
  go_wp2_with fail
  go_ret
  exact ⟨rfl, below_next (below_next hb1 hb2) hb3⟩

/-! ### turned, beside -/
theorem nanB_of {x : Nat} (h : Flt.Nan x) : Flt.nanB x = true := Flt.nanB_iff.2 h
theorem nanB_not {x : Nat} (h : ¬ Flt.Nan x) : Flt.nanB x = false := by
  cases hb : Flt.nanB x with
  | true => exact absurd (Flt.nanB_iff.1 hb) h
  | false => rfl

theorem Brk.lt {s : Bool} {num den d u : Nat} (h : Brk s num den d u) : d < 2 ^ 64 ∧ u < 2 ^ 64 := by
  obtain ⟨r, h1, rfl, rfl⟩ := h
  have hh := hiR_le' h1
  have hi := Flt.inf_lt
  have hr := h1.1
  cases s <;> simp <;> omega
theorem IsPair.lt {f : Nat → Nat → Option Nat} {W : Prop} {x y : Nat} {s : Bool} {num den d u : Nat} (h : IsPair f W x y s num den d u) : d < 2 ^ 64 ∧ u < 2 ^ 64 := by
  by_cases hw : W
  · exact (h.2 hw).lt
  · obtain ⟨z, h1, rfl, rfl⟩ := h.1 hw
    exact ⟨h1.1, h1.1⟩
theorem IsSum.lt {x y d u : Nat} (h : IsSum x y d u) : d < 2 ^ 64 ∧ u < 2 ^ 64 := by
  obtain ⟨s, h1, h2, h3⟩ := h
  by_cases hc : ¬ (Flt.Fin x ∧ Flt.Fin y) ∨ Flt.sv x + Flt.sv y = 0
  · obtain ⟨rfl, rfl⟩ := h2 hc
    exact ⟨h1.1, h1.1⟩
  · have hf : Flt.Fin x ∧ Flt.Fin y := Classical.byContradiction fun h' => hc (.inl h')
    exact (h3 hf.1 hf.2 (fun h' => hc (.inr h'))).lt

end Go.Proofs.YtjcjphgpmpjmbaaDoor

namespace Go.Proofs.YtjcjphgpmpjmbaaDoor
open Go.RowKit

set_option maxHeartbeats 1600000 in
theorem law_beside (d u o : Nat) (hd : d < 2 ^ 64) (hu : u < 2 ^ 64) (h : Beside d u o) (w : World) : Calls Tryd.prog 12 #[.float .f64 d, .float .f64 u, .float .f64 o] w fun e' w' => e' = .returned (.bool true) ∧ w = w' := by
  rcases h with ⟨h1, h2, h3⟩ | ⟨h1, h2, h3, h4, h5⟩
  · have n1 := nanB_of h1
    have n2 := nanB_of h2
    have n3 := nanB_of h3
    clear h1 h2 h3
    go_enter Tryd.func12, Tryd.ntmps12
    go_wp2_with (go_at_call 14; refine (isNaN_any _ _).mono ?_; rintro e' w' ⟨rfl, rfl⟩; (first | rw [n1] | rw [n2] | rw [n3]))
    go_ret
    exact ⟨rfl, rfl⟩
  · have n1 := nanB_not h1
    have n2 := nanB_not h2
    have n3 := nanB_not h3
    have c1 := Flt.eq_spec h3 h1
    have c2 := Flt.eq_spec h3 h2
    have c3 := Flt.eq_spec h1 h2
    have c4 := Flt.lt_spec h1 h2
    by_cases q1 : Flt.sv o = Flt.sv d
    · rw [decide_eq_true q1] at c1
      clear c2 h4
      by_cases q2 : Flt.sv d = Flt.sv u
      · rw [decide_eq_true q2] at c3
        clear h5 h1 h2 h3 q1 q2 c4
        go_enter Tryd.func12, Tryd.ntmps12
        go_wp2_with (go_at_call 14; refine (isNaN_any _ _).mono ?_; rintro e' w' ⟨rfl, rfl⟩; (first | rw [n1] | rw [n2] | rw [n3]))
        go_ret
        exact ⟨rfl, rfl⟩
      · rw [decide_eq_false q2] at c3
        obtain ⟨k1, k2, k3, k4, k5⟩ : Flt.sv d < Flt.sv u ∧ ¬ Flt.Nan (nxt d true) ∧ Flt.sv (nxt d true) = Flt.sv u ∧ ¬ Flt.Nan (nxt u false) ∧ Flt.sv (nxt u false) = Flt.sv d := by
          rcases h5 with h5 | h5
          · exact absurd h5 q2
          · exact h5
        rw [decide_eq_true k1] at c4
        have c5 := Flt.eq_spec k2 h2
        have c6 := Flt.eq_spec k4 h1
        rw [decide_eq_true k3] at c5
        rw [decide_eq_true k5] at c6
        clear h5 h1 h2 h3 q1 q2 k1 k2 k3 k4 k5
        go_enter Tryd.func12, Tryd.ntmps12
        go_wp2_with (first | (go_at_call 14; refine (isNaN_any _ _).mono ?_; rintro e' w' ⟨rfl, rfl⟩; (first | rw [n1] | rw [n2] | rw [n3])) | (go_at_call 16; (with_reducible refine (rnd_next_any d hd true _).mono ?_); rintro e' w' ⟨rfl, rfl⟩) | (go_at_call 16; (with_reducible refine (rnd_next_any u hu false _).mono ?_); rintro e' w' ⟨rfl, rfl⟩))
        go_ret
        exact ⟨rfl, rfl⟩
    · rw [decide_eq_false q1] at c1
      have q3 : Flt.sv o = Flt.sv u := by
        rcases h4 with h4 | h4
        · exact absurd h4 q1
        · exact h4
      rw [decide_eq_true q3] at c2
      have q2 : ¬ Flt.sv d = Flt.sv u := fun h => q1 (q3.trans h.symm)
      rw [decide_eq_false q2] at c3
      obtain ⟨k1, k2, k3, k4, k5⟩ : Flt.sv d < Flt.sv u ∧ ¬ Flt.Nan (nxt d true) ∧ Flt.sv (nxt d true) = Flt.sv u ∧ ¬ Flt.Nan (nxt u false) ∧ Flt.sv (nxt u false) = Flt.sv d := by
        rcases h5 with h5 | h5
        · exact absurd h5 q2
        · exact h5
      rw [decide_eq_true k1] at c4
      have c5 := Flt.eq_spec k2 h2
      have c6 := Flt.eq_spec k4 h1
      rw [decide_eq_true k3] at c5
      rw [decide_eq_true k5] at c6
      clear h4 h5 h1 h2 h3 q1 q2 q3 k1 k2 k3 k4 k5
      go_enter Tryd.func12, Tryd.ntmps12
      go_wp2_with (first | (go_at_call 14; refine (isNaN_any _ _).mono ?_; rintro e' w' ⟨rfl, rfl⟩; (first | rw [n1] | rw [n2] | rw [n3])) | (go_at_call 16; (with_reducible refine (rnd_next_any d hd true _).mono ?_); rintro e' w' ⟨rfl, rfl⟩) | (go_at_call 16; (with_reducible refine (rnd_next_any u hu false _).mono ?_); rintro e' w' ⟨rfl, rfl⟩))
      go_ret
      exact ⟨rfl, rfl⟩

theorem IsRoot.lt {x d u : Nat} (h : IsRoot x d u) : d < 2 ^ 64 ∧ u < 2 ^ 64 := by
  by_cases hp : Pos x
  · obtain ⟨r, h1, rfl, rfl⟩ := h.2 hp
    have := h1.1
    have hi := Flt.inf_lt
    exact ⟨by omega, by split <;> omega⟩
  · obtain ⟨z, h1, rfl, rfl⟩ := h.1 hp
    exact ⟨h1.1, h1.1⟩

end Go.Proofs.YtjcjphgpmpjmbaaDoor
