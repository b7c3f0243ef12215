/-
  What becomes of pairs of floats beside when signs are turned.
  What is so of a round that rounds at all; signs turned; floats beside: the walks of the statements' own functions.
  RoundBeside: the law's walk.
  Floats stored into memory: the laws that the kit has for integers, Booleans, slices.
  Spans, plainly: the least and the greatest of two floats, noughts without a sign.
-/
import Derived.Test.YtjcjphgpmpjmbaaDoorRoot
import Derived.Test.YtjcjphgpmpjmbaaDoorRootW
import Derived.Test.YtjcjphgpmpjmbaaDoorRndU
import Derived.Test.YtjcjphgpmpjmbaaDoorZero
namespace Go.Proofs.YtjcjphgpmpjmbaaDoor
open Go.RowKit

namespace Flt
open Ieee

/-! ### operations and signs -/
theorem not_nan_word {s : Bool} {r : Nat} (h : r ≤ inf) : ¬ Nan (word s r) := by
  have := inf_lt
  unfold Nan
  rw [rg_word _ _ (by omega)]; omega
theorem product_comm (d e : Datum) : d.product e = e.product d := by
  cases d <;> cases e <;> simp [Datum.product, Bool.xor_comm, Nat.mul_comm, Int.add_comm]
theorem sum_comm (d e : Datum) : d.sum e = e.sum d := by
  cases d with
  | nan => cases e <;> rfl
  | infinity s =>
    cases e with
    | nan => rfl
    | infinity t =>
      simp only [Datum.sum]
      by_cases h : s = t
      · subst h; rfl
      · rw [if_neg h, if_neg (fun h' => h h'.symm)]
    | number => rfl
  | number s m i =>
    cases e with
    | nan => rfl
    | infinity t => rfl
    | number t n j =>
      simp only [Datum.sum]
      rw [Int.min_comm j i, Int.add_comm (signed t n _), Bool.and_comm t s]

theorem mul_comm (x y : Nat) : double.mul x y = double.mul y x := by unfold Format.mul; rw [product_comm]
theorem add_comm (x y : Nat) : double.add x y = double.add y x := by unfold Format.add; rw [sum_comm]
end Flt

/-- The one pair is the other one with the other sign; or none of the four is a number. -/
def Turned (d u e v : Nat) : Prop :=
  (Flt.Nan d ∧ Flt.Nan u ∧ Flt.Nan e ∧ Flt.Nan v) ∨ (¬ Flt.Nan d ∧ ¬ Flt.Nan u ∧ ¬ Flt.Nan e ∧ ¬ Flt.Nan v ∧ Flt.sv d = - Flt.sv v ∧ Flt.sv u = - Flt.sv e)

theorem hiR_le' {num den r : Nat} (h : Flt.Dn num den r) : hiR num den r ≤ Flt.inf := by have := h.1; unfold hiR; split <;> omega
theorem Brk.turned {s : Bool} {num den d u e v : Nat} (h : Brk s num den d u) (k : Brk (!s) num den e v) : Turned d u e v := by
  obtain ⟨r, h1, rfl, rfl⟩ := h
  obtain ⟨r', k1, rfl, rfl⟩ := k
  have := h1.unique k1
  subst this
  have hr : r ≤ Flt.inf := by have := h1.1; omega
  have hh := hiR_le' h1
  have hi := Flt.inf_lt
  have w : ∀ (t : Bool) (a b : Nat), (if t then 2 ^ 63 + a else b) = if t then Flt.word true a else Flt.word false b := fun t a b => by cases t <;> rfl
  simp only [w]
  right
  cases s <;> simp only [Bool.not_false, Bool.not_true, Bool.false_eq_true, ↓reduceIte]
  · exact ⟨Flt.not_nan_word hr, Flt.not_nan_word hh, Flt.not_nan_word hh, Flt.not_nan_word hr, by simp [Flt.sv_word (show r < 2 ^ 63 by omega)], by simp [Flt.sv_word (show hiR num den r < 2 ^ 63 by omega)]⟩
  · exact ⟨Flt.not_nan_word hh, Flt.not_nan_word hr, Flt.not_nan_word hr, Flt.not_nan_word hh, by simp [Flt.sv_word (show hiR num den r < 2 ^ 63 by omega)], by simp [Flt.sv_word (show r < 2 ^ 63 by omega)]⟩

theorem sum_comm {x y d u : Nat} (h : IsSum x y d u) : IsSum y x d u := by
  obtain ⟨s, h1, h2, h3⟩ := h
  refine ⟨s, ⟨h1.1, by rw [Flt.add_comm]; exact h1.2⟩, fun k => h2 ?_, fun a b k => ?_⟩
  · rcases k with k | k
    · exact .inl (fun h => k ⟨h.2, h.1⟩)
    · exact .inr (by omega)
  · rw [Int.add_comm] at k ⊢
    exact h3 b a k

end Go.Proofs.YtjcjphgpmpjmbaaDoor

namespace Go.Proofs.YtjcjphgpmpjmbaaDoor
open Go.RowKit

/-! ### the constants -/
theorem third_brk : Brk false (Flt.val (Flt.rg 4607182418800017408) * 2 ^ Flt.K74) (Flt.val (Flt.rg 4613937818241073152)) 4599676419421066581 4599676419421066582 := by
  refine ⟨4599676419421066581, ⟨?_, ?_, fun _ => ?_⟩, rfl, ?_⟩
  · decide +kernel
  · decide +kernel
  · decide +kernel
  · decide +kernel
theorem alive_quo {d u : Nat} (h : IsDiv 4607182418800017408 4613937818241073152 d u) : d = 4599676419421066581 ∧ u = 4599676419421066582 := by
  have hw : Whole2 4607182418800017408 4613937818241073152 := by unfold Whole2 Flt.Fin; decide +kernel
  have h1 := h.2 hw
  exact h1.unique third_brk
theorem alive_two {s l : Nat} (h : Flt.IsTwo 4607182418800017408 4363988038922010624 s l) : s = 4607182418800017408 ∧ l = 4363988038922010624 := by
  have e : Ieee.double.add 4607182418800017408 4363988038922010624 = some 4607182418800017408 := by decide +kernel
  have hs : s = 4607182418800017408 := by have := h.1.2; rw [e] at this; exact this
  subst hs
  have hf : Flt.Fin 4607182418800017408 := by unfold Flt.Fin; decide +kernel
  obtain ⟨h1, h2, _⟩ := h.2.2.1 hf
  refine ⟨rfl, Flt.fin_eq h.2.1 (by decide) (by omega) ?_⟩
  have h0 : Flt.sv 4363988038922010624 ≠ 0 := fun h' => by have := Flt.sv_zero_iff.1 h'; revert this; decide
  omega
theorem alive_root {d u : Nat} (h : IsRoot 4616189618054758400 d u) : d = 4611686018427387904 ∧ u = 4611686018427387904 := by
  have hp : Pos 4616189618054758400 := by unfold Pos Flt.Fin; decide +kernel
  obtain ⟨r, h1, rfl, rfl⟩ := h.2 hp
  have k : DnSq (Flt.val (Flt.rg 4616189618054758400) * 2 ^ Flt.K74) 4611686018427387904 := by unfold DnSq; decide +kernel
  have := h1.unique k
  subst this
  refine ⟨rfl, if_pos ?_⟩
  decide +kernel

def RetTrue (W : World) (e : Ending) (w' : World) : Prop := e = .returned (.bool true) ∧ Below W.heap.size W w'

set_option maxRecDepth 100000 in
set_option maxHeartbeats 800000 in
theorem law_alive (w : World) : Calls Tryd.prog 6 #[] w (RetTrue w) := by
  have f1 : (Ieee.double.order 4607182418800017408 4607182418800017408 == some .eq) = true := by decide +kernel
  have f2 : (Ieee.double.order 4363988038922010624 4363988038922010624 == some .eq) = true := by decide +kernel
  have f3 : (Ieee.double.order 4611686018427387904 4611686018427387904 == some .eq) = true := by decide +kernel
  go_enter Tryd.func6, Tryd.ntmps6
  go_wp2_with fail
  refine (rnd_quo_any _ _ (by decide) (by decide) _).mono ?_
  rintro e1 w1 ⟨d, u, rfl, h, hb1⟩
  obtain ⟨rfl, rfl⟩ := alive_quo h
  clear h
  go_wp2_with fail
  refine (rnd_two_any _ _ (by decide) (by decide) _).mono ?_
  rintro e2 w2 ⟨s, l, rfl, h, hb2⟩
  obtain ⟨rfl, rfl⟩ := alive_two h
  clear h
  go_wp2_with fail
  refine (rnd_sqrt_any _ (by decide) _).mono ?_
  rintro e3 w3 ⟨a, b, rfl, h, hb3⟩
  obtain ⟨rfl, rfl⟩ := alive_root h
  clear h
  go_wp2_with fail
  go_ret
  exact ⟨rfl, below_next (below_next hb1 hb2) hb3⟩

/-! ### turned, beside -/
theorem Brk.lt {s : Bool} {num den d u : Nat} (h : Brk s num den d u) : d < 2 ^ 64 ∧ u < 2 ^ 64 := by
  obtain ⟨r, h1, rfl, rfl⟩ := h
  have hh := hiR_le' h1
  have hi := Flt.inf_lt
  have hr := h1.1
  cases s <;> simp <;> omega
theorem IsPair.lt {f : Nat → Nat → Option Nat} {W : Prop} {x y : Nat} {s : Bool} {num den d u : Nat} (h : IsPair f W x y s num den d u) : d < 2 ^ 64 ∧ u < 2 ^ 64 := by
  by_cases hw : W
  · exact (h.2 hw).lt
  · obtain ⟨z, h1, rfl, rfl⟩ := h.1 hw
    exact ⟨h1.1, h1.1⟩
theorem IsSum.lt {x y d u : Nat} (h : IsSum x y d u) : d < 2 ^ 64 ∧ u < 2 ^ 64 := by
  obtain ⟨s, h1, h2, h3⟩ := h
  by_cases hc : ¬ (Flt.Fin x ∧ Flt.Fin y) ∨ Flt.sv x + Flt.sv y = 0
  · obtain ⟨rfl, rfl⟩ := h2 hc
    exact ⟨h1.1, h1.1⟩
  · have hf : Flt.Fin x ∧ Flt.Fin y := Classical.byContradiction fun h' => hc (.inl h')
    exact (h3 hf.1 hf.2 (fun h' => hc (.inr h'))).lt

end Go.Proofs.YtjcjphgpmpjmbaaDoor

namespace Go.Proofs.YtjcjphgpmpjmbaaDoor
open Go.RowKit

theorem IsRoot.lt {x d u : Nat} (h : IsRoot x d u) : d < 2 ^ 64 ∧ u < 2 ^ 64 := by
  by_cases hp : Pos x
  · obtain ⟨r, h1, rfl, rfl⟩ := h.2 hp
    have := h1.1
    have hi := Flt.inf_lt
    exact ⟨by omega, by split <;> omega⟩
  · obtain ⟨z, h1, rfl, rfl⟩ := h.1 hp
    exact ⟨h1.1, h1.1⟩

end Go.Proofs.YtjcjphgpmpjmbaaDoor

namespace Go.Proofs.YtjcjphgpmpjmbaaDoor
open Go.RowKit

@[go_sem] theorem run_store_float {P : Program} {w : World} {a : Addr} {m : Mode} (k : FloatKind) (x : Nat) : (store a (.float k x) m).run P w = stored P w a (.float k x) m := run_store P w a _ m rfl
end Go.Proofs.YtjcjphgpmpjmbaaDoor

namespace Go.Proofs.YtjcjphgpmpjmbaaDoor
open Go.RowKit

section
variable {P : Program} (w : World)
end

/-- v - v == 0 asks whether v is finite. -/
theorem sub_self {v t : Nat} (ht : IsOp Ieee.double.sub v v t) : (Ieee.double.order t 0 == some .eq) = Flt.finB v := by
  obtain ⟨_, h⟩ := ht
  rw [Flt.sub_eq] at h
  by_cases hf : Flt.Fin v
  · have e := Flt.add_exact (x := v) (y := Flt.opp v) (r := 0) hf (Flt.fin_opp.2 hf) (by rw [Flt.inf_eq]; omega) (by rw [Flt.sv_opp, Int.add_right_neg, Flt.val_zero]; rfl)
    rw [Flt.sv_opp, Int.add_right_neg, if_pos rfl, Flt.sgn_opp] at e
    rw [e] at h
    have h0 : t = 0 := by rw [show t = _ from h]; cases Flt.sgn v <;> rfl
    rw [h0, Flt.finB_iff.2 hf, Flt.eq_spec nan_zero nan_zero]
    simp
  · rw [Flt.finB_false.2 hf]
    have hn : Flt.Nan t := by
      by_cases hi : Flt.rg v = Flt.inf
      · rw [Flt.add_inf_both hi (by rw [Flt.rg_opp]; exact hi), Flt.sgn_opp, if_neg (by cases Flt.sgn v <;> simp)] at h
        exact h
      · rw [Flt.add_nan_left (by unfold Flt.Fin at hf; unfold Flt.Nan; omega)] at h
        exact h
    rw [Flt.order_nan_left hn]
    rfl

end Go.Proofs.YtjcjphgpmpjmbaaDoor
