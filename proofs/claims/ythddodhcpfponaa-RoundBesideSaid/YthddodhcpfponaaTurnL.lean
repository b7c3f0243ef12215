/-
  What is so of a round that rounds at all; signs turned; floats beside: the walks of the statements' own functions.
-/
import Derived.Test.YthddodhcpfponaaBesP
import Derived.Test.YthddodhcpfponaaRootW
import Derived.Test.YthddodhcpfponaaSumL
namespace Go.Proofs.Ythddodhcpfponaa
open Go.RowKit

/-! ### the constants -/
theorem third_brk : Brk false (Flt.val (Flt.rg 4607182418800017408) * 2 ^ Flt.K74) (Flt.val (Flt.rg 4613937818241073152)) 4599676419421066581 4599676419421066582 := by
  refine ⟨4599676419421066581, ⟨?_, ?_, fun _ => ?_⟩, rfl, ?_⟩
  · decide +kernel
  · decide +kernel
  · decide +kernel
  · decide +kernel
theorem alive_quo {d u : Nat} (h : IsDiv 4607182418800017408 4613937818241073152 d u) : d = 4599676419421066581 ∧ u = 4599676419421066582 := by
  have hw : Whole2 4607182418800017408 4613937818241073152 := by unfold Whole2 Flt.Fin; decide +kernel
  have h1 := h.2 hw
  exact h1.unique third_brk
theorem alive_two {s l : Nat} (h : Flt.IsTwo 4607182418800017408 4363988038922010624 s l) : s = 4607182418800017408 ∧ l = 4363988038922010624 := by
  have e : Ieee.double.add 4607182418800017408 4363988038922010624 = some 4607182418800017408 := by decide +kernel
  have hs : s = 4607182418800017408 := by have := h.1.2; rw [e] at this; exact this
  subst hs
  have hf : Flt.Fin 4607182418800017408 := by unfold Flt.Fin; decide +kernel
  obtain ⟨h1, h2, _⟩ := h.2.2.1 hf
  refine ⟨rfl, Flt.fin_eq h.2.1 (by decide) (by omega) ?_⟩
  have h0 : Flt.sv 4363988038922010624 ≠ 0 := fun h' => by have := Flt.sv_zero_iff.1 h'; revert this; decide
  omega
theorem alive_root {d u : Nat} (h : IsRoot 4616189618054758400 d u) : d = 4611686018427387904 ∧ u = 4611686018427387904 := by
  have hp : Pos 4616189618054758400 := by unfold Pos Flt.Fin; decide +kernel
  obtain ⟨r, h1, rfl, rfl⟩ := h.2 hp
  have k : DnSq (Flt.val (Flt.rg 4616189618054758400) * 2 ^ Flt.K74) 4611686018427387904 := by unfold DnSq; decide +kernel
  have := h1.unique k
  subst this
  refine ⟨rfl, if_pos ?_⟩
  decide +kernel

def RetTrue (W : World) (e : Ending) (w' : World) : Prop := e = .returned (.bool true) ∧ Below W.heap.size W w'

set_option maxRecDepth 100000 in
set_option maxHeartbeats 800000 in
theorem law_alive (w : World) : Calls Try.prog 31 #[] w (RetTrue w) := by
  have f1 : (Ieee.double.order 4607182418800017408 4607182418800017408 == some .eq) = true := by decide +kernel
  have f2 : (Ieee.double.order 4363988038922010624 4363988038922010624 == some .eq) = true := by decide +kernel
  have f3 : (Ieee.double.order 4611686018427387904 4611686018427387904 == some .eq) = true := by decide +kernel
  go_enter Try.func31, Try.ntmps31
  go_wp2_with fail
  refine (rnd_quo_any _ _ (by decide) (by decide) _).mono ?_
  rintro e1 w1 ⟨d, u, rfl, h, hb1⟩
  obtain ⟨rfl, rfl⟩ := alive_quo h
  clear h
  go_wp2_with fail
  refine (rnd_two_any _ _ (by decide) (by decide) _).mono ?_
  rintro e2 w2 ⟨s, l, rfl, h, hb2⟩
  obtain ⟨rfl, rfl⟩ := alive_two h
  clear h
  go_wp2_with fail
  refine (rnd_sqrt_any _ (by decide) _).mono ?_
  rintro e3 w3 ⟨a, b, rfl, h, hb3⟩
  obtain ⟨rfl, rfl⟩ := alive_root h
  clear h
  go_wp2_with fail
  go_ret
  exact ⟨rfl, below_next (below_next hb1 hb2) hb3⟩

/-! ### turned, beside -/
theorem nanB_of {x : Nat} (h : Flt.Nan x) : Flt.nanB x = true := Flt.nanB_iff.2 h
theorem nanB_not {x : Nat} (h : ¬ Flt.Nan x) : Flt.nanB x = false := by
  cases hb : Flt.nanB x with
  | true => exact absurd (Flt.nanB_iff.1 hb) h
  | false => rfl

set_option maxHeartbeats 800000 in
theorem law_turned (d u e v : Nat) (he : e < 2 ^ 64) (hv : v < 2 ^ 64) (h : Turned d u e v) (w : World) : Calls Try.prog 34 #[.float .f64 d, .float .f64 u, .float .f64 e, .float .f64 v] w fun e' w' => e' = .returned (.bool true) ∧ w = w' := by
  rcases h with ⟨h1, h2, h3, h4⟩ | ⟨h1, h2, h3, h4, h5, h6⟩
  · have n1 := nanB_of h1
    have n2 := nanB_of h2
    have n3 := nanB_of h3
    have n4 := nanB_of h4
    clear h1 h2 h3 h4
    go_enter Try.func34, Try.ntmps34
    go_wp2_with (go_at_call 64; refine (isNaN_any _ _).mono ?_; rintro e' w' ⟨rfl, rfl⟩; (first | rw [n1] | rw [n2] | rw [n3] | rw [n4]))
    go_ret
    exact ⟨rfl, rfl⟩
  · have n1 := nanB_not h1
    have n2 := nanB_not h3
    have c1 : (Ieee.double.order d (neg64 v) == some .eq) = true := by
      rw [neg64_eq v hv, Flt.eq_spec h1 (fun h => h4 (Flt.nan_opp.1 h)), Flt.sv_opp]; exact decide_eq_true h5
    have c2 : (Ieee.double.order u (neg64 e) == some .eq) = true := by
      rw [neg64_eq e he, Flt.eq_spec h2 (fun h => h3 (Flt.nan_opp.1 h)), Flt.sv_opp]; exact decide_eq_true h6
    clear h1 h2 h3 h4 h5 h6
    go_enter Try.func34, Try.ntmps34
    go_wp2_with (go_at_call 64; refine (isNaN_any _ _).mono ?_; rintro e' w' ⟨rfl, rfl⟩; (first | rw [n1] | rw [n2]))
    go_ret
    exact ⟨rfl, rfl⟩

theorem Brk.lt {s : Bool} {num den d u : Nat} (h : Brk s num den d u) : d < 2 ^ 64 ∧ u < 2 ^ 64 := by
  obtain ⟨r, h1, rfl, rfl⟩ := h
  have hh := hiR_le' h1
  have hi := Flt.inf_lt
  have hr := h1.1
  cases s <;> simp <;> omega
theorem IsPair.lt {f : Nat → Nat → Option Nat} {W : Prop} {x y : Nat} {s : Bool} {num den d u : Nat} (h : IsPair f W x y s num den d u) : d < 2 ^ 64 ∧ u < 2 ^ 64 := by
  by_cases hw : W
  · exact (h.2 hw).lt
  · obtain ⟨z, h1, rfl, rfl⟩ := h.1 hw
    exact ⟨h1.1, h1.1⟩
theorem IsSum.lt {x y d u : Nat} (h : IsSum x y d u) : d < 2 ^ 64 ∧ u < 2 ^ 64 := by
  obtain ⟨s, h1, h2, h3⟩ := h
  by_cases hc : ¬ (Flt.Fin x ∧ Flt.Fin y) ∨ Flt.sv x + Flt.sv y = 0
  · obtain ⟨rfl, rfl⟩ := h2 hc
    exact ⟨h1.1, h1.1⟩
  · have hf : Flt.Fin x ∧ Flt.Fin y := Classical.byContradiction fun h' => hc (.inl h')
    exact (h3 hf.1 hf.2 (fun h' => hc (.inr h'))).lt

theorem same_true {a b c d : Nat} (h : Flt.Same a c ∧ Flt.Same b d) : (Flt.sameB a c && Flt.sameB b d) = true := by
  rw [Flt.sameB_iff.2 h.1, Flt.sameB_iff.2 h.2]; rfl
theorem law_same_true (a b c d : Nat) (w : World) (h : Hid (Flt.Same a c ∧ Flt.Same b d)) : Calls Try.prog 12 #[.float .f64 a, .float .f64 b, .float .f64 c, .float .f64 d] w fun e w' => e = .returned (.bool true) ∧ w = w' :=
  (law_same a b c d w).mono fun _ _ ⟨h1, h2⟩ => ⟨by rw [h1, same_true h.out], h2⟩
end Go.Proofs.Ythddodhcpfponaa
