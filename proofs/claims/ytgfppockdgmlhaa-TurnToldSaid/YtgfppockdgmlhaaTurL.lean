/-
  TurnRound: the same complex numbers, no signs of noughts, the chapter's examples.
-/
import Derived.Test.YtgfppockdgmlhaaTurP
import Derived.Test.YtgfppockdgmlhaaSame
namespace Go.Proofs.Ytgfppockdgmlhaa
open Go.RowKit

theorem same_refl17 (x : Nat) : Flt.sameB x x = true := Flt.sameB_iff.2 (.inl rfl)
theorem sameComplex_eq (a b : Nat) (w : World) : Calls Try.prog 8 #[.complex .f64 a b, .complex .f64 a b] w fun e w' => e = .returned (.bool true) ∧ w = w' := by
  have HA := Lib.hid (same_refl17 a)
  have HB := Lib.hid (same_refl17 b)
  go_enter Try.func8, Try.ntmps8
  go_wp2_with fail
  refine (law_sameFloat a a _).mono ?_
  rintro e1 w1 ⟨rfl, rfl⟩
  rw [HA.out]
  go_wp2_with fail
  refine (law_sameFloat b b _).mono ?_
  rintro e2 w2 ⟨rfl, rfl⟩
  rw [HB.out]
  go_wp2_with fail
  go_ret
  exact ⟨rfl, rfl⟩
/-- No nought with a sign. -/
def Bare (x : Nat) : Prop := (Ieee.double.order x 0 == some .eq) = true → Flt.sgn x = false
theorem bare_pz {x : Nat} (h : Flt.Fin x) : Bare (pz x) := fun k => by
  rw [Flt.eq_spec (fun k => Flt.not_fin_nan k (fin_pz h)) nan_zero, sv_zero] at k
  have h0 := Flt.sv_zero_iff.1 (of_decide_eq_true k)
  unfold pz at h0 ⊢
  split
  · rfl
  · rename_i h1
    rw [if_neg h1] at h0
    exact absurd h0 h1
theorem plain_any (a b : Nat) (ha : Bare a) (hb : Bare b) (w : World) : Calls Try.prog 9 #[.complex .f64 a b] w fun e w' => e = .returned (.bool true) ∧ w = w' := by
  obtain ⟨x, hx⟩ : ∃ x, (Ieee.double.order a 0 == some .eq) = x := ⟨_, rfl⟩
  obtain ⟨y, hy⟩ : ∃ y, (Ieee.double.order b 0 == some .eq) = y := ⟨_, rfl⟩
  have HA : Hid (x = true → Flt.sgn a = false) := Lib.hid (fun h => ha (by rw [hx]; exact h))
  have HB : Hid (y = true → Flt.sgn b = false) := Lib.hid (fun h => hb (by rw [hy]; exact h))
  clear ha hb
  cases x <;> cases y <;>
  (go_enter Try.func9, Try.ntmps9
   go_wp2_with (first | (go_at_call 22; (with_reducible refine (signbit_any a _).mono ?_); rintro e3 w3 ⟨rfl, rfl⟩; rw [HA.out (by simp)]) | (go_at_call 22; (with_reducible refine (signbit_any b _).mono ?_); rintro e4 w4 ⟨rfl, rfl⟩; rw [HB.out (by simp)]))
   go_ret
   exact ⟨rfl, rfl⟩)
theorem live1 : jF 1 2 = 16384 ∧ uF 16384 = (0, one) := by constructor <;> decide +kernel
theorem live2 : jF 2 2 = 32768 ∧ uF 32768 = (13830554455654793216, 0) := by constructor <;> decide +kernel
set_option maxRecDepth 100000 in
set_option maxHeartbeats 800000 in
theorem lives17 (w : World) : Calls Try.prog 7 #[] w (RetV w (.bool true)) := by
  have E1 : (Ieee.double.order 0 0 == some .eq) = true := by decide +kernel
  have E2 : (Ieee.double.order 4607182418800017408 4607182418800017408 == some .eq) = true := by decide +kernel
  have E3 : (Ieee.double.order 13830554455654793216 13830554455654793216 == some .eq) = true := by decide +kernel
  go_enter Try.func7, Try.ntmps7
  go_wp2_with fail
  refine (unit_ok 1 2 (by decide) _).mono ?_
  rintro e1 w1 ⟨rfl, hb1⟩
  rw [live1.1, live1.2]
  go_wp2_with fail
  refine (unit_ok 2 2 (by decide) _).mono ?_
  rintro e2 w2 ⟨rfl, hb2⟩
  rw [live2.1, live2.2]
  go_wp2_with fail
  refine (unit_no 0 (-1) (by decide) _).mono ?_
  rintro e3 w3 ⟨rfl, rfl⟩
  rw [show cntF (-1) = 1 from rfl]
  go_wp2_with fail
  refine (unit_no 0 17 (by decide) _).mono ?_
  rintro e4 w4 ⟨rfl, rfl⟩
  rw [show cntF 17 = 4 from rfl]
  have hbw := below_next hb1 hb2
  go_wp2_with fail
  go_ret
  exact ⟨rfl, hbw⟩
end Go.Proofs.Ytgfppockdgmlhaa
