/-
  The references' float beside (polestarref04.Next); the law of roots.
-/
import Derived.Test.YthddodhcpfponaaRootF
import Derived.Test.YthddodhcpfponaaSame
namespace Go.Proofs.Ythddodhcpfponaa
open Go.RowKit

set_option maxRecDepth 100000 in
set_option maxHeartbeats 3200000 in
theorem ref_next_any (x : Nat) (hx : x < 2 ^ 64) (up : Bool) (w : World) : Calls Try.prog 24 #[.float .f64 x, .bool up] w fun e w' => e = .returned (.float .f64 (nxt x up)) ∧ w = w' := by
  cases hn : Flt.nanB x with
  | true =>
    have hv : Hid (nxt x up = x) := Lib.hid (by unfold nxt; rw [hn]; rfl)
    rw [hv.out]
    go_enter Try.func24, Try.ntmps24
    go_wp2_with (go_at_call 64; refine (isNaN_any _ _).mono ?_; rintro e w' ⟨rfl, rfl⟩; rw [hn])
    go_ret
    exact ⟨rfl, rfl⟩
  | false =>
    have ho := eq_zero hn
    by_cases h0 : Flt.rg x = 0
    · rw [decide_eq_true h0] at ho
      have hi : Flt.infB x = false := by unfold Flt.infB; rw [h0, Flt.inf_eq]; rfl
      cases hs : Flt.sgn x <;> cases up
      all_goals
        first
        | have hv : Hid (nxt x true = 1) := Lib.hid (by unfold nxt; rw [hn]; simp [h0])
          rw [hv.out]
          have HH := True.intro
        | have hv : Hid (nxt x false = 2 ^ 63 + 1) := Lib.hid (by unfold nxt; rw [hn]; simp [h0])
          rw [hv.out]
          have HH := True.intro
      all_goals
        clear h0
        go_enter Try.func24, Try.ntmps24
        go_wp2_with (first | (go_at_call 64; refine (isNaN_any _ _).mono ?_; rintro e w' ⟨rfl, rfl⟩; rw [hn]) | (go_at_call 66; (with_reducible refine (isInf1_any x _).mono ?_); rintro e w' ⟨rfl, rfl⟩; rw [hi, hs]) | (go_at_call 66; (with_reducible refine (isInf2_any x hx _).mono ?_); rintro e w' ⟨rfl, rfl⟩; rw [hi, hs]))
        go_ret
        exact ⟨rfl, rfl⟩
    · rw [decide_eq_false h0] at ho
      have hg := gt_zero hn h0
      have hxr : x ≤ 2 ^ 63 + Flt.inf := by
        have : ¬ Flt.inf < Flt.rg x := by unfold Flt.nanB at hn; exact of_decide_eq_false hn
        unfold Flt.rg at this; rw [Flt.inf_eq] at this ⊢; omega
      have hx0 : 0 < x := by rcases Nat.eq_zero_or_pos x with h | h; · subst h; exact absurd rfl h0
                             · exact h
      have e1 : IntKind.u64.wrap ((x : Int) + 1) = (x : Int) + 1 := IntWalk.u64_in _ (by rw [Flt.inf_eq] at hxr; omega)
      have e2 : IntKind.u64.wrap ((x : Int) - 1) = (x : Int) - 1 := IntWalk.u64_in _ (by omega)
      have t1 : Hid (((x : Int) + 1).toNat = x + 1) := Lib.hid (by omega)
      have t2 : Hid (((x : Int) - 1).toNat = x - 1) := Lib.hid (by omega)
      have hnx : ∀ up, nxt x up = if Flt.infB x && (Flt.sgn x != up) then x else if (!Flt.sgn x) == up then x + 1 else x - 1 := by
        intro up; unfold nxt; rw [hn, if_neg (by simp), if_neg h0]
      have hv := hnx up
      clear hnx
      cases hi : Flt.infB x <;> cases hs : Flt.sgn x <;> cases up <;>
      (rw [hi, hs] at hv
       have HV := Lib.hid hv
       rw [hs] at hg
       clear hv hxr h0
       go_enter Try.func24, Try.ntmps24
       go_wp2_with (first | (go_at_call 64; refine (isNaN_any _ _).mono ?_; rintro e w' ⟨rfl, rfl⟩; rw [hn]) | (go_at_call 66; (with_reducible refine (isInf1_any x _).mono ?_); rintro e w' ⟨rfl, rfl⟩; rw [hi, hs]) | (go_at_call 66; (with_reducible refine (isInf2_any x hx _).mono ?_); rintro e w' ⟨rfl, rfl⟩; rw [hi, hs]))
       go_ret
       refine ⟨?_, rfl⟩
       first
         | (rw [HV.out]; rfl)
         | (rw [HV.out]; show Ending.returned (.float .f64 ((x : Int) + 1).toNat) = _; rw [t1.out]; rfl)
         | (rw [HV.out]; show Ending.returned (.float .f64 ((x : Int) - 1).toNat) = _; rw [t2.out]; rfl))

set_option maxHeartbeats 1600000 in
theorem law_roots (x : Nat) (hx : x < 2 ^ 64) (w : World) : Calls Try.prog 6 #[.float .f64 x] w fun e w' => e = .returned (.bool true) ∧ Below w.heap.size w w' := by
  go_enter Try.func6, Try.ntmps6
  go_wp2_with fail
  refine (rnd_sqrt_any x hx _).mono ?_
  rintro e1 w1 ⟨d1, u1, rfl, h1, hb1⟩
  have H1 := Lib.hid h1
  clear h1
  go_wp2_with fail
  refine (ref_sqrt_float x hx _).mono ?_
  rintro e2 w2 ⟨d2, u2, rfl, h2, hb2⟩
  have hs := IsRoot.same H1.out h2
  have HS : Hid ((Flt.sameB d1 d2 && Flt.sameB u1 u2) = true) := Lib.hid (by rw [Flt.sameB_iff.2 hs.1, Flt.sameB_iff.2 hs.2]; rfl)
  have hbw2 := below_next hb1 hb2
  clear h2 hs H1 hb1 hb2
  obtain ⟨nd, hnd⟩ : ∃ n, nxt x false = n := ⟨_, rfl⟩
  obtain ⟨nu, hnu⟩ : ∃ n, nxt x true = n := ⟨_, rfl⟩
  have HD := Lib.hid hnd
  have HU := Lib.hid hnu
  clear hnd hnu
  have HS2 : Hid ((Flt.sameB nd nd && Flt.sameB nu nu) = true) := Lib.hid (by rw [Flt.sameB_iff.2 (.inl rfl), Flt.sameB_iff.2 (.inl rfl)]; rfl)
  go_wp2_with (first
    | (go_at_call 12; (with_reducible refine (law_same d1 u1 d2 u2 _).mono ?_); rintro e5 w5 ⟨rfl, rfl⟩; rw [HS.out])
    | (go_at_call 12; (with_reducible refine (law_same nd nu nd nu _).mono ?_); rintro e6 w6 ⟨rfl, rfl⟩; rw [HS2.out])
    | (go_at_call 23; (with_reducible refine (rnd_next_any x hx false _).mono ?_); rintro e7 w7 ⟨rfl, rfl⟩; rw [HD.out])
    | (go_at_call 23; (with_reducible refine (rnd_next_any x hx true _).mono ?_); rintro e8 w8 ⟨rfl, rfl⟩; rw [HU.out])
    | (go_at_call 24; (with_reducible refine (ref_next_any x hx false _).mono ?_); rintro e9 w9 ⟨rfl, rfl⟩; rw [HD.out])
    | (go_at_call 24; (with_reducible refine (ref_next_any x hx true _).mono ?_); rintro e10 w10 ⟨rfl, rfl⟩; rw [HU.out]))
  go_ret
  exact ⟨rfl, hbw2⟩
end Go.Proofs.Ythddodhcpfponaa
