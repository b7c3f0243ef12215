/-
  Floats, rounded down and up (round): sums and differences.
-/
import Derived.Test.YthddodhcpfponaaRndB
import Derived.Test.YthddodhcpfponaaSum
namespace Go.Proofs.Ythddodhcpfponaa
open Go.RowKit

def RetPair (W : World) (p : Nat → Nat → Prop) (e : Ending) (w' : World) : Prop :=
  ∃ d u, e = .returned (.tuple #[.float .f64 d, .float .f64 u]) ∧ p d u ∧ Below W.heap.size W w'

theorem cmp_zero {x : Nat} (h : ¬ Flt.Nan x) : (Ieee.double.order x 0 == some .gt) = decide (0 < Flt.sv x) ∧ (Ieee.double.order x 0 == some .lt) = decide (Flt.sv x < 0) := by
  rw [Flt.gt_spec h nan_zero, Flt.lt_spec h nan_zero, sv_zero]
  exact ⟨rfl, rfl⟩

set_option maxHeartbeats 800000 in
theorem rnd_at_any (own l : Nat) (ho : own < 2 ^ 64) (hl : ¬ Flt.Nan l) (w : World) : Calls Try.prog 48 #[.float .f64 own, .float .f64 l] w fun e w' => e = .returned (.tuple #[.float .f64 (atd own (Flt.sv l)).1, .float .f64 (atd own (Flt.sv l)).2]) ∧ w = w' := by
  obtain ⟨c1, c2⟩ := cmp_zero hl
  by_cases h1 : 0 < Flt.sv l
  · have hv : Hid (atd own (Flt.sv l) = (own, nxt own true)) := Lib.hid (by unfold atd; rw [if_pos h1])
    rw [hv.out, decide_eq_true h1] at *
    clear c2 h1 hl
    go_enter Try.func48, Try.ntmps48
    go_wp2_with (go_at_call 23; refine (rnd_next_any _ ho _ _).mono ?_; rintro e w' ⟨rfl, rfl⟩)
    go_ret2
    exact ⟨rfl, rfl⟩
  · rw [decide_eq_false h1] at c1
    by_cases h2 : Flt.sv l < 0
    · have hv : Hid (atd own (Flt.sv l) = (nxt own false, own)) := Lib.hid (by unfold atd; rw [if_neg h1, if_pos h2])
      rw [hv.out]
      rw [decide_eq_true h2] at c2
      clear h1 h2 hl
      go_enter Try.func48, Try.ntmps48
      go_wp2_with (go_at_call 23; refine (rnd_next_any _ ho _ _).mono ?_; rintro e w' ⟨rfl, rfl⟩)
      go_ret2
      exact ⟨rfl, rfl⟩
    · have hv : Hid (atd own (Flt.sv l) = (own, own)) := Lib.hid (by unfold atd; rw [if_neg h1, if_neg h2])
      rw [hv.out]
      rw [decide_eq_false h2] at c2
      clear h1 h2 hl
      go_enter Try.func48, Try.ntmps48
      go_wp2
      go_ret2
      exact ⟨rfl, rfl⟩

theorem rnd_beyond_any (own : Nat) (hi : Flt.rg own = Flt.inf) (w : World) : Calls Try.prog 47 #[.float .f64 own] w fun e w' => e = .returned (.tuple #[.float .f64 (bey own).1, .float .f64 (bey own).2]) ∧ w = w' := by
  have hn : Flt.nanB own = false := by unfold Flt.nanB; rw [hi]; exact decide_eq_false (by omega)
  have hg := gt_zero hn (by rw [hi, Flt.inf_eq]; omega)
  clear hn hi
  cases hs : Flt.sgn own with
  | true =>
    have hv : Hid (bey own = (own, 18442240474082181119)) := Lib.hid (by unfold bey; rw [hs, Flt.inf_eq]; rfl)
    rw [hv.out]
    rw [hs] at hg
    clear hs
    go_enter Try.func47, Try.ntmps47
    go_wp2
    go_ret2
    exact ⟨rfl, rfl⟩
  | false =>
    have hv : Hid (bey own = (9218868437227405311, own)) := Lib.hid (by unfold bey; rw [hs, Flt.inf_eq]; rfl)
    rw [hv.out]
    rw [hs] at hg
    clear hs
    go_enter Try.func47, Try.ntmps47
    go_wp2
    go_ret2
    exact ⟨rfl, rfl⟩

set_option maxHeartbeats 1600000 in
theorem rnd_add_any (x y : Nat) (hx : x < 2 ^ 64) (hy : y < 2 ^ 64) (w : World) : Calls Try.prog 13 #[.float .f64 x, .float .f64 y] w (RetPair w (IsSum x y)) := by
  go_enter Try.func13, Try.ntmps13
  go_wp2_with fail
  refine upon_fadd ?_
  intro s d hs
  have hs64 : s < 2 ^ 64 := hs.1
  have HA : Hid (Flt.IsAdd x y s) := Lib.hid hs
  clear hs
  cases hf : (Flt.finB x && Flt.finB y) with
  | false =>
    have hc : Hid (¬ (Flt.Fin x ∧ Flt.Fin y)) := Lib.hid (by rintro ⟨a, b⟩; rw [Flt.finB_iff.2 a, Flt.finB_iff.2 b] at hf; cases hf)
    have HF := Lib.hid hf
    clear hf
    go_wp2_with fail
    refine (rnd_finite_two w.heap.size x y _ hx hy (cell_new2 (w.drewN d) _ _ _).1 (cell_new2 (w.drewN d) _ _ _).2).mono ?_
    rintro e1 w1 ⟨rfl, rfl⟩
    rw [HF.out]
    go_wp2_with fail
    go_ret2
    exact ⟨_, _, rfl, sum_own HA.out hc.out, (below_drewN (Below.refl _ _) d).alloc (Nat.le_refl _) _⟩
  | true =>
    have hfx : Flt.Fin x ∧ Flt.Fin y := by rw [Bool.and_eq_true] at hf; exact ⟨Flt.finB_iff.1 hf.1, Flt.finB_iff.1 hf.2⟩
    have HX := Lib.hid hfx
    have HF := Lib.hid hf
    clear hf hfx
    go_wp2_with fail
    refine (rnd_finite_two w.heap.size x y _ hx hy (cell_new2 (w.drewN d) _ _ _).1 (cell_new2 (w.drewN d) _ _ _).2).mono ?_
    rintro e1 w1 ⟨rfl, rfl⟩
    rw [HF.out]
    have hb1 : Below w.heap.size w ((w.drewN d).alloc (.cells #[.float .f64 x, .float .f64 y] 22)) := (below_drewN (Below.refl _ _) d).alloc (Nat.le_refl _) _
    generalize (w.drewN d).alloc (.cells #[.float .f64 x, .float .f64 y] 22) = w2 at hb1 ⊢
    cases hf2 : Flt.finB s with
    | false =>
      have HS := Lib.hid (Flt.finB_false.1 hf2)
      have HF2 := Lib.hid hf2
      clear hf2
      have hi : Flt.rg s = Flt.inf := by
        rcases Flt.kinds s with h | h | h
        · exact absurd h HS.out
        · exact h
        · exfalso
          obtain ⟨z, hz, r, hw, hn⟩ := Flt.add_fin HX.out.1 HX.out.2
          have e := HA.out.2
          rw [hz] at e
          have e : s = z := e
          unfold Flt.Nan at h
          rw [e, hw, Flt.rg_word _ _ (Flt.near_lt hn)] at h
          have := hn.1
          omega
      have HI := Lib.hid hi
      clear hi
      go_wp2_with fail
      refine (rnd_finite_one w2.heap.size s _ hs64 (cell_new1 w2 _ _)).mono ?_
      rintro e3 w3 ⟨rfl, rfl⟩
      rw [HF2.out]
      go_wp2_with (go_at_call 47; refine (rnd_beyond_any _ HI.out _).mono ?_; rintro e4 w4 ⟨rfl, rfl⟩)
      go_ret2
      exact ⟨_, _, rfl, sum_bey HA.out HX.out.1 HX.out.2 HS.out, below_next hb1 ((Below.refl _ _).alloc (Nat.le_refl _) _)⟩
    | true =>
      have HS := Lib.hid (Flt.finB_iff.1 hf2)
      have HF2 := Lib.hid hf2
      clear hf2
      go_wp2_with fail
      refine (rnd_finite_one w2.heap.size s _ hs64 (cell_new1 w2 _ _)).mono ?_
      rintro e3 w3 ⟨rfl, rfl⟩
      rw [HF2.out]
      go_wp2_with fail
      refine (rnd_two_any x y hx hy _).mono ?_
      rintro e4 w4 ⟨s', l, rfl, hT, hb4⟩
      have hss : s' = s := by
        obtain ⟨z, hz, _⟩ := Flt.add_fin HX.out.1 HX.out.2
        have a := HA.out.2
        have b := hT.1.2
        rw [hz] at a b
        exact b.trans a.symm
      rw [hss] at hT
      have hfl : Flt.Fin l := (hT.2.2.1 HS.out).1
      have hnl : ¬ Flt.Nan l := fun h => Flt.not_fin_nan h hfl
      have HT := Lib.hid hT
      have hb5 := below_next hb1 (below_box hb4)
      clear hT hfl hss
      go_wp2_with (go_at_call 48; refine (rnd_at_any s l hs64 hnl _).mono ?_; rintro e5 w5 ⟨rfl, rfl⟩)
      go_ret2
      exact ⟨_, _, rfl, sum_at HT.out HS.out, hb5⟩

theorem rnd_sub_any (x y : Nat) (hx : x < 2 ^ 64) (hy : y < 2 ^ 64) (w : World) : Calls Try.prog 15 #[.float .f64 x, .float .f64 y] w (RetPair w (IsSum x (Flt.opp y))) := by
  have hn : Hid (neg64 y = Flt.opp y) := Lib.hid (neg64_eq y hy)
  go_enter Try.func15, Try.ntmps15
  go_wp2_with fail
  rw [hn.out]
  refine (rnd_add_any x (Flt.opp y) hx (Flt.opp_lt y) _).mono ?_
  rintro e1 w1 ⟨d, u, rfl, hS, hb1⟩
  go_wp2_with fail
  go_ret2
  exact ⟨_, _, rfl, hS, hb1⟩
end Go.Proofs.Ythddodhcpfponaa
