/-
  The references' difference (polestarref04.Sub), and the walk of RoundSums.
-/
import Derived.Test.YthddodhcpfponaaRefX
import Derived.Test.YthddodhcpfponaaSame
namespace Go.Proofs.Ythddodhcpfponaa
open Go.RowKit

theorem zero_of_eq {x : Nat} (h : (Ieee.double.order x 0 == some .eq) = true) : Flt.rg x = 0 := by
  by_cases hn : Flt.Nan x
  · rw [Flt.order_nan_left hn] at h; cases h
  · rw [Flt.eq_spec hn nan_zero, sv_zero] at h; exact Flt.sv_zero_iff.1 (of_decide_eq_true h)
theorem sum_zero {x y d u s : Nat} (h : IsSum x y d u) (hA : Flt.IsAdd x y s) (hx : Flt.Fin x) (hy : Flt.Fin y) (h1 : Flt.rg d = 0) (h2 : Flt.rg u = 0) : IsSum x y s s := by
  by_cases hz : Flt.sv x + Flt.sv y = 0
  · exact ⟨s, hA, fun _ => ⟨rfl, rfl⟩, fun _ _ k => absurd hz k⟩
  · exfalso
    obtain ⟨t, _, _, h3⟩ := h
    obtain ⟨r, hd, e1, e2⟩ := h3 hx hy hz
    have hr : r < Flt.inf := hd.1
    rw [Flt.inf_eq] at hr
    have hlow : ∀ v : Nat, v ≤ r + 1 → Flt.rg v = v ∧ Flt.rg (2 ^ 63 + v) = v := by intro v hv; unfold Flt.rg; omega
    have hle : hiR (Flt.sv x + Flt.sv y).natAbs 1 r ≤ r + 1 := by unfold hiR; split <;> omega
    have key : r = 0 ∧ hiR (Flt.sv x + Flt.sv y).natAbs 1 r = 0 := by
      by_cases hs : decide (Flt.sv x + Flt.sv y < 0) = true
      · rw [hs] at e1 e2
        simp only [if_true] at e1 e2
        rw [e1, (hlow _ hle).2] at h1
        rw [e2, (hlow r (by omega)).2] at h2
        exact ⟨h2, h1⟩
      · rw [Bool.not_eq_true] at hs
        rw [hs] at e1 e2
        simp only [Bool.false_eq_true, if_false] at e1 e2
        rw [e1, (hlow r (by omega)).1] at h1
        rw [e2, (hlow _ hle).1] at h2
        exact ⟨h1, h2⟩
    obtain ⟨k1, k2⟩ := key
    unfold hiR at k2
    rw [k1, Flt.val_zero] at k2
    split at k2 <;> omega

theorem isSub_add {x y s : Nat} (h : IsOp Ieee.double.sub x y s) : Flt.IsAdd x (Flt.opp y) s := by
  obtain ⟨h1, h2⟩ := h
  rw [Flt.sub_eq] at h2
  exact ⟨h1, h2⟩

set_option maxHeartbeats 1600000 in
theorem ref_sub_float (x y : Nat) (hx : x < 2 ^ 64) (hy : y < 2 ^ 64) (w : World) : Calls Try.prog 16 #[.float .f64 x, .float .f64 y] w (RetPair w (IsSum x (Flt.opp y))) := by
  have hn : Hid (neg64 y = Flt.opp y) := Lib.hid (neg64_eq y hy)
  go_enter Try.func16, Try.ntmps16
  go_wp2_with fail
  refine upon_fsub ?_
  intro s d hs
  have hs64 : s < 2 ^ 64 := hs.1
  have HA := Lib.hid (isSub_add hs)
  clear hs
  cases hfx : Flt.finB x with
  | false =>
    have hc : Hid (¬ (Flt.Fin x ∧ Flt.Fin (Flt.opp y))) := Lib.hid (by rintro ⟨a, b⟩; exact absurd a (Flt.finB_false.1 hfx))
    have HF := Lib.hid hfx
    clear hfx
    go_wp2_with (first | (go_at_call 37; (with_reducible refine (ref_finite_any x hx _).mono ?_); rintro e1 w1 ⟨rfl, rfl⟩; rw [HF.out]))
    go_ret2
    exact ⟨_, _, rfl, sum_own HA.out hc.out, below_drewN (Below.refl _ _) d⟩
  | true =>
    cases hfy : Flt.finB y with
    | false =>
      have hc : Hid (¬ (Flt.Fin x ∧ Flt.Fin (Flt.opp y))) := Lib.hid (by rintro ⟨a, b⟩; exact absurd (Flt.fin_opp.1 b) (Flt.finB_false.1 hfy))
      have HF := Lib.hid hfx
      have HF2 := Lib.hid hfy
      clear hfx hfy
      go_wp2_with (first | (go_at_call 37; (with_reducible refine (ref_finite_any x hx _).mono ?_); rintro e1 w1 ⟨rfl, rfl⟩; rw [HF.out]) | (go_at_call 37; (with_reducible refine (ref_finite_any y hy _).mono ?_); rintro e1 w1 ⟨rfl, rfl⟩; rw [HF2.out]))
      go_ret2
      exact ⟨_, _, rfl, sum_own HA.out hc.out, below_drewN (Below.refl _ _) d⟩
    | true =>
      have HX := Lib.hid (Flt.finB_iff.1 hfx)
      have HY := Lib.hid (Flt.fin_opp.2 (Flt.finB_iff.1 hfy))
      have HF := Lib.hid hfx
      have HF2 := Lib.hid hfy
      clear hfx hfy
      go_wp2_with (first | (go_at_call 37; (with_reducible refine (ref_finite_any x hx _).mono ?_); rintro e1 w1 ⟨rfl, rfl⟩; rw [HF.out]) | (go_at_call 37; (with_reducible refine (ref_finite_any y hy _).mono ?_); rintro e1 w1 ⟨rfl, rfl⟩; rw [HF2.out]))
      rw [hn.out]
      refine (ref_add_float x (Flt.opp y) hx (Flt.opp_lt y) _).mono ?_
      rintro e3 w3 ⟨dn, up, rfl, hS, hb3⟩
      have HS := Lib.hid hS
      have hb := below_of_drewN (k := d) hb3
      clear hS
      cases h1 : (Ieee.double.order dn 0 == some .eq) with
      | false =>
        go_wp2_with fail
        go_ret2
        exact ⟨_, _, rfl, HS.out, hb⟩
      | true =>
        cases h2 : (Ieee.double.order up 0 == some .eq) with
        | false =>
          go_wp2_with fail
          go_ret2
          exact ⟨_, _, rfl, HS.out, hb⟩
        | true =>
          have HZ := Lib.hid (sum_zero HS.out HA.out HX.out HY.out (zero_of_eq h1) (zero_of_eq h2))
          go_wp2_with fail
          go_ret2
          exact ⟨_, _, rfl, HZ.out, hb⟩

set_option maxHeartbeats 1600000 in
theorem law_sums (x y : Nat) (hx : x < 2 ^ 64) (hy : y < 2 ^ 64) (w : World) : Calls Try.prog 4 #[.float .f64 x, .float .f64 y] w fun e w' => e = .returned (.bool true) ∧ Below w.heap.size w w' := by
  go_enter Try.func4, Try.ntmps4
  go_wp2_with fail
  refine (rnd_add_any x y hx hy _).mono ?_
  rintro e1 w1 ⟨d1, u1, rfl, h1, hb1⟩
  have H1 := Lib.hid h1
  clear h1
  go_wp2_with fail
  refine (ref_add_float x y hx hy _).mono ?_
  rintro e2 w2 ⟨d2, u2, rfl, h2, hb2⟩
  have hs := H1.out.same h2
  have HS : Hid ((Flt.sameB d1 d2 && Flt.sameB u1 u2) = true) := Lib.hid (by rw [Flt.sameB_iff.2 hs.1, Flt.sameB_iff.2 hs.2]; rfl)
  have hbw2 := below_next hb1 hb2
  clear h2 hs H1 hb1 hb2
  go_wp2_with fail
  refine (rnd_sub_any x y hx hy _).mono ?_
  rintro e3 w3 ⟨d3, u3, rfl, h3, hb3⟩
  have H3 := Lib.hid h3
  clear h3
  go_wp2_with fail
  refine (ref_sub_float x y hx hy _).mono ?_
  rintro e4 w4 ⟨d4, u4, rfl, h4, hb4⟩
  have hs := H3.out.same h4
  have HS2 : Hid ((Flt.sameB d3 d4 && Flt.sameB u3 u4) = true) := Lib.hid (by rw [Flt.sameB_iff.2 hs.1, Flt.sameB_iff.2 hs.2]; rfl)
  have hbw4 := below_next (below_next hbw2 hb3) hb4
  clear h4 hs H3 hbw2 hb3 hb4
  go_wp2_with (first | (go_at_call 12; (with_reducible refine (law_same d1 u1 d2 u2 _).mono ?_); rintro e5 w5 ⟨rfl, rfl⟩; rw [HS.out]) | (go_at_call 12; (with_reducible refine (law_same d3 u3 d4 u4 _).mono ?_); rintro e6 w6 ⟨rfl, rfl⟩; rw [HS2.out]))
  go_ret
  exact ⟨rfl, hbw4⟩
end Go.Proofs.Ythddodhcpfponaa
