/-
  Spans: what both have, what has both (package span and its reference).
-/
import Derived.Test.YtejlicacndpfpaaDoorSpnW
namespace Go.Proofs.YtejlicacndpfpaaDoor
open Go.RowKit

/-- What both have. -/
def meetF (la ha lb hb : Nat) : Nat × Nat × Bool :=
  if okS la ha && okS lb hb && !(Ieee.double.order (mx la lb) (mn ha hb) == some .gt) then (pz (mx la lb), pz (mn ha hb), true) else (0, 0, false)
set_option maxRecDepth 100000 in
set_option maxHeartbeats 800000 in
theorem span_meet_any (la ha lb hb : Nat) (b1 : la < 2 ^ 64) (b2 : ha < 2 ^ 64) (b3 : lb < 2 ^ 64) (b4 : hb < 2 ^ 64) (w : World) :
    Calls Tryd.prog 11 #[.agg #[.float .f64 la, .float .f64 ha], .agg #[.float .f64 lb, .float .f64 hb]] w (RetSpan w (meetF la ha lb hb).1 (meetF la ha lb hb).2.1 (.bool (meetF la ha lb hb).2.2)) := by
  obtain ⟨fx, nx, hfx, hsx⟩ := run_fmax_at (P := Tryd.prog) #[30, 30] 30 la lb b1 b3
  obtain ⟨fy, ny, hfy, hsy⟩ := run_fmin_at (P := Tryd.prog) #[30, 30] 30 ha hb b2 b4
  have HSX := Lib.hid hsx
  have HSY := Lib.hid hsy
  clear hsx hsy
  obtain ⟨m1, hm1⟩ : ∃ m, (okS la ha && okS lb hb) = m := ⟨_, rfl⟩
  have HM1 := Lib.hid hm1
  clear hm1
  obtain ⟨A, hA⟩ : ∃ x, (meetF la ha lb hb).1 = x := ⟨_, rfl⟩
  obtain ⟨B, hB⟩ : ∃ x, (meetF la ha lb hb).2.1 = x := ⟨_, rfl⟩
  obtain ⟨C, hC⟩ : ∃ x, (meetF la ha lb hb).2.2 = x := ⟨_, rfl⟩
  rw [hA, hB, hC]
  have HA := Lib.hid hA
  have HB := Lib.hid hB
  have HC := Lib.hid hC
  clear hA hB hC
  go_enter Tryd.func11, Tryd.ntmps11
  go_upto_region 1 with (fail)
  go_cut [6, 7] from 8 (fun s6 s7 wx => ∃ z y k, s6 = .float .f64 z ∧ s7 = .float .f64 y ∧ IsSel mx la lb z ∧ IsSel mn ha hb y ∧
    wx = (((w.alloc (.cells #[.float .f64 la, .float .f64 ha] 32)).alloc (.cells #[.float .f64 lb, .float .f64 hb] 32)).alloc (.cells #[.float .f64 0, .float .f64 0] 32)).drewN k)
  case first =>
    go_region
    all_goals (go_wp2_with fail)
    all_goals go_meet
    all_goals exact ⟨_, _, _, rfl, rfl, HSX.out _, HSY.out _, rfl⟩
  case rest =>
    obtain ⟨z, y, k, rfl, rfl, hz, hy, rfl⟩ := hcut
    clear HSX HSY hfx hfy
    cases m1 with
    | false =>
      have HEND : Hid (meetF la ha lb hb = (0, 0, false)) := Lib.hid (by unfold meetF; rw [HM1.out]; rfl)
      have e1 : A = 0 := by rw [← HA.out, HEND.out]
      have e2 : B = 0 := by rw [← HB.out, HEND.out]
      have e3 : C = false := by rw [← HC.out, HEND.out]
      subst e1 e2 e3
      go_wp2_with fail
      refine (span_may_two (w.heap.size + 1 + 1 + 1) la ha lb hb _ b1 b2 b3 b4 (by simp) (by simp [go_sem]) (by simp [go_sem]) (by simp [go_sem]) (by simp [go_sem])).mono ?_
      rintro e1 w1 ⟨rfl, hb1⟩
      rw [HM1.out]
      obtain ⟨hc1, hf1⟩ := bcell hb1
      have k0 := hc1 (w.heap.size + 1 + 1) 0 (by simp <;> omega)
      have k1 := hc1 (w.heap.size + 1 + 1) 1 (by simp <;> omega)
      have k2 := hf1 (w.heap.size + 1 + 1) 0 (by simp <;> omega)
      have k3 := hf1 (w.heap.size + 1 + 1) 1 (by simp <;> omega)
      go_wp2_with fail
      exact bodyPost_ret (v := .tuple #[.agg #[.float .f64 0, .float .f64 0], .bool false]) (by simp [results, Tryd.results11, go_sem, k0, k1]) rfl
        ⟨rfl, below_result (below_box (below_box (below_box (below_of_drewN (below_box hb1))))) (by omega) _ _⟩
    | true =>
      obtain ⟨ho1, ho2⟩ := Bool.and_eq_true_iff.1 HM1.out
      obtain ⟨f1, f2, _⟩ := okS_iff.1 ho1
      obtain ⟨f3, f4, _⟩ := okS_iff.1 ho2
      have ez := hz.2 (fun h => Flt.not_fin_nan h f1) (fun h => Flt.not_fin_nan h f3)
      have ey := hy.2 (fun h => Flt.not_fin_nan h f2) (fun h => Flt.not_fin_nan h f4)
      have z64 := hz.1
      have y64 := hy.1
      have fz : Flt.Fin z := by rw [ez]; unfold mx; split <;> (try split) <;> (try split) <;> assumption
      have fy' : Flt.Fin y := by rw [ey]; unfold mn; split <;> (try split) <;> (try split) <;> assumption
      clear hz hy ho1 ho2
      cases hm2 : (Ieee.double.order z y == some .gt) with
      | true =>
        have HEND : Hid (meetF la ha lb hb = (0, 0, false)) := Lib.hid (by unfold meetF; rw [HM1.out, ← ez, ← ey, hm2]; rfl)
        have e1 : A = 0 := by rw [← HA.out, HEND.out]
        have e2 : B = 0 := by rw [← HB.out, HEND.out]
        have e3 : C = false := by rw [← HC.out, HEND.out]
        clear ez ey
        subst e1 e2 e3
        go_wp2_with fail
        refine (span_may_two (w.heap.size + 1 + 1 + 1) la ha lb hb _ b1 b2 b3 b4 (by simp) (by simp [go_sem]) (by simp [go_sem]) (by simp [go_sem]) (by simp [go_sem])).mono ?_
        rintro e1 w1 ⟨rfl, hb1⟩
        rw [HM1.out]
        obtain ⟨hc1, hf1⟩ := bcell hb1
        have k0 := hc1 (w.heap.size + 1 + 1) 0 (by simp <;> omega)
        have k1 := hc1 (w.heap.size + 1 + 1) 1 (by simp <;> omega)
        have k2 := hf1 (w.heap.size + 1 + 1) 0 (by simp <;> omega)
        have k3 := hf1 (w.heap.size + 1 + 1) 1 (by simp <;> omega)
        go_wp2_with fail
        exact bodyPost_ret (v := .tuple #[.agg #[.float .f64 0, .float .f64 0], .bool false]) (by simp [results, Tryd.results11, go_sem, k0, k1]) rfl
          ⟨rfl, below_result (below_box (below_box (below_box (below_of_drewN (below_box hb1))))) (by omega) _ _⟩
      | false =>
        have HEND : Hid (meetF la ha lb hb = (pz z, pz y, true)) := Lib.hid (by unfold meetF; rw [HM1.out, ← ez, ← ey, hm2]; rfl)
        have e1 : A = pz z := by rw [← HA.out, HEND.out]
        have e2 : B = pz y := by rw [← HB.out, HEND.out]
        have e3 : C = true := by rw [← HC.out, HEND.out]
        have K1 : Hid (∀ t, IsOp Ieee.double.add z 0 t → t = pz z) := Lib.hid (fun t => isOp_nought z64 fz)
        have K2 : Hid (∀ t, IsOp Ieee.double.add y 0 t → t = pz y) := Lib.hid (fun t => isOp_nought y64 fy')
        clear ez ey
        subst e1 e2 e3
        go_wp2_with fail
        refine (span_may_two (w.heap.size + 1 + 1 + 1) la ha lb hb _ b1 b2 b3 b4 (by simp) (by simp [go_sem]) (by simp [go_sem]) (by simp [go_sem]) (by simp [go_sem])).mono ?_
        rintro e1 w1 ⟨rfl, hb1⟩
        rw [HM1.out]
        obtain ⟨hc1, hf1⟩ := bcell hb1
        have k0 := hc1 (w.heap.size + 1 + 1) 0 (by simp <;> omega)
        have k1 := hc1 (w.heap.size + 1 + 1) 1 (by simp <;> omega)
        have k2 := hf1 (w.heap.size + 1 + 1) 0 (by simp <;> omega)
        have k3 := hf1 (w.heap.size + 1 + 1) 1 (by simp <;> omega)
        go_wp2_with (first | (refine wpList_fadd _ rfl rfl ?_; intro t1 d1 hs1; have e1 := K1.out _ hs1; subst e1; clear hs1 K1) | (refine wpList_fadd _ rfl rfl ?_; intro t2 d2 hs2; have e2 := K2.out _ hs2; subst e2; clear hs2 K2))
        exact bodyPost_ret (v := .tuple #[.agg #[.float .f64 (pz z), .float .f64 (pz y)], .bool true]) (by simp [results, Tryd.results11, go_sem, k0, k1]) rfl
          ⟨rfl, below_result (below_drewN (below_box (below_box (below_box (below_of_drewN (below_box hb1))))) _) (by omega) _ _⟩
end Go.Proofs.YtejlicacndpfpaaDoor
