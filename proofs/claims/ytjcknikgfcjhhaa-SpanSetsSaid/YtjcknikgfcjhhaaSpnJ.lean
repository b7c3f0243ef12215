/-
  Spans: the least that has both.
-/
import Derived.Test.YtjcknikgfcjhhaaSpnX
namespace Go.Proofs.Ytjcknikgfcjhhaa
open Go.RowKit

/-- The least that has both. -/
def joinF (la ha lb hb : Nat) : Nat × Nat × Int := if okS la ha && okS lb hb then (pz (mn la lb), pz (mx ha hb), 0) else (0, 0, 1)
theorem mx_fin {x y : Nat} (h1 : Flt.Fin x) (h2 : Flt.Fin y) : Flt.Fin (mx x y) := by unfold mx; split <;> (try split) <;> (try split) <;> assumption
theorem mn_fin {x y : Nat} (h1 : Flt.Fin x) (h2 : Flt.Fin y) : Flt.Fin (mn x y) := by unfold mn; split <;> (try split) <;> (try split) <;> assumption
set_option maxRecDepth 100000 in
set_option maxHeartbeats 800000 in
theorem span_join_any (la ha lb hb : Nat) (b1 : la < 2 ^ 64) (b2 : ha < 2 ^ 64) (b3 : lb < 2 ^ 64) (b4 : hb < 2 ^ 64) (w : World) :
    Calls Try.prog 10 #[.agg #[.float .f64 la, .float .f64 ha], .agg #[.float .f64 lb, .float .f64 hb]] w (RetSpan w (joinF la ha lb hb).1 (joinF la ha lb hb).2.1 (.int .i64 (joinF la ha lb hb).2.2)) := by
  obtain ⟨m1, hm1⟩ : ∃ m, (okS la ha && okS lb hb) = m := ⟨_, rfl⟩
  have HM1 := Lib.hid hm1
  clear hm1
  cases m1 with
  | false =>
    have HEND : Hid (joinF la ha lb hb = (0, 0, 1)) := Lib.hid (by unfold joinF; rw [HM1.out]; rfl)
    rw [HEND.out]
    go_enter Try.func10, Try.ntmps10
    go_wp2_with fail
    refine (span_may_two (w.heap.size + 1 + 1 + 1) la ha lb hb _ b1 b2 b3 b4 (by simp) (by simp [go_sem]) (by simp [go_sem]) (by simp [go_sem]) (by simp [go_sem])).mono ?_
    rintro e1 w1 ⟨rfl, hb1⟩
    rw [HM1.out]
    obtain ⟨hc1, hf1⟩ := bcell hb1
    have k0 := hc1 (w.heap.size + 1 + 1) 0 (by simp <;> omega)
    have k1 := hc1 (w.heap.size + 1 + 1) 1 (by simp <;> omega)
    have k2 := hf1 (w.heap.size + 1 + 1) 0 (by simp <;> omega)
    have k3 := hf1 (w.heap.size + 1 + 1) 1 (by simp <;> omega)
    go_wp2_with fail
    exact bodyPost_ret (v := .tuple #[.agg #[.float .f64 0, .float .f64 0], .int .i64 1]) (by simp [results, Try.results10, go_sem, k0, k1]) rfl
      ⟨rfl, below_result (below_box (below_box (below_box (below_box hb1)))) (by omega) _ _⟩
  | true =>
    obtain ⟨ho1, ho2⟩ := Bool.and_eq_true_iff.1 HM1.out
    obtain ⟨f1, f2, _⟩ := okS_iff.1 ho1
    obtain ⟨f3, f4, _⟩ := okS_iff.1 ho2
    have HMN : Hid (∀ z, IsSel mn la lb z → z < 2 ^ 64 ∧ Flt.Fin z ∧ pz z = pz (mn la lb)) := Lib.hid (fun z hz => by
      have e := hz.2 (fun h => Flt.not_fin_nan h f1) (fun h => Flt.not_fin_nan h f3)
      exact ⟨hz.1, by rw [e]; exact mn_fin f1 f3, by rw [e]⟩)
    have HMX : Hid (∀ z, IsSel mx ha hb z → z < 2 ^ 64 ∧ Flt.Fin z ∧ pz z = pz (mx ha hb)) := Lib.hid (fun z hz => by
      have e := hz.2 (fun h => Flt.not_fin_nan h f2) (fun h => Flt.not_fin_nan h f4)
      exact ⟨hz.1, by rw [e]; exact mx_fin f2 f4, by rw [e]⟩)
    have HEND : Hid (joinF la ha lb hb = (pz (mn la lb), pz (mx ha hb), 0)) := Lib.hid (by unfold joinF; rw [HM1.out]; rfl)
    rw [HEND.out]
    clear ho1 ho2 f1 f2 f3 f4 HEND
    obtain ⟨lo, hlo⟩ : ∃ x, pz (mn la lb) = x := ⟨_, rfl⟩
    obtain ⟨hi, hhi⟩ : ∃ x, pz (mx ha hb) = x := ⟨_, rfl⟩
    rw [hlo, hhi]
    rw [hlo] at HMN
    rw [hhi] at HMX
    clear hlo hhi
    go_enter Try.func10, Try.ntmps10
    go_wp2_with fail
    refine (span_may_two (w.heap.size + 1 + 1 + 1) la ha lb hb _ b1 b2 b3 b4 (by simp) (by simp [go_sem]) (by simp [go_sem]) (by simp [go_sem]) (by simp [go_sem])).mono ?_
    rintro e1 w1 ⟨rfl, hb1⟩
    rw [HM1.out]
    obtain ⟨hc1, hf1⟩ := bcell hb1
    have k0 := hc1 w.heap.size 0 (by simp <;> omega)
    have k1 := hc1 w.heap.size 1 (by simp <;> omega)
    have k2 := hc1 (w.heap.size + 1) 0 (by simp <;> omega)
    have k3 := hc1 (w.heap.size + 1) 1 (by simp <;> omega)
    have k4 := hc1 (w.heap.size + 1 + 1) 0 (by simp <;> omega)
    have k5 := hc1 (w.heap.size + 1 + 1) 1 (by simp <;> omega)
    have k6 := hf1 (w.heap.size + 1 + 1) 0 (by simp <;> omega)
    have k7 := hf1 (w.heap.size + 1 + 1) 1 (by simp <;> omega)
    have sz1 := hb1.size
    go_wp2_with (first
      | (obtain ⟨z, n1, hrz, hz⟩ := run_fmin (P := Try.prog) w1 #[22, 22] 22 la lb b1 b3; rw [hrz]; obtain ⟨z64, fz, ez⟩ := HMN.out z hz; clear hz hrz)
      | (obtain ⟨y, n2, hry, hy⟩ := run_fmax (P := Try.prog) (w1.drewN n1) #[22, 22] 22 ha hb b2 b4; rw [hry]; obtain ⟨y64, fy, ey⟩ := HMX.out y hy; clear hy hry))
    refine (span_ends_ok z y z64 y64 _ fz fy).mono ?_
    rintro e2 w2 ⟨rfl, hb2⟩
    rw [ez, ey]
    obtain ⟨hc2, hf2⟩ := bcell hb2
    have j4 := (hc2 (w.heap.size + 1 + 1) 0 (by simp at sz1 ⊢ <;> omega)).trans k4
    have j5 := (hc2 (w.heap.size + 1 + 1) 1 (by simp at sz1 ⊢ <;> omega)).trans k5
    have j6 := (hf2 (w.heap.size + 1 + 1) 0 (by simp at sz1 ⊢ <;> omega)).trans k6
    have j7 := (hf2 (w.heap.size + 1 + 1) 1 (by simp at sz1 ⊢ <;> omega)).trans k7
    have hbw1 := below_box (below_box (below_box (below_box hb1)))
    have hbw2 : Below w.heap.size w w2 := hbw1.trans ((below_of_drewN hb2).mono hbw1.size)
    clear hc1 hf1 hc2 hf2 k0 k1 k2 k3 k4 k5 k6 k7
    go_wp2_with fail
    exact bodyPost_ret (v := .tuple #[.agg #[.float .f64 lo, .float .f64 hi], .int .i64 0]) (by simp [results, Try.results10, go_sem, j4, j5]) rfl
      ⟨rfl, below_result hbw2 (by omega) _ _⟩
end Go.Proofs.Ytjcknikgfcjhhaa
