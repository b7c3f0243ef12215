/-
  SpanEither: what both have, what has both, either way round.
-/
import Derived.Test.YtjcknikgfcjhhaaSpnZ
import Derived.Test.YtjcknikgfcjhhaaSpnX
import Derived.Test.YtjcknikgfcjhhaaSpnJ
namespace Go.Proofs.Ytjcknikgfcjhhaa
open Go.RowKit

theorem pz_mx_comm {x y : Nat} (hx : x < 2 ^ 64) (hy : y < 2 ^ 64) : pz (mx x y) = pz (mx y x) :=
  pz_same (mx_lt hx hy) (mx_lt hy hx) (by rw [sv_mx, sv_mx]; split <;> split <;> omega)
theorem pz_mn_comm {x y : Nat} (hx : x < 2 ^ 64) (hy : y < 2 ^ 64) : pz (mn x y) = pz (mn y x) :=
  pz_same (mn_lt hx hy) (mn_lt hy hx) (by rw [sv_mn, sv_mn]; split <;> split <;> omega)
theorem joinF_comm {la ha lb hb : Nat} (b1 : la < 2 ^ 64) (b2 : ha < 2 ^ 64) (b3 : lb < 2 ^ 64) (b4 : hb < 2 ^ 64) : joinF lb hb la ha = joinF la ha lb hb := by
  unfold joinF
  rw [Bool.and_comm, pz_mn_comm b3 b1, pz_mx_comm b4 b2]
theorem meetF_comm {la ha lb hb : Nat} (b1 : la < 2 ^ 64) (b2 : ha < 2 ^ 64) (b3 : lb < 2 ^ 64) (b4 : hb < 2 ^ 64) : meetF lb hb la ha = meetF la ha lb hb := by
  cases h : okS la ha && okS lb hb with
  | false =>
    have h' : (okS lb hb && okS la ha) = false := by rw [Bool.and_comm]; exact h
    unfold meetF
    rw [h, h']
    rfl
  | true =>
    obtain ⟨h1, h2⟩ := Bool.and_eq_true_iff.1 h
    obtain ⟨f1, f2, _⟩ := okS_iff.1 h1
    obtain ⟨f3, f4, _⟩ := okS_iff.1 h2
    have h' : (okS lb hb && okS la ha) = true := by rw [Bool.and_comm]; exact h
    have e : (Ieee.double.order (mx lb la) (mn hb ha) == some .gt) = (Ieee.double.order (mx la lb) (mn ha hb) == some .gt) := by
      rw [← order_pz (mx_fin f3 f1) (mn_fin f4 f2), ← order_pz (mx_fin f1 f3) (mn_fin f2 f4), pz_mx_comm b3 b1, pz_mn_comm b4 b2]
    unfold meetF
    rw [h, h', e, pz_mx_comm b3 b1, pz_mn_comm b4 b2]
theorem inB_of {la ha lb hb : Nat} (h1 : Flt.Fin la) (h2 : Flt.Fin ha) (h3 : Flt.Fin lb) (h4 : Flt.Fin hb) (a : Flt.sv lb ≤ Flt.sv la) (b : Flt.sv la ≤ Flt.sv ha) (c : Flt.sv ha ≤ Flt.sv hb) : inB la ha lb hb = true := by
  unfold inB
  rw [okS_iff.2 ⟨h1, h2, b⟩, okS_iff.2 ⟨h3, h4, by omega⟩, leB_iff h3 h1, leB_iff h2 h4, decide_eq_true a, decide_eq_true c]
  rfl
theorem meet_in {la ha lb hb x y : Nat} (h : meetF la ha lb hb = (x, y, true)) : inB x y la ha = true ∧ inB x y lb hb = true := by
  unfold meetF at h
  split at h
  · rename_i hc
    obtain ⟨hc1, hc2⟩ := Bool.and_eq_true_iff.1 hc
    obtain ⟨h1, h2⟩ := Bool.and_eq_true_iff.1 hc1
    obtain ⟨f1, f2, _⟩ := okS_iff.1 h1
    obtain ⟨f3, f4, _⟩ := okS_iff.1 h2
    have fm := mx_fin f1 f3
    have fn := mn_fin f2 f4
    rw [Flt.gt_spec (fun k => Flt.not_fin_nan k fm) (fun k => Flt.not_fin_nan k fn), Bool.not_eq_true', decide_eq_false_iff_not] at hc2
    simp only [Prod.mk.injEq] at h
    obtain ⟨rfl, rfl, _⟩ := h
    have e1 := sv_mx la lb
    have e2 := sv_mn ha hb
    constructor
    · refine inB_of (fin_pz fm) (fin_pz fn) f1 f2 ?_ ?_ ?_ <;> (try rw [sv_pz]) <;> (try rw [sv_pz])
      · rw [e1]; split <;> omega
      · omega
      · rw [e2]; split <;> omega
    · refine inB_of (fin_pz fm) (fin_pz fn) f3 f4 ?_ ?_ ?_ <;> (try rw [sv_pz]) <;> (try rw [sv_pz])
      · rw [e1]; split <;> omega
      · omega
      · rw [e2]; split <;> omega
  · simp at h
theorem join_in {la ha lb hb x y : Nat} (h : joinF la ha lb hb = (x, y, 0)) : inB la ha x y = true ∧ inB lb hb x y = true := by
  unfold joinF at h
  split at h
  · rename_i hc
    obtain ⟨h1, h2⟩ := Bool.and_eq_true_iff.1 hc
    obtain ⟨f1, f2, k1⟩ := okS_iff.1 h1
    obtain ⟨f3, f4, k2⟩ := okS_iff.1 h2
    simp only [Prod.mk.injEq] at h
    obtain ⟨rfl, rfl, _⟩ := h
    have e1 := sv_mn la lb
    have e2 := sv_mx ha hb
    constructor
    · refine inB_of f1 f2 (fin_pz (mn_fin f1 f3)) (fin_pz (mx_fin f2 f4)) ?_ k1 ?_ <;> (try rw [sv_pz])
      · rw [e1]; split <;> omega
      · rw [e2]; split <;> omega
    · refine inB_of f3 f4 (fin_pz (mn_fin f1 f3)) (fin_pz (mx_fin f2 f4)) ?_ k2 ?_ <;> (try rw [sv_pz])
      · rw [e1]; split <;> omega
      · rw [e2]; split <;> omega
  · simp at h
theorem join_code {la ha lb hb : Nat} : (joinF la ha lb hb).2.2 = 0 ∨ (joinF la ha lb hb).2.2 = 1 := by
  unfold joinF; split <;> simp
theorem pz_lt5 {v : Nat} (h : v < 2 ^ 64) : pz v < 2 ^ 64 := by unfold pz; split <;> omega
theorem meetJ_lt {la ha lb hb : Nat} {A : Nat × Nat × Bool} {J : Nat × Nat × Int} (b1 : la < 2 ^ 64) (b2 : ha < 2 ^ 64) (b3 : lb < 2 ^ 64) (b4 : hb < 2 ^ 64) (hA : meetF la ha lb hb = A) (hJ : joinF la ha lb hb = J) :
    A.1 < 2 ^ 64 ∧ A.2.1 < 2 ^ 64 ∧ J.1 < 2 ^ 64 ∧ J.2.1 < 2 ^ 64 := by
  subst hA hJ
  unfold meetF joinF
  refine ⟨?_, ?_, ?_, ?_⟩ <;> split
  · exact pz_lt5 (mx_lt b1 b3)
  · decide
  · exact pz_lt5 (mn_lt b2 b4)
  · decide
  · exact pz_lt5 (mn_lt b1 b3)
  · decide
  · exact pz_lt5 (mx_lt b2 b4)
  · decide
end Go.Proofs.Ytjcknikgfcjhhaa
