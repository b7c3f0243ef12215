/-
  SpanGrows: what a span has lies within the root of its square.
-/
import Derived.Test.YtjcknikgfcjhhaaSpnGp
namespace Go.Proofs.Ytjcknikgfcjhhaa
open Go.RowKit

theorem sv_rg_sq (v : Nat) : Flt.sv (Flt.rg v) * Flt.sv (Flt.rg v) = Flt.sv v * Flt.sv v := by
  rw [Flt.sv_rg]
  unfold Flt.sv
  split
  · rw [Int.neg_mul_neg]
  · rfl
theorem fin_rg {v : Nat} (h : Flt.Fin v) : Flt.Fin (Flt.rg v) := by unfold Flt.Fin at h ⊢; rw [Flt.rg_abs]; exact h
theorem sv_rg_nonneg (v : Nat) : 0 ≤ Flt.sv (Flt.rg v) := by rw [Flt.sv_rg]; omega
theorem loF_or (x y : Nat) : loF x y = x ∨ loF x y = y := by unfold loF; split; exact .inl rfl; exact .inr rfl
theorem upF_or (x y : Nat) : upF x y = x ∨ upF x y = y := by unfold upF; split; exact .inl rfl; exact .inr rfl
theorem lo_le_up {x y : Nat} (fx : Flt.Fin x) (fy : Flt.Fin y) : Flt.sv (loF x y) ≤ Flt.sv (upF x y) := by
  unfold loF upF
  rw [Flt.lt_spec (fun k => Flt.not_fin_nan k fx) (fun k => Flt.not_fin_nan k fy), Flt.gt_spec (fun k => Flt.not_fin_nan k fx) (fun k => Flt.not_fin_nan k fy)]
  by_cases h1 : Flt.sv x < Flt.sv y
  · rw [decide_eq_true h1, decide_eq_false (by omega)]
    show Flt.sv x ≤ Flt.sv y
    omega
  · rw [decide_eq_false h1]
    by_cases h2 : Flt.sv y < Flt.sv x
    · rw [decide_eq_true h2]
      show Flt.sv y ≤ Flt.sv x
      omega
    · rw [decide_eq_false h2]
      exact Int.le_refl _
theorem low_sq {la ha lo : Nat} (h : LowOf (sqrC la ha) lo) (hf : Flt.Fin lo) (t : Nat) (ht : t = la ∨ t = ha) : Flt.sv lo * UU ≤ Flt.sv t * Flt.sv t := by
  have hm : (Flt.sv t * Flt.sv t, 2 ^ Flt.K74) ∈ sqrC la ha := by rcases ht with rfl | rfl; exact (sqr_at _ _).1; exact (sqr_at _ _).2
  obtain ⟨e, he, hle⟩ := h.2 _ hm
  have fe := he.finite hf hle
  exact Int.le_trans (Int.mul_le_mul_of_nonneg_right hle UU_nonneg) (he.2.2.1 fe)
theorem high_sq {la ha hi : Nat} (h : HighOf (sqrC la ha) hi) (hf : Flt.Fin hi) (t : Nat) (ht : t = la ∨ t = ha) : Flt.sv t * Flt.sv t ≤ Flt.sv hi * UU := by
  have hm : (Flt.sv t * Flt.sv t, 2 ^ Flt.K74) ∈ sqrC la ha := by rcases ht with rfl | rfl; exact (sqr_at _ _).1; exact (sqr_at _ _).2
  obtain ⟨e, he, hle⟩ := h.2 _ hm
  have fe := he.finite hf hle
  exact Int.le_trans (he.2.2.1 fe) (Int.mul_le_mul_of_nonneg_right hle UU_nonneg)
theorem pz_or {v : Nat} (h : 0 ≤ Flt.sv v) : pz v = 0 ∨ 0 < Flt.sv (pz v) := by
  by_cases h0 : Flt.rg v = 0
  · left; unfold pz; rw [if_pos h0]
  · right
    rw [sv_pz]
    have : Flt.sv v ≠ 0 := fun k => h0 (Flt.sv_zero_iff.1 k)
    omega
def mLo (la ha : Nat) : Nat := if zB la ha then 0 else loF (Flt.rg la) (Flt.rg ha)
theorem root_in {la ha rlo lu rd rhi : Nat} {p : Nat × Nat × Int} (a1 : okS la ha = true) (hp : IsSqr (okS la ha) (zB la ha) (sqrC la ha) p) (h0 : p.2.2 = 0)
    (k1 : IsRoot (pz (mx p.1 0)) rlo lu) (k2 : IsRoot (pz p.2.1) rd rhi) :
    (endsF rlo rhi).2.2 = 0 ∧ inB (mLo la ha) (upF (Flt.rg la) (Flt.rg ha)) (endsF rlo rhi).1 (endsF rlo rhi).2.1 = true := by
  obtain ⟨lo, hi, h1, h2, f1, f2, rfl⟩ := sqr_told a1 hp h0
  obtain ⟨g1, g2, _⟩ := okS_iff.1 a1
  have n1 := sqr_low_nonneg h1
  have n2 := sqr_low_le h1 h2
  have fm : Flt.Fin (mLo la ha) ∧ 0 ≤ Flt.sv (mLo la ha) := by
    unfold mLo
    split
    · exact ⟨fin_zero, by rw [sv_zero]; exact Int.le_refl _⟩
    · rcases loF_or (Flt.rg la) (Flt.rg ha) with e | e <;> rw [e]
      · exact ⟨fin_rg g1, sv_rg_nonneg _⟩
      · exact ⟨fin_rg g2, sv_rg_nonneg _⟩
  have fu : Flt.Fin (upF (Flt.rg la) (Flt.rg ha)) ∧ 0 ≤ Flt.sv (upF (Flt.rg la) (Flt.rg ha)) ∧ Flt.sgn (upF (Flt.rg la) (Flt.rg ha)) = false ∧ Flt.sv (upF (Flt.rg la) (Flt.rg ha)) * Flt.sv (upF (Flt.rg la) (Flt.rg ha)) ≤ Flt.sv hi * UU := by
    rcases upF_or (Flt.rg la) (Flt.rg ha) with e | e <;> rw [e]
    · exact ⟨fin_rg g1, sv_rg_nonneg _, Flt.sgn_rg _, by rw [sv_rg_sq]; exact high_sq h2 f2 la (.inl rfl)⟩
    · exact ⟨fin_rg g2, sv_rg_nonneg _, Flt.sgn_rg _, by rw [sv_rg_sq]; exact high_sq h2 f2 ha (.inr rfl)⟩
  have hmu : Flt.sv (mLo la ha) ≤ Flt.sv (upF (Flt.rg la) (Flt.rg ha)) := by
    unfold mLo
    split
    · rw [sv_zero]; exact fu.2.1
    · exact lo_le_up (fin_rg g1) (fin_rg g2)
  -- the operand of the lower root
  have ex : ∃ x, x = (if zB la ha then 0 else pz lo) ∧ Flt.Fin x ∧ 0 ≤ Flt.sv x ∧ Flt.sv x * UU ≤ Flt.sv (mLo la ha) * Flt.sv (mLo la ha) := by
    refine ⟨_, rfl, ?_⟩
    unfold mLo
    cases zB la ha with
    | true =>
      show Flt.Fin 0 ∧ 0 ≤ Flt.sv 0 ∧ Flt.sv 0 * UU ≤ Flt.sv 0 * Flt.sv 0
      rw [sv_zero]
      exact ⟨fin_zero, Int.le_refl _, by rw [Int.zero_mul, Int.zero_mul]; exact Int.le_refl _⟩
    | false =>
      show Flt.Fin (pz lo) ∧ 0 ≤ Flt.sv (pz lo) ∧ Flt.sv (pz lo) * UU ≤ Flt.sv (loF (Flt.rg la) (Flt.rg ha)) * Flt.sv (loF (Flt.rg la) (Flt.rg ha))
      rw [sv_pz]
      refine ⟨fin_pz f1, n1, ?_⟩
      rcases loF_or (Flt.rg la) (Flt.rg ha) with e | e <;> rw [e, sv_rg_sq]
      · exact low_sq h1 f1 la (.inl rfl)
      · exact low_sq h1 f1 ha (.inr rfl)
  obtain ⟨x, hx, fx, x0, xq⟩ := ex
  have k1 : IsRoot (pz (mx (if zB la ha then 0 else pz lo) 0)) rlo lu := k1
  rw [← hx] at k1
  have sx : Flt.sv (mx x 0) = Flt.sv x := by
    rw [sv_mx, sv_zero]
    split <;> omega
  have fX : Flt.Fin (pz (mx x 0)) := fin_pz (mx_fin fx fin_zero)
  have vX : Flt.sv (pz (mx x 0)) = Flt.sv x := by rw [sv_pz, sx]
  obtain ⟨r1, _, r2, _⟩ := root_told k1 fX (pz_or (by rw [sx]; exact x0))
  have q1 := r2 (Flt.sv (mLo la ha)) fm.2 (by rw [vX]; exact xq)
  -- the operand of the upper root
  have k2 : IsRoot (pz (pz hi)) rd rhi := k2
  have fY : Flt.Fin (pz (pz hi)) := fin_pz (fin_pz f2)
  have vY : Flt.sv (pz (pz hi)) = Flt.sv hi := by rw [sv_pz, sv_pz]
  obtain ⟨_, s1, _, s2⟩ := root_told k2 fY (pz_or (by rw [sv_pz]; omega))
  have q2 := s2 _ fu.2.2.1 fu.1 (by rw [vY]; exact fu.2.2.2)
  rw [endsF_fin r1 s1]
  exact ⟨rfl, inB_of fm.1 fu.1 (fin_pz r1) (fin_pz s1) (by rw [sv_pz]; exact q1) hmu (by rw [sv_pz]; exact q2)⟩
/-- What has both has each. -/
theorem join_within {la ha lc hc x y : Nat} (h : joinF la ha lc hc = (x, y, 0)) : okS la ha = true ∧ okS lc hc = true ∧ okS x y = true ∧ Within la ha x y ∧ x < 2 ^ 64 + x ∧ inB la ha x y = true ∧ inB lc hc x y = true := by
  obtain ⟨i1, i2⟩ := join_in h
  have j1 := i1
  unfold inB at j1
  obtain ⟨j2, j3⟩ := Bool.and_eq_true_iff.1 j1
  obtain ⟨j4, j5⟩ := Bool.and_eq_true_iff.1 j2
  obtain ⟨j6, j7⟩ := Bool.and_eq_true_iff.1 j4
  obtain ⟨f1, f2, l1⟩ := okS_iff.1 j6
  obtain ⟨f3, f4, l2⟩ := okS_iff.1 j7
  rw [leB_iff f3 f1] at j5
  rw [leB_iff f2 f4] at j3
  have k1 := i2
  unfold inB at k1
  obtain ⟨k2, _⟩ := Bool.and_eq_true_iff.1 k1
  obtain ⟨k4, _⟩ := Bool.and_eq_true_iff.1 k2
  obtain ⟨k6, _⟩ := Bool.and_eq_true_iff.1 k4
  exact ⟨j6, k6, j7, ⟨of_decide_eq_true j5, l1, of_decide_eq_true j3⟩, by omega, i1, i2⟩
theorem joinF_lt {la ha lc hc : Nat} (b1 : la < 2 ^ 64) (b2 : ha < 2 ^ 64) (b3 : lc < 2 ^ 64) (b4 : hc < 2 ^ 64) : (joinF la ha lc hc).1 < 2 ^ 64 ∧ (joinF la ha lc hc).2.1 < 2 ^ 64 := by
  unfold joinF
  split
  · exact ⟨pz_lt6 (mn_lt b1 b3), pz_lt6 (mx_lt b2 b4)⟩
  · exact ⟨by decide, by decide⟩
end Go.Proofs.Ytjcknikgfcjhhaa
