/-
  A space and a lens, plainly.
-/
import Derived.Test.YtejlicacndpfpaaBmJ
namespace Go.Proofs.Ytejlicacndpfpaa

theorem spaces_re (u v x : Rat) : ((((1 * u) + x) * ((0 * u) + 1)) + ((1 * v) * (0 * v))) / ((((0 * u) + 1) * ((0 * u) + 1)) + ((0 * v) * (0 * v))) = u + x := by grind
theorem spaces_im (u v : Rat) : v / ((((0 * u) + 1) * ((0 * u) + 1)) + ((0 * v) * (0 * v))) = v := by grind
theorem spaces_ne (u v : Rat) : ((((0 * u) + 1) * ((0 * u) + 1)) + ((0 * v) * (0 * v))) ≠ 0 := by grind
theorem rat_sq_nn (a : Rat) : 0 ≤ a * a := by
  rcases Rat.le_total (a := 0) (b := a) with h | h
  · exact Rat.mul_nonneg h h
  · have := Rat.mul_nonneg (a := -a) (b := -a) (by grind) (by grind)
    grind
/-- How far what a matrix makes of a beam's number is from nought: never nought. -/
theorem norm_ne {c d u v e : Rat} (hv : 0 < v) (h : e * d - 0 = 1 ∨ c ≠ 0 ∨ d ≠ 0) : ((((c * u) + d) * ((c * u) + d)) + ((c * v) * (c * v))) ≠ 0 := by
  intro h0
  have h1 := rat_sq_nn ((c * u) + d)
  have h2 := rat_sq_nn (c * v)
  have h3 : (c * v) * (c * v) = 0 := by grind
  have h4 : ((c * u) + d) * ((c * u) + d) = 0 := by grind
  have h5 : c * v = 0 := by rcases Rat.mul_eq_zero.1 h3 with h | h <;> exact h
  have h6 : c * u + d = 0 := by rcases Rat.mul_eq_zero.1 h4 with h | h <;> exact h
  have hc : c = 0 := by rcases Rat.mul_eq_zero.1 h5 with h | h; exact h; grind
  subst hc
  have hd : d = 0 := by grind
  subst hd
  rcases h with h | h | h
  · grind
  · exact h rfl
  · exact h rfl
def lensN (u v x : Rat) : Rat := ((((-x * u) + 1) * ((-x * u) + 1)) + ((-x * v) * (-x * v)))
def lensR (u v x : Rat) : Rat := ((((1 * u) + 0) * ((-x * u) + 1)) + ((1 * v) * (-x * v))) / lensN u v x
def lensI (u v x : Rat) : Rat := v / lensN u v x
theorem lens_re (u v x : Rat) : lensR u v x = (u * ((-x * u) + 1) + v * (-x * v)) / lensN u v x := by
  unfold lensR
  congr 1
  grind
theorem lensN_ne {u v x : Rat} (hv : 0 < v) : lensN u v x ≠ 0 := norm_ne (e := 1) hv (.inr (.inr (by decide)))
theorem lensN_pos {u v x : Rat} (hv : 0 < v) : 0 < lensN u v x := by
  have h1 := rat_sq_nn ((-x * u) + 1)
  have h2 := rat_sq_nn (-x * v)
  have h3 := lensN_ne (u := u) (x := x) hv
  unfold lensN at *
  grind
theorem lens_pos {u v x : Rat} (hv : 0 < v) : 0 < lensI u v x := by
  unfold lensI
  rw [Rat.div_def]
  exact Rat.mul_pos hv (Rat.inv_pos.2 (lensN_pos hv))
theorem far_pos {u v : Rat} (hv : 0 < v) : (u * u + v * v) ≠ 0 := by
  have h1 := rat_sq_nn u
  have h2 : 0 < v * v := Rat.mul_pos hv hv
  grind
theorem lens_far {u v x : Rat} (hv : 0 < v) : lensR u v x * lensR u v x + lensI u v x * lensI u v x = (u * u + v * v) / lensN u v x := by
  have hN := lensN_ne (u := u) (x := x) hv
  rw [lens_re]
  unfold lensI
  have key : (u * ((-x * u) + 1) + v * (-x * v)) * (u * ((-x * u) + 1) + v * (-x * v)) + v * v = (u * u + v * v) * lensN u v x := by unfold lensN; grind
  generalize lensN u v x = N at *
  generalize u * ((-x * u) + 1) + v * (-x * v) = A at *
  grind
theorem lens_size {u v x : Rat} (hv : 0 < v) : (lensR u v x * lensR u v x + lensI u v x * lensI u v x) / lensI u v x = (u * u + v * v) / v := by
  have hN := lensN_ne (u := u) (x := x) hv
  rw [lens_far hv]
  unfold lensI
  generalize lensN u v x = N at *
  have : v ≠ 0 := by grind
  grind
theorem lens_curve {u v x : Rat} (hv : 0 < v) : lensR u v x / (lensR u v x * lensR u v x + lensI u v x * lensI u v x) = u / (u * u + v * v) - x := by
  have hN := lensN_ne (u := u) (x := x) hv
  have hF := far_pos (u := u) hv
  rw [lens_far hv, lens_re]
  have key : u * ((-x * u) + 1) + v * (-x * v) = u - x * (u * u + v * v) := by grind
  rw [key]
  generalize lensN u v x = N at *
  generalize u * u + v * v = D at *
  grind
/-- Sizes. -/
theorem lensN_sz {u v x : Rat} {U V X : Nat} (hu : Sz u U) (hv : Sz v V) (hx : Sz (-x) X) : Sz (lensN u v x) (4 * X + 2 * U + 2 * V + 5) :=
  ((Sz.add (Sz.mul (Sz.add (Sz.mul hx hu) Sz.one) (Sz.add (Sz.mul hx hu) Sz.one)) (Sz.mul (Sz.mul hx hv) (Sz.mul hx hv))).mono (by omega) : Sz _ _)
theorem lensR_sz {u v x : Rat} {U V X : Nat} (hu : Sz u U) (hv : Sz v V) (hx : Sz (-x) X) (h0 : lensN u v x ≠ 0) : Sz (lensR u v x) (6 * X + 4 * U + 4 * V + 8) := by
  rw [lens_re]
  exact (Sz.div (Sz.add (Sz.mul hu (Sz.add (Sz.mul hx hu) Sz.one)) (Sz.mul hv (Sz.mul hx hv))) (lensN_sz hu hv hx) h0).mono (by omega)
theorem lensI_sz {u v x : Rat} {U V X : Nat} (hu : Sz u U) (hv : Sz v V) (hx : Sz (-x) X) (h0 : lensN u v x ≠ 0) : Sz (lensI u v x) (4 * X + 2 * U + 3 * V + 5) :=
  (Sz.div hv (lensN_sz hu hv hx) h0).mono (by omega)
theorem sz_opp {x : Rat} {X : Nat} (h : Sz x X) : Sz (-x) X := by
  unfold Sz at *
  rw [Rat.neg_num, Rat.neg_den, Int.natAbs_neg]
  exact h
end Go.Proofs.Ytejlicacndpfpaa
