/-
  Which beam does a cavity keep? (plain)
-/
import Derived.Test.YtgafjnfplgfajaaGreatMaP
namespace Go.Proofs.YtgafjnfplgfajaaGreat
open Go.RowKit

theorem sq_nn (a : Rat) : 0 ≤ a * a := by
  rcases Rat.le_total (a := 0) (b := a) with h | h
  · exact Rat.mul_nonneg h h
  · have h1 : 0 ≤ -a := by grind
    have h2 := Rat.mul_nonneg h1 h1
    grind
theorem sq_zero {a : Rat} (h : a * a = 0) : a = 0 := by
  rcases Rat.mul_eq_zero.1 h with k | k <;> exact k
/-- What is below is not nought. -/
theorem behind_ne (xa xb xc xd xu xv : Rat) (hdet : xa * xd - xb * xc = 1) (hy : 0 < xv) : ((((((xc + 0) * xu) - (0 * xv)) + (xd + 0)) * ((((xc + 0) * xu) - (0 * xv)) + (xd + 0))) + (((((xc + 0) * xv) + (0 * xu)) + 0) * ((((xc + 0) * xv) + (0 * xu)) + 0))) ≠ 0 := by
  obtain ⟨k, hk⟩ : ∃ k, xc * xu + xd = k := ⟨_, rfl⟩
  obtain ⟨l, hl⟩ : ∃ l, xc * xv = l := ⟨_, rfl⟩
  obtain ⟨N, hN⟩ : ∃ N, k * k + l * l = N := ⟨_, rfl⟩
  have e1 : ((((((xc + 0) * xu) - (0 * xv)) + (xd + 0)) * ((((xc + 0) * xu) - (0 * xv)) + (xd + 0))) + (((((xc + 0) * xv) + (0 * xu)) + 0) * ((((xc + 0) * xv) + (0 * xu)) + 0))) = N := by grind
  rw [e1]
  intro h0
  have hk2 := sq_nn k
  have hl2 := sq_nn l
  have hk0 : k * k = 0 := by grind
  have hl0 : l * l = 0 := by grind
  have k0 : k = 0 := sq_zero hk0
  have l0 : l = 0 := sq_zero hl0
  have c0 : xc = 0 := by grind
  grind
/-- The beam that is kept: the program's words and the references'. -/
theorem keeps_iff (xa xb xc xd xu xv : Rat) (hdet : xa * xd - xb * xc = 1) (hy : 0 < xv) :
    (decide (((xu * ((xc * xu) + (xd - xa))) - (xv * (xc * xv))) = xb) && decide (((xu * (xc * xv)) + (xv * ((xc * xu) + (xd - xa)))) = 0)) = (decide ((((((((xa + 0) * xu) - (0 * xv)) + (xb + 0)) * (((((xc + 0) * xu) - (0 * xv)) + (xd + 0)) + 0)) - (((((xa + 0) * xv) + (0 * xu)) + 0) * (0 - ((((xc + 0) * xv) + (0 * xu)) + 0)))) / ((((((xc + 0) * xu) - (0 * xv)) + (xd + 0)) * ((((xc + 0) * xu) - (0 * xv)) + (xd + 0))) + (((((xc + 0) * xv) + (0 * xu)) + 0) * ((((xc + 0) * xv) + (0 * xu)) + 0)))) = xu) && decide ((((((((xa + 0) * xu) - (0 * xv)) + (xb + 0)) * (0 - ((((xc + 0) * xv) + (0 * xu)) + 0))) + (((((xa + 0) * xv) + (0 * xu)) + 0) * (((((xc + 0) * xu) - (0 * xv)) + (xd + 0)) + 0))) / ((((((xc + 0) * xu) - (0 * xv)) + (xd + 0)) * ((((xc + 0) * xu) - (0 * xv)) + (xd + 0))) + (((((xc + 0) * xv) + (0 * xu)) + 0) * ((((xc + 0) * xv) + (0 * xu)) + 0)))) = xv)) := by
  have hN0 := behind_ne xa xb xc xd xu xv hdet hy
  obtain ⟨k, hk⟩ : ∃ k, xc * xu + xd = k := ⟨_, rfl⟩
  obtain ⟨l, hl⟩ : ∃ l, xc * xv = l := ⟨_, rfl⟩
  obtain ⟨N, hN⟩ : ∃ N, k * k + l * l = N := ⟨_, rfl⟩
  have e1 : ((((((xc + 0) * xu) - (0 * xv)) + (xd + 0)) * ((((xc + 0) * xu) - (0 * xv)) + (xd + 0))) + (((((xc + 0) * xv) + (0 * xu)) + 0) * ((((xc + 0) * xv) + (0 * xu)) + 0))) = N := by grind
  have e2 : ((((((xa + 0) * xu) - (0 * xv)) + (xb + 0)) * (((((xc + 0) * xu) - (0 * xv)) + (xd + 0)) + 0)) - (((((xa + 0) * xv) + (0 * xu)) + 0) * (0 - ((((xc + 0) * xv) + (0 * xu)) + 0)))) = (xa * xu + xb) * k + xa * xv * l := by grind
  have e3 : ((((((xa + 0) * xu) - (0 * xv)) + (xb + 0)) * (0 - ((((xc + 0) * xv) + (0 * xu)) + 0))) + (((((xa + 0) * xv) + (0 * xu)) + 0) * (((((xc + 0) * xu) - (0 * xv)) + (xd + 0)) + 0))) = xa * xv * k - (xa * xu + xb) * l := by grind
  rw [e1] at hN0
  rw [e1, e2, e3]
  have key : (((xu * ((xc * xu) + (xd - xa))) - (xv * (xc * xv))) = xb ∧ ((xu * (xc * xv)) + (xv * ((xc * xu) + (xd - xa)))) = 0) ↔ (((xa * xu + xb) * k + xa * xv * l) / N = xu ∧ (xa * xv * k - (xa * xu + xb) * l) / N = xv) := by
    constructor
    · rintro ⟨h1, h2⟩
      constructor <;> grind
    · rintro ⟨h1, h2⟩
      constructor <;> grind
  by_cases h : (((xu * ((xc * xu) + (xd - xa))) - (xv * (xc * xv))) = xb ∧ ((xu * (xc * xv)) + (xv * ((xc * xu) + (xd - xa)))) = 0)
  · rw [decide_eq_true h.1, decide_eq_true h.2, decide_eq_true (key.1 h).1, decide_eq_true (key.1 h).2]
  · have h' := fun k => h (key.2 k)
    grind
theorem okM_parts {a b c d : LmE} (h : okM a b c d = true) : okB a = true ∧ okB b = true ∧ okB c = true ∧ okB d = true ∧ rv a * rv d - rv b * rv c = 1 := by
  unfold okM at h
  simp only [Bool.and_eq_true, decide_eq_true_eq] at h
  exact ⟨h.1.1.1.1, h.1.1.1.2, h.1.1.2, h.1.2, h.2⟩
theorem chkBm_zero {a b : LmE} (h : chkBm a b = 0) : okB a = true ∧ okB b = true ∧ 0 < rv b := by
  unfold chkBm at h
  split at h
  · rename_i h1
    rw [Bool.and_eq_true] at h1
    split at h
    · rename_i h2
      exact ⟨h1.1, h1.2, h2⟩
    · exact absurd h (by decide)
  · exact absurd h (by decide)
/-- What both answer. -/
noncomputable def keepsV (a b c d u v : LmE) : Bool × Int :=
  if okM a b c d && (chkBm u v == 0) then
    (let xa := rv a; let xb := rv b; let xc := rv c; let xd := rv d; let xu := rv u; let xv := rv v
     (decide (((xu * ((xc * xu) + (xd - xa))) - (xv * (xc * xv))) = xb) && decide (((xu * (xc * xv)) + (xv * ((xc * xu) + (xd - xa)))) = 0), 0))
  else (false, 1)
theorem keepsV_no1 {a b c d : LmE} (u v : LmE) (h : okM a b c d = false) : keepsV a b c d u v = (false, 1) := by unfold keepsV; rw [h]; rfl
theorem keepsV_no2 (a b c d : LmE) {u v : LmE} (h : chkBm u v ≠ 0) : keepsV a b c d u v = (false, 1) := by
  unfold keepsV
  rw [show (chkBm u v == 0) = false by rw [beq_eq_false_iff_ne]; exact h, Bool.and_false]
  rfl
theorem keepsV_yes {a b c d u v : LmE} (h : okM a b c d = true) (k : chkBm u v = 0) : keepsV a b c d u v = (decide (((rv u * ((rv c * rv u) + (rv d - rv a))) - (rv v * (rv c * rv v))) = rv b) && decide (((rv u * (rv c * rv v)) + (rv v * ((rv c * rv u) + (rv d - rv a)))) = 0), 0) := by
  unfold keepsV
  rw [h, k]
  rfl
noncomputable def okMi (a b c d : LmE) : Int := if okM a b c d then 0 else 1
theorem okMi_eq {a b c d : LmE} {o : Bool} (h : okM a b c d = o) : okMi a b c d = if o then 0 else 1 := by unfold okMi; rw [h]
def RetKp (W : World) (p : Bool × Int) (e : Ending) (w' : World) : Prop := e = .returned (.tuple #[.bool p.1, .int .i64 p.2]) ∧ Below W.heap.size W w'
end Go.Proofs.YtgafjnfplgfajaaGreat
