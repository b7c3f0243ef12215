/-
  Spans, plainly: floats rounded down and up from a fraction, the least and the greatest of several, what is done to greater spans.
-/
import Derived.Test.YtdmdaoginojalaaGreatDoorSpnP
import Derived.Test.YtdmdaoginojalaaGreatDoorRoot
namespace Go.Proofs.YtdmdaoginojalaaGreatDoor
open Go.RowKit

/-- The float is what num / den comes to when it is rounded down; up. -/
def Down (num : Int) (den d : Nat) : Prop :=
  d < 2 ^ 64 ∧ Flt.rg d ≤ Flt.inf ∧ (Flt.Fin d → Flt.sv d * den ≤ num) ∧ (Flt.rg d = Flt.inf → Flt.sgn d = true) ∧ ∀ t, Flt.Fin t → Flt.sv t * den ≤ num → Flt.sv t ≤ Flt.sv d
def Up (num : Int) (den u : Nat) : Prop :=
  u < 2 ^ 64 ∧ Flt.rg u ≤ Flt.inf ∧ (Flt.Fin u → num ≤ Flt.sv u * den) ∧ (Flt.rg u = Flt.inf → Flt.sgn u = false) ∧ ∀ t, Flt.Fin t → num ≤ Flt.sv t * den → Flt.sv u ≤ Flt.sv t

theorem fin_or_inf {x : Nat} (h : Flt.rg x ≤ Flt.inf) : Flt.Fin x ∨ Flt.rg x = Flt.inf := by unfold Flt.Fin; omega
theorem sv_inf {x : Nat} (h : Flt.rg x = Flt.inf) : Flt.sv x = if Flt.sgn x then -(Flt.val Flt.inf : Int) else Flt.val Flt.inf := by unfold Flt.sv; rw [h]
theorem sv_fin {x : Nat} (h : Flt.Fin x) : -(Flt.val Flt.inf : Int) < Flt.sv x ∧ Flt.sv x < Flt.val Flt.inf := by
  have := Flt.val_inf_gt h
  unfold Flt.sv
  split <;> omega
theorem mul_cut {a b : Int} {d : Nat} (hd : 0 < d) : a * d ≤ b * d ↔ a ≤ b := by
  constructor
  · intro h
    exact Int.le_of_mul_le_mul_right h (by omega)
  · intro h
    exact Int.mul_le_mul_of_nonneg_right h (by omega)

theorem Down.turn {num : Int} {den d : Nat} (h : Down num den d) : Up (-num) den (Flt.opp d) := by
  obtain ⟨h1, h2, h3, h4, h5⟩ := h
  refine ⟨Flt.opp_lt _, by rw [Flt.rg_opp]; exact h2, fun hf => ?_, fun hi => ?_, fun t ht hle => ?_⟩
  · have := h3 (Flt.fin_opp.1 hf)
    rw [Flt.sv_opp, Int.neg_mul]
    omega
  · rw [Flt.rg_opp] at hi
    rw [Flt.sgn_opp, h4 hi]; rfl
  · have := h5 (Flt.opp t) (Flt.fin_opp.2 ht) (by rw [Flt.sv_opp, Int.neg_mul]; omega)
    rw [Flt.sv_opp] at this ⊢
    omega
theorem Up.turn {num : Int} {den u : Nat} (h : Up num den u) : Down (-num) den (Flt.opp u) := by
  obtain ⟨h1, h2, h3, h4, h5⟩ := h
  refine ⟨Flt.opp_lt _, by rw [Flt.rg_opp]; exact h2, fun hf => ?_, fun hi => ?_, fun t ht hle => ?_⟩
  · have := h3 (Flt.fin_opp.1 hf)
    rw [Flt.sv_opp, Int.neg_mul]
    omega
  · rw [Flt.rg_opp] at hi
    rw [Flt.sgn_opp, h4 hi]; rfl
  · have := h5 (Flt.opp t) (Flt.fin_opp.2 ht) (by rw [Flt.sv_opp, Int.neg_mul]; omega)
    rw [Flt.sv_opp] at this ⊢
    omega

/-- What is greater comes to no less. -/
theorem Down.mono {z z' : Int} {n n' d d' : Nat} (h : Down z n d) (k : Down z' n' d') (hn : 0 < n) (hn' : 0 < n') (hle : z * n' ≤ z' * n) : Flt.sv d ≤ Flt.sv d' := by
  rcases fin_or_inf h.2.1 with hf | hi
  · refine k.2.2.2.2 d hf ?_
    have h1 := h.2.2.1 hf
    have h2 : Flt.sv d * n * n' ≤ z * n' := Int.mul_le_mul_of_nonneg_right h1 (by omega)
    have h3 : Flt.sv d * n' * n ≤ z' * n := by
      have : Flt.sv d * (n' : Int) * n = Flt.sv d * n * n' := by rw [Int.mul_assoc, Int.mul_comm (n' : Int), ← Int.mul_assoc]
      omega
    exact (mul_cut hn).1 h3
  · have := (Flt.sv_fin_lt k.2.1).1
    rw [sv_inf hi, h.2.2.2.1 hi, if_pos rfl]
    exact this
theorem Up.mono {z z' : Int} {n n' u u' : Nat} (h : Up z n u) (k : Up z' n' u') (hn : 0 < n) (hn' : 0 < n') (hle : z * n' ≤ z' * n) : Flt.sv u ≤ Flt.sv u' := by
  have := Down.mono k.turn h.turn hn' hn (by rw [Int.neg_mul, Int.neg_mul]; omega)
  rw [Flt.sv_opp, Flt.sv_opp] at this
  omega
/-- Of what a float is worth that float comes. -/
theorem Down.exact {z : Int} {n d t : Nat} (h : Down z n d) (hn : 0 < n) (ht : Flt.Fin t) (hz : Flt.sv t * n = z) : Flt.sv d = Flt.sv t := by
  have h1 := h.2.2.2.2 t ht (by omega)
  rcases fin_or_inf h.2.1 with hf | hi
  · have h2 := h.2.2.1 hf
    have := (mul_cut hn).1 (show Flt.sv d * n ≤ Flt.sv t * n by omega)
    omega
  · have := (sv_fin ht).1
    rw [sv_inf hi, h.2.2.2.1 hi, if_pos rfl] at h1
    omega
theorem Up.exact {z : Int} {n u t : Nat} (h : Up z n u) (hn : 0 < n) (ht : Flt.Fin t) (hz : Flt.sv t * n = z) : Flt.sv u = Flt.sv t := by
  have := Down.exact h.turn hn (Flt.fin_opp.2 ht) (by rw [Flt.sv_opp, Int.neg_mul]; omega)
  rw [Flt.sv_opp, Flt.sv_opp] at this
  omega
theorem Down.finite {z : Int} {n d t : Nat} (h : Down z n d) (ht : Flt.Fin t) (hle : Flt.sv t ≤ Flt.sv d) : Flt.Fin d := by
  rcases fin_or_inf h.2.1 with hf | hi
  · exact hf
  · exfalso
    have := (sv_fin ht).1
    rw [sv_inf hi, h.2.2.2.1 hi, if_pos rfl] at hle
    omega
theorem Up.finite {z : Int} {n u t : Nat} (h : Up z n u) (ht : Flt.Fin t) (hle : Flt.sv u ≤ Flt.sv t) : Flt.Fin u := by
  rcases fin_or_inf h.2.1 with hf | hi
  · exact hf
  · exfalso
    have := (sv_fin ht).2
    rw [sv_inf hi, h.2.2.2.1 hi, if_neg (by simp)] at hle
    omega

/-! ### of the pairs that are told -/
theorem dn_down {num den r : Nat} (hd : 0 < den) (h : Flt.Dn num den r) : Down (num : Int) den (Flt.word false r) ∧ Up (num : Int) den (Flt.word false (hiR num den r)) := by
  have hr := h.1
  have hil := Flt.inf_lt
  have hh := hiR_le (num := num) (den := den) hr
  have e1 : Flt.rg (Flt.word false r) = r := Flt.rg_word _ _ (by omega)
  have e2 : Flt.rg (Flt.word false (hiR num den r)) = hiR num den r := Flt.rg_word _ _ (by omega)
  have s1 : Flt.sgn (Flt.word false r) = false := Flt.sgn_word _ _ (by omega)
  have s2 : Flt.sgn (Flt.word false (hiR num den r)) = false := Flt.sgn_word _ _ (by omega)
  have v1 : Flt.sv (Flt.word false r) = Flt.val r := by rw [Flt.sv_word (by omega)]; rfl
  have v2 : Flt.sv (Flt.word false (hiR num den r)) = Flt.val (hiR num den r) := by rw [Flt.sv_word (by omega)]; rfl
  have q1 : (Flt.val r : Int) * den ≤ num := by have := h.2.1; exact_mod_cast this
  refine ⟨⟨Flt.word_lt _ (by omega), by omega, fun _ => by rw [v1]; exact q1, fun hi => by omega, fun t ht hle => ?_⟩, ⟨Flt.word_lt _ (by omega), by omega, fun hf => ?_, fun _ => s2, fun t ht hle => ?_⟩⟩
  · rw [v1]
    unfold Flt.sv at hle ⊢
    split
    · have : (0 : Int) ≤ (Flt.val (Flt.rg t) : Int) := by omega
      omega
    · rename_i hs
      rw [if_neg hs] at hle
      rcases Nat.lt_or_ge r (Flt.rg t) with hlt | hge
      · exfalso
        have ht' : Flt.rg t < Flt.inf := ht
        have h3 := h.2.2 (by omega)
        have h4 : Flt.val (r + 1) * den ≤ Flt.val (Flt.rg t) * den := Nat.mul_le_mul_right _ (Flt.val_le hlt)
        have h5 : Flt.val (Flt.rg t) * den ≤ num := by exact_mod_cast hle
        omega
      · have := Flt.val_le hge
        omega
  · rw [v2]
    have hf' : hiR num den r < Flt.inf := by have : Flt.rg (Flt.word false (hiR num den r)) < Flt.inf := hf; omega
    unfold hiR at hf' ⊢
    split
    · rename_i he
      rw [if_pos he] at hf'
      have : (num : Int) = (Flt.val r : Int) * den := by exact_mod_cast he.symm
      omega
    · rename_i he
      rw [if_neg he] at hf'
      have := h.2.2 (by omega)
      have : (num : Int) < (Flt.val (r + 1) : Int) * den := by exact_mod_cast this
      omega
  · rw [v2]
    unfold hiR
    split
    · have h4 : (Flt.val r : Int) * den ≤ Flt.sv t * den := by omega
      exact (mul_cut hd).1 h4
    · rename_i he
      have h4 : (Flt.val r : Int) * den < num := by
        have : Flt.val r * den < num := by have := h.2.1; omega
        exact_mod_cast this
      have h5 : ¬ Flt.sv t ≤ Flt.val r := fun hk => by
        have := (mul_cut (d := den) hd).2 hk
        omega
      unfold Flt.sv at h5 ⊢
      split
      · rename_i hs
        rw [if_pos hs] at h5
        omega
      · rename_i hs
        rw [if_neg hs] at h5
        have h6 : r < Flt.rg t := Flt.lt_of_val (by omega)
        have := Flt.val_le (show r + 1 ≤ Flt.rg t from h6)
        omega
theorem brk_down {s : Bool} {num den d u : Nat} {z : Int} (hd : 0 < den) (hz : z = if s then -(num : Int) else num) (h : Brk s num den d u) : Down z den d ∧ Up z den u := by
  obtain ⟨r, h1, h2, h3⟩ := h
  have k := dn_down hd h1
  have hr := h1.1
  have hil := Flt.inf_lt
  have hh := hiR_le (num := num) (den := den) hr
  cases s with
  | false =>
    rw [if_neg (by simp)] at hz h2 h3
    rw [hz, h2, h3]
    exact k
  | true =>
    rw [if_pos rfl] at hz h2 h3
    have a := k.1.turn
    have b := k.2.turn
    have w1 : Flt.opp (Flt.word false r) = u := by
      unfold Flt.opp
      rw [Flt.sgn_word _ _ (by omega), Flt.rg_word _ _ (by omega), h3]
      rfl
    have w2 : Flt.opp (Flt.word false (hiR num den r)) = d := by
      unfold Flt.opp
      rw [Flt.sgn_word _ _ (by omega), Flt.rg_word _ _ (by omega), h2]
      rfl
    rw [w1] at a
    rw [w2] at b
    rw [hz]
    exact ⟨b, a⟩
theorem down_nought {d n : Nat} (hn : 0 < n) (hl : d < 2 ^ 64) (h : Flt.rg d = 0) : Down 0 n d ∧ Up 0 n d := by
  have hs : Flt.sv d = 0 := Flt.sv_zero_iff.2 h
  have hi := Flt.inf_eq
  refine ⟨⟨hl, by omega, fun _ => by rw [hs]; simp, fun k => by omega, fun t _ hle => ?_⟩, ⟨hl, by omega, fun _ => by rw [hs]; simp, fun k => by omega, fun t _ hle => ?_⟩⟩
  all_goals rw [hs]
  all_goals exact (mul_cut hn).1 (by rw [Int.zero_mul]; exact hle)

theorem sum_down {x y d u : Nat} (h : IsSum x y d u) (hx : Flt.Fin x) (hy : Flt.Fin y) : Down (Flt.sv x + Flt.sv y) 1 d ∧ Up (Flt.sv x + Flt.sv y) 1 u := by
  obtain ⟨s, h1, h2, h3⟩ := h
  by_cases hz : Flt.sv x + Flt.sv y = 0
  · obtain ⟨hd, hu⟩ := h2 (.inr hz)
    rw [hd, hu]
    have e := Flt.add_exact (r := 0) hx hy (by rw [Flt.inf_eq]; omega) (by rw [hz, Flt.val_zero]; rfl)
    have a := h1.2
    rw [e] at a
    have a : s = _ := a
    have hr : Flt.rg s = 0 := by rw [a]; exact Flt.rg_word _ _ (by omega)
    rw [hz]
    exact down_nought (by omega) h1.1 hr
  · refine brk_down (by omega) ?_ (h3 hx hy hz)
    by_cases hneg : Flt.sv x + Flt.sv y < 0
    · rw [decide_eq_true hneg, if_pos rfl]; omega
    · rw [decide_eq_false hneg, if_neg (by simp)]; omega
theorem near_nought {den r : Nat} (hd : 0 < den) (h : Flt.Near 0 den r) : r = 0 := h.unique hd Flt.near_zero
theorem prod_down {x y d u : Nat} (h : IsProd x y d u) (hx : Flt.Fin x) (hy : Flt.Fin y) : Down (Flt.sv x * Flt.sv y) (2 ^ Flt.K74) d ∧ Up (Flt.sv x * Flt.sv y) (2 ^ Flt.K74) u := by
  have hp : 0 < 2 ^ Flt.K74 := Nat.two_pow_pos _
  by_cases hw : Whole2 x y
  · exact brk_down hp (Flt.sv_mul x y) (h.2 hw)
  · obtain ⟨z, h1, hd, hu⟩ := h.1 hw
    rw [hd, hu]
    obtain ⟨r, h2, h3⟩ := Flt.mul_fin hx hy
    have h0 : Flt.val (Flt.rg x) * Flt.val (Flt.rg y) = 0 := by
      by_cases hx0 : Flt.rg x = 0
      · rw [hx0, Flt.val_zero, Nat.zero_mul]
      · by_cases hy0 : Flt.rg y = 0
        · rw [hy0, Flt.val_zero, Nat.mul_zero]
        · exact absurd ⟨hx, hy, hx0, hy0⟩ hw
    rw [h0] at h3
    have hr := near_nought hp h3
    have a := h1.2
    rw [h2] at a
    have a : z = _ := a
    have hd0 : Flt.rg z = 0 := by rw [a, hr]; exact Flt.rg_word _ _ (by omega)
    have hz : Flt.sv x * Flt.sv y = 0 := by rw [Flt.sv_mul, h0]; split <;> rfl
    rw [hz]
    exact down_nought hp h1.1 hd0
/-- What is divided, over what is left of the divisor without its sign. -/
def qn (x y : Nat) : Int := (if Flt.sgn y then -Flt.sv x else Flt.sv x) * (2 ^ Flt.K74 : Nat)
theorem div_down {x y d u : Nat} (h : IsDiv x y d u) (hx : Flt.Fin x) (hy : Flt.Fin y) (h0 : Flt.rg y ≠ 0) : Down (qn x y) (Flt.val (Flt.rg y)) d ∧ Up (qn x y) (Flt.val (Flt.rg y)) u := by
  have hp := val_pos h0
  by_cases hw : Whole2 x y
  · refine brk_down hp ?_ (h.2 hw)
    unfold qn Flt.sv
    cases Flt.sgn x <;> cases Flt.sgn y <;> simp [Int.natCast_mul, Int.neg_mul]
  · obtain ⟨z, h1, hd, hu⟩ := h.1 hw
    rw [hd, hu]
    obtain ⟨r, h2, h3⟩ := Flt.div_fin hx hy h0
    have hx0 : Flt.rg x = 0 := by
      by_cases hx0 : Flt.rg x = 0
      · exact hx0
      · exact absurd ⟨hx, hy, hx0, h0⟩ hw
    rw [hx0, Flt.val_zero, Nat.zero_mul] at h3
    have hr := near_nought hp h3
    have a := h1.2
    rw [h2] at a
    have a : z = _ := a
    have hd0 : Flt.rg z = 0 := by rw [a, hr]; exact Flt.rg_word _ _ (by omega)
    have hz : qn x y = 0 := by unfold qn; rw [Flt.sv_zero_iff.2 hx0]; split <;> simp
    rw [hz]
    exact down_nought hp h1.1 hd0

/-! ### the least and the greatest of several -/
def LowOf (L : List (Int × Nat)) (d : Nat) : Prop := (∃ c ∈ L, Down c.1 c.2 d) ∧ ∀ c ∈ L, ∃ e, Down c.1 c.2 e ∧ Flt.sv d ≤ Flt.sv e
def HighOf (L : List (Int × Nat)) (u : Nat) : Prop := (∃ c ∈ L, Up c.1 c.2 u) ∧ ∀ c ∈ L, ∃ e, Up c.1 c.2 e ∧ Flt.sv e ≤ Flt.sv u
def Dens (L : List (Int × Nat)) : Prop := ∀ c ∈ L, 0 < c.2
theorem LowOf.mono {L M : List (Int × Nat)} {d e : Nat} (hL : Dens L) (hM : Dens M) (h : LowOf L d) (k : LowOf M e) (hlm : ∀ c ∈ M, ∃ c' ∈ L, c'.1 * c.2 ≤ c.1 * c'.2) : Flt.sv d ≤ Flt.sv e := by
  obtain ⟨c, hc, h1⟩ := k.1
  obtain ⟨c', hc', h2⟩ := hlm c hc
  obtain ⟨f, h3, h4⟩ := h.2 c' hc'
  exact Int.le_trans h4 (Down.mono h3 h1 (hL c' hc') (hM c hc) h2)
theorem HighOf.mono {L M : List (Int × Nat)} {d e : Nat} (hL : Dens L) (hM : Dens M) (h : HighOf L d) (k : HighOf M e) (hlm : ∀ c ∈ M, ∃ c' ∈ L, c.1 * c'.2 ≤ c'.1 * c.2) : Flt.sv e ≤ Flt.sv d := by
  obtain ⟨c, hc, h1⟩ := k.1
  obtain ⟨c', hc', h2⟩ := hlm c hc
  obtain ⟨f, h3, h4⟩ := h.2 c' hc'
  exact Int.le_trans (Up.mono h1 h3 (hM c hc) (hL c' hc') h2) h4
theorem LowOf.le_high {L M : List (Int × Nat)} {d e : Nat} (hL : Dens L) (hM : Dens M) (h : LowOf L d) (k : HighOf M e) (hlm : ∃ c ∈ L, ∃ c' ∈ M, c.1 * c'.2 ≤ c'.1 * c.2) : Flt.sv d ≤ Flt.sv e := by
  obtain ⟨c, hc, c', hc', h2⟩ := hlm
  obtain ⟨f, h3, h4⟩ := h.2 c hc
  obtain ⟨g, h5, h6⟩ := k.2 c' hc'
  refine Int.le_trans h4 (Int.le_trans ?_ h6)
  rcases fin_or_inf h3.2.1 with hf | hi
  · rcases fin_or_inf h5.2.1 with hf' | hi'
    · have a := h3.2.2.1 hf
      have b := h5.2.2.1 hf'
      have p := hL c hc
      have q := hM c' hc'
      have a' : Flt.sv f * c.2 * c'.2 ≤ c.1 * c'.2 := Int.mul_le_mul_of_nonneg_right a (by omega)
      have b' : c'.1 * c.2 ≤ Flt.sv g * c'.2 * c.2 := Int.mul_le_mul_of_nonneg_right b (by omega)
      have e1 : Flt.sv f * c.2 * c'.2 = Flt.sv f * (c.2 * c'.2 : Nat) := by rw [Int.natCast_mul, Int.mul_assoc]
      have e2 : Flt.sv g * c'.2 * c.2 = Flt.sv g * (c.2 * c'.2 : Nat) := by rw [Int.natCast_mul, Int.mul_assoc, Int.mul_comm (c'.2 : Int)]
      exact (mul_cut (Nat.mul_pos p q)).1 (by omega)
    · rw [sv_inf hi', h5.2.2.2.1 hi', if_neg (by simp)]
      have := (sv_fin hf).2
      omega
  · rw [sv_inf hi, h3.2.2.2.1 hi, if_pos rfl]
    exact (Flt.sv_fin_lt h5.2.1).1

end Go.Proofs.YtdmdaoginojalaaGreatDoor
