import Ieee.Arith

namespace Go.Proofs.Ythddodhcpfponaa.Flt
open Ieee

def inf : Nat := 2047 * 2 ^ 52
theorem inf_eq : inf = 9218868437227405312 := by decide

/-- The worth of a rung, counted in the least float above nought. -/
def val (r : Nat) : Nat := (if r < 2 ^ 52 then r else 2 ^ 52 + r % 2 ^ 52) * 2 ^ (r / 2 ^ 52 - 1)
def ulp (r : Nat) : Nat := 2 ^ (r / 2 ^ 52 - 1)

theorem ulp_pos (r : Nat) : 0 < ulp r := Nat.two_pow_pos _

theorem val_mk (q m : Nat) (h : m < 2 ^ 52) : val (q * 2 ^ 52 + m) = (if q = 0 then m else 2 ^ 52 + m) * 2 ^ (q - 1) := by
  have h1 : (q * 2 ^ 52 + m) / 2 ^ 52 = q := by omega
  have h2 : (q * 2 ^ 52 + m) % 2 ^ 52 = m := by omega
  unfold val
  rw [h1, h2]
  by_cases hq : q = 0
  · subst hq
    simp [h]
  · rw [if_neg (by omega), if_neg hq]

theorem ulp_mk (q m : Nat) (h : m < 2 ^ 52) : ulp (q * 2 ^ 52 + m) = 2 ^ (q - 1) := by
  unfold ulp
  rw [show (q * 2 ^ 52 + m) / 2 ^ 52 = q by omega]

theorem split52 (r : Nat) : ∃ q m, r = q * 2 ^ 52 + m ∧ m < 2 ^ 52 := ⟨r / 2 ^ 52, r % 2 ^ 52, by omega, by omega⟩

theorem val_succ (r : Nat) : val (r + 1) = val r + ulp r := by
  obtain ⟨q, m, rfl, hm⟩ := split52 r
  rw [ulp_mk q m hm, val_mk q m hm]
  by_cases h : m + 1 < 2 ^ 52
  · rw [show q * 2 ^ 52 + m + 1 = q * 2 ^ 52 + (m + 1) by omega, val_mk q (m + 1) h]
    split
    · rw [Nat.add_mul, Nat.one_mul]
    · rw [← Nat.add_assoc, Nat.add_mul, Nat.one_mul]
  · have hm' : m = 2 ^ 52 - 1 := by omega
    rw [show q * 2 ^ 52 + m + 1 = (q + 1) * 2 ^ 52 + 0 by omega, val_mk (q + 1) 0 (by decide)]
    subst hm'
    cases q with
    | zero => simp
    | succ q =>
      have h2 : 2 ^ (q + 1) = 2 * 2 ^ q := by rw [Nat.pow_succ, Nat.mul_comm]
      simp only [Nat.add_sub_cancel, if_neg (Nat.succ_ne_zero _)]
      rw [h2]
      generalize 2 ^ q = p
      omega

theorem val_lt_succ (r : Nat) : val r < val (r + 1) := by have := val_succ r; have := ulp_pos r; omega

theorem val_lt {r s : Nat} (h : r < s) : val r < val s := by
  induction s with
  | zero => omega
  | succ s ih =>
    by_cases hs : r = s
    · subst hs; exact val_lt_succ r
    · exact Nat.lt_trans (ih (by omega)) (val_lt_succ s)

theorem val_le {r s : Nat} (h : r ≤ s) : val r ≤ val s := by
  rcases Nat.lt_or_eq_of_le h with h | h
  · exact Nat.le_of_lt (val_lt h)
  · subst h; exact Nat.le_refl _

theorem lt_of_val {r s : Nat} (h : val r < val s) : r < s := by
  rcases Nat.lt_or_ge r s with h' | h'
  · exact h'
  · exact absurd (val_le h') (by omega)
theorem le_of_val {r s : Nat} (h : val r ≤ val s) : r ≤ s := by
  rcases Nat.lt_or_ge s r with h' | h'
  · exact absurd (val_lt h') (by omega)
  · exact h'
theorem val_inj {r s : Nat} (h : val r = val s) : r = s := by
  have h1 := le_of_val (r := r) (s := s) (by omega)
  have h2 := le_of_val (r := s) (s := r) (by omega)
  omega
theorem val_zero : val 0 = 0 := by simp [val]
theorem le_val (r : Nat) : r ≤ val r := by
  induction r with
  | zero => omega
  | succ r ih => have := val_lt_succ r; omega

theorem ulp_mono {r s : Nat} (h : r ≤ s) : ulp r ≤ ulp s := by
  unfold ulp
  exact Nat.pow_le_pow_right (by decide) (by have := Nat.div_le_div_right (c := 2 ^ 52) h; omega)

/-- Cutting to the nearest. -/
theorem cut_even (neg : Bool) (n drop : Nat) :
    2 * n ≤ (2 * Toward.even.cut neg n drop + 1) * 2 ^ drop ∧ 2 * Toward.even.cut neg n drop * 2 ^ drop ≤ 2 * n + 2 ^ drop ∧
    (Toward.even.cut neg n drop % 2 = 1 → 2 * n < (2 * Toward.even.cut neg n drop + 1) * 2 ^ drop ∧ 2 * Toward.even.cut neg n drop * 2 ^ drop < 2 * n + 2 ^ drop) := by
  have hlog : n < 2 ^ (n.log2 + 1) := Nat.lt_log2_self
  unfold Toward.cut
  simp only [Nat.one_shiftLeft]
  by_cases hd : drop ≤ n.log2 + 2
  · rw [Nat.min_eq_left hd]
    have hg : 0 < 2 ^ drop := Nat.two_pow_pos _
    generalize 2 ^ drop = g at *
    have hn : g * (n / g) + n % g = n := Nat.div_add_mod n g
    have hr : n % g < g := Nat.mod_lt _ hg
    generalize n / g = low at *
    generalize n % g = rest at *
    by_cases h1 : g < 2 * rest
    · have e1 : (2 * (low + 1) + 1) * g = 2 * (g * low) + 3 * g := by rw [Nat.add_mul, Nat.mul_assoc, Nat.add_mul, Nat.mul_comm low g]; omega
      have e2 : 2 * (low + 1) * g = 2 * (g * low) + 2 * g := by rw [Nat.mul_assoc, Nat.add_mul, Nat.mul_comm low g]; omega
      simp only [h1, decide_true, Bool.true_or, Bool.toNat_true]
      rw [e1, e2]
      omega
    · have e1 : (2 * low + 1) * g = 2 * (g * low) + g := by rw [Nat.add_mul, Nat.mul_assoc, Nat.mul_comm low g]; omega
      have e2 : 2 * low * g = 2 * (g * low) := by rw [Nat.mul_assoc, Nat.mul_comm low g]
      have e3 : (2 * (low + 1) + 1) * g = 2 * (g * low) + 3 * g := by rw [Nat.add_mul, Nat.mul_assoc, Nat.add_mul, Nat.mul_comm low g]; omega
      have e4 : 2 * (low + 1) * g = 2 * (g * low) + 2 * g := by rw [Nat.mul_assoc, Nat.add_mul, Nat.mul_comm low g]; omega
      by_cases h2 : g = 2 * rest
      · have h2b : (g == 2 * rest) = true := by simpa using h2
        by_cases h3 : low % 2 = 1
        · have h3b : (low % 2 == 1) = true := by simpa using h3
          simp only [h1, decide_false, Bool.false_or, h2b, h3b, Bool.and_self, Bool.toNat_true]
          rw [e3, e4]
          omega
        · have h3' : (low % 2 == 1) = false := by simpa using h3
          simp only [h1, decide_false, Bool.false_or, h2b, h3', Bool.and_false, Bool.toNat_false, Nat.add_zero]
          rw [e1, e2]
          omega
      · have h2' : (g == 2 * rest) = false := by simpa using h2
        simp only [h1, decide_false, Bool.false_or, h2', Bool.false_and, Bool.toNat_false, Nat.add_zero]
        rw [e1, e2]
        omega
  · rw [Nat.min_eq_right (by omega)]
    have e : 2 ^ (n.log2 + 2) = 2 * 2 ^ (n.log2 + 1) := by rw [Nat.pow_succ, Nat.mul_comm]
    have hle : 2 ^ (n.log2 + 2) ≤ 2 ^ drop := Nat.pow_le_pow_right (by decide) (by omega)
    have hlow : n / 2 ^ (n.log2 + 2) = 0 := Nat.div_eq_of_lt (by omega)
    have hrest : n % 2 ^ (n.log2 + 2) = n := Nat.mod_eq_of_lt (by omega)
    rw [hlow, hrest]
    have h1 : ¬ 2 ^ (n.log2 + 2) < 2 * n := by omega
    have h2 : (2 ^ (n.log2 + 2) == 2 * n) = false := by simp; omega
    simp only [h1, decide_false, Bool.false_or, h2, Bool.false_and, Bool.toNat_false, Nat.add_zero]
    omega

/-- Rung r is the nearest one to num / den (counted in the least float), ties to even. -/
def Near (num den r : Nat) : Prop :=
  r ≤ inf ∧ (r < inf → 2 * num ≤ (val r + val (r + 1)) * den ∧ (r % 2 = 1 → 2 * num < (val r + val (r + 1)) * den)) ∧
  (0 < r → (val (r - 1) + val r) * den ≤ 2 * num ∧ (r % 2 = 1 → (val (r - 1) + val r) * den < 2 * num))

theorem Near.unique {num den r s : Nat} (hd : 0 < den) (h : Near num den r) (k : Near num den s) : r = s := by
  have key : ∀ {r s : Nat}, Near num den r → Near num den s → ¬ r < s := by
    intro r s h k hlt
    obtain ⟨h1, h2, -⟩ := h
    obtain ⟨k1, -, k3⟩ := k
    obtain ⟨a1, a2⟩ := h2 (by omega)
    obtain ⟨b1, b2⟩ := k3 (by omega)
    have m1 : val r ≤ val (s - 1) := val_le (by omega)
    have m2 : val (r + 1) ≤ val s := val_le (by omega)
    have hle : (val r + val (r + 1)) * den ≤ (val (s - 1) + val s) * den := Nat.mul_le_mul_right _ (by omega)
    by_cases hrs : r + 1 = s
    · subst hrs
      by_cases hp : r % 2 = 1
      · have := a2 hp; omega
      · have := b2 (by omega); omega
    · have m3 : val r < val (s - 1) := val_lt (by omega)
      have hlt' : (val r + val (r + 1)) * den < (val (s - 1) + val s) * den := Nat.mul_lt_mul_of_pos_right (by omega) hd
      omega
  have := key h k
  have := key k h
  omega

theorem Near.scale {num den r : Nat} (k : Nat) (hk : 0 < k) : Near (num * k) (den * k) r ↔ Near num den r := by
  unfold Near
  have e : ∀ a : Nat, a * (den * k) = a * den * k := fun a => by rw [Nat.mul_assoc]
  have e2 : 2 * (num * k) = 2 * num * k := by rw [Nat.mul_assoc]
  simp only [e, e2, Nat.mul_le_mul_right_iff hk, Nat.mul_lt_mul_right hk]

theorem val_at (E k : Nat) (hk : k ≤ 2 ^ 53) (hE : E = 0 ∨ 2 ^ 52 ≤ k) : val (E * 2 ^ 52 + k) = k * 2 ^ E := by
  by_cases h1 : k < 2 ^ 52
  · have : E = 0 := by omega
    subst this
    rw [val_mk 0 k h1]; simp
  · by_cases h2 : k < 2 ^ 53
    · rw [show E * 2 ^ 52 + k = (E + 1) * 2 ^ 52 + (k - 2 ^ 52) by omega, val_mk (E + 1) (k - 2 ^ 52) (by omega)]
      rw [if_neg (by omega), show 2 ^ 52 + (k - 2 ^ 52) = k by omega, Nat.add_sub_cancel]
    · rw [show E * 2 ^ 52 + k = (E + 2) * 2 ^ 52 + 0 by omega, val_mk (E + 2) 0 (by decide)]
      rw [if_neg (by omega), show k = 2 * 2 ^ 52 by omega, show E + 2 - 1 = E + 1 by omega, Nat.pow_succ' (n := E)]
      have h3 : ∀ p : Nat, (2 ^ 52 + 0) * (2 * p) = 2 * 2 ^ 52 * p := fun p => by omega
      exact h3 _

theorem leastPlace_double : double.leastPlace = -1074 := by decide
theorem infRung_double : double.infRung = inf := by decide
theorem binade_double : double.binade = 2 ^ 52 := by decide
theorem signWeight_double : double.signWeight = 2 ^ 63 := by decide

theorem nearest_spec (neg : Bool) (mag : Nat) (place : Int) :
    ∃ r, double.nearest neg mag place = double.word neg r ∧ Near (mag * 2 ^ (place + 1074).toNat) (2 ^ (-(place + 1074)).toNat) r := by
  unfold Format.nearest
  by_cases hm : mag = 0
  · subst hm
    refine ⟨0, by simp, by simp [inf_eq], fun _ => ⟨by simp, by simp⟩, fun h => by omega⟩
  rw [if_neg hm]
  simp only [leastPlace_double, binade_double, infRung_double]
  have hL1 : 2 ^ mag.log2 ≤ mag := Nat.log2_self_le hm
  have hL2 : mag < 2 ^ (mag.log2 + 1) := Nat.lt_log2_self
  generalize mag.log2 = L at *
  have hf : ((double.fractionBits : Nat) : Int) = 52 := by decide
  rw [hf]
  generalize hlast : max (place + (L : Int) - 52) (-1074) = last
  have hl1 : place + (L : Int) - 52 ≤ last := by omega
  have hl2 : (-1074 : Int) ≤ last := by omega
  have hl3 : last = -1074 ∨ last = place + (L : Int) - 52 := by omega
  rw [Nat.shiftLeft_eq]
  have hcut := cut_even neg (mag * 2 ^ (place - last).toNat) (last - place).toNat
  generalize Toward.even.cut neg (mag * 2 ^ (place - last).toNat) (last - place).toNat = k at *
  obtain ⟨c1, c2, c3⟩ := hcut
  generalize hE : (last - -1074).toNat = E
  generalize ha : (place - last).toNat = a at *
  generalize hb : (last - place).toNat = b at *
  generalize hu : (place + 1074).toNat = u
  generalize hv : (-(place + 1074)).toNat = v
  have hexp : u + b = a + E + v := by omega
  -- the number, in both scales
  have hscale : mag * 2 ^ u * 2 ^ b = mag * 2 ^ a * (2 ^ E * 2 ^ v) := by
    rw [Nat.mul_assoc, ← Nat.pow_add, hexp, Nat.mul_assoc, ← Nat.pow_add, ← Nat.pow_add, Nat.add_assoc]
  have hB : 0 < 2 ^ b := Nat.two_pow_pos _
  have hEV : 0 < 2 ^ E * 2 ^ v := Nat.mul_pos (Nat.two_pow_pos _) (Nat.two_pow_pos _)
  -- k is at most 2^53
  have hK : mag * 2 ^ a < 2 ^ 53 * 2 ^ b := by
    have : mag * 2 ^ a < 2 ^ (L + 1) * 2 ^ a := Nat.mul_lt_mul_of_pos_right hL2 (Nat.two_pow_pos _)
    rw [← Nat.pow_add] at this ⊢
    exact Nat.lt_of_lt_of_le this (Nat.pow_le_pow_right (by decide) (by omega))
  have hk53 : k ≤ 2 ^ 53 := by
    rcases Nat.lt_or_ge (2 ^ 53) k with h | h
    · have : (2 * 2 ^ 53 + 2) * 2 ^ b ≤ 2 * k * 2 ^ b := Nat.mul_le_mul_right _ (by omega)
      omega
    · exact h
  have hlow : E = 0 ∨ 2 ^ 52 * 2 ^ b ≤ mag * 2 ^ a := by
    rcases hl3 with h | h
    · left; omega
    · right
      have : 2 ^ L * 2 ^ a ≤ mag * 2 ^ a := Nat.mul_le_mul_right _ hL1
      rw [← Nat.pow_add] at this ⊢
      rw [show 52 + b = L + a by omega]
      exact this
  have hk52 : E = 0 ∨ 2 ^ 52 ≤ k := by
    rcases hlow with h | h
    · exact Or.inl h
    · right
      rcases Nat.lt_or_ge k (2 ^ 52) with h' | h'
      · have : (2 * k + 1) * 2 ^ b ≤ (2 * 2 ^ 52 - 1) * 2 ^ b := Nat.mul_le_mul_right _ (by omega)
        omega
      · exact h'
  have hval := val_at E k hk53 hk52
  generalize hR : E * 2 ^ 52 + k = R at *
  have hpar : R % 2 = k % 2 := by omega
  -- the two inequalities, in num and den
  have cancel : ∀ x y : Nat, x * 2 ^ b ≤ y * 2 ^ b → x ≤ y := fun x y h => Nat.le_of_mul_le_mul_right h hB
  have cancel' : ∀ x y : Nat, x * 2 ^ b < y * 2 ^ b → x < y := fun x y h => Nat.lt_of_mul_lt_mul_right h
  have up : 2 * (mag * 2 ^ u) ≤ (2 * k + 1) * (2 ^ E * 2 ^ v) := by
    apply cancel
    calc 2 * (mag * 2 ^ u) * 2 ^ b = 2 * (mag * 2 ^ a) * (2 ^ E * 2 ^ v) := by rw [Nat.mul_assoc 2, hscale, ← Nat.mul_assoc 2]
      _ ≤ (2 * k + 1) * 2 ^ b * (2 ^ E * 2 ^ v) := Nat.mul_le_mul_right _ c1
      _ = (2 * k + 1) * (2 ^ E * 2 ^ v) * 2 ^ b := by rw [Nat.mul_right_comm]
  have dn : 2 * k * (2 ^ E * 2 ^ v) ≤ 2 * (mag * 2 ^ u) + 2 ^ E * 2 ^ v := by
    apply cancel
    calc 2 * k * (2 ^ E * 2 ^ v) * 2 ^ b = 2 * k * 2 ^ b * (2 ^ E * 2 ^ v) := by rw [Nat.mul_right_comm]
      _ ≤ (2 * (mag * 2 ^ a) + 2 ^ b) * (2 ^ E * 2 ^ v) := Nat.mul_le_mul_right _ c2
      _ = (2 * (mag * 2 ^ u) + 2 ^ E * 2 ^ v) * 2 ^ b := by rw [Nat.add_mul, Nat.add_mul, Nat.mul_assoc 2, ← hscale, Nat.mul_assoc 2, Nat.mul_comm (2 ^ b)]
  have up' : k % 2 = 1 → 2 * (mag * 2 ^ u) < (2 * k + 1) * (2 ^ E * 2 ^ v) := fun hk => by
    apply cancel'
    calc 2 * (mag * 2 ^ u) * 2 ^ b = 2 * (mag * 2 ^ a) * (2 ^ E * 2 ^ v) := by rw [Nat.mul_assoc 2, hscale, ← Nat.mul_assoc 2]
      _ < (2 * k + 1) * 2 ^ b * (2 ^ E * 2 ^ v) := Nat.mul_lt_mul_of_pos_right (c3 hk).1 hEV
      _ = (2 * k + 1) * (2 ^ E * 2 ^ v) * 2 ^ b := by rw [Nat.mul_right_comm]
  have dn' : k % 2 = 1 → 2 * k * (2 ^ E * 2 ^ v) < 2 * (mag * 2 ^ u) + 2 ^ E * 2 ^ v := fun hk => by
    apply cancel'
    calc 2 * k * (2 ^ E * 2 ^ v) * 2 ^ b = 2 * k * 2 ^ b * (2 ^ E * 2 ^ v) := by rw [Nat.mul_right_comm]
      _ < (2 * (mag * 2 ^ a) + 2 ^ b) * (2 ^ E * 2 ^ v) := Nat.mul_lt_mul_of_pos_right (c3 hk).2 hEV
      _ = (2 * (mag * 2 ^ u) + 2 ^ E * 2 ^ v) * 2 ^ b := by rw [Nat.add_mul, Nat.add_mul, Nat.mul_assoc 2, ← hscale, Nat.mul_assoc 2, Nat.mul_comm (2 ^ b)]
  have hvd : val R * 2 ^ v = k * (2 ^ E * 2 ^ v) := by rw [hval, Nat.mul_assoc]
  have hupR : (val R + val (R + 1)) * 2 ^ v ≥ (2 * k + 1) * (2 ^ E * 2 ^ v) := by
    have hu1 : 2 ^ E ≤ ulp R := by
      unfold ulp
      rcases hk52 with h | h
      · subst h; exact Nat.one_le_two_pow
      · exact Nat.pow_le_pow_right (by decide) (by have : (E + 1) * 2 ^ 52 ≤ R := by omega
                                                   have := Nat.div_le_div_right (c := 2 ^ 52) this
                                                   rw [Nat.mul_div_cancel _ (by decide)] at this
                                                   omega)
    have hu2 : 2 ^ E * 2 ^ v ≤ ulp R * 2 ^ v := Nat.mul_le_mul_right _ hu1
    rw [val_succ, Nat.add_mul, Nat.add_mul, hvd]
    rw [Nat.add_mul (2 * k), Nat.mul_assoc 2]
    omega
  have hdnR : 0 < R → ((val (R - 1) + val R) * 2 ^ v ≤ 2 * (mag * 2 ^ u) ∧ (R % 2 = 1 → (val (R - 1) + val R) * 2 ^ v < 2 * (mag * 2 ^ u))) := by
    intro hR0
    have hs := val_succ (R - 1)
    rw [show R - 1 + 1 = R by omega] at hs
    by_cases hcase : E = 0 ∨ 2 ^ 52 < k
    · have hu1 : 2 ^ E ≤ ulp (R - 1) := by
        unfold ulp
        rcases hcase with h | h
        · subst h; exact Nat.one_le_two_pow
        · exact Nat.pow_le_pow_right (by decide) (by have : (E + 1) * 2 ^ 52 ≤ R - 1 := by omega
                                                     have := Nat.div_le_div_right (c := 2 ^ 52) this
                                                     rw [Nat.mul_div_cancel _ (by decide)] at this
                                                     omega)
      have hu2 : 2 ^ E * 2 ^ v ≤ ulp (R - 1) * 2 ^ v := Nat.mul_le_mul_right _ hu1
      have e1 : val R * 2 ^ v = val (R - 1) * 2 ^ v + ulp (R - 1) * 2 ^ v := by rw [hs, Nat.add_mul]
      rw [Nat.add_mul]
      rw [Nat.mul_assoc 2] at dn dn'
      exact ⟨by omega, fun h => by have := dn' (by omega); omega⟩
    · have hk : k = 2 ^ 52 := by omega
      have hge : k * (2 ^ E * 2 ^ v) ≤ mag * 2 ^ u := by
        apply cancel
        rw [hscale, Nat.mul_right_comm, hk]
        exact Nat.mul_le_mul_right _ (by rcases hlow with h | h <;> omega)
      have hlt : val (R - 1) * 2 ^ v < val R * 2 ^ v := Nat.mul_lt_mul_of_pos_right (val_lt (by omega)) (Nat.two_pow_pos _)
      rw [Nat.add_mul]
      exact ⟨by omega, fun h => by omega⟩
  refine ⟨min R inf, rfl, Nat.min_le_right _ _, fun h => ?_, fun h => ?_⟩
  · have e : min R inf = R := by omega
    rw [e]
    exact ⟨by omega, fun hp => by have := up' (by omega); omega⟩
  · by_cases hRi : R ≤ inf
    · have e : min R inf = R := by omega
      rw [e]
      exact hdnR (by omega)
    · have e : min R inf = inf := by omega
      rw [e]
      have h1 := (hdnR (by omega)).1
      have m1 : val (inf - 1) ≤ val (R - 1) := val_le (by omega)
      have m2 : val inf ≤ val R := val_le (by omega)
      have m3 : (val (inf - 1) + val inf) * 2 ^ v ≤ (val (R - 1) + val R) * 2 ^ v := Nat.mul_le_mul_right _ (by omega)
      exact ⟨by omega, fun h => by rw [inf_eq] at h; omega⟩
end Go.Proofs.Ythddodhcpfponaa.Flt
