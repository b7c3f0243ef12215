/-
  Floats, plainly.
-/
import Ieee.Arith
namespace Go.Proofs.Ytdmdaoginojalaa.Flt
open Ieee

def inf : Nat := 2047 * 2 ^ 52
theorem inf_eq : inf = 9218868437227405312 := by decide

/-- The worth of a rung, counted in the least float above nought. -/
def val (r : Nat) : Nat := (if r < 2 ^ 52 then r else 2 ^ 52 + r % 2 ^ 52) * 2 ^ (r / 2 ^ 52 - 1)
def ulp (r : Nat) : Nat := 2 ^ (r / 2 ^ 52 - 1)

theorem ulp_pos (r : Nat) : 0 < ulp r := Nat.two_pow_pos _

theorem val_mk (q m : Nat) (h : m < 2 ^ 52) : val (q * 2 ^ 52 + m) = (if q = 0 then m else 2 ^ 52 + m) * 2 ^ (q - 1) := by
  have h1 : (q * 2 ^ 52 + m) / 2 ^ 52 = q := by omega
  have h2 : (q * 2 ^ 52 + m) % 2 ^ 52 = m := by omega
  unfold val
  rw [h1, h2]
  by_cases hq : q = 0
  · subst hq
    simp [h]
  · rw [if_neg (by omega), if_neg hq]

theorem ulp_mk (q m : Nat) (h : m < 2 ^ 52) : ulp (q * 2 ^ 52 + m) = 2 ^ (q - 1) := by
  unfold ulp
  rw [show (q * 2 ^ 52 + m) / 2 ^ 52 = q by omega]

theorem split52 (r : Nat) : ∃ q m, r = q * 2 ^ 52 + m ∧ m < 2 ^ 52 := ⟨r / 2 ^ 52, r % 2 ^ 52, by omega, by omega⟩

theorem val_succ (r : Nat) : val (r + 1) = val r + ulp r := by
  obtain ⟨q, m, rfl, hm⟩ := split52 r
  rw [ulp_mk q m hm, val_mk q m hm]
  by_cases h : m + 1 < 2 ^ 52
  · rw [show q * 2 ^ 52 + m + 1 = q * 2 ^ 52 + (m + 1) by omega, val_mk q (m + 1) h]
    split
    · rw [Nat.add_mul, Nat.one_mul]
    · rw [← Nat.add_assoc, Nat.add_mul, Nat.one_mul]
  · have hm' : m = 2 ^ 52 - 1 := by omega
    rw [show q * 2 ^ 52 + m + 1 = (q + 1) * 2 ^ 52 + 0 by omega, val_mk (q + 1) 0 (by decide)]
    subst hm'
    cases q with
    | zero => simp
    | succ q =>
      have h2 : 2 ^ (q + 1) = 2 * 2 ^ q := by rw [Nat.pow_succ, Nat.mul_comm]
      simp only [Nat.add_sub_cancel, if_neg (Nat.succ_ne_zero _)]
      rw [h2]
      generalize 2 ^ q = p
      omega

theorem val_lt_succ (r : Nat) : val r < val (r + 1) := by have := val_succ r; have := ulp_pos r; omega

theorem val_lt {r s : Nat} (h : r < s) : val r < val s := by
  induction s with
  | zero => omega
  | succ s ih =>
    by_cases hs : r = s
    · subst hs; exact val_lt_succ r
    · exact Nat.lt_trans (ih (by omega)) (val_lt_succ s)

theorem val_le {r s : Nat} (h : r ≤ s) : val r ≤ val s := by
  rcases Nat.lt_or_eq_of_le h with h | h
  · exact Nat.le_of_lt (val_lt h)
  · subst h; exact Nat.le_refl _

theorem le_of_val {r s : Nat} (h : val r ≤ val s) : r ≤ s := by
  rcases Nat.lt_or_ge s r with h' | h'
  · exact absurd (val_lt h') (by omega)
  · exact h'
theorem val_inj {r s : Nat} (h : val r = val s) : r = s := by
  have h1 := le_of_val (r := r) (s := s) (by omega)
  have h2 := le_of_val (r := s) (s := r) (by omega)
  omega
theorem val_zero : val 0 = 0 := by simp [val]
/-- Cutting to the nearest. -/
theorem cut_even (neg : Bool) (n drop : Nat) :
    2 * n ≤ (2 * Toward.even.cut neg n drop + 1) * 2 ^ drop ∧ 2 * Toward.even.cut neg n drop * 2 ^ drop ≤ 2 * n + 2 ^ drop ∧
    (Toward.even.cut neg n drop % 2 = 1 → 2 * n < (2 * Toward.even.cut neg n drop + 1) * 2 ^ drop ∧ 2 * Toward.even.cut neg n drop * 2 ^ drop < 2 * n + 2 ^ drop) := by
  have hlog : n < 2 ^ (n.log2 + 1) := Nat.lt_log2_self
  unfold Toward.cut
  simp only [Nat.one_shiftLeft]
  by_cases hd : drop ≤ n.log2 + 2
  · rw [Nat.min_eq_left hd]
    have hg : 0 < 2 ^ drop := Nat.two_pow_pos _
    generalize 2 ^ drop = g at *
    have hn : g * (n / g) + n % g = n := Nat.div_add_mod n g
    have hr : n % g < g := Nat.mod_lt _ hg
    generalize n / g = low at *
    generalize n % g = rest at *
    by_cases h1 : g < 2 * rest
    · have e1 : (2 * (low + 1) + 1) * g = 2 * (g * low) + 3 * g := by rw [Nat.add_mul, Nat.mul_assoc, Nat.add_mul, Nat.mul_comm low g]; omega
      have e2 : 2 * (low + 1) * g = 2 * (g * low) + 2 * g := by rw [Nat.mul_assoc, Nat.add_mul, Nat.mul_comm low g]; omega
      simp only [h1, decide_true, Bool.true_or, Bool.toNat_true]
      rw [e1, e2]
      omega
    · have e1 : (2 * low + 1) * g = 2 * (g * low) + g := by rw [Nat.add_mul, Nat.mul_assoc, Nat.mul_comm low g]; omega
      have e2 : 2 * low * g = 2 * (g * low) := by rw [Nat.mul_assoc, Nat.mul_comm low g]
      have e3 : (2 * (low + 1) + 1) * g = 2 * (g * low) + 3 * g := by rw [Nat.add_mul, Nat.mul_assoc, Nat.add_mul, Nat.mul_comm low g]; omega
      have e4 : 2 * (low + 1) * g = 2 * (g * low) + 2 * g := by rw [Nat.mul_assoc, Nat.add_mul, Nat.mul_comm low g]; omega
      by_cases h2 : g = 2 * rest
      · have h2b : (g == 2 * rest) = true := by simpa using h2
        by_cases h3 : low % 2 = 1
        · have h3b : (low % 2 == 1) = true := by simpa using h3
          simp only [h1, decide_false, Bool.false_or, h2b, h3b, Bool.and_self, Bool.toNat_true]
          rw [e3, e4]
          omega
        · have h3' : (low % 2 == 1) = false := by simpa using h3
          simp only [h1, decide_false, Bool.false_or, h2b, h3', Bool.and_false, Bool.toNat_false, Nat.add_zero]
          rw [e1, e2]
          omega
      · have h2' : (g == 2 * rest) = false := by simpa using h2
        simp only [h1, decide_false, Bool.false_or, h2', Bool.false_and, Bool.toNat_false, Nat.add_zero]
        rw [e1, e2]
        omega
  · rw [Nat.min_eq_right (by omega)]
    have e : 2 ^ (n.log2 + 2) = 2 * 2 ^ (n.log2 + 1) := by rw [Nat.pow_succ, Nat.mul_comm]
    have hle : 2 ^ (n.log2 + 2) ≤ 2 ^ drop := Nat.pow_le_pow_right (by decide) (by omega)
    have hlow : n / 2 ^ (n.log2 + 2) = 0 := Nat.div_eq_of_lt (by omega)
    have hrest : n % 2 ^ (n.log2 + 2) = n := Nat.mod_eq_of_lt (by omega)
    rw [hlow, hrest]
    have h1 : ¬ 2 ^ (n.log2 + 2) < 2 * n := by omega
    have h2 : (2 ^ (n.log2 + 2) == 2 * n) = false := by simp; omega
    simp only [h1, decide_false, Bool.false_or, h2, Bool.false_and, Bool.toNat_false, Nat.add_zero]
    omega

/-- Rung r is the nearest one to num / den (counted in the least float), ties to even. -/
def Near (num den r : Nat) : Prop :=
  r ≤ inf ∧ (r < inf → 2 * num ≤ (val r + val (r + 1)) * den ∧ (r % 2 = 1 → 2 * num < (val r + val (r + 1)) * den)) ∧
  (0 < r → (val (r - 1) + val r) * den ≤ 2 * num ∧ (r % 2 = 1 → (val (r - 1) + val r) * den < 2 * num))

theorem Near.unique {num den r s : Nat} (hd : 0 < den) (h : Near num den r) (k : Near num den s) : r = s := by
  have key : ∀ {r s : Nat}, Near num den r → Near num den s → ¬ r < s := by
    intro r s h k hlt
    obtain ⟨h1, h2, -⟩ := h
    obtain ⟨k1, -, k3⟩ := k
    obtain ⟨a1, a2⟩ := h2 (by omega)
    obtain ⟨b1, b2⟩ := k3 (by omega)
    have m1 : val r ≤ val (s - 1) := val_le (by omega)
    have m2 : val (r + 1) ≤ val s := val_le (by omega)
    have hle : (val r + val (r + 1)) * den ≤ (val (s - 1) + val s) * den := Nat.mul_le_mul_right _ (by omega)
    by_cases hrs : r + 1 = s
    · subst hrs
      by_cases hp : r % 2 = 1
      · have := a2 hp; omega
      · have := b2 (by omega); omega
    · have m3 : val r < val (s - 1) := val_lt (by omega)
      have hlt' : (val r + val (r + 1)) * den < (val (s - 1) + val s) * den := Nat.mul_lt_mul_of_pos_right (by omega) hd
      omega
  have := key h k
  have := key k h
  omega

theorem val_at (E k : Nat) (hk : k ≤ 2 ^ 53) (hE : E = 0 ∨ 2 ^ 52 ≤ k) : val (E * 2 ^ 52 + k) = k * 2 ^ E := by
  by_cases h1 : k < 2 ^ 52
  · have : E = 0 := by omega
    subst this
    rw [val_mk 0 k h1]; simp
  · by_cases h2 : k < 2 ^ 53
    · rw [show E * 2 ^ 52 + k = (E + 1) * 2 ^ 52 + (k - 2 ^ 52) by omega, val_mk (E + 1) (k - 2 ^ 52) (by omega)]
      rw [if_neg (by omega), show 2 ^ 52 + (k - 2 ^ 52) = k by omega, Nat.add_sub_cancel]
    · rw [show E * 2 ^ 52 + k = (E + 2) * 2 ^ 52 + 0 by omega, val_mk (E + 2) 0 (by decide)]
      rw [if_neg (by omega), show k = 2 * 2 ^ 52 by omega, show E + 2 - 1 = E + 1 by omega, Nat.pow_succ' (n := E)]
      have h3 : ∀ p : Nat, (2 ^ 52 + 0) * (2 * p) = 2 * 2 ^ 52 * p := fun p => by omega
      exact h3 _

theorem leastPlace_double : double.leastPlace = -1074 := by decide
theorem infRung_double : double.infRung = inf := by decide
theorem binade_double : double.binade = 2 ^ 52 := by decide
theorem signWeight_double : double.signWeight = 2 ^ 63 := by decide

theorem nearest_spec (neg : Bool) (mag : Nat) (place : Int) :
    ∃ r, double.nearest neg mag place = double.word neg r ∧ Near (mag * 2 ^ (place + 1074).toNat) (2 ^ (-(place + 1074)).toNat) r := by
  unfold Format.nearest
  by_cases hm : mag = 0
  · subst hm
    refine ⟨0, by simp, by simp [inf_eq], fun _ => ⟨by simp, by simp⟩, fun h => by omega⟩
  rw [if_neg hm]
  simp only [leastPlace_double, binade_double, infRung_double]
  have hL1 : 2 ^ mag.log2 ≤ mag := Nat.log2_self_le hm
  have hL2 : mag < 2 ^ (mag.log2 + 1) := Nat.lt_log2_self
  generalize mag.log2 = L at *
  have hf : ((double.fractionBits : Nat) : Int) = 52 := by decide
  rw [hf]
  generalize hlast : max (place + (L : Int) - 52) (-1074) = last
  have hl1 : place + (L : Int) - 52 ≤ last := by omega
  have hl2 : (-1074 : Int) ≤ last := by omega
  have hl3 : last = -1074 ∨ last = place + (L : Int) - 52 := by omega
  rw [Nat.shiftLeft_eq]
  have hcut := cut_even neg (mag * 2 ^ (place - last).toNat) (last - place).toNat
  generalize Toward.even.cut neg (mag * 2 ^ (place - last).toNat) (last - place).toNat = k at *
  obtain ⟨c1, c2, c3⟩ := hcut
  generalize hE : (last - -1074).toNat = E
  generalize ha : (place - last).toNat = a at *
  generalize hb : (last - place).toNat = b at *
  generalize hu : (place + 1074).toNat = u
  generalize hv : (-(place + 1074)).toNat = v
  have hexp : u + b = a + E + v := by omega
  -- the number, in both scales
  have hscale : mag * 2 ^ u * 2 ^ b = mag * 2 ^ a * (2 ^ E * 2 ^ v) := by
    rw [Nat.mul_assoc, ← Nat.pow_add, hexp, Nat.mul_assoc, ← Nat.pow_add, ← Nat.pow_add, Nat.add_assoc]
  have hB : 0 < 2 ^ b := Nat.two_pow_pos _
  have hEV : 0 < 2 ^ E * 2 ^ v := Nat.mul_pos (Nat.two_pow_pos _) (Nat.two_pow_pos _)
  -- k is at most 2^53
  have hK : mag * 2 ^ a < 2 ^ 53 * 2 ^ b := by
    have : mag * 2 ^ a < 2 ^ (L + 1) * 2 ^ a := Nat.mul_lt_mul_of_pos_right hL2 (Nat.two_pow_pos _)
    rw [← Nat.pow_add] at this ⊢
    exact Nat.lt_of_lt_of_le this (Nat.pow_le_pow_right (by decide) (by omega))
  have hk53 : k ≤ 2 ^ 53 := by
    rcases Nat.lt_or_ge (2 ^ 53) k with h | h
    · have : (2 * 2 ^ 53 + 2) * 2 ^ b ≤ 2 * k * 2 ^ b := Nat.mul_le_mul_right _ (by omega)
      omega
    · exact h
  have hlow : E = 0 ∨ 2 ^ 52 * 2 ^ b ≤ mag * 2 ^ a := by
    rcases hl3 with h | h
    · left; omega
    · right
      have : 2 ^ L * 2 ^ a ≤ mag * 2 ^ a := Nat.mul_le_mul_right _ hL1
      rw [← Nat.pow_add] at this ⊢
      rw [show 52 + b = L + a by omega]
      exact this
  have hk52 : E = 0 ∨ 2 ^ 52 ≤ k := by
    rcases hlow with h | h
    · exact Or.inl h
    · right
      rcases Nat.lt_or_ge k (2 ^ 52) with h' | h'
      · have : (2 * k + 1) * 2 ^ b ≤ (2 * 2 ^ 52 - 1) * 2 ^ b := Nat.mul_le_mul_right _ (by omega)
        omega
      · exact h'
  have hval := val_at E k hk53 hk52
  generalize hR : E * 2 ^ 52 + k = R at *
  have hpar : R % 2 = k % 2 := by omega
  -- the two inequalities, in num and den
  have cancel : ∀ x y : Nat, x * 2 ^ b ≤ y * 2 ^ b → x ≤ y := fun x y h => Nat.le_of_mul_le_mul_right h hB
  have cancel' : ∀ x y : Nat, x * 2 ^ b < y * 2 ^ b → x < y := fun x y h => Nat.lt_of_mul_lt_mul_right h
  have up : 2 * (mag * 2 ^ u) ≤ (2 * k + 1) * (2 ^ E * 2 ^ v) := by
    apply cancel
    calc 2 * (mag * 2 ^ u) * 2 ^ b = 2 * (mag * 2 ^ a) * (2 ^ E * 2 ^ v) := by rw [Nat.mul_assoc 2, hscale, ← Nat.mul_assoc 2]
      _ ≤ (2 * k + 1) * 2 ^ b * (2 ^ E * 2 ^ v) := Nat.mul_le_mul_right _ c1
      _ = (2 * k + 1) * (2 ^ E * 2 ^ v) * 2 ^ b := by rw [Nat.mul_right_comm]
  have dn : 2 * k * (2 ^ E * 2 ^ v) ≤ 2 * (mag * 2 ^ u) + 2 ^ E * 2 ^ v := by
    apply cancel
    calc 2 * k * (2 ^ E * 2 ^ v) * 2 ^ b = 2 * k * 2 ^ b * (2 ^ E * 2 ^ v) := by rw [Nat.mul_right_comm]
      _ ≤ (2 * (mag * 2 ^ a) + 2 ^ b) * (2 ^ E * 2 ^ v) := Nat.mul_le_mul_right _ c2
      _ = (2 * (mag * 2 ^ u) + 2 ^ E * 2 ^ v) * 2 ^ b := by rw [Nat.add_mul, Nat.add_mul, Nat.mul_assoc 2, ← hscale, Nat.mul_assoc 2, Nat.mul_comm (2 ^ b)]
  have up' : k % 2 = 1 → 2 * (mag * 2 ^ u) < (2 * k + 1) * (2 ^ E * 2 ^ v) := fun hk => by
    apply cancel'
    calc 2 * (mag * 2 ^ u) * 2 ^ b = 2 * (mag * 2 ^ a) * (2 ^ E * 2 ^ v) := by rw [Nat.mul_assoc 2, hscale, ← Nat.mul_assoc 2]
      _ < (2 * k + 1) * 2 ^ b * (2 ^ E * 2 ^ v) := Nat.mul_lt_mul_of_pos_right (c3 hk).1 hEV
      _ = (2 * k + 1) * (2 ^ E * 2 ^ v) * 2 ^ b := by rw [Nat.mul_right_comm]
  have dn' : k % 2 = 1 → 2 * k * (2 ^ E * 2 ^ v) < 2 * (mag * 2 ^ u) + 2 ^ E * 2 ^ v := fun hk => by
    apply cancel'
    calc 2 * k * (2 ^ E * 2 ^ v) * 2 ^ b = 2 * k * 2 ^ b * (2 ^ E * 2 ^ v) := by rw [Nat.mul_right_comm]
      _ < (2 * (mag * 2 ^ a) + 2 ^ b) * (2 ^ E * 2 ^ v) := Nat.mul_lt_mul_of_pos_right (c3 hk).2 hEV
      _ = (2 * (mag * 2 ^ u) + 2 ^ E * 2 ^ v) * 2 ^ b := by rw [Nat.add_mul, Nat.add_mul, Nat.mul_assoc 2, ← hscale, Nat.mul_assoc 2, Nat.mul_comm (2 ^ b)]
  have hvd : val R * 2 ^ v = k * (2 ^ E * 2 ^ v) := by rw [hval, Nat.mul_assoc]
  have hupR : (val R + val (R + 1)) * 2 ^ v ≥ (2 * k + 1) * (2 ^ E * 2 ^ v) := by
    have hu1 : 2 ^ E ≤ ulp R := by
      unfold ulp
      rcases hk52 with h | h
      · subst h; exact Nat.one_le_two_pow
      · exact Nat.pow_le_pow_right (by decide) (by have : (E + 1) * 2 ^ 52 ≤ R := by omega
                                                   have := Nat.div_le_div_right (c := 2 ^ 52) this
                                                   rw [Nat.mul_div_cancel _ (by decide)] at this
                                                   omega)
    have hu2 : 2 ^ E * 2 ^ v ≤ ulp R * 2 ^ v := Nat.mul_le_mul_right _ hu1
    rw [val_succ, Nat.add_mul, Nat.add_mul, hvd]
    rw [Nat.add_mul (2 * k), Nat.mul_assoc 2]
    omega
  have hdnR : 0 < R → ((val (R - 1) + val R) * 2 ^ v ≤ 2 * (mag * 2 ^ u) ∧ (R % 2 = 1 → (val (R - 1) + val R) * 2 ^ v < 2 * (mag * 2 ^ u))) := by
    intro hR0
    have hs := val_succ (R - 1)
    rw [show R - 1 + 1 = R by omega] at hs
    by_cases hcase : E = 0 ∨ 2 ^ 52 < k
    · have hu1 : 2 ^ E ≤ ulp (R - 1) := by
        unfold ulp
        rcases hcase with h | h
        · subst h; exact Nat.one_le_two_pow
        · exact Nat.pow_le_pow_right (by decide) (by have : (E + 1) * 2 ^ 52 ≤ R - 1 := by omega
                                                     have := Nat.div_le_div_right (c := 2 ^ 52) this
                                                     rw [Nat.mul_div_cancel _ (by decide)] at this
                                                     omega)
      have hu2 : 2 ^ E * 2 ^ v ≤ ulp (R - 1) * 2 ^ v := Nat.mul_le_mul_right _ hu1
      have e1 : val R * 2 ^ v = val (R - 1) * 2 ^ v + ulp (R - 1) * 2 ^ v := by rw [hs, Nat.add_mul]
      rw [Nat.add_mul]
      rw [Nat.mul_assoc 2] at dn dn'
      exact ⟨by omega, fun h => by have := dn' (by omega); omega⟩
    · have hk : k = 2 ^ 52 := by omega
      have hge : k * (2 ^ E * 2 ^ v) ≤ mag * 2 ^ u := by
        apply cancel
        rw [hscale, Nat.mul_right_comm, hk]
        exact Nat.mul_le_mul_right _ (by rcases hlow with h | h <;> omega)
      have hlt : val (R - 1) * 2 ^ v < val R * 2 ^ v := Nat.mul_lt_mul_of_pos_right (val_lt (by omega)) (Nat.two_pow_pos _)
      rw [Nat.add_mul]
      exact ⟨by omega, fun h => by omega⟩
  refine ⟨min R inf, rfl, Nat.min_le_right _ _, fun h => ?_, fun h => ?_⟩
  · have e : min R inf = R := by omega
    rw [e]
    exact ⟨by omega, fun hp => by have := up' (by omega); omega⟩
  · by_cases hRi : R ≤ inf
    · have e : min R inf = R := by omega
      rw [e]
      exact hdnR (by omega)
    · have e : min R inf = inf := by omega
      rw [e]
      have h1 := (hdnR (by omega)).1
      have m1 : val (inf - 1) ≤ val (R - 1) := val_le (by omega)
      have m2 : val inf ≤ val R := val_le (by omega)
      have m3 : (val (inf - 1) + val inf) * 2 ^ v ≤ (val (R - 1) + val R) * 2 ^ v := Nat.mul_le_mul_right _ (by omega)
      exact ⟨by omega, fun h => by rw [inf_eq] at h; omega⟩
end Go.Proofs.Ytdmdaoginojalaa.Flt

namespace Go.Proofs.Ytdmdaoginojalaa.Flt
open Ieee

def sgn (x : Nat) : Bool := x / 2 ^ 63 % 2 == 1
def rg (x : Nat) : Nat := x % 2 ^ 63
def Fin (x : Nat) : Prop := rg x < inf
def Nan (x : Nat) : Prop := inf < rg x
/-- The worth of a finite float, counted in the least float above nought. -/
def sv (x : Nat) : Int := if sgn x then -(val (rg x) : Int) else (val (rg x) : Int)
def word (neg : Bool) (r : Nat) : Nat := if neg then 2 ^ 63 + r else r

theorem double_word (neg : Bool) (r : Nat) : double.word neg r = word neg r := by
  unfold Format.word word; rw [signWeight_double]

theorem rg_word (neg : Bool) (r : Nat) (h : r < 2 ^ 63) : rg (word neg r) = r := by
  unfold rg word; cases neg <;> simp <;> omega
theorem sgn_word (neg : Bool) (r : Nat) (h : r < 2 ^ 63) : sgn (word neg r) = neg := by
  unfold sgn word
  cases neg
  · have : r / 2 ^ 63 % 2 = 0 := by omega
    simp [this]
  · have : (2 ^ 63 + r) / 2 ^ 63 % 2 = 1 := by omega
    simp only [if_true, this]; rfl
theorem word_eq (x : Nat) (h : x < 2 ^ 64) : word (sgn x) (rg x) = x := by
  unfold word sgn rg
  by_cases hx : x / 2 ^ 63 % 2 = 1
  · simp only [hx, beq_self_eq_true, if_true]; omega
  · have : (x / 2 ^ 63 % 2 == 1) = false := by simpa using hx
    simp only [this]; simp; omega

/-- What a word is read as. -/
theorem read_fin {x : Nat} (h : Fin x) : ∃ m : Nat, ∃ p : Nat, double.read x = .number (sgn x) m ((p : Int) - 1074) ∧ m * 2 ^ p = val (rg x) := by
  unfold Format.read
  simp only [signWeight_double, binade_double, infRung_double, leastPlace_double]
  unfold Fin rg at h
  unfold rg
  generalize hr : x % 2 ^ 63 = r at *
  by_cases h1 : r < 2 ^ 52
  · rw [if_pos h1]
    refine ⟨r, 0, rfl, ?_⟩
    unfold val
    rw [if_pos h1, show r / 2 ^ 52 - 1 = 0 by omega]
  · rw [if_neg h1, if_pos h]
    refine ⟨2 ^ 52 + r % 2 ^ 52, r / 2 ^ 52 - 1, ?_, ?_⟩
    · rfl
    · unfold val
      rw [if_neg h1]
theorem read_inf {x : Nat} (h : rg x = inf) : double.read x = .infinity (sgn x) := by
  unfold Format.read
  simp only [signWeight_double, binade_double, infRung_double]
  unfold rg at h
  rw [h, if_neg (by rw [inf_eq]; decide), if_neg (Nat.lt_irrefl _), if_pos rfl]
  rfl
theorem read_nan {x : Nat} (h : Nan x) : ∃ f, double.read x = .nan (sgn x) f := by
  unfold Format.read
  simp only [signWeight_double, binade_double, infRung_double]
  unfold Nan rg at h
  rw [if_neg (by rw [inf_eq] at h; omega), if_neg (by omega), if_neg (by omega)]
  exact ⟨_, rfl⟩

theorem signed_scale (s : Bool) (m a : Nat) : signed s m a = (if s then -((m * 2 ^ a : Nat) : Int) else ((m * 2 ^ a : Nat) : Int)) := by
  unfold signed; rw [Nat.shiftLeft_eq]

def Add (x y z : Nat) : Prop :=
  ∃ r, z = word (if sv x + sv y = 0 then sgn x && sgn y else decide (sv x + sv y < 0)) r ∧ Near (sv x + sv y).natAbs 1 r

theorem sum_num (s t : Bool) (m n i j : Nat) : ∃ (tot : Int) (base : Nat),
    Datum.sum (.number s m ((i : Int) - 1074)) (.number t n ((j : Int) - 1074)) =
      some (.number (if tot = 0 then s && t else decide (tot < 0)) tot.natAbs ((base : Int) - 1074)) ∧
    tot * (2 ^ base : Nat) = (if s then -((m * 2 ^ i : Nat) : Int) else ((m * 2 ^ i : Nat) : Int)) + (if t then -((n * 2 ^ j : Nat) : Int) else ((n * 2 ^ j : Nat) : Int)) := by
  have e0 : min ((i : Int) - 1074) ((j : Int) - 1074) = ((min i j : Nat) : Int) - 1074 := by omega
  have e1 : ((i : Int) - 1074 - (((min i j : Nat) : Int) - 1074)).toNat = i - min i j := by omega
  have e2 : ((j : Int) - 1074 - (((min i j : Nat) : Int) - 1074)).toNat = j - min i j := by omega
  refine ⟨signed s m (i - min i j) + signed t n (j - min i j), min i j, ?_, ?_⟩
  · unfold Datum.sum
    simp only [e0, e1, e2]
  · simp only [signed_scale]
    have h1 : m * 2 ^ i = m * 2 ^ (i - min i j) * 2 ^ (min i j) := by rw [Nat.mul_assoc, ← Nat.pow_add]; congr 2; omega
    have h2 : n * 2 ^ j = n * 2 ^ (j - min i j) * 2 ^ (min i j) := by rw [Nat.mul_assoc, ← Nat.pow_add]; congr 2; omega
    rw [h1, h2]
    generalize 2 ^ (min i j) = p
    generalize m * 2 ^ (i - min i j) = u
    generalize n * 2 ^ (j - min i j) = v
    rw [Int.add_mul]
    congr 1
    · split <;> simp [Int.neg_mul]
    · split <;> simp [Int.neg_mul]

theorem write_number (neg : Bool) (mag base : Nat) : ∃ r, double.write (.number neg mag ((base : Int) - 1074)) = word neg r ∧ Near (mag * 2 ^ base) 1 r := by
  obtain ⟨r, h1, h2⟩ := nearest_spec neg mag ((base : Int) - 1074)
  refine ⟨r, by rw [← double_word]; exact h1, ?_⟩
  rw [show ((base : Int) - 1074 + 1074).toNat = base by omega, show (-((base : Int) - 1074 + 1074)).toNat = 0 by omega] at h2
  exact h2

theorem add_fin {x y : Nat} (hx : Fin x) (hy : Fin y) : ∃ z, double.add x y = some z ∧ Add x y z := by
  obtain ⟨m, i, hm, hmv⟩ := read_fin hx
  obtain ⟨n, j, hn, hnv⟩ := read_fin hy
  obtain ⟨tot, base, hs, ht⟩ := sum_num (sgn x) (sgn y) m n i j
  obtain ⟨r, hw, hr⟩ := write_number (if tot = 0 then sgn x && sgn y else decide (tot < 0)) tot.natAbs base
  have hS : sv x + sv y = tot * (2 ^ base : Nat) := by rw [ht, hmv, hnv]; rfl
  have hp : (0 : Int) < ((2 ^ base : Nat) : Int) := by have := Nat.two_pow_pos base; omega
  have z0 : tot = 0 ↔ sv x + sv y = 0 := by
    rw [hS]; constructor
    · intro h; rw [h, Int.zero_mul]
    · intro h; rcases Int.mul_eq_zero.1 h with h | h <;> omega
  have zl : tot < 0 ↔ sv x + sv y < 0 := by
    rw [hS]; constructor
    · intro h; exact Int.mul_neg_of_neg_of_pos h hp
    · intro h
      rcases Int.lt_or_le tot 0 with h' | h'
      · exact h'
      · have := Int.mul_nonneg h' (Int.le_of_lt hp); omega
  refine ⟨_, by unfold Format.add; rw [hm, hn, hs]; rfl, r, ?_, ?_⟩
  · rw [hw]
    by_cases h0 : tot = 0
    · rw [if_pos h0, if_pos (z0.1 h0)]
    · rw [if_neg h0, if_neg (fun h => h0 (z0.2 h))]
      by_cases hl : tot < 0
      · rw [decide_eq_true hl, decide_eq_true (zl.1 hl)]
      · rw [decide_eq_false hl, decide_eq_false (fun h => hl (zl.2 h))]
  · rw [hS, Int.natAbs_mul, Int.natAbs_natCast]; exact hr
end Go.Proofs.Ytdmdaoginojalaa.Flt

namespace Go.Proofs.Ytdmdaoginojalaa.Flt
open Ieee

/-! ### the order -/
theorem sv_fin_lt {x : Nat} (h : rg x ≤ inf) : -(val inf : Int) ≤ sv x ∧ sv x ≤ val inf := by
  have := val_le h
  unfold sv; split <;> omega

theorem cmp_lt {a b : Int} : (compare a b = .lt) ↔ a < b := by
  simp [compare, compareOfLessAndEq]; split <;> (try split) <;> simp_all
theorem cmp_eq {a b : Int} : (compare a b = .eq) ↔ a = b := by
  simp [compare, compareOfLessAndEq]; split <;> (try split) <;> simp_all <;> omega
theorem cmp_gt {a b : Int} : (compare a b = .gt) ↔ b < a := by
  simp [compare, compareOfLessAndEq]; split <;> (try split) <;> simp_all <;> omega

theorem cmp_scale (a b : Int) (p : Int) (hp : 0 < p) : compare (a * p) (b * p) = compare a b := by
  rcases Int.lt_trichotomy a b with h | h | h
  · rw [cmp_lt.2 h, cmp_lt.2 (Int.mul_lt_mul_of_pos_right h hp)]
  · rw [h]; rw [cmp_eq.2 rfl, cmp_eq.2 rfl]
  · rw [cmp_gt.2 h, cmp_gt.2 (Int.mul_lt_mul_of_pos_right h hp)]

theorem order_num (s t : Bool) (m n i j : Nat) :
    Datum.order (.number s m ((i : Int) - 1074)) (.number t n ((j : Int) - 1074)) =
      some (compare (if s then -((m * 2 ^ i : Nat) : Int) else ((m * 2 ^ i : Nat) : Int)) (if t then -((n * 2 ^ j : Nat) : Int) else ((n * 2 ^ j : Nat) : Int))) := by
  unfold Datum.order
  simp only
  have : min ((i : Int) - 1074) ((j : Int) - 1074) = ((min i j : Nat) : Int) - 1074 := by omega
  rw [this]
  have e1 : ((i : Int) - 1074 - (((min i j : Nat) : Int) - 1074)).toNat = i - min i j := by omega
  have e2 : ((j : Int) - 1074 - (((min i j : Nat) : Int) - 1074)).toNat = j - min i j := by omega
  rw [e1, e2, signed_scale, signed_scale]
  have hp : (0 : Int) < ((2 ^ (min i j) : Nat) : Int) := by have := Nat.two_pow_pos (min i j); omega
  rw [← cmp_scale _ _ _ hp]
  have h1 : m * 2 ^ i = m * 2 ^ (i - min i j) * 2 ^ (min i j) := by rw [Nat.mul_assoc, ← Nat.pow_add]; congr 2; omega
  have h2 : n * 2 ^ j = n * 2 ^ (j - min i j) * 2 ^ (min i j) := by rw [Nat.mul_assoc, ← Nat.pow_add]; congr 2; omega
  rw [h1, h2]
  generalize 2 ^ (min i j) = p
  generalize m * 2 ^ (i - min i j) = u
  generalize n * 2 ^ (j - min i j) = v
  congr 2
  · split <;> simp [Int.neg_mul]
  · split <;> simp [Int.neg_mul]

theorem order_fin {x y : Nat} (hx : Fin x) (hy : Fin y) : double.order x y = some (compare (sv x) (sv y)) := by
  obtain ⟨m, i, hm, hmv⟩ := read_fin hx
  obtain ⟨n, j, hn, hnv⟩ := read_fin hy
  unfold Format.order
  rw [hm, hn, order_num, hmv, hnv]; rfl

theorem val_inf_gt {x : Nat} (h : Fin x) : val (rg x) < val inf := val_lt h

theorem order_spec {x y : Nat} (hx : ¬ Nan x) (hy : ¬ Nan y) : double.order x y = some (compare (sv x) (sv y)) := by
  unfold Nan at hx hy
  by_cases fx : Fin x
  · by_cases fy : Fin y
    · exact order_fin fx fy
    · have iy : rg y = inf := by unfold Fin at fy; omega
      obtain ⟨m, i, hm, hmv⟩ := read_fin fx
      have hv := val_inf_gt fx
      unfold Format.order
      rw [hm, read_inf iy]
      unfold Datum.order
      have hsx : -(val inf : Int) < sv x ∧ sv x < val inf := by unfold sv; split <;> omega
      have hy' : sv y = if sgn y then -(val inf : Int) else val inf := by unfold sv; rw [iy]
      rw [hy']
      cases sgn y
      · simp only [Bool.false_eq_true, if_false]; rw [cmp_lt.2 hsx.2]
      · simp only [if_true]; rw [cmp_gt.2 hsx.1]
  · have ix : rg x = inf := by unfold Fin at fx; omega
    have hx' : sv x = if sgn x then -(val inf : Int) else val inf := by unfold sv; rw [ix]
    by_cases fy : Fin y
    · obtain ⟨n, j, hn, hnv⟩ := read_fin fy
      have hv := val_inf_gt fy
      unfold Format.order
      rw [hn, read_inf ix]
      unfold Datum.order
      have hsy : -(val inf : Int) < sv y ∧ sv y < val inf := by unfold sv; split <;> omega
      rw [hx']
      cases sgn x
      · simp only [Bool.false_eq_true, if_false]; rw [cmp_gt.2 hsy.2]
      · simp only [if_true]; rw [cmp_lt.2 hsy.1]
    · have iy : rg y = inf := by unfold Fin at fy; omega
      have hy' : sv y = if sgn y then -(val inf : Int) else val inf := by unfold sv; rw [iy]
      have hp : 0 < val inf := by have := val_lt (show 0 < inf by rw [inf_eq]; omega); omega
      unfold Format.order
      rw [read_inf iy, read_inf ix, hx', hy']
      unfold Datum.order
      cases sgn x <;> cases sgn y <;> simp only [Bool.false_eq_true, if_false, if_true, Bool.toNat_true, Bool.toNat_false]
      · rw [cmp_eq.2 rfl]; rfl
      · rw [cmp_gt.2 (by omega)]; rfl
      · rw [cmp_lt.2 (by omega)]; rfl
      · rw [cmp_eq.2 rfl]; rfl

theorem order_nan_left {x y : Nat} (hx : Nan x) : double.order x y = none := by
  obtain ⟨f, h⟩ := read_nan hx
  unfold Format.order Datum.order
  rw [h]
theorem ord_beq (c d : Ordering) : ((some c : Option Ordering) == some d) = decide (c = d) := by cases c <;> cases d <;> rfl

theorem eq_spec {x y : Nat} (hx : ¬ Nan x) (hy : ¬ Nan y) : (double.order x y == some .eq) = decide (sv x = sv y) := by
  rw [order_spec hx hy, ord_beq]; simp only [cmp_eq]
/-! ### exactness -/
theorem Near.exact {r : Nat} (h : r ≤ inf) : Near (val r) 1 r := by
  refine ⟨h, fun hr => ?_, fun hr => ?_⟩
  · have := val_lt_succ r; omega
  · have := val_lt (show r - 1 < r by omega); omega

theorem near_eq {n r s : Nat} (h : Near n 1 s) (hr : r ≤ inf) (hv : val r = n) : s = r := by
  subst hv
  exact h.unique (by decide) (Near.exact hr)

end Go.Proofs.Ytdmdaoginojalaa.Flt

namespace Go.Proofs.Ytdmdaoginojalaa.Flt
open Ieee

/-! ### the opposite; the difference -/
def opp (x : Nat) : Nat := word (!sgn x) (rg x)
theorem rg_opp (x : Nat) : rg (opp x) = rg x := rg_word _ _ (by unfold rg; omega)
theorem sgn_opp (x : Nat) : sgn (opp x) = !sgn x := sgn_word _ _ (by unfold rg; omega)
theorem sv_opp (x : Nat) : sv (opp x) = - sv x := by
  unfold sv; rw [rg_opp, sgn_opp]; cases sgn x <;> simp
theorem opp_lt (x : Nat) : opp x < 2 ^ 64 := by unfold opp word rg; split <;> omega
theorem fin_opp {x : Nat} : Fin (opp x) ↔ Fin x := by unfold Fin; rw [rg_opp]
theorem read_opp (x : Nat) : (double.read x).opposite = double.read (opp x) := by
  have h1 : opp x / 2 ^ 63 % 2 = 1 - x / 2 ^ 63 % 2 := by
    unfold opp word sgn rg
    by_cases hx : x / 2 ^ 63 % 2 = 1
    · simp only [hx]; simp <;> omega
    · have h0 : x / 2 ^ 63 % 2 = 0 := by omega
      simp only [h0]; simp <;> omega
  have h2 : opp x % 2 ^ 63 = x % 2 ^ 63 := rg_opp x
  unfold Format.read
  simp only [signWeight_double, binade_double, infRung_double, leastPlace_double, h2]
  have h3 : (opp x / 2 ^ 63 % 2 == 1) = !(x / 2 ^ 63 % 2 == 1) := by
    rw [h1]
    by_cases hx : x / 2 ^ 63 % 2 = 1
    · rw [hx]; rfl
    · have h0 : x / 2 ^ 63 % 2 = 0 := by omega
      rw [h0]; rfl
  rw [h3]
  split
  · rfl
  · split
    · rfl
    · split <;> rfl

theorem sub_eq (x y : Nat) : double.sub x y = double.add x (opp y) := by
  unfold Format.sub Format.add; rw [read_opp]

theorem add_inf_both {x y : Nat} (hx : rg x = inf) (hy : rg y = inf) : double.add x y = if sgn x = sgn y then some (word (sgn x) inf) else none := by
  unfold Format.add
  rw [read_inf hy, read_inf hx]
  simp only [Datum.sum]
  split
  · simp only [Option.map_some, Format.write, double_word, infRung_double]
  · rfl
theorem add_nan_left {x y : Nat} (hx : Nan x) : double.add x y = none := by
  obtain ⟨f, h⟩ := read_nan hx
  unfold Format.add
  rw [h]; rfl
/-- A sum whose exact worth is a float's. -/
theorem add_exact {x y : Nat} (hx : Fin x) (hy : Fin y) {r : Nat} (hr : r < inf) (hv : val r = (sv x + sv y).natAbs) :
    double.add x y = some (word (if sv x + sv y = 0 then sgn x && sgn y else decide (sv x + sv y < 0)) r) := by
  obtain ⟨z, h, r', hz, hn⟩ := add_fin hx hy
  have : r' = r := near_eq hn (by omega) hv
  subst this
  rw [h, hz]

/-- What an addition gives, for the relation of contracts: the word, or anything that is no number. -/
def IsAdd (x y z : Nat) : Prop := z < 2 ^ 64 ∧ (match double.add x y with | some r => z = r | none => Nan z)

/-- The sum and what it has lost. -/
def IsTwo (x y s l : Nat) : Prop := IsAdd x y s ∧ l < 2 ^ 64 ∧ (Fin s → Fin l ∧ sv l = sv x + sv y - sv s ∧ (sv l = 0 → l = 0)) ∧ (¬ Fin s → l = 0)

def Same (a b : Nat) : Prop := a = b ∨ Nan a ∧ Nan b

theorem IsAdd.same {x y z t : Nat} (h : IsAdd x y z) (k : IsAdd x y t) : Same z t := by
  unfold IsAdd at h k
  cases e : double.add x y with
  | none => rw [e] at h k; exact Or.inr ⟨h.2, k.2⟩
  | some r => rw [e] at h k; exact Or.inl (h.2.trans k.2.symm)

theorem not_fin_nan {x : Nat} (h : Nan x) : ¬ Fin x := by unfold Nan at h; unfold Fin; omega

theorem fin_eq {x y : Nat} (hx : x < 2 ^ 64) (hy : y < 2 ^ 64) (hs : sv x = sv y) (h0 : sv x ≠ 0) : x = y := by
  rw [← word_eq x hx, ← word_eq y hy]
  have hx0 : 0 < val (rg x) := by
    rcases Nat.eq_zero_or_pos (val (rg x)) with h | h
    · exfalso; apply h0; unfold sv; rw [h]; split <;> rfl
    · exact h
  unfold sv at hs
  cases hsx : sgn x <;> cases hsy : sgn y <;> rw [hsx, hsy] at hs <;> simp only [Bool.false_eq_true, if_false, if_true] at hs
  · rw [val_inj (r := rg x) (s := rg y) (by omega)]
  · omega
  · omega
  · rw [val_inj (r := rg x) (s := rg y) (by omega)]

theorem IsTwo.same {x y s l t m : Nat} (h : IsTwo x y s l) (k : IsTwo x y t m) : Same s t ∧ Same l m := by
  have hs := h.1.same k.1
  refine ⟨hs, Or.inl ?_⟩
  rcases hs with rfl | ⟨hn, kn⟩
  · by_cases hf : Fin s
    · obtain ⟨_, a2, a3⟩ := h.2.2.1 hf
      obtain ⟨_, b2, b3⟩ := k.2.2.1 hf
      by_cases h0 : sv l = 0
      · rw [a3 h0, b3 (by omega)]
      · exact fin_eq h.2.1 k.2.1 (by omega) h0
    · rw [h.2.2.2 hf, k.2.2.2 hf]
  · rw [h.2.2.2 (not_fin_nan hn), k.2.2.2 (not_fin_nan kn)]

/-! ### tests, as Bools -/
def finB (x : Nat) : Bool := decide (rg x < inf)
theorem finB_iff {x : Nat} : finB x = true ↔ Fin x := by unfold finB Fin; simp
theorem finB_false {x : Nat} : finB x = false ↔ ¬ Fin x := by unfold finB Fin; simp
end Go.Proofs.Ytdmdaoginojalaa.Flt

namespace Go.Proofs.Ytdmdaoginojalaa.Flt

/-! ### rounding down -/
/-- The greatest finite rung that is not above num / den. -/
def Dn (num den r : Nat) : Prop := r < inf ∧ val r * den ≤ num ∧ (r < inf - 1 → num < val (r + 1) * den)

theorem Dn.unique {num den r s : Nat} (h : Dn num den r) (k : Dn num den s) : r = s := by
  have key : ∀ {r s : Nat}, Dn num den r → Dn num den s → ¬ r < s := by
    intro r s h k hlt
    have h1 := h.2.2 (by have := k.1; omega)
    have h2 : val (r + 1) * den ≤ val s * den := Nat.mul_le_mul_right _ (val_le hlt)
    have := k.2.1
    omega
  have := key h k
  have := key k h
  omega

def fb (P : Nat) (s : Int) : Bool := if 0 ≤ s then true else decide (P % 2 ^ (-s).toNat = 0)

end Go.Proofs.Ytdmdaoginojalaa.Flt

/-! Floats, plainly: products, quotients and roots, rounded to the nearest. -/
namespace Go.Proofs.Ytdmdaoginojalaa.Flt
open Ieee

/-- The exponent of the least float above nought, turned. -/
def K74 : Nat := 1074
/-! ### a digit that is 1 where something is left over -/
/-! ### roots -/
end Go.Proofs.Ytdmdaoginojalaa.Flt

/-! Floats, plainly: rounding down of a fraction that is known up to a whole number of units. -/
namespace Go.Proofs.Ytdmdaoginojalaa.Flt
open Ieee

/-! ### the word of a whole number below 2^53, and a step of two's powers -/
/-- The digits of a whole number behind the first one. -/
def tail52 (m : Nat) : Nat := m * 2 ^ (52 - m.log2) - 2 ^ 52
/-- A whole number below 2^53 as a float. -/
def whole (m : Nat) : Nat := if m = 0 then 0 else (m.log2 + 1023) * 2 ^ 52 + tail52 m
end Go.Proofs.Ytdmdaoginojalaa.Flt

/-! Floats, plainly: the root, rounded to the nearest; a product and a sum, rounded once; products by a power of two. -/
namespace Go.Proofs.Ytdmdaoginojalaa.Flt
open Ieee

/-! ### a product and a sum, rounded once -/
end Go.Proofs.Ytdmdaoginojalaa.Flt
