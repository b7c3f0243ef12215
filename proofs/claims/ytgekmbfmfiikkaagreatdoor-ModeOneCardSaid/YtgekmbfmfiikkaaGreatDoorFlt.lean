/-
  Floats, plainly.
-/
import Ieee.Arith
namespace Go.Proofs.YtgekmbfmfiikkaaGreatDoor.Flt
open Ieee
def inf : Nat := 2047 * 2 ^ 52
theorem inf_eq : inf = 9218868437227405312 := by decide
def val (r : Nat) : Nat := (if r < 2 ^ 52 then r else 2 ^ 52 + r % 2 ^ 52) * 2 ^ (r / 2 ^ 52 - 1)
def ulp (r : Nat) : Nat := 2 ^ (r / 2 ^ 52 - 1)
theorem ulp_pos (r : Nat) : 0 < ulp r := Nat.two_pow_pos _
theorem val_mk (q m : Nat) (h : m < 2 ^ 52) : val (q * 2 ^ 52 + m) = (if q = 0 then m else 2 ^ 52 + m) * 2 ^ (q - 1) := by
 have h1 : (q * 2 ^ 52 + m) / 2 ^ 52 = q := by omega
 have h2 : (q * 2 ^ 52 + m) % 2 ^ 52 = m := by omega
 unfold val
 rw [h1, h2]
 by_cases hq : q = 0
 ·subst hq
  simp [h]
 ·rw [if_neg (by omega), if_neg hq]
theorem ulp_mk (q m : Nat) (h : m < 2 ^ 52) : ulp (q * 2 ^ 52 + m) = 2 ^ (q - 1) := by
 unfold ulp
 rw [show (q * 2 ^ 52 + m) / 2 ^ 52 = q by omega]
theorem split52 (r : Nat) : ∃ q m, r = q * 2 ^ 52 + m ∧ m < 2 ^ 52 := ⟨r / 2 ^ 52, r % 2 ^ 52, by omega, by omega⟩
theorem val_succ (r : Nat) : val (r + 1) = val r + ulp r := by
 obtain ⟨q, m, rfl, hm⟩ := split52 r
 rw [ulp_mk q m hm, val_mk q m hm]
 by_cases h : m + 1 < 2 ^ 52
 ·rw [show q * 2 ^ 52 + m + 1 = q * 2 ^ 52 + (m + 1) by omega, val_mk q (m + 1) h]
  split
  ·rw [Nat.add_mul, Nat.one_mul]
  ·rw [← Nat.add_assoc, Nat.add_mul, Nat.one_mul]
 ·have hm' : m = 2 ^ 52 - 1 := by omega
  rw [show q * 2 ^ 52 + m + 1 = (q + 1) * 2 ^ 52 + 0 by omega, val_mk (q + 1) 0 (by decide)]
  subst hm'
  cases q with
  | zero => simp
  | succ q =>
   have h2 : 2 ^ (q + 1) = 2 * 2 ^ q := by rw [Nat.pow_succ, Nat.mul_comm]
   simp only [Nat.add_sub_cancel, if_neg (Nat.succ_ne_zero _)]
   rw [h2]
   generalize 2 ^ q = p
   omega
theorem val_lt_succ (r : Nat) : val r < val (r + 1) := by have := val_succ r; have := ulp_pos r; omega
theorem val_lt {r s : Nat} (h : r < s) : val r < val s := by
 induction s with
 | zero => omega
 | succ s ih =>
  by_cases hs : r = s
  ·subst hs; exact val_lt_succ r
  ·exact Nat.lt_trans (ih (by omega)) (val_lt_succ s)
theorem val_le {r s : Nat} (h : r ≤ s) : val r ≤ val s := by
 rcases Nat.lt_or_eq_of_le h with h | h
 ·exact Nat.le_of_lt (val_lt h)
 ·subst h; exact Nat.le_refl _
theorem lt_of_val {r s : Nat} (h : val r < val s) : r < s := by
 rcases Nat.lt_or_ge r s with h' | h'
 ·exact h'
 ·exact absurd (val_le h') (by omega)
theorem le_of_val {r s : Nat} (h : val r ≤ val s) : r ≤ s := by
 rcases Nat.lt_or_ge s r with h' | h'
 ·exact absurd (val_lt h') (by omega)
 ·exact h'
theorem val_inj {r s : Nat} (h : val r = val s) : r = s := by
 have h1 := le_of_val (r := r) (s := s) (by omega)
 have h2 := le_of_val (r := s) (s := r) (by omega)
 omega
theorem val_zero : val 0 = 0 := by simp [val]
theorem le_val (r : Nat) : r ≤ val r := by
 induction r with
 | zero => omega
 | succ r ih => have := val_lt_succ r; omega
theorem ulp_mono {r s : Nat} (h : r ≤ s) : ulp r ≤ ulp s := by
 unfold ulp
 exact Nat.pow_le_pow_right (by decide) (by have := Nat.div_le_div_right (c := 2 ^ 52) h; omega)
theorem cut_even (neg : Bool) (n drop : Nat) :
  2 * n ≤ (2 * Toward.even.cut neg n drop + 1) * 2 ^ drop ∧ 2 * Toward.even.cut neg n drop * 2 ^ drop ≤ 2 * n + 2 ^ drop ∧
  (Toward.even.cut neg n drop % 2 = 1 → 2 * n < (2 * Toward.even.cut neg n drop + 1) * 2 ^ drop ∧ 2 * Toward.even.cut neg n drop * 2 ^ drop < 2 * n + 2 ^ drop) := by
 have hlog : n < 2 ^ (n.log2 + 1) := Nat.lt_log2_self
 unfold Toward.cut
 simp only [Nat.one_shiftLeft]
 by_cases hd : drop ≤ n.log2 + 2
 ·rw [Nat.min_eq_left hd]
  have hg : 0 < 2 ^ drop := Nat.two_pow_pos _
  generalize 2 ^ drop = g at *
  have hn : g * (n / g) + n % g = n := Nat.div_add_mod n g
  have hr : n % g < g := Nat.mod_lt _ hg
  generalize n / g = low at *
  generalize n % g = rest at *
  by_cases h1 : g < 2 * rest
  ·have e1 : (2 * (low + 1) + 1) * g = 2 * (g * low) + 3 * g := by rw [Nat.add_mul, Nat.mul_assoc, Nat.add_mul, Nat.mul_comm low g]; omega
   have e2 : 2 * (low + 1) * g = 2 * (g * low) + 2 * g := by rw [Nat.mul_assoc, Nat.add_mul, Nat.mul_comm low g]; omega
   simp only [h1, decide_true, Bool.true_or, Bool.toNat_true]
   rw [e1, e2]
   omega
  ·have e1 : (2 * low + 1) * g = 2 * (g * low) + g := by rw [Nat.add_mul, Nat.mul_assoc, Nat.mul_comm low g]; omega
   have e2 : 2 * low * g = 2 * (g * low) := by rw [Nat.mul_assoc, Nat.mul_comm low g]
   have e3 : (2 * (low + 1) + 1) * g = 2 * (g * low) + 3 * g := by rw [Nat.add_mul, Nat.mul_assoc, Nat.add_mul, Nat.mul_comm low g]; omega
   have e4 : 2 * (low + 1) * g = 2 * (g * low) + 2 * g := by rw [Nat.mul_assoc, Nat.add_mul, Nat.mul_comm low g]; omega
   by_cases h2 : g = 2 * rest
   ·have h2b : (g == 2 * rest) = true := by simpa using h2
    by_cases h3 : low % 2 = 1
    ·have h3b : (low % 2 == 1) = true := by simpa using h3
     simp only [h1, decide_false, Bool.false_or, h2b, h3b, Bool.and_self, Bool.toNat_true]
     rw [e3, e4]
     omega
    ·have h3' : (low % 2 == 1) = false := by simpa using h3
     simp only [h1, decide_false, Bool.false_or, h2b, h3', Bool.and_false, Bool.toNat_false, Nat.add_zero]
     rw [e1, e2]
     omega
   ·have h2' : (g == 2 * rest) = false := by simpa using h2
    simp only [h1, decide_false, Bool.false_or, h2', Bool.false_and, Bool.toNat_false, Nat.add_zero]
    rw [e1, e2]
    omega
 ·rw [Nat.min_eq_right (by omega)]
  have e : 2 ^ (n.log2 + 2) = 2 * 2 ^ (n.log2 + 1) := by rw [Nat.pow_succ, Nat.mul_comm]
  have hle : 2 ^ (n.log2 + 2) ≤ 2 ^ drop := Nat.pow_le_pow_right (by decide) (by omega)
  have hlow : n / 2 ^ (n.log2 + 2) = 0 := Nat.div_eq_of_lt (by omega)
  have hrest : n % 2 ^ (n.log2 + 2) = n := Nat.mod_eq_of_lt (by omega)
  rw [hlow, hrest]
  have h1 : ¬ 2 ^ (n.log2 + 2) < 2 * n := by omega
  have h2 : (2 ^ (n.log2 + 2) == 2 * n) = false := by simp; omega
  simp only [h1, decide_false, Bool.false_or, h2, Bool.false_and, Bool.toNat_false, Nat.add_zero]
  omega
def Near (num den r : Nat) : Prop :=
 r ≤ inf ∧ (r < inf → 2 * num ≤ (val r + val (r + 1)) * den ∧ (r % 2 = 1 → 2 * num < (val r + val (r + 1)) * den)) ∧
 (0 < r → (val (r - 1) + val r) * den ≤ 2 * num ∧ (r % 2 = 1 → (val (r - 1) + val r) * den < 2 * num))
theorem Near.unique {num den r s : Nat} (hd : 0 < den) (h : Near num den r) (k : Near num den s) : r = s := by
 have key : ∀ {r s : Nat}, Near num den r → Near num den s → ¬ r < s := by
  intro r s h k hlt
  obtain ⟨h1, h2, -⟩ := h
  obtain ⟨k1, -, k3⟩ := k
  obtain ⟨a1, a2⟩ := h2 (by omega)
  obtain ⟨b1, b2⟩ := k3 (by omega)
  have m1 : val r ≤ val (s - 1) := val_le (by omega)
  have m2 : val (r + 1) ≤ val s := val_le (by omega)
  have hle : (val r + val (r + 1)) * den ≤ (val (s - 1) + val s) * den := Nat.mul_le_mul_right _ (by omega)
  by_cases hrs : r + 1 = s
  ·subst hrs
   by_cases hp : r % 2 = 1
   ·have := a2 hp; omega
   ·have := b2 (by omega); omega
  ·have m3 : val r < val (s - 1) := val_lt (by omega)
   have hlt' : (val r + val (r + 1)) * den < (val (s - 1) + val s) * den := Nat.mul_lt_mul_of_pos_right (by omega) hd
   omega
 have := key h k
 have := key k h
 omega
theorem Near.scale {num den r : Nat} (k : Nat) (hk : 0 < k) : Near (num * k) (den * k) r ↔ Near num den r := by
 unfold Near
 have e : ∀ a : Nat, a * (den * k) = a * den * k := fun a => by rw [Nat.mul_assoc]
 have e2 : 2 * (num * k) = 2 * num * k := by rw [Nat.mul_assoc]
 simp only [e, e2, Nat.mul_le_mul_right_iff hk, Nat.mul_lt_mul_right hk]
theorem val_at (E k : Nat) (hk : k ≤ 2 ^ 53) (hE : E = 0 ∨ 2 ^ 52 ≤ k) : val (E * 2 ^ 52 + k) = k * 2 ^ E := by
 by_cases h1 : k < 2 ^ 52
 ·have : E = 0 := by omega
  subst this
  rw [val_mk 0 k h1]; simp
 ·by_cases h2 : k < 2 ^ 53
  ·rw [show E * 2 ^ 52 + k = (E + 1) * 2 ^ 52 + (k - 2 ^ 52) by omega, val_mk (E + 1) (k - 2 ^ 52) (by omega)]
   rw [if_neg (by omega), show 2 ^ 52 + (k - 2 ^ 52) = k by omega, Nat.add_sub_cancel]
  ·rw [show E * 2 ^ 52 + k = (E + 2) * 2 ^ 52 + 0 by omega, val_mk (E + 2) 0 (by decide)]
   rw [if_neg (by omega), show k = 2 * 2 ^ 52 by omega, show E + 2 - 1 = E + 1 by omega, Nat.pow_succ' (n := E)]
   have h3 : ∀ p : Nat, (2 ^ 52 + 0) * (2 * p) = 2 * 2 ^ 52 * p := fun p => by omega
   exact h3 _
theorem leastPlace_double : double.leastPlace = -1074 := by decide
theorem infRung_double : double.infRung = inf := by decide
theorem binade_double : double.binade = 2 ^ 52 := by decide
theorem signWeight_double : double.signWeight = 2 ^ 63 := by decide
theorem nearest_spec (neg : Bool) (mag : Nat) (place : Int) :
    ∃ r, double.nearest neg mag place = double.word neg r ∧ Near (mag * 2 ^ (place + 1074).toNat) (2 ^ (-(place + 1074)).toNat) r := by
  unfold Format.nearest
  by_cases hm : mag = 0
  · subst hm
    refine ⟨0, by simp, by simp [inf_eq], fun _ => ⟨by simp, by simp⟩, fun h => by omega⟩
  rw [if_neg hm]
  simp only [leastPlace_double, binade_double, infRung_double]
  have hL1 : 2 ^ mag.log2 ≤ mag := Nat.log2_self_le hm
  have hL2 : mag < 2 ^ (mag.log2 + 1) := Nat.lt_log2_self
  generalize mag.log2 = L at *
  have hf : ((double.fractionBits : Nat) : Int) = 52 := by decide
  rw [hf]
  generalize hlast : max (place + (L : Int) - 52) (-1074) = last
  have hl1 : place + (L : Int) - 52 ≤ last := by omega
  have hl2 : (-1074 : Int) ≤ last := by omega
  have hl3 : last = -1074 ∨ last = place + (L : Int) - 52 := by omega
  rw [Nat.shiftLeft_eq]
  have hcut := cut_even neg (mag * 2 ^ (place - last).toNat) (last - place).toNat
  generalize Toward.even.cut neg (mag * 2 ^ (place - last).toNat) (last - place).toNat = k at *
  obtain ⟨c1, c2, c3⟩ := hcut
  generalize hE : (last - -1074).toNat = E
  generalize ha : (place - last).toNat = a at *
  generalize hb : (last - place).toNat = b at *
  generalize hu : (place + 1074).toNat = u
  generalize hv : (-(place + 1074)).toNat = v
  have hexp : u + b = a + E + v := by omega
  -- the number, in both scales
  have hscale : mag * 2 ^ u * 2 ^ b = mag * 2 ^ a * (2 ^ E * 2 ^ v) := by
    rw [Nat.mul_assoc, ← Nat.pow_add, hexp, Nat.mul_assoc, ← Nat.pow_add, ← Nat.pow_add, Nat.add_assoc]
  have hB : 0 < 2 ^ b := Nat.two_pow_pos _
  have hEV : 0 < 2 ^ E * 2 ^ v := Nat.mul_pos (Nat.two_pow_pos _) (Nat.two_pow_pos _)
  -- k is at most 2^53
  have hK : mag * 2 ^ a < 2 ^ 53 * 2 ^ b := by
    have : mag * 2 ^ a < 2 ^ (L + 1) * 2 ^ a := Nat.mul_lt_mul_of_pos_right hL2 (Nat.two_pow_pos _)
    rw [← Nat.pow_add] at this ⊢
    exact Nat.lt_of_lt_of_le this (Nat.pow_le_pow_right (by decide) (by omega))
  have hk53 : k ≤ 2 ^ 53 := by
    rcases Nat.lt_or_ge (2 ^ 53) k with h | h
    · have : (2 * 2 ^ 53 + 2) * 2 ^ b ≤ 2 * k * 2 ^ b := Nat.mul_le_mul_right _ (by omega)
      omega
    · exact h
  have hlow : E = 0 ∨ 2 ^ 52 * 2 ^ b ≤ mag * 2 ^ a := by
    rcases hl3 with h | h
    · left; omega
    · right
      have : 2 ^ L * 2 ^ a ≤ mag * 2 ^ a := Nat.mul_le_mul_right _ hL1
      rw [← Nat.pow_add] at this ⊢
      rw [show 52 + b = L + a by omega]
      exact this
  have hk52 : E = 0 ∨ 2 ^ 52 ≤ k := by
    rcases hlow with h | h
    · exact Or.inl h
    · right
      rcases Nat.lt_or_ge k (2 ^ 52) with h' | h'
      · have : (2 * k + 1) * 2 ^ b ≤ (2 * 2 ^ 52 - 1) * 2 ^ b := Nat.mul_le_mul_right _ (by omega)
        omega
      · exact h'
  have hval := val_at E k hk53 hk52
  generalize hR : E * 2 ^ 52 + k = R at *
  have hpar : R % 2 = k % 2 := by omega
  -- the two inequalities, in num and den
  have cancel : ∀ x y : Nat, x * 2 ^ b ≤ y * 2 ^ b → x ≤ y := fun x y h => Nat.le_of_mul_le_mul_right h hB
  have cancel' : ∀ x y : Nat, x * 2 ^ b < y * 2 ^ b → x < y := fun x y h => Nat.lt_of_mul_lt_mul_right h
  have up : 2 * (mag * 2 ^ u) ≤ (2 * k + 1) * (2 ^ E * 2 ^ v) := by
    apply cancel
    calc 2 * (mag * 2 ^ u) * 2 ^ b = 2 * (mag * 2 ^ a) * (2 ^ E * 2 ^ v) := by rw [Nat.mul_assoc 2, hscale, ← Nat.mul_assoc 2]
      _ ≤ (2 * k + 1) * 2 ^ b * (2 ^ E * 2 ^ v) := Nat.mul_le_mul_right _ c1
      _ = (2 * k + 1) * (2 ^ E * 2 ^ v) * 2 ^ b := by rw [Nat.mul_right_comm]
  have dn : 2 * k * (2 ^ E * 2 ^ v) ≤ 2 * (mag * 2 ^ u) + 2 ^ E * 2 ^ v := by
    apply cancel
    calc 2 * k * (2 ^ E * 2 ^ v) * 2 ^ b = 2 * k * 2 ^ b * (2 ^ E * 2 ^ v) := by rw [Nat.mul_right_comm]
      _ ≤ (2 * (mag * 2 ^ a) + 2 ^ b) * (2 ^ E * 2 ^ v) := Nat.mul_le_mul_right _ c2
      _ = (2 * (mag * 2 ^ u) + 2 ^ E * 2 ^ v) * 2 ^ b := by rw [Nat.add_mul, Nat.add_mul, Nat.mul_assoc 2, ← hscale, Nat.mul_assoc 2, Nat.mul_comm (2 ^ b)]
  have up' : k % 2 = 1 → 2 * (mag * 2 ^ u) < (2 * k + 1) * (2 ^ E * 2 ^ v) := fun hk => by
    apply cancel'
    calc 2 * (mag * 2 ^ u) * 2 ^ b = 2 * (mag * 2 ^ a) * (2 ^ E * 2 ^ v) := by rw [Nat.mul_assoc 2, hscale, ← Nat.mul_assoc 2]
      _ < (2 * k + 1) * 2 ^ b * (2 ^ E * 2 ^ v) := Nat.mul_lt_mul_of_pos_right (c3 hk).1 hEV
      _ = (2 * k + 1) * (2 ^ E * 2 ^ v) * 2 ^ b := by rw [Nat.mul_right_comm]
  have dn' : k % 2 = 1 → 2 * k * (2 ^ E * 2 ^ v) < 2 * (mag * 2 ^ u) + 2 ^ E * 2 ^ v := fun hk => by
    apply cancel'
    calc 2 * k * (2 ^ E * 2 ^ v) * 2 ^ b = 2 * k * 2 ^ b * (2 ^ E * 2 ^ v) := by rw [Nat.mul_right_comm]
      _ < (2 * (mag * 2 ^ a) + 2 ^ b) * (2 ^ E * 2 ^ v) := Nat.mul_lt_mul_of_pos_right (c3 hk).2 hEV
      _ = (2 * (mag * 2 ^ u) + 2 ^ E * 2 ^ v) * 2 ^ b := by rw [Nat.add_mul, Nat.add_mul, Nat.mul_assoc 2, ← hscale, Nat.mul_assoc 2, Nat.mul_comm (2 ^ b)]
  have hvd : val R * 2 ^ v = k * (2 ^ E * 2 ^ v) := by rw [hval, Nat.mul_assoc]
  have hupR : (val R + val (R + 1)) * 2 ^ v ≥ (2 * k + 1) * (2 ^ E * 2 ^ v) := by
    have hu1 : 2 ^ E ≤ ulp R := by
      unfold ulp
      rcases hk52 with h | h
      · subst h; exact Nat.one_le_two_pow
      · exact Nat.pow_le_pow_right (by decide) (by have : (E + 1) * 2 ^ 52 ≤ R := by omega
                                                   have := Nat.div_le_div_right (c := 2 ^ 52) this
                                                   rw [Nat.mul_div_cancel _ (by decide)] at this
                                                   omega)
    have hu2 : 2 ^ E * 2 ^ v ≤ ulp R * 2 ^ v := Nat.mul_le_mul_right _ hu1
    rw [val_succ, Nat.add_mul, Nat.add_mul, hvd]
    rw [Nat.add_mul (2 * k), Nat.mul_assoc 2]
    omega
  have hdnR : 0 < R → ((val (R - 1) + val R) * 2 ^ v ≤ 2 * (mag * 2 ^ u) ∧ (R % 2 = 1 → (val (R - 1) + val R) * 2 ^ v < 2 * (mag * 2 ^ u))) := by
    intro hR0
    have hs := val_succ (R - 1)
    rw [show R - 1 + 1 = R by omega] at hs
    by_cases hcase : E = 0 ∨ 2 ^ 52 < k
    · have hu1 : 2 ^ E ≤ ulp (R - 1) := by
        unfold ulp
        rcases hcase with h | h
        · subst h; exact Nat.one_le_two_pow
        · exact Nat.pow_le_pow_right (by decide) (by have : (E + 1) * 2 ^ 52 ≤ R - 1 := by omega
                                                     have := Nat.div_le_div_right (c := 2 ^ 52) this
                                                     rw [Nat.mul_div_cancel _ (by decide)] at this
                                                     omega)
      have hu2 : 2 ^ E * 2 ^ v ≤ ulp (R - 1) * 2 ^ v := Nat.mul_le_mul_right _ hu1
      have e1 : val R * 2 ^ v = val (R - 1) * 2 ^ v + ulp (R - 1) * 2 ^ v := by rw [hs, Nat.add_mul]
      rw [Nat.add_mul]
      rw [Nat.mul_assoc 2] at dn dn'
      exact ⟨by omega, fun h => by have := dn' (by omega); omega⟩
    · have hk : k = 2 ^ 52 := by omega
      have hge : k * (2 ^ E * 2 ^ v) ≤ mag * 2 ^ u := by
        apply cancel
        rw [hscale, Nat.mul_right_comm, hk]
        exact Nat.mul_le_mul_right _ (by rcases hlow with h | h <;> omega)
      have hlt : val (R - 1) * 2 ^ v < val R * 2 ^ v := Nat.mul_lt_mul_of_pos_right (val_lt (by omega)) (Nat.two_pow_pos _)
      rw [Nat.add_mul]
      exact ⟨by omega, fun h => by omega⟩
  refine ⟨min R inf, rfl, Nat.min_le_right _ _, fun h => ?_, fun h => ?_⟩
  · have e : min R inf = R := by omega
    rw [e]
    exact ⟨by omega, fun hp => by have := up' (by omega); omega⟩
  · by_cases hRi : R ≤ inf
    · have e : min R inf = R := by omega
      rw [e]
      exact hdnR (by omega)
    · have e : min R inf = inf := by omega
      rw [e]
      have h1 := (hdnR (by omega)).1
      have m1 : val (inf - 1) ≤ val (R - 1) := val_le (by omega)
      have m2 : val inf ≤ val R := val_le (by omega)
      have m3 : (val (inf - 1) + val inf) * 2 ^ v ≤ (val (R - 1) + val R) * 2 ^ v := Nat.mul_le_mul_right _ (by omega)
      exact ⟨by omega, fun h => by rw [inf_eq] at h; omega⟩
end Go.Proofs.YtgekmbfmfiikkaaGreatDoor.Flt
namespace Go.Proofs.YtgekmbfmfiikkaaGreatDoor.Flt
open Ieee
def sgn (x : Nat) : Bool := x / 2 ^ 63 % 2 == 1
def rg (x : Nat) : Nat := x % 2 ^ 63
def Fin (x : Nat) : Prop := rg x < inf
def Nan (x : Nat) : Prop := inf < rg x
def sv (x : Nat) : Int := if sgn x then -(val (rg x) : Int) else (val (rg x) : Int)
def word (neg : Bool) (r : Nat) : Nat := if neg then 2 ^ 63 + r else r
theorem double_word (neg : Bool) (r : Nat) : double.word neg r = word neg r := by
 unfold Format.word word; rw [signWeight_double]
theorem rg_word (neg : Bool) (r : Nat) (h : r < 2 ^ 63) : rg (word neg r) = r := by
 unfold rg word; cases neg <;> simp <;> omega
theorem sgn_word (neg : Bool) (r : Nat) (h : r < 2 ^ 63) : sgn (word neg r) = neg := by
 unfold sgn word
 cases neg
 ·have : r / 2 ^ 63 % 2 = 0 := by omega
  simp [this]
 ·have : (2 ^ 63 + r) / 2 ^ 63 % 2 = 1 := by omega
  simp only [if_true, this]; rfl
theorem word_eq (x : Nat) (h : x < 2 ^ 64) : word (sgn x) (rg x) = x := by
 unfold word sgn rg
 by_cases hx : x / 2 ^ 63 % 2 = 1
 ·simp only [hx, beq_self_eq_true, if_true]; omega
 ·have : (x / 2 ^ 63 % 2 == 1) = false := by simpa using hx
  simp only [this]; simp; omega
theorem inf_lt : inf < 2 ^ 63 := by rw [inf_eq]; decide
theorem near_lt {num den r : Nat} (h : Near num den r) : r < 2 ^ 63 := Nat.lt_of_le_of_lt h.1 inf_lt
theorem read_fin {x : Nat} (h : Fin x) : ∃ m : Nat, ∃ p : Nat, double.read x = .number (sgn x) m ((p : Int) - 1074) ∧ m * 2 ^ p = val (rg x) := by
 unfold Format.read
 simp only [signWeight_double, binade_double, infRung_double, leastPlace_double]
 unfold Fin rg at h
 unfold rg
 generalize hr : x % 2 ^ 63 = r at *
 by_cases h1 : r < 2 ^ 52
 ·rw [if_pos h1]
  refine ⟨r, 0, rfl, ?_⟩
  unfold val
  rw [if_pos h1, show r / 2 ^ 52 - 1 = 0 by omega]
 ·rw [if_neg h1, if_pos h]
  refine ⟨2 ^ 52 + r % 2 ^ 52, r / 2 ^ 52 - 1, ?_, ?_⟩
  ·rfl
  ·unfold val
   rw [if_neg h1]
theorem read_inf {x : Nat} (h : rg x = inf) : double.read x = .infinity (sgn x) := by
 unfold Format.read
 simp only [signWeight_double, binade_double, infRung_double]
 unfold rg at h
 rw [h, if_neg (by rw [inf_eq]; decide), if_neg (Nat.lt_irrefl _), if_pos rfl]
 rfl
theorem read_nan {x : Nat} (h : Nan x) : ∃ f, double.read x = .nan (sgn x) f := by
 unfold Format.read
 simp only [signWeight_double, binade_double, infRung_double]
 unfold Nan rg at h
 rw [if_neg (by rw [inf_eq] at h; omega), if_neg (by omega), if_neg (by omega)]
 exact ⟨_, rfl⟩
theorem signed_scale (s : Bool) (m a : Nat) : signed s m a = (if s then -((m * 2 ^ a : Nat) : Int) else ((m * 2 ^ a : Nat) : Int)) := by
 unfold signed; rw [Nat.shiftLeft_eq]
def Add (x y z : Nat) : Prop :=
 ∃ r, z = word (if sv x + sv y = 0 then sgn x && sgn y else decide (sv x + sv y < 0)) r ∧ Near (sv x + sv y).natAbs 1 r
theorem sum_num (s t : Bool) (m n i j : Nat) : ∃ (tot : Int) (base : Nat),
  Datum.sum (.number s m ((i : Int) - 1074)) (.number t n ((j : Int) - 1074)) =
   some (.number (if tot = 0 then s && t else decide (tot < 0)) tot.natAbs ((base : Int) - 1074)) ∧
  tot * (2 ^ base : Nat) = (if s then -((m * 2 ^ i : Nat) : Int) else ((m * 2 ^ i : Nat) : Int)) + (if t then -((n * 2 ^ j : Nat) : Int) else ((n * 2 ^ j : Nat) : Int)) := by
 have e0 : min ((i : Int) - 1074) ((j : Int) - 1074) = ((min i j : Nat) : Int) - 1074 := by omega
 have e1 : ((i : Int) - 1074 - (((min i j : Nat) : Int) - 1074)).toNat = i - min i j := by omega
 have e2 : ((j : Int) - 1074 - (((min i j : Nat) : Int) - 1074)).toNat = j - min i j := by omega
 refine ⟨signed s m (i - min i j) + signed t n (j - min i j), min i j, ?_, ?_⟩
 ·unfold Datum.sum
  simp only [e0, e1, e2]
 ·simp only [signed_scale]
  have h1 : m * 2 ^ i = m * 2 ^ (i - min i j) * 2 ^ (min i j) := by rw [Nat.mul_assoc, ← Nat.pow_add]; congr 2; omega
  have h2 : n * 2 ^ j = n * 2 ^ (j - min i j) * 2 ^ (min i j) := by rw [Nat.mul_assoc, ← Nat.pow_add]; congr 2; omega
  rw [h1, h2]
  generalize 2 ^ (min i j) = p
  generalize m * 2 ^ (i - min i j) = u
  generalize n * 2 ^ (j - min i j) = v
  rw [Int.add_mul]
  congr 1
  ·split <;> simp [Int.neg_mul]
  ·split <;> simp [Int.neg_mul]
theorem write_number (neg : Bool) (mag base : Nat) : ∃ r, double.write (.number neg mag ((base : Int) - 1074)) = word neg r ∧ Near (mag * 2 ^ base) 1 r := by
 obtain ⟨r, h1, h2⟩ := nearest_spec neg mag ((base : Int) - 1074)
 refine ⟨r, by rw [← double_word]; exact h1, ?_⟩
 rw [show ((base : Int) - 1074 + 1074).toNat = base by omega, show (-((base : Int) - 1074 + 1074)).toNat = 0 by omega] at h2
 exact h2
theorem add_fin {x y : Nat} (hx : Fin x) (hy : Fin y) : ∃ z, double.add x y = some z ∧ Add x y z := by
 obtain ⟨m, i, hm, hmv⟩ := read_fin hx
 obtain ⟨n, j, hn, hnv⟩ := read_fin hy
 obtain ⟨tot, base, hs, ht⟩ := sum_num (sgn x) (sgn y) m n i j
 obtain ⟨r, hw, hr⟩ := write_number (if tot = 0 then sgn x && sgn y else decide (tot < 0)) tot.natAbs base
 have hS : sv x + sv y = tot * (2 ^ base : Nat) := by rw [ht, hmv, hnv]; rfl
 have hp : (0 : Int) < ((2 ^ base : Nat) : Int) := by have := Nat.two_pow_pos base; omega
 have z0 : tot = 0 ↔ sv x + sv y = 0 := by
  rw [hS]; constructor
  ·intro h; rw [h, Int.zero_mul]
  ·intro h; rcases Int.mul_eq_zero.1 h with h | h <;> omega
 have zl : tot < 0 ↔ sv x + sv y < 0 := by
  rw [hS]; constructor
  ·intro h; exact Int.mul_neg_of_neg_of_pos h hp
  ·intro h
   rcases Int.lt_or_le tot 0 with h' | h'
   ·exact h'
   ·have := Int.mul_nonneg h' (Int.le_of_lt hp); omega
 refine ⟨_, by unfold Format.add; rw [hm, hn, hs]; rfl, r, ?_, ?_⟩
 ·rw [hw]
  by_cases h0 : tot = 0
  ·rw [if_pos h0, if_pos (z0.1 h0)]
  ·rw [if_neg h0, if_neg (fun h => h0 (z0.2 h))]
   by_cases hl : tot < 0
   ·rw [decide_eq_true hl, decide_eq_true (zl.1 hl)]
   ·rw [decide_eq_false hl, decide_eq_false (fun h => hl (zl.2 h))]
 ·rw [hS, Int.natAbs_mul, Int.natAbs_natCast]; exact hr
end Go.Proofs.YtgekmbfmfiikkaaGreatDoor.Flt
namespace Go.Proofs.YtgekmbfmfiikkaaGreatDoor.Flt
open Ieee
/-! ### the order -/
theorem cmp_lt {a b : Int} : (compare a b = .lt) ↔ a < b := by
 simp [compare, compareOfLessAndEq]; split <;> (try split) <;> simp_all
theorem cmp_eq {a b : Int} : (compare a b = .eq) ↔ a = b := by
 simp [compare, compareOfLessAndEq]; split <;> (try split) <;> simp_all <;> omega
theorem cmp_gt {a b : Int} : (compare a b = .gt) ↔ b < a := by
 simp [compare, compareOfLessAndEq]; split <;> (try split) <;> simp_all <;> omega
theorem cmp_scale (a b : Int) (p : Int) (hp : 0 < p) : compare (a * p) (b * p) = compare a b := by
 rcases Int.lt_trichotomy a b with h | h | h
 ·rw [cmp_lt.2 h, cmp_lt.2 (Int.mul_lt_mul_of_pos_right h hp)]
 ·rw [h]; rw [cmp_eq.2 rfl, cmp_eq.2 rfl]
 ·rw [cmp_gt.2 h, cmp_gt.2 (Int.mul_lt_mul_of_pos_right h hp)]
theorem order_num (s t : Bool) (m n i j : Nat) :
  Datum.order (.number s m ((i : Int) - 1074)) (.number t n ((j : Int) - 1074)) =
   some (compare (if s then -((m * 2 ^ i : Nat) : Int) else ((m * 2 ^ i : Nat) : Int)) (if t then -((n * 2 ^ j : Nat) : Int) else ((n * 2 ^ j : Nat) : Int))) := by
 unfold Datum.order
 simp only
 have : min ((i : Int) - 1074) ((j : Int) - 1074) = ((min i j : Nat) : Int) - 1074 := by omega
 rw [this]
 have e1 : ((i : Int) - 1074 - (((min i j : Nat) : Int) - 1074)).toNat = i - min i j := by omega
 have e2 : ((j : Int) - 1074 - (((min i j : Nat) : Int) - 1074)).toNat = j - min i j := by omega
 rw [e1, e2, signed_scale, signed_scale]
 have hp : (0 : Int) < ((2 ^ (min i j) : Nat) : Int) := by have := Nat.two_pow_pos (min i j); omega
 rw [← cmp_scale _ _ _ hp]
 have h1 : m * 2 ^ i = m * 2 ^ (i - min i j) * 2 ^ (min i j) := by rw [Nat.mul_assoc, ← Nat.pow_add]; congr 2; omega
 have h2 : n * 2 ^ j = n * 2 ^ (j - min i j) * 2 ^ (min i j) := by rw [Nat.mul_assoc, ← Nat.pow_add]; congr 2; omega
 rw [h1, h2]
 generalize 2 ^ (min i j) = p
 generalize m * 2 ^ (i - min i j) = u
 generalize n * 2 ^ (j - min i j) = v
 congr 2
 ·split <;> simp [Int.neg_mul]
 ·split <;> simp [Int.neg_mul]
theorem order_fin {x y : Nat} (hx : Fin x) (hy : Fin y) : double.order x y = some (compare (sv x) (sv y)) := by
 obtain ⟨m, i, hm, hmv⟩ := read_fin hx
 obtain ⟨n, j, hn, hnv⟩ := read_fin hy
 unfold Format.order
 rw [hm, hn, order_num, hmv, hnv]; rfl
theorem val_inf_gt {x : Nat} (h : Fin x) : val (rg x) < val inf := val_lt h
theorem order_spec {x y : Nat} (hx : ¬ Nan x) (hy : ¬ Nan y) : double.order x y = some (compare (sv x) (sv y)) := by
 unfold Nan at hx hy
 by_cases fx : Fin x
 ·by_cases fy : Fin y
  ·exact order_fin fx fy
  ·have iy : rg y = inf := by unfold Fin at fy; omega
   obtain ⟨m, i, hm, hmv⟩ := read_fin fx
   have hv := val_inf_gt fx
   unfold Format.order
   rw [hm, read_inf iy]
   unfold Datum.order
   have hsx : -(val inf : Int) < sv x ∧ sv x < val inf := by unfold sv; split <;> omega
   have hy' : sv y = if sgn y then -(val inf : Int) else val inf := by unfold sv; rw [iy]
   rw [hy']
   cases sgn y
   ·simp only [Bool.false_eq_true, if_false]; rw [cmp_lt.2 hsx.2]
   ·simp only [if_true]; rw [cmp_gt.2 hsx.1]
 ·have ix : rg x = inf := by unfold Fin at fx; omega
  have hx' : sv x = if sgn x then -(val inf : Int) else val inf := by unfold sv; rw [ix]
  by_cases fy : Fin y
  ·obtain ⟨n, j, hn, hnv⟩ := read_fin fy
   have hv := val_inf_gt fy
   unfold Format.order
   rw [hn, read_inf ix]
   unfold Datum.order
   have hsy : -(val inf : Int) < sv y ∧ sv y < val inf := by unfold sv; split <;> omega
   rw [hx']
   cases sgn x
   ·simp only [Bool.false_eq_true, if_false]; rw [cmp_gt.2 hsy.2]
   ·simp only [if_true]; rw [cmp_lt.2 hsy.1]
  ·have iy : rg y = inf := by unfold Fin at fy; omega
   have hy' : sv y = if sgn y then -(val inf : Int) else val inf := by unfold sv; rw [iy]
   have hp : 0 < val inf := by have := val_lt (show 0 < inf by rw [inf_eq]; omega); omega
   unfold Format.order
   rw [read_inf iy, read_inf ix, hx', hy']
   unfold Datum.order
   cases sgn x <;> cases sgn y <;> simp only [Bool.false_eq_true, if_false, if_true, Bool.toNat_true, Bool.toNat_false]
   ·rw [cmp_eq.2 rfl]; rfl
   ·rw [cmp_gt.2 (by omega)]; rfl
   ·rw [cmp_lt.2 (by omega)]; rfl
   ·rw [cmp_eq.2 rfl]; rfl
theorem order_nan_left {x y : Nat} (hx : Nan x) : double.order x y = none := by
 obtain ⟨f, h⟩ := read_nan hx
 unfold Format.order Datum.order
 rw [h]
theorem order_nan_right {x y : Nat} (hy : Nan y) : double.order x y = none := by
 obtain ⟨f, h⟩ := read_nan hy
 unfold Format.order Datum.order
 rw [h]
 split <;> simp_all
theorem ord_beq (c d : Ordering) : ((some c : Option Ordering) == some d) = decide (c = d) := by cases c <;> cases d <;> rfl
theorem lt_spec {x y : Nat} (hx : ¬ Nan x) (hy : ¬ Nan y) : (double.order x y == some .lt) = decide (sv x < sv y) := by
 rw [order_spec hx hy, ord_beq]; simp only [cmp_lt]
theorem eq_spec {x y : Nat} (hx : ¬ Nan x) (hy : ¬ Nan y) : (double.order x y == some .eq) = decide (sv x = sv y) := by
 rw [order_spec hx hy, ord_beq]; simp only [cmp_eq]
theorem gt_spec {x y : Nat} (hx : ¬ Nan x) (hy : ¬ Nan y) : (double.order x y == some .gt) = decide (sv y < sv x) := by
 rw [order_spec hx hy, ord_beq]; simp only [cmp_gt]
/-! ### exactness -/
theorem Near.exact {r : Nat} (h : r ≤ inf) : Near (val r) 1 r := by
 refine ⟨h, fun hr => ?_, fun hr => ?_⟩
 ·have := val_lt_succ r; omega
 ·have := val_lt (show r - 1 < r by omega); omega
theorem near_eq {n r s : Nat} (h : Near n 1 s) (hr : r ≤ inf) (hv : val r = n) : s = r := by
 subst hv
 exact h.unique (by decide) (Near.exact hr)
theorem near_best {n s : Nat} (h : Near n 1 s) (hs : s < inf) (r : Nat) : ((n : Int) - val s).natAbs ≤ ((n : Int) - val r).natAbs := by
 obtain ⟨_, h2, h3⟩ := h
 have a := (h2 hs).1
 rcases Nat.lt_trichotomy r s with hr | hr | hr
 ·have b := (h3 (by omega)).1
  have m1 : val r ≤ val (s - 1) := val_le (by omega)
  have m2 : val r < val s := val_lt hr
  omega
 ·subst hr; omega
 ·have m1 : val (s + 1) ≤ val r := val_le (by omega)
  have m2 : val s < val r := val_lt hr
  omega
theorem near_ulp {n s : Nat} (h : Near n 1 s) (hs : s < inf) : 2 * n ≤ 2 * val s + ulp s ∧ 2 * val s ≤ 2 * n + ulp s := by
 obtain ⟨_, h2, h3⟩ := h
 have a := (h2 hs).1
 have e := val_succ s
 constructor
 ·omega
 ·by_cases h0 : 0 < s
  ·have b := (h3 h0).1
   have e' := val_succ (s - 1)
   rw [show s - 1 + 1 = s by omega] at e'
   have m : ulp (s - 1) ≤ ulp s := ulp_mono (by omega)
   omega
  ·have : s = 0 := by omega
   subst this
   rw [val_zero]; omega
def Rep (n : Nat) : Prop := ∃ r, val r = n
def ex (r : Nat) : Nat := r / 2 ^ 52 - 1
theorem ulp_eq (r : Nat) : ulp r = 2 ^ ex r := rfl
theorem val_form (r : Nat) : ∃ m, m < 2 ^ 53 ∧ val r = m * 2 ^ ex r := by
 unfold val ex
 split
 ·exact ⟨r, by omega, rfl⟩
 ·exact ⟨_, by omega, rfl⟩
theorem ex_mono {r s : Nat} (h : r ≤ s) : ex r ≤ ex s := by
 unfold ex; have := Nat.div_le_div_right (c := 2 ^ 52) h; omega
theorem rep_mk (e : Nat) : ∀ m, m ≤ 2 ^ 53 → Rep (m * 2 ^ e) := by
 induction e with
 | zero => intro m hm; exact ⟨0 * 2 ^ 52 + m, by rw [val_at 0 m hm (Or.inl rfl)]⟩
 | succ e ih =>
  intro m hm
  by_cases h : 2 ^ 52 ≤ m
  ·exact ⟨(e + 1) * 2 ^ 52 + m, by rw [val_at (e + 1) m hm (Or.inr h)]⟩
  ·have := ih (2 * m) (by omega)
   rwa [Nat.mul_comm 2, Nat.mul_assoc, ← Nat.pow_succ'] at this
theorem rep_of {n e k : Nat} (hk : n = k * 2 ^ e) (hn : n ≤ 2 ^ 53 * 2 ^ e) : Rep n := by
 subst hk
 exact rep_mk e k (Nat.le_of_mul_le_mul_right hn (Nat.two_pow_pos _))
theorem fast_two {ra rb rs : Nat} {A B S : Int} (hA : A.natAbs = val ra) (hB : B.natAbs = val rb) (hS : S.natAbs = val rs) (hle : rb ≤ ra) (hs : rs < inf)
  (hn : Near (A + B).natAbs 1 rs) (h0 : A + B = 0 → S = 0) (hpos : 0 < A + B → 0 ≤ S) (hneg : A + B < 0 → S ≤ 0) :
  Rep (S - A).natAbs ∧ Rep (A + B - S).natAbs ∧ (A + B - S).natAbs ≤ B.natAbs := by
 have hvle : val rb ≤ val ra := val_le hle
 obtain ⟨ma, hma, hva⟩ := val_form ra
 obtain ⟨mb, hmb, hvb⟩ := val_form rb
 obtain ⟨ms, hms, hvs⟩ := val_form rs
 have hex : ex rb ≤ ex ra := ex_mono hle
 obtain ⟨u1, u2⟩ := near_ulp hn hs
 rw [ulp_eq] at u1 u2
 have hbest := near_best hn hs ra
 -- the distance between A + B and S
 have hdist : ((A + B) - S).natAbs = (((A + B).natAbs : Int) - val rs).natAbs := by omega
 have hdistB : ((A + B) - S).natAbs ≤ B.natAbs := by omega
 -- multiples
 have dA : ((2 ^ ex ra : Nat) : Int) ∣ A := by
  rw [Int.ofNat_dvd_left, hA, hva]; exact ⟨ma, Nat.mul_comm _ _⟩
 have dB : ((2 ^ ex rb : Nat) : Int) ∣ B := by
  rw [Int.ofNat_dvd_left, hB, hvb]; exact ⟨mb, Nat.mul_comm _ _⟩
 have dS : ((2 ^ ex rs : Nat) : Int) ∣ S := by
  rw [Int.ofNat_dvd_left, hS, hvs]; exact ⟨ms, Nat.mul_comm _ _⟩
 have dpow : ∀ {i j : Nat}, i ≤ j → ((2 ^ i : Nat) : Int) ∣ ((2 ^ j : Nat) : Int) := by
  intro i j h
  rw [Int.natCast_dvd_natCast]; exact Nat.pow_dvd_pow 2 h
 have torep : ∀ {z : Int} {e : Nat}, ((2 ^ e : Nat) : Int) ∣ z → z.natAbs ≤ 2 ^ 53 * 2 ^ e → Rep z.natAbs := by
  intro z e hd hb
  rw [Int.ofNat_dvd_left] at hd
  obtain ⟨k, hk⟩ := hd
  exact rep_of (k := k) (by rw [hk, Nat.mul_comm]) hb
 have hBb : B.natAbs ≤ (2 ^ 53 - 1) * 2 ^ ex rb := by rw [hB, hvb]; exact Nat.mul_le_mul_right _ (by omega)
 have hAb : A.natAbs ≤ (2 ^ 53 - 1) * 2 ^ ex ra := by rw [hA, hva]; exact Nat.mul_le_mul_right _ (by omega)
 have hSb : S.natAbs ≤ (2 ^ 53 - 1) * 2 ^ ex rs := by rw [hS, hvs]; exact Nat.mul_le_mul_right _ (by omega)
 by_cases hgf : ex rs ≤ ex rb
 ·-- the sum is exact
  have hd : ((2 ^ ex rs : Nat) : Int) ∣ A + B := Int.dvd_add (Int.dvd_trans (dpow (Nat.le_trans hgf hex)) dA) (Int.dvd_trans (dpow hgf) dB)
  have hrep : Rep (A + B).natAbs := by
   have hd' := hd
   rw [Int.ofNat_dvd_left] at hd'
   obtain ⟨k, hk⟩ := hd'
   refine rep_of (e := ex rs) (k := k) (by rw [hk, Nat.mul_comm]) ?_
   have hp : 0 < 2 ^ ex rs := Nat.two_pow_pos _
   rw [hk] at u1 ⊢
   rw [← hS] at u1
   rw [Nat.mul_comm (2 ^ ex rs) k] at *
   have h1 : 2 * (k * 2 ^ ex rs) ≤ (2 * (2 ^ 53 - 1) + 1) * 2 ^ ex rs := by
    have e1 : (2 * (2 ^ 53 - 1) + 1) * 2 ^ ex rs = 2 * ((2 ^ 53 - 1) * 2 ^ ex rs) + 2 ^ ex rs := by
     rw [Nat.add_mul, Nat.mul_assoc, Nat.one_mul]
    omega
   rw [← Nat.mul_assoc] at h1
   have h2 := Nat.le_of_mul_le_mul_right h1 hp
   exact Nat.mul_le_mul_right _ (by omega)
  obtain ⟨r, hr⟩ := hrep
  have hri : r ≤ inf := by
   rcases Nat.lt_or_ge inf r with h | h
   ·-- then the nearest would be infinity
    exfalso
    have := (hn.2.1 hs).1
    have m1 : val (rs + 1) < val r := Nat.lt_of_le_of_lt (val_le (by omega)) (val_lt h)
    have m2 := val_lt_succ rs
    omega
   ·exact h
  have hrs : rs = r := near_eq hn hri hr
  subst hrs
  have hSeq : S = A + B := by omega
  subst hSeq
  refine ⟨?_, ?_, hdistB⟩
  ·rw [show A + B - A = B by omega, hB]; exact ⟨rb, rfl⟩
  ·rw [show A + B - (A + B) = 0 by omega]; exact ⟨0, val_zero⟩
 ·have hgf' : ex rb + 1 ≤ ex rs := by omega
  -- the error
  have herr : 2 * (A + B - S).natAbs ≤ 2 ^ ex rs := by omega
  have hge : ex rs ≤ ex ra + 1 := by
   rcases Nat.lt_or_ge (ex ra + 1) (ex rs) with h | h
   ·exfalso
    have hr1 : (ex ra + 3) * 2 ^ 52 ≤ rs := by
     have h5 : ex ra + 3 ≤ rs / 2 ^ 52 := by unfold ex at h ⊢; omega
     exact Nat.le_trans (Nat.mul_le_mul_right _ h5) (Nat.div_mul_le_self rs (2 ^ 52))
    have v1 : val ((ex ra + 3) * 2 ^ 52) = 2 ^ 52 * 2 ^ (ex ra + 2) := by
     rw [show (ex ra + 3) * 2 ^ 52 = (ex ra + 2) * 2 ^ 52 + 2 ^ 52 by omega]
     exact val_at (ex ra + 2) (2 ^ 52) (by omega) (Or.inr (Nat.le_refl _))
    have v2 : val ((ex ra + 3) * 2 ^ 52 - 1) = (2 ^ 53 - 1) * 2 ^ (ex ra + 1) := by
     rw [show (ex ra + 3) * 2 ^ 52 - 1 = (ex ra + 1) * 2 ^ 52 + (2 ^ 53 - 1) by omega]
     exact val_at (ex ra + 1) (2 ^ 53 - 1) (by omega) (Or.inr (by omega))
    have m1 := val_le hr1
    have m2 : val ((ex ra + 3) * 2 ^ 52 - 1) ≤ val (rs - 1) := val_le (by omega)
    have lo := (hn.2.2 (by omega)).1
    rw [v1] at m1
    rw [v2] at m2
    have p1 : 2 ^ (ex ra + 2) = 4 * 2 ^ ex ra := by rw [Nat.pow_add, Nat.mul_comm]
    have p2 : 2 ^ (ex ra + 1) = 2 * 2 ^ ex ra := by rw [Nat.pow_add, Nat.mul_comm]
    rw [p1] at m1
    rw [p2] at m2
    have hp : 0 < 2 ^ ex ra := Nat.two_pow_pos _
    have : (A + B).natAbs ≤ 2 * ((2 ^ 53 - 1) * 2 ^ ex ra) := by omega
    generalize 2 ^ ex ra = p at *
    omega
   ·exact h
  have hpf : 2 ^ ex rs = 2 ^ (ex rs - ex rb - 1) * (2 * 2 ^ ex rb) := by
   rw [← Nat.pow_succ', ← Nat.pow_add]; congr 1; omega
  have hpf2 : 2 * 2 ^ ex rb ≤ 2 ^ ex rs := by
   rw [hpf]; exact Nat.le_mul_of_pos_left _ (Nat.two_pow_pos _)
  have hSA : (S - A).natAbs ≤ (A + B - S).natAbs + B.natAbs := by omega
  refine ⟨?_, ?_, hdistB⟩
  ·by_cases hcase : ex rs ≤ ex ra
   ·refine torep (e := ex rs) (Int.dvd_sub dS (Int.dvd_trans (dpow hcase) dA)) ?_
    generalize 2 ^ ex rs = p at *
    generalize 2 ^ ex rb = q at *
    omega
   ·have he : ex rs = ex ra + 1 := by omega
    refine torep (e := ex ra) (Int.dvd_sub (Int.dvd_trans (dpow (by omega)) dS) dA) ?_
    rw [he, Nat.pow_succ] at herr
    generalize 2 ^ ex ra = p at *
    omega
  ·refine torep (e := ex rb) (Int.dvd_sub (Int.dvd_add (Int.dvd_trans (dpow hex) dA) dB) (Int.dvd_trans (dpow (by omega)) dS)) ?_
   generalize 2 ^ ex rb = q at *
   omega
end Go.Proofs.YtgekmbfmfiikkaaGreatDoor.Flt
namespace Go.Proofs.YtgekmbfmfiikkaaGreatDoor.Flt
open Ieee
/-! ### the opposite; the difference -/
def opp (x : Nat) : Nat := word (!sgn x) (rg x)
theorem rg_opp (x : Nat) : rg (opp x) = rg x := rg_word _ _ (by unfold rg; omega)
theorem sgn_opp (x : Nat) : sgn (opp x) = !sgn x := sgn_word _ _ (by unfold rg; omega)
theorem sv_opp (x : Nat) : sv (opp x) = - sv x := by
 unfold sv; rw [rg_opp, sgn_opp]; cases sgn x <;> simp
theorem opp_lt (x : Nat) : opp x < 2 ^ 64 := by unfold opp word rg; split <;> omega
theorem fin_opp {x : Nat} : Fin (opp x) ↔ Fin x := by unfold Fin; rw [rg_opp]
theorem nan_opp {x : Nat} : Nan (opp x) ↔ Nan x := by unfold Nan; rw [rg_opp]
theorem read_opp (x : Nat) : (double.read x).opposite = double.read (opp x) := by
 have h1 : opp x / 2 ^ 63 % 2 = 1 - x / 2 ^ 63 % 2 := by
  unfold opp word sgn rg
  by_cases hx : x / 2 ^ 63 % 2 = 1
  ·simp only [hx]; simp <;> omega
  ·have h0 : x / 2 ^ 63 % 2 = 0 := by omega
   simp only [h0]; simp <;> omega
 have h2 : opp x % 2 ^ 63 = x % 2 ^ 63 := rg_opp x
 unfold Format.read
 simp only [signWeight_double, binade_double, infRung_double, leastPlace_double, h2]
 have h3 : (opp x / 2 ^ 63 % 2 == 1) = !(x / 2 ^ 63 % 2 == 1) := by
  rw [h1]
  by_cases hx : x / 2 ^ 63 % 2 = 1
  ·rw [hx]; rfl
  ·have h0 : x / 2 ^ 63 % 2 = 0 := by omega
   rw [h0]; rfl
 rw [h3]
 split
 ·rfl
 ·split
  ·rfl
  ·split <;> rfl
theorem sub_eq (x y : Nat) : double.sub x y = double.add x (opp y) := by
 unfold Format.sub Format.add; rw [read_opp]
theorem add_inf_left {x y : Nat} (hx : rg x = inf) (hy : Fin y) : double.add x y = some (word (sgn x) inf) := by
 obtain ⟨n, j, hn, _⟩ := read_fin hy
 unfold Format.add
 rw [read_inf hx, hn]
 simp only [Datum.sum, Option.map_some, Format.write, double_word, infRung_double]
theorem add_inf_right {x y : Nat} (hx : Fin x) (hy : rg y = inf) : double.add x y = some (word (sgn y) inf) := by
 obtain ⟨n, j, hn, _⟩ := read_fin hx
 unfold Format.add
 rw [read_inf hy, hn]
 simp only [Datum.sum, Option.map_some, Format.write, double_word, infRung_double]
theorem add_inf_both {x y : Nat} (hx : rg x = inf) (hy : rg y = inf) : double.add x y = if sgn x = sgn y then some (word (sgn x) inf) else none := by
 unfold Format.add
 rw [read_inf hy, read_inf hx]
 simp only [Datum.sum]
 split
 ·simp only [Option.map_some, Format.write, double_word, infRung_double]
 ·rfl
theorem add_nan_left {x y : Nat} (hx : Nan x) : double.add x y = none := by
 obtain ⟨f, h⟩ := read_nan hx
 unfold Format.add
 rw [h]; rfl
theorem add_nan_right {x y : Nat} (hy : Nan y) : double.add x y = none := by
 obtain ⟨f, h⟩ := read_nan hy
 unfold Format.add
 rw [h]
 unfold Datum.sum
 split <;> simp_all
theorem kinds (x : Nat) : Fin x ∨ rg x = inf ∨ Nan x := by unfold Fin Nan; omega
theorem word_lt (s : Bool) {r : Nat} (h : r < 2 ^ 63) : word s r < 2 ^ 64 := by unfold word; split <;> omega
theorem add_some_fin {x y z : Nat} (h : double.add x y = some z) (hz : Fin z) : Fin x ∧ Fin y := by
 rcases kinds x with fx | ix | nx
 ·rcases kinds y with fy | iy | ny
  ·exact ⟨fx, fy⟩
  ·rw [add_inf_right fx iy] at h
   injection h with h; subst h
   unfold Fin at hz; rw [rg_word _ _ inf_lt] at hz; omega
  ·rw [add_nan_right ny] at h; cases h
 ·rcases kinds y with fy | iy | ny
  ·rw [add_inf_left ix fy] at h
   injection h with h; subst h
   unfold Fin at hz; rw [rg_word _ _ inf_lt] at hz; omega
  ·rw [add_inf_both ix iy] at h
   split at h
   ·injection h with h; subst h
    unfold Fin at hz; rw [rg_word _ _ inf_lt] at hz; omega
   ·cases h
  ·rw [add_nan_right ny] at h; cases h
 ·rw [add_nan_left nx] at h; cases h
theorem sv_word {s : Bool} {r : Nat} (h : r < 2 ^ 63) : sv (word s r) = if s then -(val r : Int) else val r := by
 unfold sv; rw [sgn_word s r h, rg_word s r h]
theorem sv_sign {z : Int} {c : Bool} {r : Nat} (h : r < 2 ^ 63) (h0 : z = 0 → r = 0) :
  sv (word (if z = 0 then c else decide (z < 0)) r) = if z < 0 then -(val r : Int) else val r := by
 rw [sv_word h]
 by_cases hz : z = 0
 ·rw [h0 hz, val_zero]; subst hz; simp
 ·rw [if_neg hz]
  by_cases hl : z < 0
  ·simp [hl]
  ·simp [hl]
theorem sv_of {z : Int} {c : Bool} {r : Nat} (h : r < 2 ^ 63) (hv : val r = z.natAbs) :
  sv (word (if z = 0 then c else decide (z < 0)) r) = z := by
 rw [sv_sign h (fun hz => by have := le_val r; omega)]
 split <;> omega
theorem add_exact {x y : Nat} (hx : Fin x) (hy : Fin y) {r : Nat} (hr : r < inf) (hv : val r = (sv x + sv y).natAbs) :
  double.add x y = some (word (if sv x + sv y = 0 then sgn x && sgn y else decide (sv x + sv y < 0)) r) := by
 obtain ⟨z, h, r', hz, hn⟩ := add_fin hx hy
 have : r' = r := near_eq hn (by omega) hv
 subst this
 rw [h, hz]
def IsAdd (x y z : Nat) : Prop := z < 2 ^ 64 ∧ (match double.add x y with | some r => z = r | none => Nan z)
def IsTwo (x y s l : Nat) : Prop := IsAdd x y s ∧ l < 2 ^ 64 ∧ (Fin s → Fin l ∧ sv l = sv x + sv y - sv s ∧ (sv l = 0 → l = 0)) ∧ (¬ Fin s → l = 0)
theorem not_fin_nan {x : Nat} (h : Nan x) : ¬ Fin x := by unfold Nan at h; unfold Fin; omega
theorem sv_zero_iff {x : Nat} : sv x = 0 ↔ rg x = 0 := by
 have h : val (rg x) = 0 ↔ rg x = 0 := by
  constructor
  ·intro h; have := le_val (rg x); omega
  ·intro h; rw [h, val_zero]
 unfold sv
 split <;> omega
theorem two_way {x y s t u : Nat} (hs : double.add x y = some s) (hsf : Fin s) (hle : rg y ≤ rg x) (ht : double.sub s x = some t) (hu : double.sub y t = some u) :
  ∃ l, double.add u 0 = some l ∧ l < 2 ^ 64 ∧ Fin l ∧ sv l = sv x + sv y - sv s ∧ (sv l = 0 → l = 0) := by
 obtain ⟨fx, fy⟩ := add_some_fin hs hsf
 obtain ⟨z, hz, rs, hzw, hn⟩ := add_fin fx fy
 rw [hs] at hz
 injection hz with hz
 subst hz
 have hrs : rs < inf := by
  unfold Fin at hsf; rw [hzw, rg_word _ _ (near_lt hn)] at hsf; exact hsf
 have hz0 : sv x + sv y = 0 → rs = 0 := by
  intro h
  rw [h] at hn
  exact near_eq hn (by omega) val_zero
 have hsv : sv s = if sv x + sv y < 0 then -(val rs : Int) else val rs := by rw [hzw, sv_sign (near_lt hn) hz0]
 have hS0 : sv x + sv y = 0 → sv s = 0 := by
  intro h
  rw [hsv, hz0 h, val_zero]; split <;> rfl
 have hSp : 0 < sv x + sv y → sv s = val rs := by
  intro h
  rw [hsv, if_neg (by omega)]
 have hSn : sv x + sv y < 0 → sv s = -(val rs : Int) := by
  intro h
  rw [hsv, if_pos h]
 have habs : (sv s).natAbs = val rs := by
  rw [hsv]; split <;> omega
 have habsx : (sv x).natAbs = val (rg x) := by unfold sv; split <;> omega
 have habsy : (sv y).natAbs = val (rg y) := by unfold sv; split <;> omega
 obtain ⟨r1, r2, r3⟩ := fast_two habsx habsy habs hle hrs hn hS0 (fun h => by rw [hSp h]; omega) (fun h => by rw [hSn h]; omega)
 have hvx := val_inf_gt fx
 have hvy := val_inf_gt fy
 have hvs := val_lt hrs
 have hvle := val_le hle
 -- the first difference is exact
 obtain ⟨rt, hrt⟩ := r1
 have hrti : rt < inf := by
  apply lt_of_val
  rw [hrt]
  by_cases h0 : sv x + sv y = 0
  ·have := hS0 h0; omega
  ·by_cases hp : 0 < sv x + sv y
   ·have := hSp hp; omega
   ·have := hSn (by omega); omega
 rw [sub_eq] at ht hu
 have ht' := add_exact hsf (fin_opp.2 fx) hrti (by rw [sv_opp, hrt]; congr 1)
 rw [ht] at ht'
 injection ht' with ht'
 have hsvt : sv t = sv s - sv x := by
  rw [ht', sv_of (Nat.lt_trans hrti inf_lt) (by rw [sv_opp, hrt]; congr 1), sv_opp]; omega
 have ft : Fin t := by unfold Fin; rw [ht', rg_word _ _ (Nat.lt_trans hrti inf_lt)]; exact hrti
 obtain ⟨ru, hru⟩ := r2
 have hrui : ru < inf := by
  apply lt_of_val
  rw [hru]; omega
 have hu' := add_exact fy (fin_opp.2 ft) hrui (by rw [sv_opp, hru, hsvt]; congr 1; omega)
 rw [hu] at hu'
 injection hu' with hu'
 have hru63 := Nat.lt_trans hrui inf_lt
 have fu : Fin u := by unfold Fin; rw [hu', rg_word _ _ hru63]; exact hrui
 have hsvu : sv u = sv x + sv y - sv s := by
  rw [hu', sv_of hru63 (by rw [sv_opp, hru, hsvt]; congr 1; omega), sv_opp, hsvt]; omega
 have f0 : Fin 0 := by unfold Fin rg; rw [inf_eq]; decide
 have sv0 : sv 0 = 0 := by decide
 have sg0 : sgn 0 = false := by decide
 have hl := add_exact fu f0 (r := rg u) fu (by rw [sv0]; unfold sv; split <;> omega)
 have hsvl : sv (word (if sv u + sv 0 = 0 then sgn u && sgn 0 else decide (sv u + sv 0 < 0)) (rg u)) = sv u := by
  rw [sv_of (by unfold rg; omega) (by rw [sv0]; unfold sv; split <;> omega), sv0]; omega
 refine ⟨_, hl, word_lt _ (by unfold rg; omega), ?_, by rw [hsvl, hsvu], ?_⟩
 ·unfold Fin; rw [rg_word _ _ (by unfold rg; omega)]; exact fu
 ·intro h
  rw [hsvl] at h
  have hru0 : rg u = 0 := sv_zero_iff.1 h
  rw [hru0, sv0, sg0, h]
  simp [word]
/-! ### tests, as Bools -/
def nanB (x : Nat) : Bool := decide (inf < rg x)
def infB (x : Nat) : Bool := decide (rg x = inf)
def finB (x : Nat) : Bool := decide (rg x < inf)
theorem nanB_iff {x : Nat} : nanB x = true ↔ Nan x := by unfold nanB Nan; simp
theorem finB_iff {x : Nat} : finB x = true ↔ Fin x := by unfold finB Fin; simp
theorem finB_false {x : Nat} : finB x = false ↔ ¬ Fin x := by unfold finB Fin; simp
theorem finB_eq (x : Nat) : finB x = (!nanB x && !infB x) := by
 unfold finB nanB infB
 rw [Bool.eq_iff_iff]; simp; omega
theorem order_self (x : Nat) : (double.order x x != some .eq) = nanB x := by
 by_cases h : Nan x
 ·rw [order_nan_left h, nanB_iff.2 h]; rfl
 ·have : nanB x = false := by
   cases e : nanB x
   ·rfl
   ·exact absurd (nanB_iff.1 e) h
  rw [this, order_spec h h, cmp_eq.2 rfl]; rfl
theorem order_max (x : Nat) : (double.order x 9218868437227405311 == some .gt) = (infB x && !sgn x) := by
 have hm : ¬ Nan 9218868437227405311 := by unfold Nan rg; rw [inf_eq]; decide
 by_cases h : Nan x
 ·rw [order_nan_left h]
  have : infB x = false := by unfold infB; unfold Nan at h; simp; omega
  rw [this]; rfl
 ·rw [gt_spec h hm]
  have e1 : sv 9218868437227405311 = (val (inf - 1) : Int) := by
   have e2 : sgn 9218868437227405311 = false := by decide
   have e3 : rg 9218868437227405311 = inf - 1 := by rw [inf_eq]; decide
   unfold sv; rw [e2, e3]; rfl
  rw [e1]
  unfold infB Nan at *
  unfold sv
  have hlt := val_lt (show inf - 1 < inf by rw [inf_eq]; decide)
  by_cases hi : rg x = inf
  ·rw [hi]
   cases sgn x
   ·simp <;> omega
   ·simp <;> omega
  ·have : val (rg x) ≤ val (inf - 1) := val_le (by omega)
   cases sgn x
   ·simp [hi] <;> omega
   ·simp [hi] <;> omega
theorem opp_xor (x : Nat) (h : x < 2 ^ 64) : x ^^^ 2 ^ 63 = opp x := by
 have h1 : (x ^^^ 2 ^ 63) % 2 ^ 63 = x % 2 ^ 63 := by
  rw [Nat.xor_mod_two_pow, Nat.mod_self, Nat.xor_zero]
 have h2 : (x ^^^ 2 ^ 63) / 2 ^ 63 = (x / 2 ^ 63) ^^^ 1 := by
  rw [Nat.xor_div_two_pow, Nat.div_self (by decide)]
 have h3 := Nat.div_add_mod (x ^^^ 2 ^ 63) (2 ^ 63)
 rw [h1, h2] at h3
 rw [← h3]
 unfold opp word sgn rg
 have hc : x / 2 ^ 63 = 0 ∨ x / 2 ^ 63 = 1 := by omega
 rcases hc with hc | hc
 ·rw [hc]; simp
 ·rw [hc]; simp
theorem rg_abs (x : Nat) : rg (rg x) = rg x := by unfold rg; omega
theorem sgn_rg (x : Nat) : sgn (rg x) = false := by
 unfold sgn rg
 have : x % 2 ^ 63 / 2 ^ 63 % 2 = 0 := by omega
 rw [this]; rfl
theorem sv_rg (x : Nat) : sv (rg x) = val (rg x) := by unfold sv; rw [sgn_rg, rg_abs]; rfl
end Go.Proofs.YtgekmbfmfiikkaaGreatDoor.Flt
namespace Go.Proofs.YtgekmbfmfiikkaaGreatDoor.Flt
/-! ### rounding down -/
def Dn (num den r : Nat) : Prop := r < inf ∧ val r * den ≤ num ∧ (r < inf - 1 → num < val (r + 1) * den)
theorem Dn.unique {num den r s : Nat} (h : Dn num den r) (k : Dn num den s) : r = s := by
 have key : ∀ {r s : Nat}, Dn num den r → Dn num den s → ¬ r < s := by
  intro r s h k hlt
  have h1 := h.2.2 (by have := k.1; omega)
  have h2 : val (r + 1) * den ≤ val s * den := Nat.mul_le_mul_right _ (val_le hlt)
  have := k.2.1
  omega
 have := key h k
 have := key k h
 omega
end Go.Proofs.YtgekmbfmfiikkaaGreatDoor.Flt
/-! Floats, plainly: products, quotients and roots, rounded to the nearest. -/
namespace Go.Proofs.YtgekmbfmfiikkaaGreatDoor.Flt
open Ieee
def K74 : Nat := 1074
theorem K74_eq : K74 = 1074 := rfl
def mid (r : Nat) : Nat := val r + val (r + 1)
theorem mid_eq (r : Nat) : mid r = 2 * val r + ulp r := by unfold mid; have := val_succ r; omega
theorem mid_pred {r : Nat} (h : 0 < r) : mid (r - 1) = val (r - 1) + val r := by unfold mid; rw [show r - 1 + 1 = r by omega]
theorem Near.cross {num den num' den' r : Nat} (hd : 0 < den) (hd' : 0 < den') (he : num * den' = num' * den) (h : Near num den r) : Near num' den' r := by
 have h1 := (Near.scale (num := num) (den := den) (r := r) den' hd').2 h
 rw [he, Nat.mul_comm den den'] at h1
 exact (Near.scale (num := num') (den := den') (r := r) den hd).1 h1
theorem mul_fin {x y : Nat} (hx : Fin x) (hy : Fin y) : ∃ r, double.mul x y = some (word (sgn x ^^ sgn y) r) ∧ Near (val (rg x) * val (rg y)) (2 ^ K74) r := by
 obtain ⟨m, i, hm, hmv⟩ := read_fin hx
 obtain ⟨n, j, hn, hnv⟩ := read_fin hy
 obtain ⟨r, hw, hr⟩ := nearest_spec (sgn x ^^ sgn y) (m * n) ((i : Int) - 1074 + ((j : Int) - 1074))
 refine ⟨r, by unfold Format.mul; rw [hm, hn]; simp only [Datum.product, Option.map]; rw [← double_word]; exact congrArg some hw, ?_⟩
 refine hr.cross (Nat.two_pow_pos _) (Nat.two_pow_pos _) ?_
 rw [← hmv, ← hnv]
 generalize ha : ((i : Int) - 1074 + ((j : Int) - 1074) + 1074).toNat = a
 generalize hb : (-((i : Int) - 1074 + ((j : Int) - 1074) + 1074)).toNat = b
 have hK := K74_eq
 generalize K74 = K at *
 have e : a + K = i + j + b := by omega
 rw [Nat.mul_assoc, ← Nat.pow_add, e, Nat.pow_add, Nat.pow_add, ← Nat.mul_assoc, Nat.mul_mul_mul_comm]
/-! ### a digit that is 1 where something is left over -/
theorem mid_units (s a b : Nat) : (∃ k, mid s * 2 ^ b = 2 * k * 2 ^ a) ∨ mid s * 2 ^ b < 2 ^ 54 * 2 ^ a := by
 obtain ⟨m, hm, hv⟩ := val_form s
 have e : mid s = (2 * m + 1) * 2 ^ ex s := by rw [mid_eq, hv, ulp_eq, Nat.add_mul, Nat.mul_assoc, Nat.one_mul]
 rw [e, Nat.mul_assoc, ← Nat.pow_add]
 rcases Nat.lt_or_ge a (ex s + b) with h | h
 ·refine .inl ⟨(2 * m + 1) * 2 ^ (ex s + b - a - 1), ?_⟩
  conv => lhs; rw [show ex s + b = (ex s + b - a - 1) + (1 + a) by omega, Nat.pow_add, Nat.pow_add]
  generalize 2 ^ (ex s + b - a - 1) = p
  generalize 2 ^ a = q
  rw [Nat.mul_comm 2 ((2 * m + 1) * p), Nat.mul_assoc ((2 * m + 1) * p), Nat.mul_assoc, Nat.pow_one]
 ·refine .inr ?_
  have h1 : (2 * m + 1) * 2 ^ (ex s + b) ≤ (2 * m + 1) * 2 ^ a := Nat.mul_le_mul_left _ (Nat.pow_le_pow_right (by decide) h)
  have h2 : (2 * m + 1) * 2 ^ a < 2 ^ 54 * 2 ^ a := Nat.mul_lt_mul_of_pos_right (by omega) (Nat.two_pow_pos _)
  omega
theorem sticky {w st r a b : Nat} {place : Int} (hst : st ≤ 1) (hw : 2 ^ 53 ≤ w) (ha : a = (place + 1075).toNat) (hb : b = (-(place + 1075)).toNat)
  (h : Near ((2 * w + st) * 2 ^ (place + 1074).toNat) (2 ^ (-(place + 1074)).toNat) r) :
  r ≤ inf ∧ (r < inf → ∃ k, mid r * 2 ^ b = 2 * k * 2 ^ a ∧ 2 * w + st ≤ 2 * k ∧ (r % 2 = 1 → 2 * w + st < 2 * k)) ∧
  (0 < r → (∃ k, mid (r - 1) * 2 ^ b = 2 * k * 2 ^ a ∧ 2 * k ≤ 2 * w + st ∧ (r % 2 = 1 → 2 * k < 2 * w + st)) ∨ mid (r - 1) * 2 ^ b < 2 ^ 54 * 2 ^ a) := by
 generalize ha' : (place + 1074).toNat = a' at h
 generalize hb' : (-(place + 1074)).toNat = b' at h
 have hab : a' + b + 1 = a + b' := by omega
 have hpow : 2 ^ a * 2 ^ b' = 2 * (2 ^ a' * 2 ^ b) := by
  rw [← Nat.pow_add, ← hab, Nat.pow_succ, Nat.pow_add, Nat.mul_comm]
 have hB : 0 < 2 ^ b := Nat.two_pow_pos _
 have hAB : 0 < 2 ^ a' * 2 ^ b := Nat.mul_pos (Nat.two_pow_pos _) hB
 -- a comparison, in the units
 have key : ∀ {M k : Nat}, M * 2 ^ b = 2 * k * 2 ^ a → M * 2 ^ b' * 2 ^ b = 2 * (2 * k) * (2 ^ a' * 2 ^ b) := fun {M k} e => by
  rw [Nat.mul_right_comm, e, Nat.mul_assoc, hpow]
  generalize 2 ^ a' * 2 ^ b = p
  rw [← Nat.mul_assoc, Nat.mul_comm (2 * k) 2]
 have num : 2 * ((2 * w + st) * 2 ^ a') * 2 ^ b = 2 * (2 * w + st) * (2 ^ a' * 2 ^ b) := by
  rw [← Nat.mul_assoc, Nat.mul_assoc (2 * (2 * w + st))]
 obtain ⟨h1, h2, h3⟩ := h
 refine ⟨h1, fun hr => ?_, fun hr => ?_⟩
 ·obtain ⟨u1, u2⟩ := h2 hr
  have e1 : (val r + val (r + 1)) = mid r := rfl
  rw [e1] at u1 u2
  have v1 := Nat.mul_le_mul_right (2 ^ b) u1
  rw [num] at v1
  rcases mid_units r a b with ⟨k, hk⟩ | hk
  ·rw [key hk] at v1
   have w1 : 2 * (2 * w + st) ≤ 2 * (2 * k) := Nat.le_of_mul_le_mul_right v1 hAB
   refine ⟨k, hk, by omega, fun ho => ?_⟩
   have v2 := Nat.mul_lt_mul_of_pos_right (u2 ho) hB
   rw [num, key hk] at v2
   have w2 : 2 * (2 * w + st) < 2 * (2 * k) := Nat.lt_of_mul_lt_mul_right v2
   omega
  ·exfalso
   have v2 : mid r * 2 ^ b' * 2 ^ b < 2 ^ 55 * (2 ^ a' * 2 ^ b) := by
    rw [Nat.mul_right_comm]
    have := Nat.mul_lt_mul_of_pos_right hk (Nat.two_pow_pos b')
    rw [Nat.mul_assoc (2 ^ 54), hpow, ← Nat.mul_assoc] at this
    exact this
   have v3 : 2 ^ 55 * (2 ^ a' * 2 ^ b) ≤ 2 * (2 * w + st) * (2 ^ a' * 2 ^ b) := Nat.mul_le_mul_right _ (by omega)
   omega
 ·obtain ⟨u1, u2⟩ := h3 hr
  rw [← mid_pred hr] at u1 u2
  rcases mid_units (r - 1) a b with ⟨k, hk⟩ | hk
  ·left
   have v1 := Nat.mul_le_mul_right (2 ^ b) u1
   rw [num, key hk] at v1
   have w1 : 2 * (2 * k) ≤ 2 * (2 * w + st) := Nat.le_of_mul_le_mul_right v1 hAB
   refine ⟨k, hk, by omega, fun ho => ?_⟩
   have v2 := Nat.mul_lt_mul_of_pos_right (u2 ho) hB
   rw [num, key hk] at v2
   have w2 : 2 * (2 * k) < 2 * (2 * w + st) := Nat.lt_of_mul_lt_mul_right v2
   omega
  ·exact .inr hk
theorem near_zero {den : Nat} : Near 0 den 0 := ⟨by rw [inf_eq]; omega, fun _ => ⟨by simp, by simp⟩, fun h => by omega⟩
/-! ### roots -/
def NearSq (num den r : Nat) : Prop :=
 r ≤ inf ∧ (r < inf → 4 * num ≤ mid r * mid r * den ∧ (r % 2 = 1 → 4 * num < mid r * mid r * den)) ∧
 (0 < r → mid (r - 1) * mid (r - 1) * den ≤ 4 * num ∧ (r % 2 = 1 → mid (r - 1) * mid (r - 1) * den < 4 * num))
theorem rootFrom_spec (n : Nat) : ∀ todo root : Nat, root * root ≤ n → n < (root + 2 ^ todo) * (root + 2 ^ todo) →
  Datum.rootFrom n todo root * Datum.rootFrom n todo root ≤ n ∧ n < (Datum.rootFrom n todo root + 1) * (Datum.rootFrom n todo root + 1)
 | 0, root, h1, h2 => ⟨h1, h2⟩
 | todo + 1, root, h1, h2 => by
  unfold Datum.rootFrom
  simp only [Nat.one_shiftLeft]
  split
  ·next h => exact rootFrom_spec n todo _ h (by rw [Nat.add_assoc, ← Nat.two_mul, ← Nat.pow_succ']; exact h2)
  ·next h => exact rootFrom_spec n todo _ h1 (by omega)
theorem sticky_root {n w st r a b : Nat} {place : Int} (hw : 2 ^ 53 ≤ w) (ha : a = (place + 1075).toNat) (hb : b = (-(place + 1075)).toNat)
  (hD : w * w ≤ n) (hD2 : n < (w + 1) * (w + 1)) (hst : st = (if n = w * w then 0 else 1))
  (h : Near ((2 * w + st) * 2 ^ (place + 1074).toNat) (2 ^ (-(place + 1074)).toNat) r) : NearSq (n * (2 ^ a * 2 ^ a)) (2 ^ b * 2 ^ b) r := by
 have hst1 : st ≤ 1 := by rw [hst]; split <;> omega
 obtain ⟨h1, h2, h3⟩ := sticky hst1 hw ha hb h
 have hA : 0 < 2 ^ a := Nat.two_pow_pos _
 have hAA : 0 < 2 ^ a * 2 ^ a := Nat.mul_pos hA hA
 have scale : ∀ {M k : Nat}, M * 2 ^ b = 2 * k * 2 ^ a → M * M * (2 ^ b * 2 ^ b) = 4 * (k * k * (2 ^ a * 2 ^ a)) := fun {M k} e => by
  rw [Nat.mul_mul_mul_comm, e]
  generalize 2 ^ a = p
  rw [Nat.mul_mul_mul_comm, Nat.mul_mul_mul_comm 2 k 2 k, Nat.mul_assoc]
 have sq : ∀ {p q : Nat}, p ≤ q → p * p ≤ q * q := fun h => Nat.mul_le_mul h h
 refine ⟨h1, fun hr => ?_, fun hr => ?_⟩
 ·obtain ⟨k, e, u, v⟩ := h2 hr
  rw [scale e]
  have le : n ≤ k * k := by
   by_cases h0 : n = w * w
   ·have := sq (show w ≤ k by omega); omega
   ·rw [if_neg h0] at hst
    have := sq (show w + 1 ≤ k by omega); omega
  have lt : r % 2 = 1 → n < k * k := fun ho => by
   have h4 := v ho
   have := sq (show w + 1 ≤ k by omega); omega
  have le' := Nat.mul_le_mul_right (2 ^ a * 2 ^ a) le
  refine ⟨by omega, fun ho => ?_⟩
  have := Nat.mul_lt_mul_of_pos_right (lt ho) hAA
  omega
 ·rcases h3 hr with ⟨k, e, u, v⟩ | hk
  ·rw [scale e]
   have le : k * k ≤ n := by
    have := sq (show k ≤ w by omega); omega
   have lt : r % 2 = 1 → k * k < n := fun ho => by
    have h4 := v ho
    by_cases h0 : n = w * w
    ·rw [if_pos h0] at hst
     have := sq (show k + 1 ≤ w by omega)
     rw [Nat.add_mul, Nat.mul_add] at this; omega
    ·have := sq (show k ≤ w by omega); omega
   have le' := Nat.mul_le_mul_right (2 ^ a * 2 ^ a) le
   refine ⟨by omega, fun ho => ?_⟩
   have := Nat.mul_lt_mul_of_pos_right (lt ho) hAA
   omega
  ·have hB : 0 < 2 ^ b := Nat.two_pow_pos _
   have h4 : mid (r - 1) * mid (r - 1) * (2 ^ b * 2 ^ b) < 2 ^ 54 * 2 ^ a * (2 ^ 54 * 2 ^ a) := by
    rw [Nat.mul_mul_mul_comm]
    exact Nat.mul_lt_mul_of_le_of_lt (Nat.le_of_lt hk) hk (Nat.mul_pos (by decide) hA)
   have h5 : 2 ^ 54 * 2 ^ a * (2 ^ 54 * 2 ^ a) ≤ 4 * (n * (2 ^ a * 2 ^ a)) := by
    have h6 := Nat.mul_le_mul_right (2 ^ a * 2 ^ a) (Nat.le_trans (sq hw) hD)
    rw [Nat.mul_mul_mul_comm, show (2 : Nat) ^ 54 * 2 ^ 54 = 4 * (2 ^ 53 * 2 ^ 53) by decide, Nat.mul_assoc]
    omega
   exact ⟨by omega, fun _ => by omega⟩
end Go.Proofs.YtgekmbfmfiikkaaGreatDoor.Flt
/-! Floats, plainly: rounding down of a fraction that is known up to a whole number of units. -/
namespace Go.Proofs.YtgekmbfmfiikkaaGreatDoor.Flt
open Ieee
theorem dn_of {num den E Q : Nat} (hQ : Q < 2 ^ 53) (hE : E = 0 ∨ 2 ^ 52 ≤ Q) (hE2 : E ≤ 2045) (h1 : Q * (den * 2 ^ E) ≤ num) (h2 : num < (Q + 1) * (den * 2 ^ E)) :
  Dn num den (E * 2 ^ 52 + Q) ∧ (val (E * 2 ^ 52 + Q) * den = num ↔ Q * (den * 2 ^ E) = num) := by
 have v1 := val_at E Q (by omega) hE
 have v2 := val_at E (Q + 1) (by omega) (by omega)
 have e1 : val (E * 2 ^ 52 + Q) * den = Q * (den * 2 ^ E) := by rw [v1, Nat.mul_assoc, Nat.mul_comm (2 ^ E)]
 have e2 : val (E * 2 ^ 52 + Q + 1) * den = (Q + 1) * (den * 2 ^ E) := by rw [Nat.add_assoc, v2, Nat.mul_assoc, Nat.mul_comm (2 ^ E)]
 refine ⟨⟨by rw [inf_eq]; omega, by rw [e1]; exact h1, fun _ => by rw [e2]; exact h2⟩, by rw [e1]⟩
theorem dn_of_big {num den E Q : Nat} (hd : 0 < den) (hQ : 2 ^ 52 ≤ Q) (hE2 : 2046 ≤ E) (h1 : Q * (den * 2 ^ E) ≤ num) :
  Dn num den (inf - 1) ∧ val (inf - 1) * den < num := by
 obtain ⟨E0, hE0⟩ : ∃ E0 : Nat, E0 = 2046 := ⟨_, rfl⟩
 have hinf : val inf = 2 ^ 52 * 2 ^ E0 := by
  rw [← val_at E0 (2 ^ 52) (by omega) (Or.inr (Nat.le_refl _))]
  congr 1
  rw [inf_eq]; omega
 have hlt : val (inf - 1) * den < val inf * den := Nat.mul_lt_mul_of_pos_right (val_lt (by rw [inf_eq]; omega)) hd
 have h3 : val inf * den ≤ Q * (den * 2 ^ E) := by
  rw [hinf, Nat.mul_assoc, Nat.mul_comm (2 ^ E0)]
  exact Nat.mul_le_mul hQ (Nat.mul_le_mul_left _ (Nat.pow_le_pow_right (by decide) (by omega)))
 exact ⟨⟨by rw [inf_eq]; omega, by omega, fun h => absurd h (by omega)⟩, by omega⟩
theorem cut_dn {p q Q a b u v E : Nat} {e k : Int} (hq : 0 < q) (ha : a = (e - k).toNat) (hb : b = (k - e).toNat) (hu : u = (e + 1074).toNat) (hv : v = (-(e + 1074)).toNat) (hE : E = (k + 1074).toNat) (hk : -1074 ≤ k)
  (h1 : Q * (q * 2 ^ b) ≤ p * 2 ^ a) (h2 : p * 2 ^ a < (Q + 1) * (q * 2 ^ b)) :
  (k ≤ 971 → Q < 2 ^ 53 → (k = -1074 ∨ 2 ^ 52 ≤ Q) → Dn (p * 2 ^ u) (q * 2 ^ v) (E * 2 ^ 52 + Q) ∧ (val (E * 2 ^ 52 + Q) * (q * 2 ^ v) = p * 2 ^ u ↔ Q * (q * 2 ^ b) = p * 2 ^ a)) ∧
  (971 < k → 2 ^ 52 ≤ Q → Dn (p * 2 ^ u) (q * 2 ^ v) (inf - 1) ∧ val (inf - 1) * (q * 2 ^ v) < p * 2 ^ u) := by
 have hexp : u + b = a + E + v := by omega
 have hB : 0 < 2 ^ b := Nat.two_pow_pos _
 have hEV : 0 < 2 ^ E * 2 ^ v := Nat.mul_pos (Nat.two_pow_pos _) (Nat.two_pow_pos _)
 have hden : 0 < q * 2 ^ v := Nat.mul_pos hq (Nat.two_pow_pos _)
 have e1 : p * 2 ^ u * 2 ^ b = p * 2 ^ a * (2 ^ E * 2 ^ v) := by
  rw [Nat.mul_assoc, ← Nat.pow_add, hexp, Nat.mul_assoc, ← Nat.pow_add, ← Nat.pow_add, Nat.add_assoc]
 have e2 : ∀ R : Nat, R * (q * 2 ^ v * 2 ^ E) * 2 ^ b = R * (q * 2 ^ b) * (2 ^ E * 2 ^ v) := fun R => by
  generalize 2 ^ E = x
  generalize 2 ^ v = y
  generalize 2 ^ b = z
  simp only [Nat.mul_comm, Nat.mul_left_comm]
 have g1 : Q * (q * 2 ^ v * 2 ^ E) ≤ p * 2 ^ u := by
  apply Nat.le_of_mul_le_mul_right (c := 2 ^ b) _ hB
  rw [e1, e2]
  exact Nat.mul_le_mul_right _ h1
 have g2 : p * 2 ^ u < (Q + 1) * (q * 2 ^ v * 2 ^ E) := by
  apply Nat.lt_of_mul_lt_mul_right (a := 2 ^ b)
  rw [e1, e2]
  exact Nat.mul_lt_mul_of_pos_right h2 hEV
 refine ⟨fun hk2 hQ hn => ?_, fun hk2 hQ => dn_of_big hden hQ (by omega) g1⟩
 obtain ⟨d1, d2⟩ := dn_of hQ (by omega) (by omega) g1 g2
 refine ⟨d1, d2.trans ⟨fun h => ?_, fun h => ?_⟩⟩
 ·apply Nat.eq_of_mul_eq_mul_right hEV
  rw [← e1, ← e2, h]
 ·apply Nat.eq_of_mul_eq_mul_right hB
  rw [e1, e2, h]
theorem cut_whole {p q N Q a b : Nat} (hN : N * q ≤ p) (hN2 : p < (N + 1) * q) (hm : p = N * q ∨ a = 0) (h1 : Q * 2 ^ b ≤ N * 2 ^ a) (h2 : N * 2 ^ a < (Q + 1) * 2 ^ b) (hq : 0 < q) :
  Q * (q * 2 ^ b) ≤ p * 2 ^ a ∧ p * 2 ^ a < (Q + 1) * (q * 2 ^ b) ∧ (Q * (q * 2 ^ b) = p * 2 ^ a ↔ p = N * q ∧ Q * 2 ^ b = N * 2 ^ a) := by
 have s : ∀ R : Nat, R * (q * 2 ^ b) = R * 2 ^ b * q := fun R => by rw [Nat.mul_comm q, ← Nat.mul_assoc]
 have t : ∀ R : Nat, R * q * 2 ^ a = R * 2 ^ a * q := fun R => Nat.mul_right_comm _ _ _
 simp only [s]
 have l1 : Q * 2 ^ b * q ≤ N * q * 2 ^ a := by rw [t]; exact Nat.mul_le_mul_right _ h1
 have l2 : N * q * 2 ^ a ≤ p * 2 ^ a := Nat.mul_le_mul_right _ hN
 refine ⟨by omega, ?_, ?_⟩
 ·rcases hm with h | h
  ·rw [h, t]; exact Nat.mul_lt_mul_of_pos_right h2 hq
  ·subst h
   rw [Nat.pow_zero, Nat.mul_one] at h2 ⊢
   have : (N + 1) * q ≤ (Q + 1) * 2 ^ b * q := Nat.mul_le_mul_right _ h2
   omega
 ·constructor
  ·intro h
   have e1 : N * q * 2 ^ a = p * 2 ^ a := by omega
   have e2 : Q * 2 ^ b * q = N * q * 2 ^ a := by omega
   rw [t] at e2
   exact ⟨(Nat.eq_of_mul_eq_mul_right (Nat.two_pow_pos a) e1).symm, Nat.eq_of_mul_eq_mul_right hq e2⟩
  ·rintro ⟨h, h'⟩
   rw [h, t, h']
/-! ### the word of a whole number below 2^53, and a step of two's powers -/
theorem two_log {m : Nat} (h : m ≠ 0) : 2 ^ m.log2 ≤ m ∧ m < 2 ^ (m.log2 + 1) := ⟨Nat.log2_self_le h, Nat.lt_log2_self⟩
theorem log_52 {m : Nat} (h : m ≠ 0) (hm : m < 2 ^ 53) : m.log2 ≤ 52 := by
 have h1 := (two_log h).1
 rcases Nat.lt_or_ge 52 m.log2 with h2 | h2
 ·have : 2 ^ 53 ≤ 2 ^ m.log2 := Nat.pow_le_pow_right (by decide) h2
  omega
 ·exact h2
def tail52 (m : Nat) : Nat := m * 2 ^ (52 - m.log2) - 2 ^ 52
theorem tail52_spec {m : Nat} (h : m ≠ 0) (hm : m < 2 ^ 53) : tail52 m < 2 ^ 52 ∧ 2 ^ 52 + tail52 m = m * 2 ^ (52 - m.log2) := by
 have h1 := two_log h
 have h2 := log_52 h hm
 have l1 : 2 ^ m.log2 * 2 ^ (52 - m.log2) ≤ m * 2 ^ (52 - m.log2) := Nat.mul_le_mul_right _ h1.1
 have l2 : m * 2 ^ (52 - m.log2) < 2 ^ (m.log2 + 1) * 2 ^ (52 - m.log2) := Nat.mul_lt_mul_of_pos_right h1.2 (Nat.two_pow_pos _)
 rw [← Nat.pow_add] at l1 l2
 rw [show m.log2 + (52 - m.log2) = 52 by omega] at l1
 rw [show m.log2 + 1 + (52 - m.log2) = 53 by omega] at l2
 unfold tail52
 omega
theorem val_tail {m : Nat} (h : m ≠ 0) (hm : m < 2 ^ 53) (E : Nat) : val ((E + 1) * 2 ^ 52 + tail52 m) = m * 2 ^ (52 - m.log2 + E) := by
 obtain ⟨h1, h2⟩ := tail52_spec h hm
 rw [val_mk (E + 1) _ h1, if_neg (by omega), h2, Nat.add_sub_cancel, Nat.pow_add, Nat.mul_assoc]
def whole (m : Nat) : Nat := if m = 0 then 0 else (m.log2 + 1023) * 2 ^ 52 + tail52 m
theorem val_whole {m : Nat} (hm : m < 2 ^ 53) : val (whole m) = m * 2 ^ K74 := by
 unfold whole
 by_cases h : m = 0
 ·rw [if_pos h, h, val_zero, Nat.zero_mul]
 ·rw [if_neg h, show m.log2 + 1023 = (m.log2 + 1022) + 1 by omega, val_tail h hm]
  have := log_52 h hm
  rw [show 52 - m.log2 + (m.log2 + 1022) = K74 by rw [K74_eq]; omega]
theorem whole_lt {m : Nat} (hm : m < 2 ^ 53) : whole m < inf := by
 unfold whole
 by_cases h : m = 0
 ·rw [if_pos h, inf_eq]; omega
 ·rw [if_neg h, inf_eq]
  have := log_52 h hm
  have := (tail52_spec h hm).1
  omega
theorem mul_one_pow {y c r : Nat} (hy : y < inf) (hc : c < inf) (hr : r < inf) (hv : val y * val c = val r * 2 ^ K74) : double.mul c y = some r := by
 have il := inf_lt
 have rgy : rg y = y := by unfold rg; omega
 have rgc : rg c = c := by unfold rg; omega
 have sy : sgn y = false := by have := sgn_word false y (by omega); exact this
 have sc : sgn c = false := by have := sgn_word false c (by omega); exact this
 obtain ⟨z, h1, h2⟩ := mul_fin (x := c) (y := y) (by unfold Fin; omega) (by unfold Fin; omega)
 rw [rgy, rgc, Nat.mul_comm, hv] at h2
 have h3 : Near (val r * 2 ^ K74) (1 * 2 ^ K74) r := (Near.scale (2 ^ K74) (Nat.two_pow_pos _)).2 (Near.exact (by omega))
 rw [Nat.one_mul] at h3
 rw [h1, sy, sc, h2.unique (Nat.two_pow_pos _) h3]
 rfl
end Go.Proofs.YtgekmbfmfiikkaaGreatDoor.Flt
/-! Floats, plainly: the root, rounded to the nearest; a product and a sum, rounded once; products by a power of two. -/
namespace Go.Proofs.YtgekmbfmfiikkaaGreatDoor.Flt
open Ieee
theorem NearSq.cross {num den num' den' r : Nat} (hd : 0 < den) (h0 : 0 < den') (he : num * den' = num' * den) (h : NearSq num den r) : NearSq num' den' r := by
 obtain ⟨h1, h2, h3⟩ := h
 have e1 : ∀ M : Nat, 4 * num ≤ M * M * den → 4 * num' ≤ M * M * den' := fun M h => by
  apply Nat.le_of_mul_le_mul_right _ hd
  rw [Nat.mul_assoc, ← he, ← Nat.mul_assoc, Nat.mul_right_comm (M * M)]
  exact Nat.mul_le_mul_right _ h
 have e2 : ∀ M : Nat, 0 < den' → 4 * num < M * M * den → 4 * num' < M * M * den' := fun M hd' h => by
  apply Nat.lt_of_mul_lt_mul_right (a := den)
  rw [Nat.mul_assoc, ← he, ← Nat.mul_assoc, Nat.mul_right_comm (M * M)]
  exact Nat.mul_lt_mul_of_pos_right h hd'
 have e3 : ∀ M : Nat, M * M * den ≤ 4 * num → M * M * den' ≤ 4 * num' := fun M h => by
  apply Nat.le_of_mul_le_mul_right _ hd
  rw [Nat.mul_assoc 4, ← he, ← Nat.mul_assoc 4, Nat.mul_right_comm (M * M)]
  exact Nat.mul_le_mul_right _ h
 have e4 : ∀ M : Nat, 0 < den' → M * M * den < 4 * num → M * M * den' < 4 * num' := fun M hd' h => by
  apply Nat.lt_of_mul_lt_mul_right (a := den)
  rw [Nat.mul_assoc 4, ← he, ← Nat.mul_assoc 4, Nat.mul_right_comm (M * M)]
  exact Nat.mul_lt_mul_of_pos_right h hd'
 exact ⟨h1, fun hr => ⟨e1 _ (h2 hr).1, fun ho => e2 _ h0 ((h2 hr).2 ho)⟩, fun hr => ⟨e3 _ (h3 hr).1, fun ho => e4 _ h0 ((h3 hr).2 ho)⟩⟩
theorem sqrt_fin {x : Nat} (hx : Fin x) (hs : sgn x = false) : ∃ r, double.sqrt x = some (word false r) ∧ NearSq (val (rg x) * 2 ^ K74) 1 r := by
 obtain ⟨m, p, hm, hmv⟩ := read_fin hx
 rw [hs] at hm
 have hf : double.fractionBits + 2 = 54 := rfl
 by_cases hm0 : m = 0
 ·subst hm0
  obtain ⟨r, hw, hr⟩ := write_number false 0 p
  rw [Nat.zero_mul] at hr hmv
  have hr0 : r = 0 := hr.unique (by decide) near_zero
  refine ⟨r, ?_, ?_⟩
  ·unfold Format.sqrt
   rw [hm, hf]
   simp only [Datum.root, if_true, Option.map]
   rw [hw]
  ·rw [← hmv, hr0, Nat.zero_mul]
   exact ⟨by rw [inf_eq]; omega, fun _ => ⟨by omega, fun h => by omega⟩, fun h => by omega⟩
 ·generalize hm1 : 2 * 54 - m.log2 = more0
  generalize hm2 : more0 + (((p : Int) - 1074 - (more0 : Int)) % 2).toNat = more
  generalize hpl : ((p : Int) - 1074 - (more : Int)) / 2 - 1 = place
  obtain ⟨n, hn⟩ : ∃ n, n = m <<< more := ⟨_, rfl⟩
  obtain ⟨w, hwd⟩ : ∃ w, w = Datum.rootFrom n (n.log2 / 2 + 1) 0 := ⟨_, rfl⟩
  obtain ⟨r, hw, hr⟩ := nearest_spec false (2 * w + (w * w != n).toNat) place
  have hn2 : n = m * 2 ^ more := by rw [hn, Nat.shiftLeft_eq]
  have hnlow : 2 ^ 108 ≤ n := by
   have h1 : 2 ^ m.log2 ≤ m := Nat.log2_self_le hm0
   have h2 : 2 ^ m.log2 * 2 ^ more ≤ n := by rw [hn2]; exact Nat.mul_le_mul_right _ h1
   rw [← Nat.pow_add] at h2
   have h3 : 2 ^ 108 ≤ 2 ^ (m.log2 + more) := Nat.pow_le_pow_right (by decide) (by omega)
   omega
  have hn0 : n ≠ 0 := by omega
  have hup : n < (0 + 2 ^ (n.log2 / 2 + 1)) * (0 + 2 ^ (n.log2 / 2 + 1)) := by
   rw [Nat.zero_add, ← Nat.pow_add]
   have h1 : n < 2 ^ (n.log2 + 1) := Nat.lt_log2_self
   have h2 : 2 ^ (n.log2 + 1) ≤ 2 ^ (n.log2 / 2 + 1 + (n.log2 / 2 + 1)) := Nat.pow_le_pow_right (by decide) (by omega)
   omega
  obtain ⟨w1, w2⟩ := rootFrom_spec n (n.log2 / 2 + 1) 0 (by omega) hup
  rw [← hwd] at w1 w2
  have hwlow : 2 ^ 53 ≤ w := by
   rcases Nat.lt_or_ge w (2 ^ 53) with h | h
   ·have h1 : (w + 1) * (w + 1) ≤ 2 ^ 53 * 2 ^ 53 := Nat.mul_le_mul h h
    rw [← Nat.pow_add] at h1
    have h2 : 2 ^ (53 + 53) ≤ 2 ^ 108 := Nat.pow_le_pow_right (by decide) (by decide)
    omega
   ·exact h
  refine ⟨r, ?_, ?_⟩
  ·unfold Format.sqrt
   rw [hm, hf]
   simp only [Datum.root, if_neg hm0, hm1, hm2, hpl, ← hn, ← hwd, Option.map]
   rw [← double_word]
   exact congrArg some hw
  ·have hst : (w * w != n).toNat = (if n = w * w then 0 else 1) := by
    by_cases h : n = w * w
    ·rw [if_pos h, ← h]; simp
    ·rw [if_neg h]
     have : (w * w != n) = true := by simpa using fun h' => h h'.symm
     rw [this]; rfl
   have hsr := sticky_root hwlow rfl rfl w1 w2 hst hr
   refine hsr.cross (Nat.mul_pos (Nat.two_pow_pos _) (Nat.two_pow_pos _)) (by decide) ?_
   rw [← hmv, hn2]
   generalize ha : (place + 1075).toNat = a
   generalize hb : (-(place + 1075)).toNat = b
   have hK := K74_eq
   generalize K74 = K at *
   have e : more + (a + a) = p + K + (b + b) := by omega
   rw [Nat.mul_one, ← Nat.pow_add, ← Nat.pow_add, Nat.mul_assoc, ← Nat.pow_add, e, Nat.mul_assoc, Nat.mul_assoc, ← Nat.pow_add, ← Nat.pow_add, Nat.add_assoc]
/-! ### a product and a sum, rounded once -/
theorem sum_num_at (c : Int) (s t : Bool) (m n i j : Nat) : ∃ (tot : Int) (base : Nat),
  Datum.sum (.number s m ((i : Int) - c)) (.number t n ((j : Int) - c)) =
   some (.number (if tot = 0 then s && t else decide (tot < 0)) tot.natAbs ((base : Int) - c)) ∧
  tot * (2 ^ base : Nat) = (if s then -((m * 2 ^ i : Nat) : Int) else ((m * 2 ^ i : Nat) : Int)) + (if t then -((n * 2 ^ j : Nat) : Int) else ((n * 2 ^ j : Nat) : Int)) := by
 have e0 : min ((i : Int) - c) ((j : Int) - c) = ((min i j : Nat) : Int) - c := by omega
 have e1 : ((i : Int) - c - (((min i j : Nat) : Int) - c)).toNat = i - min i j := by omega
 have e2 : ((j : Int) - c - (((min i j : Nat) : Int) - c)).toNat = j - min i j := by omega
 refine ⟨signed s m (i - min i j) + signed t n (j - min i j), min i j, ?_, ?_⟩
 ·unfold Datum.sum
  simp only [e0, e1, e2]
 ·simp only [signed_scale]
  have h1 : m * 2 ^ i = m * 2 ^ (i - min i j) * 2 ^ (min i j) := by rw [Nat.mul_assoc, ← Nat.pow_add]; congr 2; omega
  have h2 : n * 2 ^ j = n * 2 ^ (j - min i j) * 2 ^ (min i j) := by rw [Nat.mul_assoc, ← Nat.pow_add]; congr 2; omega
  rw [h1, h2]
  generalize 2 ^ (min i j) = p
  generalize m * 2 ^ (i - min i j) = u
  generalize n * 2 ^ (j - min i j) = v
  rw [Int.add_mul]
  congr 1
  ·split <;> simp [Int.neg_mul]
  ·split <;> simp [Int.neg_mul]
def fex (x y z : Nat) : Int := sv x * sv y + sv z * ((2 ^ K74 : Nat) : Int)
theorem sv_mul (x y : Nat) : sv x * sv y = if (sgn x ^^ sgn y) then -((val (rg x) * val (rg y) : Nat) : Int) else ((val (rg x) * val (rg y) : Nat) : Int) := by
 unfold sv
 cases sgn x <;> cases sgn y <;> simp [Int.neg_mul, Int.mul_neg, Int.natCast_mul]
theorem fma_fin {x y z : Nat} (hx : Fin x) (hy : Fin y) (hz : Fin z) : ∃ (s : Bool) (r : Nat), double.fma x y z = some (word s r) ∧ Near (fex x y z).natAbs (2 ^ K74) r ∧ (fex x y z ≠ 0 → s = decide (fex x y z < 0)) := by
 obtain ⟨m, i, hm, hmv⟩ := read_fin hx
 obtain ⟨n, j, hn, hnv⟩ := read_fin hy
 obtain ⟨l, k, hl, hlv⟩ := read_fin hz
 have hK := K74_eq
 obtain ⟨K, hKK⟩ : ∃ K, K = K74 := ⟨_, rfl⟩
 have hK' : (K : Int) = 1074 := by omega
 obtain ⟨tot, base, hs, ht⟩ := sum_num_at (2148 : Int) (sgn x ^^ sgn y) (sgn z) (m * n) l (i + j) (k + K)
 generalize hsg : (if tot = 0 then (sgn x ^^ sgn y) && sgn z else decide (tot < 0)) = sg at hs
 obtain ⟨r, hw, hr⟩ := nearest_spec sg tot.natAbs ((base : Int) - 2148)
 have hE : fex x y z = tot * (2 ^ base : Nat) := by
  rw [ht]
  unfold fex
  rw [sv_mul, ← hKK]
  have e1 : m * n * 2 ^ (i + j) = val (rg x) * val (rg y) := by rw [← hmv, ← hnv, Nat.pow_add, Nat.mul_mul_mul_comm]
  have e2 : l * 2 ^ (k + K) = val (rg z) * 2 ^ K := by rw [← hlv, Nat.pow_add, Nat.mul_assoc]
  rw [e1, e2]
  congr 1
  unfold sv
  cases sgn z <;> simp [Int.neg_mul, Int.natCast_mul]
 have hp : (0 : Int) < ((2 ^ base : Nat) : Int) := by have := Nat.two_pow_pos base; omega
 refine ⟨sg, r, ?_, ?_, fun h0 => ?_⟩
 ·unfold Format.fma
  rw [hm, hn, hl]
  have e1 : (i : Int) - 1074 + ((j : Int) - 1074) = ((i + j : Nat) : Int) - 2148 := by omega
  have e2 : (k : Int) - 1074 = ((k + K : Nat) : Int) - 2148 := by omega
  simp only [Datum.product, Option.bind]
  rw [e1, e2, hs]
  simp only [Option.map]
  rw [← double_word]
  exact congrArg some hw
 ·refine hr.cross (Nat.two_pow_pos _) (Nat.two_pow_pos _) ?_
  rw [hE, Int.natAbs_mul, Int.natAbs_natCast, ← hKK]
  generalize ha : ((base : Int) - 2148 + 1074).toNat = a
  generalize hb : (-((base : Int) - 2148 + 1074)).toNat = b
  have e : a + K = base + b := by omega
  rw [Nat.mul_assoc, ← Nat.pow_add, e, Nat.pow_add, Nat.mul_assoc]
 ·rw [← hsg]
  have h1 : tot ≠ 0 := by rintro rfl; rw [Int.zero_mul] at hE; exact h0 hE
  rw [if_neg h1, decide_eq_decide, hE]
  constructor
  ·intro h; exact Int.mul_neg_of_neg_of_pos h hp
  ·intro h
   rcases Int.lt_or_le tot 0 with h' | h'
   ·exact h'
   ·have := Int.mul_nonneg h' (Int.le_of_lt hp); omega
theorem mul_exact {x y r : Nat} (hx : Fin x) (hy : Fin y) (hr : r ≤ inf) (hv : val (rg x) * val (rg y) = val r * 2 ^ K74) : double.mul x y = some (word (sgn x ^^ sgn y) r) := by
 obtain ⟨z, h1, h2⟩ := mul_fin hx hy
 rw [hv] at h2
 have h3 : Near (val r * 2 ^ K74) (1 * 2 ^ K74) r := (Near.scale (2 ^ K74) (Nat.two_pow_pos _)).2 (Near.exact hr)
 rw [Nat.one_mul] at h3
 rw [h1, h2.unique (Nat.two_pow_pos _) h3]
end Go.Proofs.YtgekmbfmfiikkaaGreatDoor.Flt
