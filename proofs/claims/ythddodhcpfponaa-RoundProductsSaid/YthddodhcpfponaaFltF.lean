/-
  Floats in plain Lean: products, quotients and roots, rounded to the nearest.
-/
import Derived.Test.YthddodhcpfponaaFltE

namespace Go.Proofs.Ythddodhcpfponaa.Flt
open Ieee

/-- The exponent of the least float above nought, turned. -/
def K74 : Nat := 1074
theorem K74_eq : K74 = 1074 := rfl

/-- Twice the middle between a rung and the next one. -/
def mid (r : Nat) : Nat := val r + val (r + 1)
theorem mid_eq (r : Nat) : mid r = 2 * val r + ulp r := by unfold mid; have := val_succ r; omega
theorem mid_pred {r : Nat} (h : 0 < r) : mid (r - 1) = val (r - 1) + val r := by unfold mid; rw [show r - 1 + 1 = r by omega]

theorem Near.cross {num den num' den' r : Nat} (hd : 0 < den) (hd' : 0 < den') (he : num * den' = num' * den) (h : Near num den r) : Near num' den' r := by
  have h1 := (Near.scale (num := num) (den := den) (r := r) den' hd').2 h
  rw [he, Nat.mul_comm den den'] at h1
  exact (Near.scale (num := num') (den := den') (r := r) den hd).1 h1

theorem mul_fin {x y : Nat} (hx : Fin x) (hy : Fin y) : ∃ r, double.mul x y = some (word (sgn x ^^ sgn y) r) ∧ Near (val (rg x) * val (rg y)) (2 ^ K74) r := by
  obtain ⟨m, i, hm, hmv⟩ := read_fin hx
  obtain ⟨n, j, hn, hnv⟩ := read_fin hy
  obtain ⟨r, hw, hr⟩ := nearest_spec (sgn x ^^ sgn y) (m * n) ((i : Int) - 1074 + ((j : Int) - 1074))
  refine ⟨r, by unfold Format.mul; rw [hm, hn]; simp only [Datum.product, Option.map]; rw [← double_word]; exact congrArg some hw, ?_⟩
  refine hr.cross (Nat.two_pow_pos _) (Nat.two_pow_pos _) ?_
  rw [← hmv, ← hnv]
  generalize ha : ((i : Int) - 1074 + ((j : Int) - 1074) + 1074).toNat = a
  generalize hb : (-((i : Int) - 1074 + ((j : Int) - 1074) + 1074)).toNat = b
  have hK := K74_eq
  generalize K74 = K at *
  have e : a + K = i + j + b := by omega
  rw [Nat.mul_assoc, ← Nat.pow_add, e, Nat.pow_add, Nat.pow_add, ← Nat.mul_assoc, Nat.mul_mul_mul_comm]

/-! ### a digit that is 1 where something is left over -/
theorem mid_units (s a b : Nat) : (∃ k, mid s * 2 ^ b = 2 * k * 2 ^ a) ∨ mid s * 2 ^ b < 2 ^ 54 * 2 ^ a := by
  obtain ⟨m, hm, hv⟩ := val_form s
  have e : mid s = (2 * m + 1) * 2 ^ ex s := by rw [mid_eq, hv, ulp_eq, Nat.add_mul, Nat.mul_assoc, Nat.one_mul]
  rw [e, Nat.mul_assoc, ← Nat.pow_add]
  rcases Nat.lt_or_ge a (ex s + b) with h | h
  · refine .inl ⟨(2 * m + 1) * 2 ^ (ex s + b - a - 1), ?_⟩
    conv => lhs; rw [show ex s + b = (ex s + b - a - 1) + (1 + a) by omega, Nat.pow_add, Nat.pow_add]
    generalize 2 ^ (ex s + b - a - 1) = p
    generalize 2 ^ a = q
    rw [Nat.mul_comm 2 ((2 * m + 1) * p), Nat.mul_assoc ((2 * m + 1) * p), Nat.mul_assoc, Nat.pow_one]
  · refine .inr ?_
    have h1 : (2 * m + 1) * 2 ^ (ex s + b) ≤ (2 * m + 1) * 2 ^ a := Nat.mul_le_mul_left _ (Nat.pow_le_pow_right (by decide) h)
    have h2 : (2 * m + 1) * 2 ^ a < 2 ^ 54 * 2 ^ a := Nat.mul_lt_mul_of_pos_right (by omega) (Nat.two_pow_pos _)
    omega

/-- What the nearest word of 'w and st halves' says of w and st. -/
theorem sticky {w st r a b : Nat} {place : Int} (hst : st ≤ 1) (hw : 2 ^ 53 ≤ w) (ha : a = (place + 1075).toNat) (hb : b = (-(place + 1075)).toNat)
    (h : Near ((2 * w + st) * 2 ^ (place + 1074).toNat) (2 ^ (-(place + 1074)).toNat) r) :
    r ≤ inf ∧ (r < inf → ∃ k, mid r * 2 ^ b = 2 * k * 2 ^ a ∧ 2 * w + st ≤ 2 * k ∧ (r % 2 = 1 → 2 * w + st < 2 * k)) ∧
    (0 < r → (∃ k, mid (r - 1) * 2 ^ b = 2 * k * 2 ^ a ∧ 2 * k ≤ 2 * w + st ∧ (r % 2 = 1 → 2 * k < 2 * w + st)) ∨ mid (r - 1) * 2 ^ b < 2 ^ 54 * 2 ^ a) := by
  generalize ha' : (place + 1074).toNat = a' at h
  generalize hb' : (-(place + 1074)).toNat = b' at h
  have hab : a' + b + 1 = a + b' := by omega
  have hpow : 2 ^ a * 2 ^ b' = 2 * (2 ^ a' * 2 ^ b) := by
    rw [← Nat.pow_add, ← hab, Nat.pow_succ, Nat.pow_add, Nat.mul_comm]
  have hB : 0 < 2 ^ b := Nat.two_pow_pos _
  have hAB : 0 < 2 ^ a' * 2 ^ b := Nat.mul_pos (Nat.two_pow_pos _) hB
  -- a comparison, in the units
  have key : ∀ {M k : Nat}, M * 2 ^ b = 2 * k * 2 ^ a → M * 2 ^ b' * 2 ^ b = 2 * (2 * k) * (2 ^ a' * 2 ^ b) := fun {M k} e => by
    rw [Nat.mul_right_comm, e, Nat.mul_assoc, hpow]
    generalize 2 ^ a' * 2 ^ b = p
    rw [← Nat.mul_assoc, Nat.mul_comm (2 * k) 2]
  have num : 2 * ((2 * w + st) * 2 ^ a') * 2 ^ b = 2 * (2 * w + st) * (2 ^ a' * 2 ^ b) := by
    rw [← Nat.mul_assoc, Nat.mul_assoc (2 * (2 * w + st))]
  obtain ⟨h1, h2, h3⟩ := h
  refine ⟨h1, fun hr => ?_, fun hr => ?_⟩
  · obtain ⟨u1, u2⟩ := h2 hr
    have e1 : (val r + val (r + 1)) = mid r := rfl
    rw [e1] at u1 u2
    have v1 := Nat.mul_le_mul_right (2 ^ b) u1
    rw [num] at v1
    rcases mid_units r a b with ⟨k, hk⟩ | hk
    · rw [key hk] at v1
      have w1 : 2 * (2 * w + st) ≤ 2 * (2 * k) := Nat.le_of_mul_le_mul_right v1 hAB
      refine ⟨k, hk, by omega, fun ho => ?_⟩
      have v2 := Nat.mul_lt_mul_of_pos_right (u2 ho) hB
      rw [num, key hk] at v2
      have w2 : 2 * (2 * w + st) < 2 * (2 * k) := Nat.lt_of_mul_lt_mul_right v2
      omega
    · exfalso
      have v2 : mid r * 2 ^ b' * 2 ^ b < 2 ^ 55 * (2 ^ a' * 2 ^ b) := by
        rw [Nat.mul_right_comm]
        have := Nat.mul_lt_mul_of_pos_right hk (Nat.two_pow_pos b')
        rw [Nat.mul_assoc (2 ^ 54), hpow, ← Nat.mul_assoc] at this
        exact this
      have v3 : 2 ^ 55 * (2 ^ a' * 2 ^ b) ≤ 2 * (2 * w + st) * (2 ^ a' * 2 ^ b) := Nat.mul_le_mul_right _ (by omega)
      omega
  · obtain ⟨u1, u2⟩ := h3 hr
    rw [← mid_pred hr] at u1 u2
    rcases mid_units (r - 1) a b with ⟨k, hk⟩ | hk
    · left
      have v1 := Nat.mul_le_mul_right (2 ^ b) u1
      rw [num, key hk] at v1
      have w1 : 2 * (2 * k) ≤ 2 * (2 * w + st) := Nat.le_of_mul_le_mul_right v1 hAB
      refine ⟨k, hk, by omega, fun ho => ?_⟩
      have v2 := Nat.mul_lt_mul_of_pos_right (u2 ho) hB
      rw [num, key hk] at v2
      have w2 : 2 * (2 * k) < 2 * (2 * w + st) := Nat.lt_of_mul_lt_mul_right v2
      omega
    · exact .inr hk

theorem sticky_div {D n w st r a b : Nat} {place : Int} (hn : 0 < n) (hw : 2 ^ 53 ≤ w) (ha : a = (place + 1075).toNat) (hb : b = (-(place + 1075)).toNat)
    (hD : w * n ≤ D) (hD2 : D < (w + 1) * n) (hst : st = (if D = w * n then 0 else 1))
    (h : Near ((2 * w + st) * 2 ^ (place + 1074).toNat) (2 ^ (-(place + 1074)).toNat) r) : Near (D * 2 ^ a) (n * 2 ^ b) r := by
  have hst1 : st ≤ 1 := by rw [hst]; split <;> omega
  obtain ⟨h1, h2, h3⟩ := sticky hst1 hw ha hb h
  have hA : 0 < 2 ^ a := Nat.two_pow_pos _
  have scale : ∀ {M k : Nat}, M * 2 ^ b = 2 * k * 2 ^ a → M * (n * 2 ^ b) = 2 * (k * n * 2 ^ a) := fun {M k} e => by
    rw [Nat.mul_left_comm, e]
    generalize 2 ^ a = p
    rw [← Nat.mul_assoc, ← Nat.mul_assoc, ← Nat.mul_assoc, Nat.mul_comm n 2, Nat.mul_assoc 2 n k, Nat.mul_comm n k, ← Nat.mul_assoc]
  refine ⟨h1, fun hr => ?_, fun hr => ?_⟩
  · obtain ⟨k, e, u, v⟩ := h2 hr
    have e1 : (val r + val (r + 1)) = mid r := rfl
    rw [e1, scale e]
    have le : D ≤ k * n := by
      by_cases h0 : D = w * n
      · have : w ≤ k := by omega
        have := Nat.mul_le_mul_right n this; omega
      · rw [if_neg h0] at hst
        have : w + 1 ≤ k := by omega
        have := Nat.mul_le_mul_right n this; omega
    have lt : r % 2 = 1 → D < k * n := fun ho => by
      have h4 := v ho
      have : w + 1 ≤ k := by omega
      have := Nat.mul_le_mul_right n this; omega
    have le' := Nat.mul_le_mul_right (2 ^ a) le
    refine ⟨by omega, fun ho => ?_⟩
    have := Nat.mul_lt_mul_of_pos_right (lt ho) hA
    omega
  · rw [← mid_pred hr]
    rcases h3 hr with ⟨k, e, u, v⟩ | hk
    · rw [scale e]
      have le : k * n ≤ D := by
        have : k ≤ w := by omega
        have := Nat.mul_le_mul_right n this; omega
      have lt : r % 2 = 1 → k * n < D := fun ho => by
        have h4 := v ho
        by_cases h0 : D = w * n
        · rw [if_pos h0] at hst
          have : k < w := by omega
          have := Nat.mul_lt_mul_of_pos_right this hn; omega
        · have : k ≤ w := by omega
          have := Nat.mul_le_mul_right n this; omega
      have le' := Nat.mul_le_mul_right (2 ^ a) le
      refine ⟨by omega, fun ho => ?_⟩
      have := Nat.mul_lt_mul_of_pos_right (lt ho) hA
      omega
    · have h4 : mid (r - 1) * (n * 2 ^ b) < 2 ^ 54 * 2 ^ a * n := by
        rw [Nat.mul_left_comm, Nat.mul_comm n]
        exact Nat.mul_lt_mul_of_pos_right hk hn
      have h5 : 2 ^ 54 * 2 ^ a * n ≤ 2 * (D * 2 ^ a) := by
        have h6 : 2 ^ 53 * n ≤ w * n := Nat.mul_le_mul_right n hw
        have h7 := Nat.mul_le_mul_right (2 ^ a) (show 2 ^ 53 * n ≤ D by omega)
        rw [Nat.mul_right_comm (2 ^ 53)] at h7
        have h8 : 2 ^ 54 * 2 ^ a * n = 2 * (2 ^ 53 * 2 ^ a * n) := by rw [show (2 : Nat) ^ 54 = 2 * 2 ^ 53 by decide, Nat.mul_assoc, Nat.mul_assoc, Nat.mul_assoc]
        omega
      exact ⟨by omega, fun _ => by omega⟩

theorem near_zero {den : Nat} : Near 0 den 0 := ⟨by rw [inf_eq]; omega, fun _ => ⟨by simp, by simp⟩, fun h => by omega⟩

theorem div_fin {x y : Nat} (hx : Fin x) (hy : Fin y) (h0 : rg y ≠ 0) : ∃ r, double.div x y = some (word (sgn x ^^ sgn y) r) ∧ Near (val (rg x) * 2 ^ K74) (val (rg y)) r := by
  obtain ⟨m, i, hm, hmv⟩ := read_fin hx
  obtain ⟨n, j, hn, hnv⟩ := read_fin hy
  have hvy : 0 < val (rg y) := by have := val_lt (show 0 < rg y by omega); rw [val_zero] at this; exact this
  have hn0 : n ≠ 0 := by rintro rfl; rw [Nat.zero_mul] at hnv; omega
  have hf : double.fractionBits + 2 = 54 := rfl
  generalize hmore : 54 + n.log2 - m.log2 = more
  generalize hplace : (i : Int) - 1074 - ((j : Int) - 1074) - (more : Int) - 1 = place
  obtain ⟨r, hw, hr⟩ := nearest_spec (sgn x ^^ sgn y) (2 * ((m <<< more) / n) + ((m <<< more) % n != 0).toNat) place
  refine ⟨r, ?_, ?_⟩
  · unfold Format.div
    rw [hm, hn, hf]
    simp only [Datum.quotient, if_neg hn0, hmore, hplace, Option.map]
    rw [← double_word]; exact congrArg some hw
  · rw [Nat.shiftLeft_eq] at hr
    by_cases hm0 : m = 0
    · subst hm0
      rw [Nat.zero_mul] at hmv
      rw [← hmv, Nat.zero_mul]
      have e : (2 * (0 * 2 ^ more / n) + (0 * 2 ^ more % n != 0).toNat) * 2 ^ (place + 1074).toNat = 0 := by simp
      rw [e] at hr
      rw [hr.unique (Nat.two_pow_pos _) near_zero]
      exact near_zero
    · generalize hD : m * 2 ^ more = D at hr
      have hpos : 0 < n := by omega
      have hDn : 2 ^ 53 ≤ D / n := by
        rw [Nat.le_div_iff_mul_le hpos]
        have h1 : 2 ^ m.log2 ≤ m := Nat.log2_self_le hm0
        have h2 : n < 2 ^ (n.log2 + 1) := Nat.lt_log2_self
        have h3 : 2 ^ m.log2 * 2 ^ more ≤ D := by rw [← hD]; exact Nat.mul_le_mul_right _ h1
        rw [← Nat.pow_add] at h3
        have h4 : 2 ^ 53 * n ≤ 2 ^ 53 * 2 ^ (n.log2 + 1) := Nat.mul_le_mul_left _ (by omega)
        rw [← Nat.pow_add] at h4
        have h5 : 2 ^ (53 + (n.log2 + 1)) ≤ 2 ^ (m.log2 + more) := Nat.pow_le_pow_right (by decide) (by omega)
        omega
      have e1 := Nat.div_add_mod D n
      have e2 := Nat.mod_lt D hpos
      rw [Nat.mul_comm] at e1
      have hs := sticky_div (D := D) (n := n) (w := D / n) (st := (D % n != 0).toNat) (place := place) (r := r) hpos hDn rfl rfl (by omega) (by rw [Nat.add_mul]; omega) (by
        by_cases hz : D % n = 0
        · rw [if_pos (by omega), hz]; rfl
        · rw [if_neg (by omega)]
          have : (D % n != 0) = true := by simpa using hz
          rw [this]; rfl) hr
      refine hs.cross (Nat.mul_pos hpos (Nat.two_pow_pos _)) hvy ?_
      rw [← hmv, ← hnv, ← hD]
      generalize ha : (place + 1075).toNat = a
      generalize hb : (-(place + 1075)).toNat = b
      have hK := K74_eq
      generalize K74 = K at *
      have e : more + a + j = i + K + b := by omega
      have l : m * 2 ^ more * 2 ^ a * (n * 2 ^ j) = m * n * 2 ^ (more + a + j) := by
        rw [Nat.pow_add, Nat.pow_add]; simp only [Nat.mul_assoc, Nat.mul_comm, Nat.mul_left_comm]
      have l2 : m * 2 ^ i * 2 ^ K * (n * 2 ^ b) = m * n * 2 ^ (i + K + b) := by
        rw [Nat.pow_add, Nat.pow_add]; simp only [Nat.mul_assoc, Nat.mul_comm, Nat.mul_left_comm]
      rw [l, l2, e]

/-! ### roots -/
/-- Rung r is the nearest one to the root of num / den. -/
def NearSq (num den r : Nat) : Prop :=
  r ≤ inf ∧ (r < inf → 4 * num ≤ mid r * mid r * den ∧ (r % 2 = 1 → 4 * num < mid r * mid r * den)) ∧
  (0 < r → mid (r - 1) * mid (r - 1) * den ≤ 4 * num ∧ (r % 2 = 1 → mid (r - 1) * mid (r - 1) * den < 4 * num))

theorem rootFrom_spec (n : Nat) : ∀ todo root : Nat, root * root ≤ n → n < (root + 2 ^ todo) * (root + 2 ^ todo) →
    Datum.rootFrom n todo root * Datum.rootFrom n todo root ≤ n ∧ n < (Datum.rootFrom n todo root + 1) * (Datum.rootFrom n todo root + 1)
  | 0, root, h1, h2 => ⟨h1, h2⟩
  | todo + 1, root, h1, h2 => by
    unfold Datum.rootFrom
    simp only [Nat.one_shiftLeft]
    split
    · next h => exact rootFrom_spec n todo _ h (by rw [Nat.add_assoc, ← Nat.two_mul, ← Nat.pow_succ']; exact h2)
    · next h => exact rootFrom_spec n todo _ h1 (by omega)

theorem sticky_root {n w st r a b : Nat} {place : Int} (hw : 2 ^ 53 ≤ w) (ha : a = (place + 1075).toNat) (hb : b = (-(place + 1075)).toNat)
    (hD : w * w ≤ n) (hD2 : n < (w + 1) * (w + 1)) (hst : st = (if n = w * w then 0 else 1))
    (h : Near ((2 * w + st) * 2 ^ (place + 1074).toNat) (2 ^ (-(place + 1074)).toNat) r) : NearSq (n * (2 ^ a * 2 ^ a)) (2 ^ b * 2 ^ b) r := by
  have hst1 : st ≤ 1 := by rw [hst]; split <;> omega
  obtain ⟨h1, h2, h3⟩ := sticky hst1 hw ha hb h
  have hA : 0 < 2 ^ a := Nat.two_pow_pos _
  have hAA : 0 < 2 ^ a * 2 ^ a := Nat.mul_pos hA hA
  have scale : ∀ {M k : Nat}, M * 2 ^ b = 2 * k * 2 ^ a → M * M * (2 ^ b * 2 ^ b) = 4 * (k * k * (2 ^ a * 2 ^ a)) := fun {M k} e => by
    rw [Nat.mul_mul_mul_comm, e]
    generalize 2 ^ a = p
    rw [Nat.mul_mul_mul_comm, Nat.mul_mul_mul_comm 2 k 2 k, Nat.mul_assoc]
  have sq : ∀ {p q : Nat}, p ≤ q → p * p ≤ q * q := fun h => Nat.mul_le_mul h h
  refine ⟨h1, fun hr => ?_, fun hr => ?_⟩
  · obtain ⟨k, e, u, v⟩ := h2 hr
    rw [scale e]
    have le : n ≤ k * k := by
      by_cases h0 : n = w * w
      · have := sq (show w ≤ k by omega); omega
      · rw [if_neg h0] at hst
        have := sq (show w + 1 ≤ k by omega); omega
    have lt : r % 2 = 1 → n < k * k := fun ho => by
      have h4 := v ho
      have := sq (show w + 1 ≤ k by omega); omega
    have le' := Nat.mul_le_mul_right (2 ^ a * 2 ^ a) le
    refine ⟨by omega, fun ho => ?_⟩
    have := Nat.mul_lt_mul_of_pos_right (lt ho) hAA
    omega
  · rcases h3 hr with ⟨k, e, u, v⟩ | hk
    · rw [scale e]
      have le : k * k ≤ n := by
        have := sq (show k ≤ w by omega); omega
      have lt : r % 2 = 1 → k * k < n := fun ho => by
        have h4 := v ho
        by_cases h0 : n = w * w
        · rw [if_pos h0] at hst
          have := sq (show k + 1 ≤ w by omega)
          rw [Nat.add_mul, Nat.mul_add] at this; omega
        · have := sq (show k ≤ w by omega); omega
      have le' := Nat.mul_le_mul_right (2 ^ a * 2 ^ a) le
      refine ⟨by omega, fun ho => ?_⟩
      have := Nat.mul_lt_mul_of_pos_right (lt ho) hAA
      omega
    · have hB : 0 < 2 ^ b := Nat.two_pow_pos _
      have h4 : mid (r - 1) * mid (r - 1) * (2 ^ b * 2 ^ b) < 2 ^ 54 * 2 ^ a * (2 ^ 54 * 2 ^ a) := by
        rw [Nat.mul_mul_mul_comm]
        exact Nat.mul_lt_mul_of_le_of_lt (Nat.le_of_lt hk) hk (Nat.mul_pos (by decide) hA)
      have h5 : 2 ^ 54 * 2 ^ a * (2 ^ 54 * 2 ^ a) ≤ 4 * (n * (2 ^ a * 2 ^ a)) := by
        have h6 := Nat.mul_le_mul_right (2 ^ a * 2 ^ a) (Nat.le_trans (sq hw) hD)
        rw [Nat.mul_mul_mul_comm, show (2 : Nat) ^ 54 * 2 ^ 54 = 4 * (2 ^ 53 * 2 ^ 53) by decide, Nat.mul_assoc]
        omega
      exact ⟨by omega, fun _ => by omega⟩
end Go.Proofs.Ythddodhcpfponaa.Flt
