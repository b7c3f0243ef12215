import Derived.Test.YthddodhcpfponaaFltA

namespace Go.Proofs.Ythddodhcpfponaa.Flt
open Ieee

def sgn (x : Nat) : Bool := x / 2 ^ 63 % 2 == 1
def rg (x : Nat) : Nat := x % 2 ^ 63
def Fin (x : Nat) : Prop := rg x < inf
def Nan (x : Nat) : Prop := inf < rg x
/-- The worth of a finite float, counted in the least float above nought. -/
def sv (x : Nat) : Int := if sgn x then -(val (rg x) : Int) else (val (rg x) : Int)
def word (neg : Bool) (r : Nat) : Nat := if neg then 2 ^ 63 + r else r

theorem double_word (neg : Bool) (r : Nat) : double.word neg r = word neg r := by
  unfold Format.word word; rw [signWeight_double]

theorem rg_word (neg : Bool) (r : Nat) (h : r < 2 ^ 63) : rg (word neg r) = r := by
  unfold rg word; cases neg <;> simp <;> omega
theorem sgn_word (neg : Bool) (r : Nat) (h : r < 2 ^ 63) : sgn (word neg r) = neg := by
  unfold sgn word
  cases neg
  · have : r / 2 ^ 63 % 2 = 0 := by omega
    simp [this]
  · have : (2 ^ 63 + r) / 2 ^ 63 % 2 = 1 := by omega
    simp only [if_true, this]; rfl
theorem word_eq (x : Nat) (h : x < 2 ^ 64) : word (sgn x) (rg x) = x := by
  unfold word sgn rg
  by_cases hx : x / 2 ^ 63 % 2 = 1
  · simp only [hx, beq_self_eq_true, if_true]; omega
  · have : (x / 2 ^ 63 % 2 == 1) = false := by simpa using hx
    simp only [this]; simp; omega

theorem inf_lt : inf < 2 ^ 63 := by rw [inf_eq]; decide
theorem near_lt {num den r : Nat} (h : Near num den r) : r < 2 ^ 63 := Nat.lt_of_le_of_lt h.1 inf_lt

/-- What a word is read as. -/
theorem read_fin {x : Nat} (h : Fin x) : ∃ m : Nat, ∃ p : Nat, double.read x = .number (sgn x) m ((p : Int) - 1074) ∧ m * 2 ^ p = val (rg x) := by
  unfold Format.read
  simp only [signWeight_double, binade_double, infRung_double, leastPlace_double]
  unfold Fin rg at h
  unfold rg
  generalize hr : x % 2 ^ 63 = r at *
  by_cases h1 : r < 2 ^ 52
  · rw [if_pos h1]
    refine ⟨r, 0, rfl, ?_⟩
    unfold val
    rw [if_pos h1, show r / 2 ^ 52 - 1 = 0 by omega]
  · rw [if_neg h1, if_pos h]
    refine ⟨2 ^ 52 + r % 2 ^ 52, r / 2 ^ 52 - 1, ?_, ?_⟩
    · rfl
    · unfold val
      rw [if_neg h1]
theorem read_inf {x : Nat} (h : rg x = inf) : double.read x = .infinity (sgn x) := by
  unfold Format.read
  simp only [signWeight_double, binade_double, infRung_double]
  unfold rg at h
  rw [h, if_neg (by rw [inf_eq]; decide), if_neg (Nat.lt_irrefl _), if_pos rfl]
  rfl
theorem read_nan {x : Nat} (h : Nan x) : ∃ f, double.read x = .nan (sgn x) f := by
  unfold Format.read
  simp only [signWeight_double, binade_double, infRung_double]
  unfold Nan rg at h
  rw [if_neg (by rw [inf_eq] at h; omega), if_neg (by omega), if_neg (by omega)]
  exact ⟨_, rfl⟩

theorem signed_scale (s : Bool) (m a : Nat) : signed s m a = (if s then -((m * 2 ^ a : Nat) : Int) else ((m * 2 ^ a : Nat) : Int)) := by
  unfold signed; rw [Nat.shiftLeft_eq]

def Add (x y z : Nat) : Prop :=
  ∃ r, z = word (if sv x + sv y = 0 then sgn x && sgn y else decide (sv x + sv y < 0)) r ∧ Near (sv x + sv y).natAbs 1 r

theorem sum_num (s t : Bool) (m n i j : Nat) : ∃ (tot : Int) (base : Nat),
    Datum.sum (.number s m ((i : Int) - 1074)) (.number t n ((j : Int) - 1074)) =
      some (.number (if tot = 0 then s && t else decide (tot < 0)) tot.natAbs ((base : Int) - 1074)) ∧
    tot * (2 ^ base : Nat) = (if s then -((m * 2 ^ i : Nat) : Int) else ((m * 2 ^ i : Nat) : Int)) + (if t then -((n * 2 ^ j : Nat) : Int) else ((n * 2 ^ j : Nat) : Int)) := by
  have e0 : min ((i : Int) - 1074) ((j : Int) - 1074) = ((min i j : Nat) : Int) - 1074 := by omega
  have e1 : ((i : Int) - 1074 - (((min i j : Nat) : Int) - 1074)).toNat = i - min i j := by omega
  have e2 : ((j : Int) - 1074 - (((min i j : Nat) : Int) - 1074)).toNat = j - min i j := by omega
  refine ⟨signed s m (i - min i j) + signed t n (j - min i j), min i j, ?_, ?_⟩
  · unfold Datum.sum
    simp only [e0, e1, e2]
  · simp only [signed_scale]
    have h1 : m * 2 ^ i = m * 2 ^ (i - min i j) * 2 ^ (min i j) := by rw [Nat.mul_assoc, ← Nat.pow_add]; congr 2; omega
    have h2 : n * 2 ^ j = n * 2 ^ (j - min i j) * 2 ^ (min i j) := by rw [Nat.mul_assoc, ← Nat.pow_add]; congr 2; omega
    rw [h1, h2]
    generalize 2 ^ (min i j) = p
    generalize m * 2 ^ (i - min i j) = u
    generalize n * 2 ^ (j - min i j) = v
    rw [Int.add_mul]
    congr 1
    · split <;> simp [Int.neg_mul]
    · split <;> simp [Int.neg_mul]

theorem write_number (neg : Bool) (mag base : Nat) : ∃ r, double.write (.number neg mag ((base : Int) - 1074)) = word neg r ∧ Near (mag * 2 ^ base) 1 r := by
  obtain ⟨r, h1, h2⟩ := nearest_spec neg mag ((base : Int) - 1074)
  refine ⟨r, by rw [← double_word]; exact h1, ?_⟩
  rw [show ((base : Int) - 1074 + 1074).toNat = base by omega, show (-((base : Int) - 1074 + 1074)).toNat = 0 by omega] at h2
  exact h2

theorem add_fin {x y : Nat} (hx : Fin x) (hy : Fin y) : ∃ z, double.add x y = some z ∧ Add x y z := by
  obtain ⟨m, i, hm, hmv⟩ := read_fin hx
  obtain ⟨n, j, hn, hnv⟩ := read_fin hy
  obtain ⟨tot, base, hs, ht⟩ := sum_num (sgn x) (sgn y) m n i j
  obtain ⟨r, hw, hr⟩ := write_number (if tot = 0 then sgn x && sgn y else decide (tot < 0)) tot.natAbs base
  have hS : sv x + sv y = tot * (2 ^ base : Nat) := by rw [ht, hmv, hnv]; rfl
  have hp : (0 : Int) < ((2 ^ base : Nat) : Int) := by have := Nat.two_pow_pos base; omega
  have z0 : tot = 0 ↔ sv x + sv y = 0 := by
    rw [hS]; constructor
    · intro h; rw [h, Int.zero_mul]
    · intro h; rcases Int.mul_eq_zero.1 h with h | h <;> omega
  have zl : tot < 0 ↔ sv x + sv y < 0 := by
    rw [hS]; constructor
    · intro h; exact Int.mul_neg_of_neg_of_pos h hp
    · intro h
      rcases Int.lt_or_le tot 0 with h' | h'
      · exact h'
      · have := Int.mul_nonneg h' (Int.le_of_lt hp); omega
  refine ⟨_, by unfold Format.add; rw [hm, hn, hs]; rfl, r, ?_, ?_⟩
  · rw [hw]
    by_cases h0 : tot = 0
    · rw [if_pos h0, if_pos (z0.1 h0)]
    · rw [if_neg h0, if_neg (fun h => h0 (z0.2 h))]
      by_cases hl : tot < 0
      · rw [decide_eq_true hl, decide_eq_true (zl.1 hl)]
      · rw [decide_eq_false hl, decide_eq_false (fun h => hl (zl.2 h))]
  · rw [hS, Int.natAbs_mul, Int.natAbs_natCast]; exact hr
end Go.Proofs.Ythddodhcpfponaa.Flt
