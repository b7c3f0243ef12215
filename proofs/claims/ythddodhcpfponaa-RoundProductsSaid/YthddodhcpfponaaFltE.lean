import Derived.Test.YthddodhcpfponaaFltD

namespace Go.Proofs.Ythddodhcpfponaa.Flt

/-! ### rounding down -/
/-- The greatest finite rung that is not above num / den. -/
def Dn (num den r : Nat) : Prop := r < inf ∧ val r * den ≤ num ∧ (r < inf - 1 → num < val (r + 1) * den)

theorem Dn.unique {num den r s : Nat} (h : Dn num den r) (k : Dn num den s) : r = s := by
  have key : ∀ {r s : Nat}, Dn num den r → Dn num den s → ¬ r < s := by
    intro r s h k hlt
    have h1 := h.2.2 (by have := k.1; omega)
    have h2 : val (r + 1) * den ≤ val s * den := Nat.mul_le_mul_right _ (val_le hlt)
    have := k.2.1
    omega
  have := key h k
  have := key k h
  omega

/-- p times 2^s rounded down, and whether it is that. -/
def fq (P : Nat) (s : Int) : Nat := if 0 ≤ s then P * 2 ^ s.toNat else P / 2 ^ (-s).toNat
def fb (P : Nat) (s : Int) : Bool := if 0 ≤ s then true else decide (P % 2 ^ (-s).toNat = 0)

theorem fq_spec (P : Nat) (s : Int) : fq P s * 2 ^ (-s).toNat ≤ P * 2 ^ s.toNat ∧ P * 2 ^ s.toNat < (fq P s + 1) * 2 ^ (-s).toNat ∧ (fb P s = decide (fq P s * 2 ^ (-s).toNat = P * 2 ^ s.toNat)) := by
  unfold fq fb
  by_cases h : 0 ≤ s
  · rw [if_pos h, if_pos h, show (-s).toNat = 0 by omega]
    simp
  · rw [if_neg h, if_neg h, show s.toNat = 0 by omega]
    have hd := Nat.div_add_mod P (2 ^ (-s).toNat)
    have hm := Nat.mod_lt P (Nat.two_pow_pos (-s).toNat)
    generalize 2 ^ (-s).toNat = p at *
    rw [Nat.pow_zero, Nat.mul_one]
    rw [Nat.mul_comm] at hd
    refine ⟨by omega, by rw [Nat.add_mul]; omega, ?_⟩
    congr 1
    rw [eq_iff_iff]
    omega

theorem dn_fin {P : Nat} {e k : Int} {Q : Nat} (hk : -1074 ≤ k) (hk2 : k ≤ 971) (hQ : Q = fq P (e - k)) (hQ53 : Q < 2 ^ 53) (hn : k = -1074 ∨ 2 ^ 52 ≤ Q) :
    Dn (P * 2 ^ (e + 1074).toNat) (2 ^ (-(e + 1074)).toNat) ((k + 1074).toNat * 2 ^ 52 + Q) ∧
    fb P (e - k) = decide (val ((k + 1074).toNat * 2 ^ 52 + Q) * 2 ^ (-(e + 1074)).toNat = P * 2 ^ (e + 1074).toNat) := by
  obtain ⟨f1, f2, f3⟩ := fq_spec P (e - k)
  rw [← hQ] at f1 f2 f3
  generalize hE : (k + 1074).toNat = E
  generalize ha : (e - k).toNat = a at *
  generalize hb : (-(e - k)).toNat = b at *
  generalize hu : (e + 1074).toNat = u
  generalize hv : (-(e + 1074)).toNat = v
  have hexp : u + b = a + E + v := by omega
  have hscale : P * 2 ^ u * 2 ^ b = P * 2 ^ a * (2 ^ E * 2 ^ v) := by
    rw [Nat.mul_assoc, ← Nat.pow_add, hexp, Nat.mul_assoc, ← Nat.pow_add, ← Nat.pow_add, Nat.add_assoc]
  have hB : 0 < 2 ^ b := Nat.two_pow_pos _
  have hEV : 0 < 2 ^ E * 2 ^ v := Nat.mul_pos (Nat.two_pow_pos _) (Nat.two_pow_pos _)
  have hE0 : E = 0 ∨ 2 ^ 52 ≤ Q := by omega
  have v1 := val_at E Q (by omega) hE0
  have v2 := val_at E (Q + 1) (by omega) (by omega)
  have hlt : E * 2 ^ 52 + Q < inf := by rw [inf_eq]; omega
  have e1 : val (E * 2 ^ 52 + Q) * 2 ^ v * 2 ^ b = Q * 2 ^ b * (2 ^ E * 2 ^ v) := by
    rw [v1, Nat.mul_assoc Q, Nat.mul_assoc Q, Nat.mul_assoc Q, Nat.mul_comm (2 ^ E * 2 ^ v)]
  have e2 : val (E * 2 ^ 52 + Q + 1) * 2 ^ v * 2 ^ b = (Q + 1) * 2 ^ b * (2 ^ E * 2 ^ v) := by
    rw [Nat.add_assoc, v2, Nat.mul_assoc (Q + 1), Nat.mul_assoc (Q + 1), Nat.mul_assoc (Q + 1), Nat.mul_comm (2 ^ E * 2 ^ v)]
  refine ⟨⟨hlt, ?_, fun _ => ?_⟩, ?_⟩
  · apply Nat.le_of_mul_le_mul_right (c := 2 ^ b) _ hB
    rw [e1, hscale]
    exact Nat.mul_le_mul_right _ f1
  · apply Nat.lt_of_mul_lt_mul_right (a := 2 ^ b)
    rw [e2, hscale]
    exact Nat.mul_lt_mul_of_pos_right f2 hEV
  · rw [f3]
    congr 1
    rw [eq_iff_iff]
    constructor
    · intro h
      apply Nat.eq_of_mul_eq_mul_right hB
      rw [e1, hscale, h]
    · intro h
      have h2 : val (E * 2 ^ 52 + Q) * 2 ^ v * 2 ^ b = P * 2 ^ u * 2 ^ b := by rw [h]
      rw [e1, hscale] at h2
      exact Nat.eq_of_mul_eq_mul_right hEV h2

theorem dn_big {P : Nat} {e k : Int} (hk2 : 971 < k) (hn : 2 ^ 52 ≤ fq P (e - k)) :
    Dn (P * 2 ^ (e + 1074).toNat) (2 ^ (-(e + 1074)).toNat) (inf - 1) ∧ ¬ val (inf - 1) * 2 ^ (-(e + 1074)).toNat = P * 2 ^ (e + 1074).toNat := by
  obtain ⟨f1, f2, f3⟩ := fq_spec P (e - k)
  generalize fq P (e - k) = Q at *
  generalize ha : (e - k).toNat = a at *
  generalize hb : (-(e - k)).toNat = b at *
  generalize hu : (e + 1074).toNat = u
  generalize hv : (-(e + 1074)).toNat = v
  generalize hE : (k + 1074).toNat = E
  have hexp : u + b = a + E + v := by omega
  have hscale : P * 2 ^ u * 2 ^ b = P * 2 ^ a * (2 ^ E * 2 ^ v) := by
    rw [Nat.mul_assoc, ← Nat.pow_add, hexp, Nat.mul_assoc, ← Nat.pow_add, ← Nat.pow_add, Nat.add_assoc]
  have hB : 0 < 2 ^ b := Nat.two_pow_pos _
  obtain ⟨E0, hE0⟩ : ∃ E0 : Nat, E0 = 2046 := ⟨_, rfl⟩
  have hinf : val inf = 2 ^ 52 * 2 ^ E0 := by
    rw [← val_at E0 (2 ^ 52) (by omega) (Or.inr (Nat.le_refl _))]
    congr 1
    rw [inf_eq]; omega
  have hlt : val (inf - 1) < val inf := val_lt (by rw [inf_eq]; omega)
  have hge : val inf * 2 ^ v ≤ P * 2 ^ u := by
    apply Nat.le_of_mul_le_mul_right (c := 2 ^ b) _ hB
    rw [hscale, hinf]
    have h1 : 2 ^ E0 ≤ 2 ^ E := Nat.pow_le_pow_right (by decide) (by omega)
    calc 2 ^ 52 * 2 ^ E0 * 2 ^ v * 2 ^ b ≤ Q * 2 ^ E * 2 ^ v * 2 ^ b :=
          Nat.mul_le_mul_right _ (Nat.mul_le_mul_right _ (Nat.mul_le_mul hn h1))
      _ = Q * 2 ^ b * (2 ^ E * 2 ^ v) := by rw [Nat.mul_assoc Q, Nat.mul_assoc Q, Nat.mul_assoc Q, Nat.mul_comm (2 ^ E * 2 ^ v)]
      _ ≤ P * 2 ^ a * (2 ^ E * 2 ^ v) := Nat.mul_le_mul_right _ f1
  have hlt2 : val (inf - 1) * 2 ^ v < val inf * 2 ^ v := Nat.mul_lt_mul_of_pos_right hlt (Nat.two_pow_pos _)
  exact ⟨⟨by rw [inf_eq]; omega, by omega, fun h => absurd h (by omega)⟩, by omega⟩

/-- Halving what was taken with one bit more. -/
theorem fq_half (P : Nat) (s : Int) : fq P (s - 1) = fq P s / 2 ∧ fb P (s - 1) = (fb P s && fq P s % 2 == 0) := by
  obtain ⟨a1, a2, a3⟩ := fq_spec P s
  obtain ⟨b1, b2, b3⟩ := fq_spec P (s - 1)
  rw [a3, b3]
  generalize fq P s = Q at *
  generalize fq P (s - 1) = R at *
  by_cases h : 1 ≤ s
  · have e1 : s.toNat = (s - 1).toNat + 1 := by omega
    have e2 : (-s).toNat = 0 := by omega
    have e3 : (-(s - 1)).toNat = 0 := by omega
    rw [e2, e1, Nat.pow_succ, ← Nat.mul_assoc] at a1 a2 ⊢
    rw [e3] at b1 b2 ⊢
    generalize P * 2 ^ (s - 1).toNat = X at *
    simp only [Nat.pow_zero, Nat.mul_one] at a1 a2 b1 b2 ⊢
    refine ⟨by omega, ?_⟩
    have hR : R = X := by omega
    have hQ : Q = X * 2 := by omega
    subst hR hQ
    simp
  · have e1 : (-(s - 1)).toNat = (-s).toNat + 1 := by omega
    have e2 : s.toNat = 0 := by omega
    have e3 : (s - 1).toNat = 0 := by omega
    rw [e1, e3, Nat.pow_succ] at b1 b2 ⊢
    rw [e2] at a1 a2 ⊢
    generalize 2 ^ (-s).toNat = p at *
    simp only [Nat.pow_zero, Nat.mul_one] at a1 a2 b1 b2 ⊢
    have d := Nat.div_add_mod Q 2
    have dm := Nat.mod_lt Q (show 0 < 2 by decide)
    have hRQ : R = Q / 2 := by
      have c1 : R * (p * 2) = 2 * R * p := by rw [Nat.mul_comm p, ← Nat.mul_assoc, Nat.mul_comm R]
      have c2 : (R + 1) * (p * 2) = (2 * R + 2) * p := by rw [Nat.mul_comm p, ← Nat.mul_assoc]; congr 1; omega
      rw [c1] at b1
      rw [c2] at b2
      have l1 : 2 * R * p < (Q + 1) * p := Nat.lt_of_le_of_lt b1 a2
      have l2 : Q * p < (2 * R + 2) * p := Nat.lt_of_le_of_lt a1 b2
      have m1 := Nat.lt_of_mul_lt_mul_right l1
      have m2 := Nat.lt_of_mul_lt_mul_right l2
      omega
    refine ⟨hRQ, ?_⟩
    have hp : 0 < p := by
      rcases Nat.eq_zero_or_pos p with h0 | h0
      · subst h0; omega
      · exact h0
    have c1 : R * (p * 2) = 2 * R * p := by rw [Nat.mul_comm p, ← Nat.mul_assoc, Nat.mul_comm R]
    rw [c1, Bool.eq_iff_iff]
    simp only [decide_eq_true_eq, Bool.and_eq_true, beq_iff_eq]
    constructor
    · intro hh
      have : 2 * R * p ≤ Q * p := Nat.mul_le_mul_right _ (by omega)
      have h3 : Q * p = P := by omega
      refine ⟨h3, ?_⟩
      have : 2 * R * p = Q * p := by omega
      have := Nat.eq_of_mul_eq_mul_right hp this
      omega
    · intro ⟨h1, h2⟩
      have : 2 * R = Q := by omega
      rw [this]; exact h1
end Go.Proofs.Ythddodhcpfponaa.Flt
