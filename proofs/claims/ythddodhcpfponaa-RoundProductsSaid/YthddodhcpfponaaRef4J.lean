/-
  The references' floats (polestarref04): the greatest float that is not above a fraction times a power of two.
-/
import Derived.Test.YthddodhcpfponaaRef4I
import Derived.Test.YthddodhcpfponaaFltG
namespace Go.Proofs.Ythddodhcpfponaa
open Go.RowKit

/-- p / q times 2^s rounded down, and whether it is that. -/
def qq (P D : Nat) (s : Int) : Nat := P * 2 ^ s.toNat / (D * 2 ^ (-s).toNat)
def qb (P D : Nat) (s : Int) : Bool := decide (P * 2 ^ s.toNat % (D * 2 ^ (-s).toNat) = 0)

theorem qq_spec (P : Nat) {D : Nat} (hD : 0 < D) (s : Int) : qq P D s * (D * 2 ^ (-s).toNat) ≤ P * 2 ^ s.toNat ∧ P * 2 ^ s.toNat < (qq P D s + 1) * (D * 2 ^ (-s).toNat) ∧ (qb P D s = decide (qq P D s * (D * 2 ^ (-s).toNat) = P * 2 ^ s.toNat)) := by
  unfold qq qb
  have hM : 0 < D * 2 ^ (-s).toNat := Nat.mul_pos hD (Nat.two_pow_pos _)
  generalize D * 2 ^ (-s).toNat = M at *
  generalize P * 2 ^ s.toNat = N at *
  have h1 := Nat.div_add_mod N M
  have h2 := Nat.mod_lt N hM
  rw [Nat.mul_comm] at h1
  refine ⟨by omega, by rw [Nat.add_mul]; omega, ?_⟩
  rw [decide_eq_decide]
  omega

theorem half_cut {N M N' M' Q : Nat} (hM : 0 < M) (hM' : 0 < M') (he : N' * M * 2 = N * M') (h1 : Q * M ≤ N) (h2 : N < (Q + 1) * M) :
    Q / 2 * M' ≤ N' ∧ N' < (Q / 2 + 1) * M' ∧ (Q / 2 * M' = N' ↔ Q * M = N ∧ Q % 2 = 0) := by
  have hd : 0 < M * 2 := by omega
  have hQ : Q / 2 * 2 ≤ Q := by omega
  have hQ2 : Q + 1 ≤ (Q / 2 + 1) * 2 := by omega
  have key : ∀ R : Nat, R * M' * (M * 2) = R * 2 * M * M' := fun R => by
    simp only [Nat.mul_assoc, Nat.mul_comm, Nat.mul_left_comm]
  have hN : N' * (M * 2) = N * M' := by rw [← he, Nat.mul_assoc]
  have l1 : Q / 2 * 2 * M * M' ≤ N * M' := Nat.mul_le_mul_right _ (Nat.le_trans (Nat.mul_le_mul_right _ hQ) h1)
  have l2 : N * M' < (Q / 2 + 1) * 2 * M * M' := Nat.mul_lt_mul_of_pos_right (Nat.lt_of_lt_of_le h2 (Nat.mul_le_mul_right _ hQ2)) hM'
  refine ⟨?_, ?_, ?_⟩
  · apply Nat.le_of_mul_le_mul_right _ hd
    rw [key, hN]; exact l1
  · apply Nat.lt_of_mul_lt_mul_right (a := M * 2)
    rw [key, hN]; exact l2
  · constructor
    · intro h
      have e : Q / 2 * 2 * M * M' = N * M' := by rw [← key, h, hN]
      have e1 : Q / 2 * 2 * M = N := Nat.eq_of_mul_eq_mul_right hM' e
      have e2 : Q * M ≤ Q / 2 * 2 * M := by omega
      have e3 : Q ≤ Q / 2 * 2 := Nat.le_of_mul_le_mul_right e2 hM
      have e4 : Q / 2 * 2 = Q := by omega
      rw [e4] at e1
      exact ⟨e1, by omega⟩
    · rintro ⟨h, h0⟩
      have e4 : Q / 2 * 2 = Q := by omega
      apply Nat.eq_of_mul_eq_mul_right hd
      rw [key, hN, e4, h]

theorem qq_half (P : Nat) {D : Nat} (hD : 0 < D) (s : Int) : qq P D (s - 1) = qq P D s / 2 ∧ qb P D (s - 1) = (qb P D s && qq P D s % 2 == 0) := by
  obtain ⟨a1, a2, a3⟩ := qq_spec P hD s
  obtain ⟨b1, b2, b3⟩ := qq_spec P hD (s - 1)
  have hM : 0 < D * 2 ^ (-s).toNat := Nat.mul_pos hD (Nat.two_pow_pos _)
  have hM' : 0 < D * 2 ^ (-(s - 1)).toNat := Nat.mul_pos hD (Nat.two_pow_pos _)
  have he : P * 2 ^ (s - 1).toNat * (D * 2 ^ (-s).toNat) * 2 = P * 2 ^ s.toNat * (D * 2 ^ (-(s - 1)).toNat) := by
    have e : (s - 1).toNat + (-s).toNat + 1 = s.toNat + (-(s - 1)).toNat := by omega
    have e2 : 2 ^ (s - 1).toNat * 2 ^ (-s).toNat * 2 = 2 ^ s.toNat * 2 ^ (-(s - 1)).toNat := by
      rw [← Nat.pow_add, ← Nat.pow_succ]
      show 2 ^ ((s - 1).toNat + (-s).toNat + 1) = _
      rw [e, Nat.pow_add]
    rw [Nat.mul_mul_mul_comm P _ D, Nat.mul_mul_mul_comm P _ D, Nat.mul_assoc (P * D), e2]
  obtain ⟨c1, c2, c3⟩ := half_cut hM hM' he a1 a2
  have hq : qq P D (s - 1) = qq P D s / 2 := by
    have h1 : qq P D (s - 1) < qq P D s / 2 + 1 := Nat.lt_of_mul_lt_mul_right (Nat.lt_of_le_of_lt b1 c2)
    have h2 : qq P D s / 2 < qq P D (s - 1) + 1 := Nat.lt_of_mul_lt_mul_right (Nat.lt_of_le_of_lt c1 b2)
    omega
  refine ⟨hq, ?_⟩
  rw [b3, hq, a3, decide_eq_decide.2 c3, Bool.decide_and]
  congr 1

/-- The floats of such a quotient. -/
theorem qq_dn (P : Nat) {D E : Nat} {e k : Int} (hD : 0 < D) (hk : -1074 ≤ k) (hE : E = (k + 1074).toNat) :
    (k ≤ 971 → qq P D (e - k) < 2 ^ 53 → (k = -1074 ∨ 2 ^ 52 ≤ qq P D (e - k)) → Flt.Dn (P * 2 ^ (e + 1074).toNat) (D * 2 ^ (-(e + 1074)).toNat) (E * 2 ^ 52 + qq P D (e - k)) ∧
      qb P D (e - k) = decide (Flt.val (E * 2 ^ 52 + qq P D (e - k)) * (D * 2 ^ (-(e + 1074)).toNat) = P * 2 ^ (e + 1074).toNat)) ∧
    (971 < k → 2 ^ 52 ≤ qq P D (e - k) → Flt.Dn (P * 2 ^ (e + 1074).toNat) (D * 2 ^ (-(e + 1074)).toNat) (Flt.inf - 1) ∧ ¬ Flt.val (Flt.inf - 1) * (D * 2 ^ (-(e + 1074)).toNat) = P * 2 ^ (e + 1074).toNat) := by
  obtain ⟨a1, a2, a3⟩ := qq_spec P hD (e - k)
  rw [show -(e - k) = k - e by omega] at a1 a2 a3
  obtain ⟨d1, d2⟩ := Flt.cut_dn (p := P) (q := D) (e := e) (k := k) hD rfl rfl rfl rfl hE hk a1 a2
  refine ⟨fun h1 h2 h3 => ?_, fun h1 h2 => ?_⟩
  · obtain ⟨r1, r2⟩ := d1 h1 h2 h3
    exact ⟨r1, by rw [a3, decide_eq_decide]; exact r2.symm⟩
  · obtain ⟨r1, r2⟩ := d2 h1 h2
    exact ⟨r1, by omega⟩

/-- How many bits are taken. -/
theorem qq_bits {P D L M : Nat} (hP : P ≠ 0) (hD : D ≠ 0) (hL : L = bitLen P) (hM : M = bitLen D) : 2 ^ 52 ≤ qq P D (53 + M - L) ∧ qq P D (53 + M - L) < 2 ^ 54 := by
  have p1 : L = P.log2 + 1 := by rw [hL]; unfold bitLen; rw [if_neg hP]
  have p2 := Nat.log2_self_le hP
  have p3 : P < 2 ^ (P.log2 + 1) := Nat.lt_log2_self
  have d1 : M = D.log2 + 1 := by rw [hM]; unfold bitLen; rw [if_neg hD]
  have d2 := Nat.log2_self_le hD
  have d3 : D < 2 ^ (D.log2 + 1) := Nat.lt_log2_self
  obtain ⟨f1, f2, _⟩ := qq_spec P (Nat.pos_of_ne_zero hD) (53 + M - L)
  generalize qq P D (53 + M - L) = Q at *
  generalize P.log2 = l at *
  generalize D.log2 = m at *
  generalize ha : (53 + (M : Int) - L).toNat = a at *
  generalize hb : (-(53 + (M : Int) - L)).toNat = b at *
  have e1 : l + a = 53 + m + b := by omega
  have g1 : 2 ^ 53 * (2 ^ m * 2 ^ b) ≤ P * 2 ^ a := by
    have := Nat.mul_le_mul_right (2 ^ a) p2
    rw [← Nat.pow_add, e1, Nat.pow_add, Nat.pow_add, Nat.mul_assoc] at this
    exact this
  have g2 : P * 2 ^ a < 2 ^ 54 * (2 ^ m * 2 ^ b) := by
    have := Nat.mul_lt_mul_of_pos_right p3 (Nat.two_pow_pos a)
    rw [← Nat.pow_add, show l + 1 + a = 54 + m + b by omega, Nat.pow_add, Nat.pow_add, Nat.mul_assoc] at this
    exact this
  have g3 : 2 ^ m * 2 ^ b ≤ D * 2 ^ b := Nat.mul_le_mul_right _ d2
  have g4 : D * 2 ^ b < 2 * (2 ^ m * 2 ^ b) := by
    have := Nat.mul_lt_mul_of_pos_right d3 (Nat.two_pow_pos b)
    rw [Nat.pow_succ', Nat.mul_assoc] at this
    exact this
  have hX : 0 < 2 ^ m * 2 ^ b := Nat.mul_pos (Nat.two_pow_pos _) (Nat.two_pow_pos _)
  generalize 2 ^ m * 2 ^ b = X at *
  generalize D * 2 ^ b = Y at *
  generalize P * 2 ^ a = N at *
  constructor
  · rcases Nat.lt_or_ge Q (2 ^ 52) with h | h
    · have h5 : (Q + 1) * Y ≤ 2 ^ 52 * Y := Nat.mul_le_mul_right _ h
      omega
    · exact h
  · rcases Nat.lt_or_ge Q (2 ^ 54) with h | h
    · exact h
    · have h5 : 2 ^ 54 * X ≤ Q * Y := Nat.mul_le_mul h g3
      omega
theorem qq_low {P D L M : Nat} (hP : P ≠ 0) (hD : D ≠ 0) (hL : L = bitLen P) (hM : M = bitLen D) {s : Int} (hs : s ≤ 52 + M - L) : qq P D s < 2 ^ 53 := by
  have p1 : L = P.log2 + 1 := by rw [hL]; unfold bitLen; rw [if_neg hP]
  have p3 : P < 2 ^ (P.log2 + 1) := Nat.lt_log2_self
  have d1 : M = D.log2 + 1 := by rw [hM]; unfold bitLen; rw [if_neg hD]
  have d2 := Nat.log2_self_le hD
  obtain ⟨f1, _, _⟩ := qq_spec P (Nat.pos_of_ne_zero hD) s
  generalize qq P D s = Q at *
  generalize P.log2 = l at *
  generalize D.log2 = m at *
  generalize ha : s.toNat = a at *
  generalize hb : (-s).toNat = b at *
  have g2 : P * 2 ^ a < 2 ^ 53 * (2 ^ m * 2 ^ b) := by
    have h1 := Nat.mul_lt_mul_of_pos_right p3 (Nat.two_pow_pos a)
    rw [← Nat.pow_add] at h1
    have h2 : 2 ^ (l + 1 + a) ≤ 2 ^ 53 * (2 ^ m * 2 ^ b) := by
      rw [← Nat.pow_add 2 m, ← Nat.pow_add]
      exact Nat.pow_le_pow_right (by decide) (by omega)
    exact Nat.lt_of_lt_of_le h1 h2
  have g3 : 2 ^ m * 2 ^ b ≤ D * 2 ^ b := Nat.mul_le_mul_right _ d2
  rcases Nat.lt_or_ge Q (2 ^ 53) with h | h
  · exact h
  · have h5 : 2 ^ 53 * (2 ^ m * 2 ^ b) ≤ Q * (D * 2 ^ b) := Nat.mul_le_mul h g3
    omega

theorem ref_quot_of (negq : Bool) (A Aq : Option Addr) (n c nq cq P D : Nat) (s : Int) (w : World) (hp : IsInt w false A n c (P : Int)) (hq : IsInt w negq Aq nq cq (D : Int)) (hn : n ≤ 10000000) (hnq : nq ≤ 100000) (hs : -1000000 ≤ s ∧ s ≤ 1000000) (hD : D ≠ 0) (hD1 : D ≠ 1)
    (Q : Nat) (b : Bool) (hQ : Hid (Q = qq P D s)) (hb : Hid (b = qb P D s)) (hQb : Q ≤ 9223372036854775807) :
    Calls Try.prog 90 #[.agg #[.bool false, .slice A n c], .agg #[.bool negq, .slice Aq nq cq], .int .i64 s] w (RetV w (.tuple #[.int .u64 Q, .bool b])) := by
  have h1 := hQ.out
  have h2 := hb.out
  unfold qq at h1
  unfold qb at h2
  rcases Int.lt_or_le s 0 with h | h
  · obtain ⟨k, hk⟩ : ∃ k : Nat, s = -(k : Int) := ⟨(-s).toNat, by omega⟩
    subst hk
    rw [show (-(k : Int)).toNat = 0 by omega, show (-(-(k : Int))).toNat = k by omega, Nat.pow_zero, Nat.mul_one] at h1 h2
    exact ref_quot_neg negq A Aq n c nq cq k P D Q b w hp hq hn hnq (by omega) (by omega) hD hD1 (Lib.hid h1) hQb (Lib.hid h2)
  · obtain ⟨k, rfl⟩ := Int.eq_ofNat_of_zero_le h
    rw [show ((k : Int)).toNat = k by omega, show (-(k : Int)).toNat = 0 by omega, Nat.pow_zero, Nat.mul_one] at h1 h2
    exact ref_quot_pos negq A Aq n c nq cq k P D Q b w hp hq hn (by omega) (by omega) hD (Lib.hid h1) hQb (Lib.hid h2)
end Go.Proofs.Ythddodhcpfponaa
