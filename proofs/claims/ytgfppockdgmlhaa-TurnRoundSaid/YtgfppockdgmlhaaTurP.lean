/-
  TurnRound: turns more or less, mirrored, turned by a quarter.
-/
import Derived.Test.YtgfppockdgmlhaaTurA
namespace Go.Proofs.Ytgfppockdgmlhaa
open Go.RowKit

/-! ### worths -/
def svP (z : Nat × Nat) : Int × Int := (Flt.sv z.1, Flt.sv z.2)
def tuV (v : Int × Int) : Nat → Int × Int
  | 0 => v
  | k + 1 => (-(tuV v k).2, (tuV v k).1)
def swV (m : Bool) (v : Int × Int) : Int × Int := if m then (v.2, v.1) else v
theorem sv_turnF (z : Nat × Nat) : ∀ k, svP (turnF z k) = tuV (svP z) k
  | 0 => rfl
  | k + 1 => by
    have h := sv_turnF z k
    unfold tuV
    rw [← h]
    show (Flt.sv (Flt.opp (turnF z k).2), Flt.sv (turnF z k).1) = _
    rw [Flt.sv_opp]
    rfl
def baV (r : Nat) : Int × Int := svP (zF r 14).1
/-- What a number at a place is worth. -/
def plV (j : Nat) : Int × Int := tuV (swV (mirF j) (baV (leftF j))) (j / 16384)
theorem uF_worth (j : Nat) : svP (uF j) = plV j := by
  unfold uF unitF laidF plV baV
  have h := sv_turnF (swF (mirF j) (zF (leftF j) 14).1) (j / 16384)
  show (Flt.sv (pz _), Flt.sv (pz _)) = _
  rw [sv_pz, sv_pz]
  show svP (turnF (swF (mirF j) (zF (leftF j) 14).1) (j / 16384)) = _
  rw [h]
  congr 1
  unfold swF swV
  split <;> rfl
theorem zF_half : ∀ j, j ≤ 13 → zF 8192 (j + 1) = ((cT 1, sT 1), false)
  | 0, _ => by
    have h : (8192 : Nat).testBit (13 - 0) = true := by decide
    rw [zF, h]
    rfl
  | j + 1, hj => by
    have h : (8192 : Nat).testBit (13 - (j + 1)) = false := by
      rw [show (8192 : Nat) = 2 ^ 13 from rfl, Nat.testBit_two_pow]
      exact decide_eq_false (by omega)
    rw [zF, h]
    exact zF_half j (by omega)
theorem baV_half : (baV 8192).1 = (baV 8192).2 := by
  unfold baV
  rw [zF_half 13 (Nat.le_refl _)]
  rfl
theorem zF_none : ∀ j, zF 0 j = ((one, 0), true)
  | 0 => rfl
  | j + 1 => by
    rw [zF, Nat.zero_testBit]
    exact zF_none j
theorem baV_none : (baV 0).2 = 0 := by
  unfold baV
  rw [zF_none]
  exact sv_zero
/-- The worth within the first quarter. -/
def quV (r : Nat) : Int × Int := if 8192 < r then ((baV (16384 - r)).2, (baV (16384 - r)).1) else baV r
theorem plV_eq (j : Nat) : plV j = tuV (quV (j % 16384)) (j / 16384) := by
  unfold plV quV mirF leftF swV
  by_cases h : 8192 < j % 16384
  · rw [if_pos h, if_pos h, decide_eq_true h, if_pos rfl]
  · rw [if_neg h, if_neg h, decide_eq_false h, if_neg (by simp)]
theorem quV_swap {r : Nat} (h0 : 0 < r) (h1 : r < 16384) : quV (16384 - r) = ((quV r).2, (quV r).1) := by
  unfold quV
  rcases Nat.lt_trichotomy r 8192 with h | h | h
  · rw [if_pos (by omega), if_neg (by omega), show 16384 - (16384 - r) = r by omega]
  · rw [if_neg (by omega), if_neg (by omega), show 16384 - r = r by omega]
    have e : (baV r).1 = (baV r).2 := by rw [h]; exact baV_half
    exact Prod.ext e e.symm
  · rw [if_neg (by omega), if_pos h]
theorem four {q : Nat} (h : q < 4) : q = 0 ∨ q = 1 ∨ q = 2 ∨ q = 3 := by omega
theorem tuV_vals (v : Int × Int) : tuV v 0 = v ∧ tuV v 1 = (-v.2, v.1) ∧ tuV v 2 = (-v.1, -v.2) ∧ tuV v 3 = (v.2, -v.1) := by
  refine ⟨rfl, rfl, rfl, ?_⟩
  show (- -v.2, -v.1) = _
  rw [Int.neg_neg]
/-- The other way round: mirrored. -/
theorem plV_mirror {j : Nat} (hj : j < 65536) : plV ((65536 - j) % 65536) = ((plV j).1, -(plV j).2) := by
  rw [plV_eq, plV_eq]
  obtain ⟨q, hq⟩ : ∃ q, j / 16384 = q := ⟨_, rfl⟩
  obtain ⟨r, hr⟩ : ∃ r, j % 16384 = r := ⟨_, rfl⟩
  have hq4 : q < 4 := by omega
  have hr4 : r < 16384 := by omega
  have hjq : j = q * 16384 + r := by omega
  rw [hq, hr]
  by_cases h0 : r = 0
  · have y0 : (quV 0).2 = 0 := by unfold quV; rw [if_neg (by omega)]; exact baV_none
    have e1 : (65536 - j) % 65536 % 16384 = 0 := by omega
    have e2 : (65536 - j) % 65536 / 16384 = (4 - q) % 4 := by omega
    rw [e1, e2, h0]
    obtain ⟨t0, t1, t2, t3⟩ := tuV_vals (quV 0)
    rcases four hq4 with rfl | rfl | rfl | rfl
    · rw [show (4 - 0) % 4 = 0 from rfl, t0]; exact Prod.ext rfl (by show (quV 0).2 = -(quV 0).2; omega)
    · rw [show (4 - 1) % 4 = 3 from rfl, t1, t3]; exact Prod.ext (by show (quV 0).2 = -(quV 0).2; omega) rfl
    · rw [show (4 - 2) % 4 = 2 from rfl, t2]; exact Prod.ext rfl (by show -(quV 0).2 = - -(quV 0).2; omega)
    · rw [show (4 - 3) % 4 = 1 from rfl, t1, t3]; exact Prod.ext (by show -(quV 0).2 = (quV 0).2; omega) (by show (quV 0).1 = - -(quV 0).1; omega)
  · have e1 : (65536 - j) % 65536 % 16384 = 16384 - r := by omega
    have e2 : (65536 - j) % 65536 / 16384 = 3 - q := by omega
    rw [e1, e2, quV_swap (by omega) hr4]
    obtain ⟨t0, t1, t2, t3⟩ := tuV_vals (quV r)
    obtain ⟨u0, u1, u2, u3⟩ := tuV_vals ((quV r).2, (quV r).1)
    rcases four hq4 with rfl | rfl | rfl | rfl
    · rw [show 3 - 0 = 3 from rfl, t0, u3]
    · rw [show 3 - 1 = 2 from rfl, t1, u2]
    · rw [show 3 - 2 = 1 from rfl, t2, u1]; exact Prod.ext rfl (by show (quV r).2 = - -(quV r).2; omega)
    · rw [show 3 - 3 = 0 from rfl, t3, u0]; exact Prod.ext rfl (by show (quV r).1 = - -(quV r).1; omega)
/-- A quarter more. -/
theorem plV_quarter {j : Nat} (hj : j < 65536) : plV ((j + 16384) % 65536) = (-(plV j).2, (plV j).1) := by
  rw [plV_eq, plV_eq]
  obtain ⟨q, hq⟩ : ∃ q, j / 16384 = q := ⟨_, rfl⟩
  obtain ⟨r, hr⟩ : ∃ r, j % 16384 = r := ⟨_, rfl⟩
  have hq4 : q < 4 := by omega
  have hjq : j = q * 16384 + r := by omega
  have e1 : (j + 16384) % 65536 % 16384 = r := by omega
  have e2 : (j + 16384) % 65536 / 16384 = (q + 1) % 4 := by omega
  rw [hq, hr, e1, e2]
  obtain ⟨t0, t1, t2, t3⟩ := tuV_vals (quV r)
  rcases four hq4 with rfl | rfl | rfl | rfl
  · rw [show (0 + 1) % 4 = 1 from rfl, t0, t1]
  · rw [show (1 + 1) % 4 = 2 from rfl, t1, t2]
  · rw [show (2 + 1) % 4 = 3 from rfl, t2, t3]; exact Prod.ext (by show (quV r).2 = - -(quV r).2; omega) rfl
  · rw [show (3 + 1) % 4 = 0 from rfl, t3, t0]; exact Prod.ext (by show (quV r).1 = - -(quV r).1; omega) rfl

/-! ### places -/
theorem emod_same {a b : Int} {n : Nat} (h : a % ((2 ^ n : Nat) : Int) = b % ((2 ^ n : Nat) : Int)) : jF a n = jF b n := by unfold jF; rw [h]
theorem jF_rem (k : Int) (n : Nat) : jF (k.tmod ((2 ^ n : Nat) : Int)) n = jF k n := by
  apply emod_same
  have h := Int.tmod_add_mul_tdiv k ((2 ^ n : Nat) : Int)
  have e : k.tmod ((2 ^ n : Nat) : Int) = k + ((2 ^ n : Nat) : Int) * (-(k.tdiv ((2 ^ n : Nat) : Int))) := by rw [Int.mul_neg]; omega
  rw [e, Int.add_mul_emod_self_left]
theorem jF_more (k : Int) (n : Nat) : jF (k + ((2 ^ n : Nat) : Int)) n = jF k n := emod_same (by rw [Int.add_emod_right])
theorem jF_less (k : Int) (n : Nat) : jF (k - ((2 ^ n : Nat) : Int)) n = jF k n := emod_same (by rw [Int.sub_emod_right])
theorem jF_finer (k : Int) {n : Nat} (hn : n < 16) : jF (2 * k) (n + 1) = jF k n := by
  have h0 : 0 < (2 : Nat) ^ n := Nat.two_pow_pos _
  have p1 : 0 ≤ k % ((2 ^ n : Nat) : Int) := Int.emod_nonneg _ (by omega)
  unfold jF
  have e1 : ((2 ^ (n + 1) : Nat) : Int) = 2 * ((2 ^ n : Nat) : Int) := by rw [Nat.pow_succ, Int.natCast_mul]; omega
  have e2 : (2 : Nat) ^ (16 - n) = 2 * 2 ^ (16 - (n + 1)) := by rw [show 16 - n = (16 - (n + 1)) + 1 by omega, Nat.pow_succ]; omega
  rw [e1, Int.mul_emod_mul_of_pos _ _ (by decide), e2, ← Nat.mul_assoc]
  congr 1
  omega
theorem jF_mirror (k : Int) {n : Nat} (hn : n ≤ 16) : jF (-k) n = (65536 - jF k n) % 65536 := by
  have h0 : 0 < (2 : Nat) ^ n := Nat.two_pow_pos _
  have p1 : 0 ≤ k % ((2 ^ n : Nat) : Int) := Int.emod_nonneg _ (by omega)
  have p2 : k % ((2 ^ n : Nat) : Int) < ((2 ^ n : Nat) : Int) := Int.emod_lt_of_pos _ (by omega)
  have h2 : (2 : Nat) ^ n * 2 ^ (16 - n) = 65536 := by rw [← Nat.pow_add, show n + (16 - n) = 16 by omega]
  obtain ⟨m, hm⟩ : ∃ m : Nat, k % ((2 ^ n : Nat) : Int) = (m : Int) := ⟨(k % ((2 ^ n : Nat) : Int)).toNat, by omega⟩
  obtain ⟨N, hN⟩ : ∃ N, (2 : Nat) ^ n = N := ⟨_, rfl⟩
  obtain ⟨M, hM⟩ : ∃ M, (2 : Nat) ^ (16 - n) = M := ⟨_, rfl⟩
  have hk := Int.emod_add_mul_ediv k ((2 ^ n : Nat) : Int)
  unfold jF
  rw [hN] at p2 h2 hm hk h0 ⊢
  rw [hM] at h2 ⊢
  rw [hm] at p2 hk ⊢
  by_cases hm0 : m = 0
  · have e : -k = (N : Int) * (-(k / (N : Int))) := by rw [Int.mul_neg]; omega
    have e' : (-k) % (N : Int) = 0 := by rw [e, Int.mul_emod_right]
    rw [e', hm0]
    simp
  · have e : -k = ((N - m : Nat) : Int) + (N : Int) * (-(k / (N : Int)) - 1) := by rw [Int.mul_sub, Int.mul_neg]; omega
    have e' : (-k) % (N : Int) = ((N - m : Nat) : Int) := by
      rw [e, Int.add_mul_emod_self_left]
      exact Int.emod_eq_of_lt (by omega) (by omega)
    rw [e']
    show (N - m) * M = (65536 - m * M) % 65536
    rw [Nat.sub_mul, h2]
    have hM0 : 0 < M := by rw [← hM]; exact Nat.two_pow_pos _
    have : 0 < m * M := Nat.mul_pos (by omega) hM0
    omega
theorem jF_quarter (k : Int) {n : Nat} (hn : n ≤ 16) (h2 : 2 ≤ n) : jF (k + ((2 ^ n / 4 : Nat) : Int)) n = (jF k n + 16384) % 65536 := by
  have h0 : 0 < (2 : Nat) ^ n := Nat.two_pow_pos _
  have p1 : 0 ≤ k % ((2 ^ n : Nat) : Int) := Int.emod_nonneg _ (by omega)
  have p2 : k % ((2 ^ n : Nat) : Int) < ((2 ^ n : Nat) : Int) := Int.emod_lt_of_pos _ (by omega)
  have h3 : (2 : Nat) ^ n * 2 ^ (16 - n) = 65536 := by rw [← Nat.pow_add, show n + (16 - n) = 16 by omega]
  have h4 : (2 : Nat) ^ n = 4 * 2 ^ (n - 2) := by
    obtain ⟨p, hp⟩ : ∃ p, n = p + 2 := ⟨n - 2, by omega⟩
    rw [hp, Nat.pow_add, show p + 2 - 2 = p by omega]
    omega
  obtain ⟨m, hm⟩ : ∃ m : Nat, k % ((2 ^ n : Nat) : Int) = (m : Int) := ⟨(k % ((2 ^ n : Nat) : Int)).toNat, by omega⟩
  obtain ⟨Q, hQ⟩ : ∃ Q, (2 : Nat) ^ (n - 2) = Q := ⟨_, rfl⟩
  obtain ⟨M, hM⟩ : ∃ M, (2 : Nat) ^ (16 - n) = M := ⟨_, rfl⟩
  have hk := Int.emod_add_mul_ediv k ((2 ^ n : Nat) : Int)
  unfold jF
  rw [hQ] at h4
  rw [h4] at p2 h3 hm hk h0 ⊢
  rw [hM] at h3 ⊢
  rw [hm] at p2 hk ⊢
  have hQM : Q * M = 16384 := by rw [Nat.mul_assoc] at h3; omega
  rw [show 4 * Q / 4 = Q by omega]
  by_cases hc : m + Q < 4 * Q
  · have e : k + (Q : Int) = ((m + Q : Nat) : Int) + ((4 * Q : Nat) : Int) * (k / ((4 * Q : Nat) : Int)) := by omega
    have e' : (k + (Q : Int)) % ((4 * Q : Nat) : Int) = ((m + Q : Nat) : Int) := by
      rw [e, Int.add_mul_emod_self_left]
      exact Int.emod_eq_of_lt (by omega) (by omega)
    rw [e']
    show (m + Q) * M = (m * M + 16384) % 65536
    have hle : (m + Q) * M < 4 * Q * M := Nat.mul_lt_mul_of_pos_right hc (by rw [← hM]; exact Nat.two_pow_pos _)
    rw [h3, Nat.add_mul, hQM] at hle
    rw [Nat.add_mul, hQM]
    omega
  · have e : k + (Q : Int) = ((m + Q - 4 * Q : Nat) : Int) + ((4 * Q : Nat) : Int) * (k / ((4 * Q : Nat) : Int) + 1) := by rw [Int.mul_add]; omega
    have e' : (k + (Q : Int)) % ((4 * Q : Nat) : Int) = ((m + Q - 4 * Q : Nat) : Int) := by
      rw [e, Int.add_mul_emod_self_left]
      exact Int.emod_eq_of_lt (by omega) (by omega)
    rw [e']
    show (m + Q - 4 * Q) * M = (m * M + 16384) % 65536
    rw [Nat.sub_mul, Nat.add_mul, hQM, h3]
    have hlt : m * M < 4 * Q * M := Nat.mul_lt_mul_of_pos_right (by omega) (by rw [← hM]; exact Nat.two_pow_pos _)
    have hge : 4 * Q * M ≤ (m + Q) * M := Nat.mul_le_mul_right _ (by omega)
    rw [h3] at hlt hge
    rw [Nat.add_mul, hQM] at hge
    omega
end Go.Proofs.Ytgfppockdgmlhaa
