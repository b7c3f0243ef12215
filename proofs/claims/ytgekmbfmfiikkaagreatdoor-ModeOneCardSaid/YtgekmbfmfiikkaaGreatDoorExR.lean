/-
  The quotient of limbs by limbs, plainly (Knuth's way): the divisor shifted, the window, the guess, adding back, shifting down.
  The quotient of limbs by limbs: what is left of a round, plainly; limbs added (bits.Add32); a row cut short.
  The program's whole numbers (package exact): limbs by limbs (divide).
-/
import Derived.Test.YtgekmbfmfiikkaaGreatDoorExG
import Derived.WalkMore
import Derived.Deep.LoopGhost
import Derived.Deep.CutBlock
import Derived.Deep.CutRange
set_option maxRecDepth 100000
namespace Go.Proofs.YtgekmbfmfiikkaaGreatDoor
open Go.RowKit
theorem B_eq : Lm.B = 4294967296 := rfl
theorem Bpow_pos (k : Nat) : 0 < Lm.B ^ k := Nat.pow_pos (by decide)
theorem lv_last {l : List Nat} {m : Nat} (h : l.length = m + 1) : Lm.lv l = Lm.lv (l.take m) + Lm.B ^ m * l[m] := by
 have h1 := Lm.lv_take_succ l m (by omega)
 rw [Lm.lv_take_ge l (m + 1) (by omega)] at h1
 exact h1
theorem lv_take_lt {l : List Nat} (h : Lm.ok l) {k : Nat} (hk : k ≤ l.length) : Lm.lv (l.take k) < Lm.B ^ k := by
 have := Lm.lv_lt (Lm.ok_take h k)
 rwa [List.length_take, Nat.min_eq_left hk] at this
theorem norm_top {d D : List Nat} {m s : Nat} (hd : Lm.ok d) (hD : Lm.ok D) (hm : d.length = m + 1) (hDl : D.length = m + 2) (h1 : 2 ^ 31 ≤ d[m] * 2 ^ s) (h2 : (d[m] + 1) * 2 ^ s ≤ 2 ^ 32)
  (hv : Lm.lv D = Lm.lv d * 2 ^ s) : Lm.lv (D.take (m + 1)) = Lm.lv d * 2 ^ s ∧ 2147483648 ≤ D[m] ∧ Lm.lv d * 2 ^ s < Lm.B ^ (m + 1) ∧ 2147483648 * Lm.B ^ m ≤ Lm.lv d * 2 ^ s := by
 have e1 := lv_last hm
 have l1 := lv_take_lt hd (k := m) (by omega)
 have hM := Bpow_pos m
 have hS : 0 < 2 ^ s := Nat.two_pow_pos s
 have u1 : Lm.lv d * 2 ^ s < Lm.B ^ (m + 1) := by
  have a1 : Lm.lv d + 1 ≤ Lm.B ^ m * (d[m] + 1) := by rw [Nat.mul_add, Nat.mul_one]; omega
  have a2 : (Lm.lv d + 1) * 2 ^ s ≤ Lm.B ^ m * (d[m] + 1) * 2 ^ s := Nat.mul_le_mul_right _ a1
  have a3 : Lm.B ^ m * ((d[m] + 1) * 2 ^ s) ≤ Lm.B ^ m * 2 ^ 32 := Nat.mul_le_mul_left _ h2
  have a4 : Lm.B ^ (m + 1) = Lm.B ^ m * 2 ^ 32 := by rw [Nat.pow_succ]
  rw [Nat.mul_assoc] at a2
  rw [Nat.add_mul, Nat.one_mul] at a2
  omega
 have u2 : 2147483648 * Lm.B ^ m ≤ Lm.lv d * 2 ^ s := by
  have a1 : Lm.B ^ m * d[m] ≤ Lm.lv d := by omega
  have a2 : Lm.B ^ m * d[m] * 2 ^ s ≤ Lm.lv d * 2 ^ s := Nat.mul_le_mul_right _ a1
  have a3 : Lm.B ^ m * 2 ^ 31 ≤ Lm.B ^ m * (d[m] * 2 ^ s) := Nat.mul_le_mul_left _ h1
  rw [← Nat.mul_assoc] at a3
  have a4 : Lm.B ^ m * 2 ^ 31 = 2147483648 * Lm.B ^ m := by rw [Nat.mul_comm]
  omega
 have e2 := lv_last (l := D) (m := m + 1) hDl
 have z : D[m + 1] = 0 := by
  rcases Nat.eq_zero_or_pos (D[m + 1]) with h | h
  ·exact h
  ·exfalso
   have : Lm.B ^ (m + 1) * 1 ≤ Lm.B ^ (m + 1) * D[m + 1] := Nat.mul_le_mul_left _ h
   omega
 rw [z, Nat.mul_zero, Nat.add_zero] at e2
 have e3 : Lm.lv (D.take (m + 1)) = Lm.lv (D.take m) + Lm.B ^ m * D[m] := Lm.lv_take_succ D m (by omega)
 have l3 := lv_take_lt hD (k := m) (by omega)
 refine ⟨by omega, ?_, u1, u2⟩
 rcases Nat.lt_or_ge D[m] 2147483648 with h | h
 ·exfalso
  have a1 : Lm.B ^ m * (D[m] + 1) ≤ Lm.B ^ m * 2147483648 := Nat.mul_le_mul_left _ h
  rw [Nat.mul_add, Nat.mul_one, Nat.mul_comm _ 2147483648] at a1
  omega
 ·exact h
theorem first_low {a L : List Nat} {n m s Dv : Nat} (ha : Lm.ok a) (hn : a.length = n) (hL : L.length = n + 1) (hs : s ≤ 31) (hm : m ≤ n) (hv : Lm.lv L = Lm.lv a * 2 ^ s) (hD : 2147483648 * Lm.B ^ m ≤ Dv) :
  Lm.lv (L.drop (n - m)) < Dv := by
 have h1 := Lm.lv_take_drop L (n - m) (by omega)
 have h2 := Lm.lv_lt ha
 rw [hn] at h2
 have hS : 2 ^ s ≤ 2147483648 := by
  have : 2 ^ s ≤ 2 ^ 31 := Nat.pow_le_pow_right (by decide) hs
  exact this
 have h3 : Lm.lv a * 2 ^ s < Lm.B ^ n * 2147483648 := by
  have a1 : Lm.lv a * 2 ^ s ≤ Lm.lv a * 2147483648 := Nat.mul_le_mul_left _ hS
  have a2 : Lm.lv a * 2147483648 < Lm.B ^ n * 2147483648 := Nat.mul_lt_mul_of_pos_right h2 (by decide)
  omega
 have h4 : Lm.B ^ n = Lm.B ^ (n - m) * Lm.B ^ m := by rw [← Nat.pow_add, show n - m + m = n by omega]
 have h5 : Lm.B ^ (n - m) * Lm.lv (L.drop (n - m)) < Lm.B ^ (n - m) * (Lm.B ^ m * 2147483648) := by
  rw [← Nat.mul_assoc, ← h4]
  omega
 have h6 := Nat.lt_of_mul_lt_mul_left h5
 rw [Nat.mul_comm] at h6
 omega
theorem drop_zero {l : List Nat} {k : Nat} (h : Lm.lv l < Lm.B ^ k) (hk : k ≤ l.length) : Lm.lv (l.drop k) = 0 := by
 have h1 := Lm.lv_take_drop l k hk
 rcases Nat.eq_zero_or_pos (Lm.lv (l.drop k)) with h2 | h2
 ·exact h2
 ·exfalso
  have : Lm.B ^ k * 1 ≤ Lm.B ^ k * Lm.lv (l.drop k) := Nat.mul_le_mul_left _ h2
  omega
theorem window_all {L : List Nat} {i m : Nat} (hi : i + m + 2 ≤ L.length) (hR : Lm.lv (L.drop (i + 1)) < Lm.B ^ (m + 1)) :
  Lm.lv ((L.drop i).take (m + 2)) = Lm.lv (L.drop i) ∧ Lm.lv (L.drop i) = L[i] + Lm.B * Lm.lv (L.drop (i + 1)) ∧ Lm.lv (L.drop (i + m + 2)) = 0 := by
 have z : Lm.lv (L.drop (i + m + 2)) = 0 := by
  have := drop_zero hR (by rw [List.length_drop]; omega)
  rw [List.drop_drop, show i + 1 + (m + 1) = i + m + 2 by omega] at this
  exact this
 refine ⟨?_, Lm.lv_drop L (by omega), z⟩
 have h1 := Lm.lv_take_drop (L.drop i) (m + 2) (by rw [List.length_drop]; omega)
 rw [List.drop_drop, show i + (m + 2) = i + m + 2 by omega, z, Nat.mul_zero, Nat.add_zero] at h1
 exact h1.symm
theorem window_top {L : List Nat} {i m : Nat} (hok : Lm.ok L) (hi : i + m + 3 ≤ L.length) :
  ∃ P0, P0 < Lm.B ^ m ∧ Lm.lv ((L.drop i).take (m + 3)) = ((L[i + m + 2] * Lm.B + L[i + m + 1]) * Lm.B + L[i + m]) * Lm.B ^ m + P0 := by
 have hl : (L.drop i).length = L.length - i := List.length_drop
 have e1 := Lm.lv_take_succ (L.drop i) m (by omega)
 have e2 := Lm.lv_take_succ (L.drop i) (m + 1) (by omega)
 have e3 := Lm.lv_take_succ (L.drop i) (m + 2) (by omega)
 simp only [List.getElem_drop] at e1 e2 e3
 refine ⟨Lm.lv ((L.drop i).take m), lv_take_lt (Lm.ok_drop hok i) (by omega), ?_⟩
 have x2 : L[i + (m + 2)] = L[i + m + 2] := rfl
 have x1 : L[i + (m + 1)] = L[i + m + 1] := rfl
 rw [e3, e2, e1, x1, x2, show Lm.B ^ (m + 2) = Lm.B ^ m * Lm.B * Lm.B by rw [Nat.pow_succ, Nat.pow_succ], show Lm.B ^ (m + 1) = Lm.B ^ m * Lm.B by rw [Nat.pow_succ]]
 clear e1 e2 e3 x1 x2
 generalize Lm.B ^ m = M
 generalize L[i + m + 2] = x
 generalize L[i + m + 1] = y
 generalize L[i + m] = z
 generalize Lm.lv ((L.drop i).take m) = P
 generalize Lm.B = B
 grind
theorem div_top {D : List Nat} {m : Nat} (hok : Lm.ok D) (hm : D.length = m + 2) : ∃ D0, D0 < Lm.B ^ m ∧ Lm.lv D = (D[m + 1] * Lm.B + D[m]) * Lm.B ^ m + D0 := by
 have e1 := Lm.lv_take_succ D m (by omega)
 have e2 := lv_last (l := D) (m := m + 1) hm
 refine ⟨Lm.lv (D.take m), lv_take_lt hok (by omega), ?_⟩
 rw [e2, e1, Nat.pow_succ]
 generalize Lm.B ^ m = M
 generalize D[m + 1] = x
 generalize D[m] = y
 generalize Lm.lv (D.take m) = P
 generalize Lm.B = B
 grind
/-! ### the guess -/
theorem mul3 (X Y K : Nat) (h : X ≤ Y) : X * K ≤ Y * K := Nat.mul_le_mul_right K h
def Guess (qt head top g r : Nat) : Prop := r + g * top = head ∧ qt ≤ g
theorem guess_first {P Dv head top p2 d2 K P0 D0 : Nat} (hD : Dv = (top * 4294967296 + d2) * K + D0) (hP : P = (head * 4294967296 + p2) * K + P0) (hP0 : P0 < K) (hp2 : p2 < 4294967296) (ht : 0 < top) :
  Guess (P / Dv) head top (head / top) (head % top) := by
 refine ⟨by rw [Nat.mul_comm]; exact Nat.mod_add_div head top, ?_⟩
 have h1 : P / Dv * Dv ≤ P := Nat.div_mul_le_self _ _
 have h2 : P / Dv * top ≤ head := by
  refine guess_low (D := Dv) (P := P) (K := 4294967296 * K) (D0 := d2 * K + D0) (P0 := p2 * K + P0) h1 ?_ ?_ ?_
  ·rw [hD, Nat.add_mul, Nat.mul_assoc, Nat.add_assoc]
  ·rw [hP, Nat.add_mul, Nat.mul_assoc, Nat.add_assoc]
  ·have : (p2 + 1) * K ≤ 4294967296 * K := Nat.mul_le_mul_right _ hp2
   rw [Nat.add_mul, Nat.one_mul] at this
   omega
 exact (Nat.le_div_iff_mul_le ht).2 h2
theorem guess_less {P Dv head top p2 d2 K P0 D0 g r : Nat} (hD : Dv = (top * 4294967296 + d2) * K + D0) (hP : P = (head * 4294967296 + p2) * K + P0) (hP0 : P0 < K) (hq : P / Dv < 4294967296)
  (h : Guess (P / Dv) head top g r) (ht : 4294967296 ≤ g ∨ r * 4294967296 + p2 < g * d2) : 1 ≤ g ∧ Guess (P / Dv) head top (g - 1) (r + top) := by
 obtain ⟨h1, h2⟩ := h
 have hlt : P / Dv < g := by
  rcases ht with h3 | h3
  ·exact Nat.lt_of_lt_of_le hq h3
  ·rcases Nat.lt_or_ge (P / Dv) g with h4 | h4
   ·exact h4
   ·exfalso
    have e : P / Dv = g := Nat.le_antisymm h2 h4
    have h5 : g * Dv ≤ P := by rw [← e]; exact Nat.div_mul_le_self _ _
    have h6 := guess_low h5 hD hP hP0
    rw [Nat.mul_add, ← Nat.mul_assoc] at h6
    have h7 : head * 4294967296 = r * 4294967296 + g * top * 4294967296 := by rw [← h1, Nat.add_mul]
    omega
 have hg1 : 1 ≤ g := Nat.lt_of_le_of_lt (Nat.zero_le _) hlt
 refine ⟨hg1, ?_, Nat.le_sub_one_of_lt hlt⟩
 clear hlt h2 hq
 obtain ⟨k, rfl⟩ : ∃ k, g = k + 1 := ⟨g - 1, by omega⟩
 rw [Nat.add_sub_cancel]
 rw [Nat.add_mul, Nat.one_mul] at h1
 omega
theorem guess_end {P Dv head top p2 d2 K P0 D0 g r : Nat} (hD : Dv = (top * 4294967296 + d2) * K + D0) (hD0 : D0 < K) (hP : P = (head * 4294967296 + p2) * K + P0) (ht : 0 < top) (hh : head < (top + 1) * 4294967296) (hd2 : d2 < 4294967296)
  (h : Guess (P / Dv) head top g r) (hx : (g < 4294967296 ∧ g * d2 ≤ r * 4294967296 + p2) ∨ 4294967296 ≤ r) : g < 4294967296 ∧ P / Dv ≤ g ∧ g ≤ P / Dv + 1 := by
 obtain ⟨h1, h2⟩ := h
 have hg : g < 4294967296 := by
  rcases hx with h3 | h3
  ·exact h3.1
  ·obtain ⟨T, hT⟩ : ∃ T, top * 4294967296 = T := ⟨_, rfl⟩
   rw [Nat.add_mul, Nat.one_mul, hT] at hh
   have h4 : g * top < 4294967296 * top := by
    rw [Nat.mul_comm 4294967296 top, hT]
    omega
   exact Nat.lt_of_mul_lt_mul_right h4
 have h3 : g * d2 ≤ r * 4294967296 + p2 := by
  rcases hx with h3 | h3
  ·exact h3.2
  ·have a1 : g * d2 ≤ 4294967296 * d2 := mul3 _ _ _ (Nat.le_of_lt hg)
   have a2 : 4294967296 * 4294967296 ≤ r * 4294967296 := mul3 _ _ _ h3
   have a4 : 4294967296 * d2 ≤ 4294967296 * 4294967296 := by omega
   omega
 have h4 : g * (top * 4294967296 + d2) ≤ head * 4294967296 + p2 := by
  rw [Nat.mul_add, ← Nat.mul_assoc, ← h1, Nat.add_mul]
  omega
 have hDK : g * K ≤ Dv := by
  have a1 : g * K ≤ 4294967296 * K := mul3 _ _ _ (Nat.le_of_lt hg)
  have a2 : 4294967296 ≤ top * 4294967296 := by omega
  have a0 : 4294967296 ≤ top * 4294967296 + d2 := Nat.le_trans a2 (Nat.le_add_right _ _)
  have a3 : 4294967296 * K ≤ (top * 4294967296 + d2) * K := mul3 _ _ _ a0
  omega
 have h5 := guess_high h4 hD hD0 hP hDK
 refine ⟨hg, h2, ?_⟩
 have hDv : 0 < Dv := by
  rcases Nat.eq_zero_or_pos Dv with h6 | h6
  ·exfalso
   have hK : 0 < K := by omega
   have a0 : 1 ≤ top * 4294967296 + d2 := Nat.le_trans (Nat.le_trans ht (Nat.le_mul_of_pos_right _ (by decide))) (Nat.le_add_right _ _)
   have : 1 * K ≤ (top * 4294967296 + d2) * K := mul3 _ _ _ a0
   omega
  ·exact h6
 rcases Nat.lt_or_ge (P / Dv + 1) g with h6 | h6
 ·exfalso
  have h7 : (P / Dv + 1 + 1) * Dv ≤ g * Dv := Nat.mul_le_mul_right _ h6
  have h8 := Nat.lt_div_mul_add hDv (a := P)
  rw [Nat.add_mul, Nat.add_mul, Nat.one_mul] at h7
  omega
 ·exact h6
end Go.Proofs.YtgekmbfmfiikkaaGreatDoor
namespace Go.Proofs.YtgekmbfmfiikkaaGreatDoor
open Go.RowKit
theorem round_facts' (B : Nat) {P Dv head top p0 d2 K P0 D0 : Nat} (hP : P = (head * B + p0) * K + P0) (hD : Dv = (top * B + d2) * K + D0) (hD0 : D0 < K) (hd2 : d2 < B) (h : P < B * Dv) :
  P / Dv < B ∧ head < (top + 1) * B := by
 refine ⟨Nat.div_lt_of_lt_mul (by rw [Nat.mul_comm]; exact h), ?_⟩
 rcases Nat.lt_or_ge head ((top + 1) * B) with h1 | h1
 ·exact h1
 ·exfalso
  have a1 : (top + 1) * B * (B * K) ≤ head * (B * K) := mul3 _ _ _ h1
  have a2 : head * (B * K) ≤ P := by
   rw [hP, Nat.add_mul, ← Nat.mul_assoc]
   generalize head * B * K = x
   generalize p0 * K = y
   omega
  have a3 : top * B + d2 + 1 ≤ (top + 1) * B := by
   rw [Nat.add_mul, Nat.one_mul]
   generalize top * B = x
   omega
  have a4 : (top * B + d2 + 1) * K ≤ (top + 1) * B * K := mul3 _ _ _ a3
  have a5 : Dv < (top * B + d2 + 1) * K := by
   rw [Nat.add_mul (top * B + d2), Nat.one_mul, hD]
   generalize (top * B + d2) * K = x
   omega
  have hB : 0 < B := by omega
  have a6 : B * Dv < B * ((top + 1) * B * K) := Nat.mul_lt_mul_of_pos_left (Nat.lt_of_lt_of_le a5 a4) hB
  have a7 : B * ((top + 1) * B * K) = (top + 1) * B * (B * K) := Nat.mul_left_comm ..
  rw [a7] at a6
  exact absurd (Nat.lt_of_lt_of_le h (Nat.le_of_lt a6)) (Nat.not_lt.2 (Nat.le_trans a1 a2))
theorem round_facts {P Dv head top p0 d2 K P0 D0 : Nat} (hP : P = (head * 4294967296 + p0) * K + P0) (hD : Dv = (top * 4294967296 + d2) * K + D0) (hD0 : D0 < K) (hd2 : d2 < 4294967296) (h : P < 4294967296 * Dv) :
  P / Dv < 4294967296 ∧ head < (top + 1) * 4294967296 := round_facts' _ hP hD hD0 hd2 h
theorem less_end {P Dv g W M t1 : Nat} {t : Bool} (ht : t1 = if t then 1 else 0) (h : W + g * Dv = P + M * t1) (hW : W < M) (h1 : P / Dv ≤ g) (h2 : g ≤ P / Dv + 1) (hD : 0 < Dv) :
  (t = false → g = P / Dv ∧ W = P % Dv) ∧ (t = true → g = P / Dv + 1 ∧ W + Dv = M + P % Dv) := by
 have hdm := Nat.div_add_mod P Dv
 have hml := Nat.mod_lt P hD
 obtain ⟨q, hq⟩ : ∃ q, P / Dv = q := ⟨_, rfl⟩
 obtain ⟨r, hr⟩ : ∃ r, P % Dv = r := ⟨_, rfl⟩
 rw [hq] at hdm h1 h2 ⊢
 rw [hr] at hdm hml ⊢
 rw [Nat.mul_comm] at hdm
 subst ht
 cases t
 ·refine ⟨fun _ => ?_, fun h => absurd h (by decide)⟩
  rw [if_neg (by decide), Nat.mul_zero, Nat.add_zero] at h
  have e : g = q := by
   rcases Nat.lt_or_ge q g with h3 | h3
   ·exfalso
    have h4 : (q + 1) * Dv ≤ g * Dv := Nat.mul_le_mul_right _ h3
    rw [Nat.add_mul, Nat.one_mul] at h4
    omega
   ·omega
  subst e
  exact ⟨rfl, by omega⟩
 ·refine ⟨fun h => absurd h (by decide), fun _ => ?_⟩
  rw [if_pos rfl, Nat.mul_one] at h
  have e : g = q + 1 := by
   rcases Nat.lt_or_ge q g with h3 | h3
   ·omega
   ·exfalso
    have h4 : g * Dv ≤ q * Dv := Nat.mul_le_mul_right _ h3
    omega
  subst e
  rw [Nat.add_mul, Nat.one_mul] at h
  exact ⟨rfl, by omega⟩
theorem row_add {out L D : List Nat} {i k c c' x v y : Nat} (hio : i + k < out.length) (hl : out.length = L.length) (hkD : k < D.length) (h1 : out.drop (i + k) = L.drop (i + k)) (h2 : out.take i = L.take i)
  (h3 : Lm.lv ((out.drop i).take k) + Lm.B ^ k * c = Lm.lv ((L.drop i).take k) + Lm.lv (D.take k)) (hx : out[i + k] = x) (hv : D[k] = v) (hy : y + 4294967296 * c' = x + v + c) :
  (out.set (i + k) y).drop (i + (k + 1)) = L.drop (i + (k + 1)) ∧ (out.set (i + k) y).take i = L.take i ∧
  Lm.lv (((out.set (i + k) y).drop i).take (k + 1)) + Lm.B ^ (k + 1) * c' = Lm.lv ((L.drop i).take (k + 1)) + Lm.lv (D.take (k + 1)) := by
 have hLx : (L.drop i)[k]'(by rw [List.length_drop]; omega) = x := by
  have e := congrArg (fun t : List Nat => t[0]?) h1
  simp only [List.getElem?_drop, Nat.add_zero] at e
  rw [List.getElem?_eq_getElem hio, List.getElem?_eq_getElem (by omega)] at e
  injection e with e
  rw [List.getElem_drop, ← e, hx]
 refine ⟨?_, ?_, ?_⟩
 ·rw [List.drop_set, if_pos (by omega), ← Nat.add_assoc, ← List.drop_drop, h1, List.drop_drop]
 ·rw [List.take_set_of_le (by omega), h2]
 ·have e0 : (out.set (i + k) y).drop i = (out.drop i).set k y := by
   rw [List.drop_set, if_neg (by omega), show i + k - i = k by omega]
  have hkl : k < (out.drop i).length := by rw [List.length_drop]; omega
  have e1 := Lm.lv_take_succ ((out.drop i).set k y) k (by rw [List.length_set]; exact hkl)
  rw [List.take_set_of_le (Nat.le_refl _), List.getElem_set_self] at e1
  have e2 := Lm.lv_take_succ (L.drop i) k (by rw [List.length_drop]; omega)
  rw [hLx] at e2
  have e3 := Lm.lv_take_succ D k hkD
  rw [hv] at e3
  rw [e0, e1, e2, e3, Nat.pow_succ]
  have hB : Lm.B = 4294967296 := rfl
  generalize Lm.B ^ k = M at *
  have e4 : M * y + M * (4294967296 * c') = M * x + M * v + M * c := by rw [← Nat.mul_add, hy, Nat.mul_add, Nat.mul_add]
  have e6 : M * Lm.B * c' = M * (4294967296 * c') := by rw [hB, Nat.mul_assoc]
  rw [e6]
  omega
theorem down_limb {x Y P : Nat} {s : Nat} (hs : s < 32) (hP : P = 2 ^ s) : ((Y % 4294967296) * 4294967296 + x) / P % 4294967296 + 4294967296 * (Y / P) = (x + 4294967296 * Y) / P ∨ 4294967296 ≤ x := by
 rcases Nat.lt_or_ge x 4294967296 with hx | hx
 ·left
  have hpp : P * 2 ^ (32 - s) = 4294967296 := by rw [hP, ← Nat.pow_add, show s + (32 - s) = 32 by omega]
  obtain ⟨Z, hZ⟩ : ∃ Z, 2 ^ (32 - s) = Z := ⟨_, rfl⟩
  rw [hZ] at hpp
  have hP0 : 0 < P := by rw [hP]; exact Nat.two_pow_pos s
  have hZ0 : 0 < Z := by rw [← hZ]; exact Nat.two_pow_pos _
  have hY := Nat.div_add_mod Y 4294967296
  obtain ⟨h, hh⟩ : ∃ h, Y % 4294967296 = h := ⟨_, rfl⟩
  obtain ⟨u, hu⟩ : ∃ u, Y / 4294967296 = u := ⟨_, rfl⟩
  have hhl : h < 4294967296 := by rw [← hh]; exact Nat.mod_lt _ (by decide)
  rw [hh, hu] at hY
  rw [hh]
  clear hh hu hZ
  -- everything by the power
  have e1 : Y / P = Z * u + h / P := by
   rw [← hY, ← hpp, Nat.mul_assoc, Nat.mul_add_div hP0]
  have e2 : (x + 4294967296 * Y) / P = (h * 4294967296 + x) / P + 4294967296 * (Z * u) := by
   have : x + 4294967296 * Y = P * (4294967296 * (Z * u)) + (h * 4294967296 + x) := by
    rw [← hY]
    have : P * (4294967296 * (Z * u)) = 4294967296 * (4294967296 * u) := by
     rw [show P * (4294967296 * (Z * u)) = 4294967296 * (P * Z * u) by grind, hpp]
    rw [this]
    omega
   rw [this, Nat.mul_add_div hP0]
   omega
  have e3 : (h * 4294967296 + x) / P / 4294967296 = h / P := by
   rw [Nat.div_div_eq_div_mul, Nat.mul_comm P, ← Nat.div_div_eq_div_mul]
   congr 1
   omega
  have e4 := Nat.div_add_mod ((h * 4294967296 + x) / P) 4294967296
  rw [e3] at e4
  rw [e1, e2, Nat.mul_add]
  omega
 ·right; exact hx
theorem own_cut {w : World} {base g n c m : Nat} {l : List Nat} (h : w.ownsRow base 164 1 (.slice (some ⟨g, 0, none⟩) n c) n (u32s l)) (hm : m ≤ n) (hl : l.length = n) : w.ownsRow base 164 1 (.slice (some ⟨g, 0, none⟩) m c) m (u32s (l.take m)) := by
 refine ⟨by rw [u32s_len, List.length_take, hl]; omega, ?_⟩
 rcases h.2 with ⟨e, _⟩ | ⟨g', cap, cur, e, h1, h2, h3, h4, h5, h6⟩
 ·cases e
 ·injection e with e1 _ e3
  injection e1 with e1
  injection e1 with e1
  subst e1 e3
  refine .inr ⟨g, c, cur, rfl, h1, h2, by omega, h4, h5, ?_⟩
  have h7 := congrArg (List.take m) h6
  rw [List.take_take] at h7
  rw [show min m (n * 1) = m by omega] at h7
  rw [Nat.mul_one, h7]
  unfold u32s
  rw [List.map_take]
theorem add32_any (x y c : Nat) (hx : x < 4294967296) (hy : y < 4294967296) (hc : c ≤ 1) (w : World) :
  Calls Tryz.prog 339 #[.int .u32 (x : Int), .int .u32 (y : Int), .int .u32 (c : Int)] w
   fun e w' => e = .returned (.tuple #[.int .u32 (((x + y + c) % 4294967296 : Nat) : Int), .int .u32 (((x + y + c) / 4294967296 : Nat) : Int)]) ∧ w = w' := by
 have e1 : ((x : Int) + (y : Int) + (c : Int)) % 4294967296 = (((x + y + c) % 4294967296 : Nat) : Int) := by omega
 have e2 : ((x : Int) + (y : Int) + (c : Int)) / 4294967296 = (((x + y + c) / 4294967296 : Nat) : Int) := by omega
 have E1 := Lib.hid e1
 have E2 := Lib.hid e2
 clear e1 e2
 go_enter Tryz.func339, Tryz.ntmps339
 go_wp2_with fail
 go_ret2
 exact ⟨by show Ending.returned (.tuple #[.int .u32 (((x : Int) + (y : Int) + (c : Int)) % 4294967296), .int .u32 (((x : Int) + (y : Int) + (c : Int)) / 4294967296)]) = _; rw [E1.out, E2.out], rfl⟩
theorem lz32_of (x L : Nat) (w : World) (h : x < 4294967296) (hL : Hid (bitLen x = L)) : Calls Tryz.prog 337 #[.int .u32 (x : Int)] w fun e w' => e = .returned (.int .i64 (32 - (L : Int))) ∧ w = w' := by
 have c := Tryz.bits_LeadingZeros32 (x : Int) w (by omega) (by omega)
 rw [Int.toNat_natCast, lib_bitLen (by omega), hL.out] at c
 exact c.mono fun _ _ ⟨h1, h2⟩ => ⟨h1, h2.symm⟩
theorem top_shift {x : Nat} (h0 : x ≠ 0) (h : x < 4294967296) : 1 ≤ bitLen x ∧ bitLen x ≤ 32 ∧ 2 ^ 31 ≤ x * 2 ^ (32 - bitLen x) ∧ (x + 1) * 2 ^ (32 - bitLen x) ≤ 2 ^ 32 := by
 have h1 : bitLen x = Nat.log2 x + 1 := by unfold bitLen; rw [if_neg h0]
 have h2 := bitLen_32 h
 have h3 : 2 ^ Nat.log2 x ≤ x := Nat.log2_self_le h0
 have h4 : x < 2 ^ (Nat.log2 x + 1) := Nat.lt_log2_self
 rw [h1] at h2 ⊢
 refine ⟨by omega, h2, ?_, ?_⟩
 ·have a1 : 2 ^ Nat.log2 x * 2 ^ (32 - (Nat.log2 x + 1)) ≤ x * 2 ^ (32 - (Nat.log2 x + 1)) := Nat.mul_le_mul_right _ h3
  rw [← Nat.pow_add, show Nat.log2 x + (32 - (Nat.log2 x + 1)) = 31 by omega] at a1
  exact a1
 ·have a1 : (x + 1) * 2 ^ (32 - (Nat.log2 x + 1)) ≤ 2 ^ (Nat.log2 x + 1) * 2 ^ (32 - (Nat.log2 x + 1)) := Nat.mul_le_mul_right _ h4
  rw [← Nat.pow_add, show Nat.log2 x + 1 + (32 - (Nat.log2 x + 1)) = 32 by omega] at a1
  exact a1
end Go.Proofs.YtgekmbfmfiikkaaGreatDoor
namespace Go.Proofs.YtgekmbfmfiikkaaGreatDoor
open Go.RowKit
theorem own_low {w : World} {base base' : Nat} {e : TypeId} {v : Value} {n : Nat} {xs : List Value} (h : w.ownsRow base e 1 v n xs) (hb : base' ≤ base) : w.ownsRow base' e 1 v n xs := by
 refine ⟨h.1, ?_⟩
 rcases h.2 with hn | ⟨g, cap, cur, hv, hg, rest⟩
 ·exact .inl hn
 ·exact .inr ⟨g, cap, cur, hv, Nat.le_trans hb hg, rest⟩
theorem sl_cell {w : World} {g n c : Nat} {l : List Nat} (h : Sl w (some ⟨g, 0, none⟩) n c l) {k : Nat} (hk : k < l.length) : w.cell? ⟨g, k, none⟩ = some (.int .u32 (l[k] : Nat)) ∧ l[k] < 4294967296 := by
 obtain ⟨ad, e, _, hl, hc, hb⟩ := h.at_ (k := k) (by rw [← h.len]; exact hk)
 injection e with e
 subst e
 rw [Addr.add_lit, Nat.zero_add] at hc
 exact ⟨hc, hb⟩
theorem sl_some {w : World} {g n c : Nat} {l : List Nat} (h : Sl w (some ⟨g, 0, none⟩) n c l) {k x : Nat} (hk : l[k]? = some x) : w.cell? ⟨g, k, none⟩ = some (.int .u32 (x : Nat)) ∧ x < 4294967296 := by
 obtain ⟨hl, rfl⟩ := List.getElem?_eq_some_iff.1 hk
 exact sl_cell h hl
theorem own_some {w : World} {base : Nat} {e : TypeId} {g cap n : Nat} {out : List Nat} (h : w.ownsRow base e 1 (.slice (some ⟨g, 0, none⟩) n cap) n (u32s out)) {j x : Nat} (hj : out[j]? = some x) : w.cell? ⟨g, j, none⟩ = some (.int .u32 (x : Nat)) := by
 obtain ⟨hl, rfl⟩ := List.getElem?_eq_some_iff.1 hj
 exact own_at h hl
theorem ex_less_of (B g N i m cc q : Nat) (z : Int) (A : Option Addr) (cd : Nat) (L D : List Nat) (w : World) (hL : w.ownsRow B 164 1 (.slice (some ⟨g, 0, none⟩) N N) N (u32s L)) (hok0 : Lm.ok L) (hD : Sl w A m cd D) (hne : ∀ ad, A = some ad → ad.block ≠ g)
  (hi : i + m + 1 ≤ N) (hN : N ≤ 1000000000) (hq : q < 4294967296) (hz : z = (q : Int)) :
  Calls Tryz.prog 338 #[.slice (some ⟨g, i, none⟩) (m + 1) cc, .slice A m cd, .int .u64 z] w (RetLess w B g N i m q L D) := by
 subst hz
 exact ex_less_any B g N i m cc q A cd L D w hL hok0 hD hne hi hN hq
theorem mul_in {G d : Nat} (hG : G < 4294967296) (hd : d < 4294967296) : IntKind.u64.wrap ((G : Int) * (d : Int)) = ((G * d : Nat) : Int) := by
 have h : G * d ≤ 4294967295 * 4294967295 := Nat.mul_le_mul (by omega) (by omega)
 rw [← Int.natCast_mul]
 exact IntWalk.u64_in _ (by omega)
theorem round_next {L L0 L1 Q : List Nat} {i m N Dv P G li : Nat} (hN : i + m + 3 ≤ N) (hL1 : L1.length = N) (hL0 : L0.length = N) (hQ : i < Q.length) (hD : 0 < Dv) (a1 : Lm.lv ((L1.drop i).take (m + 2 + 1)) = P % Dv)
  (hdr : L1.drop (i + (m + 2) + 1) = L.drop (i + (m + 2) + 1)) (htk : L1.take i = L.take i) (hli : L[i]? = some li) (hP : P = li + 4294967296 * Lm.lv (L.drop (i + 1))) (hz : Lm.lv (L.drop (i + (m + 2) + 1)) = 0) (hG : G = P / Dv)
  (k6 : L.take (i + 1) = L0.take (i + 1)) (k7 : Lm.lv (L0.drop (i + 1)) = Dv * Lm.lv (Q.drop (i + 1)) + Lm.lv (L.drop (i + 1))) :
  Lm.lv (L1.drop i) < Dv ∧ L1.take i = L0.take i ∧ Lm.lv (L0.drop i) = Dv * Lm.lv ((Q.set i G).drop i) + Lm.lv (L1.drop i) := by
 have e1 : Lm.lv (L1.drop i) = P % Dv := by
  have h1 := Lm.lv_take_drop (L1.drop i) (m + 2 + 1) (by rw [List.length_drop]; omega)
  rw [List.drop_drop, show i + (m + 2 + 1) = i + (m + 2) + 1 by omega, hdr, hz, Nat.mul_zero, Nat.add_zero, a1] at h1
  exact h1
 have e2 : L.take i = L0.take i := by
  have h1 := congrArg (List.take i) k6
  rw [List.take_take, List.take_take, show min i (i + 1) = i by omega] at h1
  exact h1
 have e3 : L0[i]'(by omega) = li := by
  have h1 := congrArg (fun t : List Nat => t[i]?) k6
  simp only [List.getElem?_take, if_pos (Nat.lt_succ_self i)] at h1
  rw [hli, List.getElem?_eq_getElem (by omega)] at h1
  injection h1 with h1
  exact h1.symm
 refine ⟨by rw [e1]; exact Nat.mod_lt _ hD, by rw [htk, e2], ?_⟩
 rw [e1]
 refine divide_step (by omega) hQ k7 ?_
 rw [e3, B_eq, ← hP, hG]
 exact (Nat.div_add_mod P Dv).symm
theorem add_end_g (B : Nat) {S M x c W Dv r : Nat} (h : S + M * c = W + Dv) (hx : W + M * x + Dv = M * B + r) (hS : S < M) (hr : r < M) : c + x = B ∧ S = r := by
 have h1 : S + M * (c + x) = M * B + r := by rw [Nat.mul_add]; omega
 have h2 : c + x = B := by
  rcases Nat.lt_trichotomy (c + x) B with h3 | h3 | h3
  ·exfalso
   have h4 : M * (c + x + 1) ≤ M * B := Nat.mul_le_mul_left _ h3
   rw [Nat.mul_add, Nat.mul_one] at h4
   omega
  ·exact h3
  ·exfalso
   have h4 : M * (B + 1) ≤ M * (c + x) := Nat.mul_le_mul_left _ h3
   rw [Nat.mul_add, Nat.mul_one] at h4
   omega
 rw [h2] at h1
 exact ⟨h2, by omega⟩
theorem back_end {L1 out D : List Nat} {i m N Dv x c r : Nat} (hN : i + m + 3 ≤ N) (hL1 : L1.length = N) (hout : out.length = N) (hx : L1[i + (m + 2)]? = some x) (hok : Lm.ok out) (hD : D.length = m + 2) (hDv : Lm.lv D = Dv) (hDB : Dv < Lm.B ^ (m + 2)) (hr : r < Dv)
  (_h1 : out.drop (i + (m + 2)) = L1.drop (i + (m + 2))) (h3 : Lm.lv ((out.drop i).take (m + 2)) + Lm.B ^ (m + 2) * c = Lm.lv ((L1.drop i).take (m + 2)) + Lm.lv (D.take (m + 2)))
  (hw : Lm.lv ((L1.drop i).take (m + 2 + 1)) + Dv = Lm.B ^ (m + 2 + 1) + r) :
  c + x = 4294967296 ∧ Lm.lv (((out.set (i + (m + 2)) 0).drop i).take (m + 2 + 1)) = r := by
 rw [Lm.lv_take_ge D _ (by omega), hDv] at h3
 have e1 := Lm.lv_take_succ (L1.drop i) (m + 2) (by rw [List.length_drop]; omega)
 rw [List.getElem_drop] at e1
 have e0 : L1[i + (m + 2)]'(by omega) = x := by
  obtain ⟨h, e⟩ := List.getElem?_eq_some_iff.1 hx
  exact e
 rw [e0] at e1
 rw [e1, show Lm.B ^ (m + 2 + 1) = Lm.B ^ (m + 2) * Lm.B from Nat.pow_succ ..] at hw
 have hS := lv_take_lt (Lm.ok_drop hok i) (k := m + 2) (by rw [List.length_drop]; omega)
 have hkl : m + 2 < (out.drop i).length := by rw [List.length_drop]; omega
 have e4 : (out.set (i + (m + 2)) 0).drop i = (out.drop i).set (m + 2) 0 := by
  rw [List.drop_set, if_neg (by omega), show i + (m + 2) - i = m + 2 by omega]
 have e5 := Lm.lv_take_succ ((out.drop i).set (m + 2) 0) (m + 2) (by rw [List.length_set]; exact hkl)
 rw [List.take_set_of_le (Nat.le_refl _), List.getElem_set_self, Nat.mul_zero, Nat.add_zero] at e5
 rw [e4, e5]
 generalize Lm.B ^ (m + 2) = K at *
 have hE := add_end_g Lm.B h3 hw hS (Nat.lt_trans hr hDB)
 exact ⟨hE.1.trans B_eq, hE.2⟩
theorem down_row {out Lc : List Nat} {k m s y x h : Nat} (hs : s < 32) (hk : k < m) (hlo : out.length = m) (hlc : Lc.length = m) (hxb : x < 4294967296) (h1 : out.drop k = Lc.drop k) (h2 : Lm.lv (out.take k) + Lm.B ^ k * (Lm.lv (Lc.drop k) / 2 ^ s) = Lm.lv Lc / 2 ^ s)
  (hx : out[k]'(by omega) = x) (hh : h = Lm.lv (Lc.drop (k + 1)) % 4294967296) (hy : y = (h * 4294967296 + x) / 2 ^ s % 4294967296) :
  (out.set k y).drop (k + 1) = Lc.drop (k + 1) ∧ Lm.lv ((out.set k y).take (k + 1)) + Lm.B ^ (k + 1) * (Lm.lv (Lc.drop (k + 1)) / 2 ^ s) = Lm.lv Lc / 2 ^ s := by
 have hLx : Lc[k]'(by omega) = x := by
  have e := congrArg (fun t : List Nat => t[0]?) h1
  simp only [List.getElem?_drop, Nat.add_zero] at e
  rw [List.getElem?_eq_getElem (by omega), List.getElem?_eq_getElem (by omega)] at e
  injection e with e
  rw [← e, hx]
 refine ⟨?_, ?_⟩
 ·rw [List.drop_set_of_lt (by omega), ← List.drop_drop, h1, List.drop_drop]
 ·have e1 := Lm.lv_take_succ (out.set k y) k (by rw [List.length_set]; omega)
  rw [List.take_set_of_le (Nat.le_refl _), List.getElem_set_self] at e1
  have e2 := Lm.lv_drop Lc (show k < Lc.length by omega)
  rw [hLx, B_eq] at e2
  have e3 := (down_limb (x := x) (Y := Lm.lv (Lc.drop (k + 1))) hs rfl).resolve_right (Nat.not_le.2 hxb)
  rw [← hh, ← hy, ← e2] at e3
  rw [← h2, e1, ← e3, Nat.pow_succ, Nat.add_assoc, Nat.mul_assoc, ← Nat.mul_add, show Lm.B * (Lm.lv (Lc.drop (k + 1)) / 2 ^ s) = 4294967296 * (Lm.lv (Lc.drop (k + 1)) / 2 ^ s) from rfl]
theorem next_limb {Lc : List Nat} {k : Nat} (hok : Lm.ok Lc) : Lm.lv (Lc.drop (k + 1)) % 4294967296 = (Lc[k + 1]?).getD 0 := by
 rcases Nat.lt_or_ge (k + 1) Lc.length with h | h
 ·have e2 := Lm.lv_drop Lc h
  rw [B_eq] at e2
  have h3 : Lc[k + 1] < 4294967296 := Lm.ok_get hok h
  rw [e2, List.getElem?_eq_getElem h]
  show (Lc[k + 1] + 4294967296 * Lm.lv (Lc.drop (k + 1 + 1))) % 4294967296 = Lc[k + 1]
  omega
 ·rw [List.drop_of_length_le h, List.getElem?_eq_none h]
  rfl
theorem quo_end {a d q l P Dv : Nat} (hP : 0 < P) (h2 : d * P = Dv) (h : a * P = Dv * q + l) (hl : l < Dv) : a = d * q + l / P ∧ l / P < d := by
 subst h2
 have e1 : d * P * q = P * (d * q) := by rw [Nat.mul_comm d, Nat.mul_assoc]
 rw [e1, Nat.mul_comm] at h
 have h3 : P * (d * q) ≤ P * a := by omega
 obtain ⟨t, ht⟩ := Nat.exists_eq_add_of_le (Nat.le_of_mul_le_mul_left h3 hP)
 rw [ht, Nat.mul_add] at h
 have hl2 : l = P * t := by omega
 rw [hl2, Nat.mul_div_cancel_left _ hP]
 refine ⟨ht, ?_⟩
 rw [hl2, Nat.mul_comm d] at hl
 exact Nat.lt_of_mul_lt_mul_left hl
theorem three_q {w w1 : World} {base g1 g2 g3 N M m cd : Nat} {L Q D : List Nat} {i : Nat} (hL : w1.ownsRow base 164 1 (.slice (some ⟨g1, 0, none⟩) N N) N (u32s L)) (hQ : w1.ownsRow base 164 1 (.slice (some ⟨g3, 0, none⟩) M M) M (u32s Q))
  (hD : Sl w1 (some ⟨g2, 0, none⟩) m cd D) (hb : Below w.heap.size w w1) (hg : g3 < w1.heap.size) (h12 : g1 < g2) (h23 : g2 < g3) (h1 : w.heap.size ≤ g1) (X : Int) (d : Nat) (hX : X = (d : Int)) :
  (w1.setCell ⟨g3, i, none⟩ (.int .u32 X)).ownsRow base 164 1 (.slice (some ⟨g1, 0, none⟩) N N) N (u32s L) ∧ (w1.setCell ⟨g3, i, none⟩ (.int .u32 X)).ownsRow base 164 1 (.slice (some ⟨g3, 0, none⟩) M M) M (u32s (Q.set i d)) ∧
  Sl (w1.setCell ⟨g3, i, none⟩ (.int .u32 X)) (some ⟨g2, 0, none⟩) m cd D ∧ Below w.heap.size w (w1.setCell ⟨g3, i, none⟩ (.int .u32 X)) ∧ g3 < (w1.setCell ⟨g3, i, none⟩ (.int .u32 X)).heap.size := by
 have gs := grown_set (World.grownBy.refl w1 (some g3)) i (.int .u32 X)
 exact ⟨hL.kept gs (.inr (by simp [Value.ownBlock]; omega)), own_store hQ d hX, sl_grown hD gs (fun ad e => by injection e with e; subst e; exact Nat.ne_of_lt h23), hb.grown gs hb.size (fun k e => by injection e with e; subst e; omega), Nat.lt_of_lt_of_le hg gs.size⟩
theorem three_l {w w1 : World} {base g1 g2 g3 N M m cd : Nat} {L Q D : List Nat} {i : Nat} (hL : w1.ownsRow base 164 1 (.slice (some ⟨g1, 0, none⟩) N N) N (u32s L)) (hQ : w1.ownsRow base 164 1 (.slice (some ⟨g3, 0, none⟩) M M) M (u32s Q))
  (hD : Sl w1 (some ⟨g2, 0, none⟩) m cd D) (hb : Below w.heap.size w w1) (hg : g3 < w1.heap.size) (h12 : g1 < g2) (h23 : g2 < g3) (h1 : w.heap.size ≤ g1) (X : Int) (d : Nat) (hX : X = (d : Int)) :
  (w1.setCell ⟨g1, i, none⟩ (.int .u32 X)).ownsRow base 164 1 (.slice (some ⟨g1, 0, none⟩) N N) N (u32s (L.set i d)) ∧ (w1.setCell ⟨g1, i, none⟩ (.int .u32 X)).ownsRow base 164 1 (.slice (some ⟨g3, 0, none⟩) M M) M (u32s Q) ∧
  Sl (w1.setCell ⟨g1, i, none⟩ (.int .u32 X)) (some ⟨g2, 0, none⟩) m cd D ∧ Below w.heap.size w (w1.setCell ⟨g1, i, none⟩ (.int .u32 X)) ∧ g3 < (w1.setCell ⟨g1, i, none⟩ (.int .u32 X)).heap.size := by
 have gs := grown_set (World.grownBy.refl w1 (some g1)) i (.int .u32 X)
 exact ⟨own_store hL d hX, hQ.kept gs (.inr (by simp [Value.ownBlock]; omega)), sl_grown hD gs (fun ad e => by injection e with e; subst e; exact Nat.ne_of_gt h12), hb.grown gs hb.size (fun k e => by injection e with e; subst e; omega), Nat.lt_of_lt_of_le hg gs.size⟩
theorem two_l {w w1 : World} {base g1 g3 N c M : Nat} {L Q : List Nat} {i : Nat} (hL : w1.ownsRow base 164 1 (.slice (some ⟨g1, 0, none⟩) N c) N (u32s L)) (hQ : w1.ownsRow base 164 1 (.slice (some ⟨g3, 0, none⟩) M M) M (u32s Q))
  (hb : Below w.heap.size w w1) (h13 : g1 < g3) (h1 : w.heap.size ≤ g1) (X : Int) (d : Nat) (hX : X = (d : Int)) :
  (w1.setCell ⟨g1, i, none⟩ (.int .u32 X)).ownsRow base 164 1 (.slice (some ⟨g1, 0, none⟩) N c) N (u32s (L.set i d)) ∧ (w1.setCell ⟨g1, i, none⟩ (.int .u32 X)).ownsRow base 164 1 (.slice (some ⟨g3, 0, none⟩) M M) M (u32s Q) ∧ Below w.heap.size w (w1.setCell ⟨g1, i, none⟩ (.int .u32 X)) := by
 have gs := grown_set (World.grownBy.refl w1 (some g1)) i (.int .u32 X)
 exact ⟨own_store hL d hX, hQ.kept gs (.inr (by simp [Value.ownBlock]; omega)), hb.grown gs hb.size (fun k e => by injection e with e; subst e; omega)⟩
theorem shr_cast (r s : Nat) : (r : Int) / 2 ^ s % 4294967296 = ((r / 2 ^ s % 4294967296 : Nat) : Int) := by
 rw [show (2 : Int) ^ s = ((2 ^ s : Nat) : Int) by rw [Int.natCast_pow]; rfl, Int.natCast_emod, Int.natCast_ediv]
 rfl
end Go.Proofs.YtgekmbfmfiikkaaGreatDoor
