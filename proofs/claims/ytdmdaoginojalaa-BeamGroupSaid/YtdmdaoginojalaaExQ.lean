/-
  The quotient of limbs by limbs: what is left of a round, plainly; limbs added (bits.Add32); a row cut short.
-/
import Derived.Test.YtdmdaoginojalaaExP
namespace Go.Proofs.Ytdmdaoginojalaa
open Go.RowKit

/-- The quotient of a window is one limb; the two greatest limbs are not much more than the divisor's greatest. -/
theorem round_facts' (B : Nat) {P Dv head top p0 d2 K P0 D0 : Nat} (hP : P = (head * B + p0) * K + P0) (hD : Dv = (top * B + d2) * K + D0) (hD0 : D0 < K) (hd2 : d2 < B) (h : P < B * Dv) :
    P / Dv < B ∧ head < (top + 1) * B := by
  refine ⟨Nat.div_lt_of_lt_mul (by rw [Nat.mul_comm]; exact h), ?_⟩
  rcases Nat.lt_or_ge head ((top + 1) * B) with h1 | h1
  · exact h1
  · exfalso
    have a1 : (top + 1) * B * (B * K) ≤ head * (B * K) := mul3 _ _ _ h1
    have a2 : head * (B * K) ≤ P := by
      rw [hP, Nat.add_mul, ← Nat.mul_assoc]
      generalize head * B * K = x
      generalize p0 * K = y
      omega
    have a3 : top * B + d2 + 1 ≤ (top + 1) * B := by
      rw [Nat.add_mul, Nat.one_mul]
      generalize top * B = x
      omega
    have a4 : (top * B + d2 + 1) * K ≤ (top + 1) * B * K := mul3 _ _ _ a3
    have a5 : Dv < (top * B + d2 + 1) * K := by
      rw [Nat.add_mul (top * B + d2), Nat.one_mul, hD]
      generalize (top * B + d2) * K = x
      omega
    have hB : 0 < B := by omega
    have a6 : B * Dv < B * ((top + 1) * B * K) := Nat.mul_lt_mul_of_pos_left (Nat.lt_of_lt_of_le a5 a4) hB
    have a7 : B * ((top + 1) * B * K) = (top + 1) * B * (B * K) := Nat.mul_left_comm ..
    rw [a7] at a6
    exact absurd (Nat.lt_of_lt_of_le h (Nat.le_of_lt a6)) (Nat.not_lt.2 (Nat.le_trans a1 a2))
theorem round_facts {P Dv head top p0 d2 K P0 D0 : Nat} (hP : P = (head * 4294967296 + p0) * K + P0) (hD : Dv = (top * 4294967296 + d2) * K + D0) (hD0 : D0 < K) (hd2 : d2 < 4294967296) (h : P < 4294967296 * Dv) :
    P / Dv < 4294967296 ∧ head < (top + 1) * 4294967296 := round_facts' _ hP hD hD0 hd2 h
/-- Behind 'less'. -/
theorem less_end {P Dv g W M t1 : Nat} {t : Bool} (ht : t1 = if t then 1 else 0) (h : W + g * Dv = P + M * t1) (hW : W < M) (h1 : P / Dv ≤ g) (h2 : g ≤ P / Dv + 1) (hD : 0 < Dv) :
    (t = false → g = P / Dv ∧ W = P % Dv) ∧ (t = true → g = P / Dv + 1 ∧ W + Dv = M + P % Dv) := by
  have hdm := Nat.div_add_mod P Dv
  have hml := Nat.mod_lt P hD
  obtain ⟨q, hq⟩ : ∃ q, P / Dv = q := ⟨_, rfl⟩
  obtain ⟨r, hr⟩ : ∃ r, P % Dv = r := ⟨_, rfl⟩
  rw [hq] at hdm h1 h2 ⊢
  rw [hr] at hdm hml ⊢
  rw [Nat.mul_comm] at hdm
  subst ht
  cases t
  · refine ⟨fun _ => ?_, fun h => absurd h (by decide)⟩
    rw [if_neg (by decide), Nat.mul_zero, Nat.add_zero] at h
    have e : g = q := by
      rcases Nat.lt_or_ge q g with h3 | h3
      · exfalso
        have h4 : (q + 1) * Dv ≤ g * Dv := Nat.mul_le_mul_right _ h3
        rw [Nat.add_mul, Nat.one_mul] at h4
        omega
      · omega
    subst e
    exact ⟨rfl, by omega⟩
  · refine ⟨fun h => absurd h (by decide), fun _ => ?_⟩
    rw [if_pos rfl, Nat.mul_one] at h
    have e : g = q + 1 := by
      rcases Nat.lt_or_ge q g with h3 | h3
      · omega
      · exfalso
        have h4 : g * Dv ≤ q * Dv := Nat.mul_le_mul_right _ h3
        omega
    subst e
    rw [Nat.add_mul, Nat.one_mul] at h
    exact ⟨rfl, by omega⟩
/-- A row with one limb turned by an addition, from place i on. -/
theorem row_add {out L D : List Nat} {i k c c' x v y : Nat} (hio : i + k < out.length) (hl : out.length = L.length) (hkD : k < D.length) (h1 : out.drop (i + k) = L.drop (i + k)) (h2 : out.take i = L.take i)
    (h3 : Lm.lv ((out.drop i).take k) + Lm.B ^ k * c = Lm.lv ((L.drop i).take k) + Lm.lv (D.take k)) (hx : out[i + k] = x) (hv : D[k] = v) (hy : y + 4294967296 * c' = x + v + c) :
    (out.set (i + k) y).drop (i + (k + 1)) = L.drop (i + (k + 1)) ∧ (out.set (i + k) y).take i = L.take i ∧
    Lm.lv (((out.set (i + k) y).drop i).take (k + 1)) + Lm.B ^ (k + 1) * c' = Lm.lv ((L.drop i).take (k + 1)) + Lm.lv (D.take (k + 1)) := by
  have hLx : (L.drop i)[k]'(by rw [List.length_drop]; omega) = x := by
    have e := congrArg (fun t : List Nat => t[0]?) h1
    simp only [List.getElem?_drop, Nat.add_zero] at e
    rw [List.getElem?_eq_getElem hio, List.getElem?_eq_getElem (by omega)] at e
    injection e with e
    rw [List.getElem_drop, ← e, hx]
  refine ⟨?_, ?_, ?_⟩
  · rw [List.drop_set, if_pos (by omega), ← Nat.add_assoc, ← List.drop_drop, h1, List.drop_drop]
  · rw [List.take_set_of_le (by omega), h2]
  · have e0 : (out.set (i + k) y).drop i = (out.drop i).set k y := by
      rw [List.drop_set, if_neg (by omega), show i + k - i = k by omega]
    have hkl : k < (out.drop i).length := by rw [List.length_drop]; omega
    have e1 := Lm.lv_take_succ ((out.drop i).set k y) k (by rw [List.length_set]; exact hkl)
    rw [List.take_set_of_le (Nat.le_refl _), List.getElem_set_self] at e1
    have e2 := Lm.lv_take_succ (L.drop i) k (by rw [List.length_drop]; omega)
    rw [hLx] at e2
    have e3 := Lm.lv_take_succ D k hkD
    rw [hv] at e3
    rw [e0, e1, e2, e3, Nat.pow_succ]
    have hB : Lm.B = 4294967296 := rfl
    generalize Lm.B ^ k = M at *
    have e4 : M * y + M * (4294967296 * c') = M * x + M * v + M * c := by rw [← Nat.mul_add, hy, Nat.mul_add, Nat.mul_add]
    have e6 : M * Lm.B * c' = M * (4294967296 * c') := by rw [hB, Nat.mul_assoc]
    rw [e6]
    omega
/-- One limb of shifting down. -/
theorem down_limb {x Y P : Nat} {s : Nat} (hs : s < 32) (hP : P = 2 ^ s) : ((Y % 4294967296) * 4294967296 + x) / P % 4294967296 + 4294967296 * (Y / P) = (x + 4294967296 * Y) / P ∨ 4294967296 ≤ x := by
  rcases Nat.lt_or_ge x 4294967296 with hx | hx
  · left
    have hpp : P * 2 ^ (32 - s) = 4294967296 := by rw [hP, ← Nat.pow_add, show s + (32 - s) = 32 by omega]
    obtain ⟨Z, hZ⟩ : ∃ Z, 2 ^ (32 - s) = Z := ⟨_, rfl⟩
    rw [hZ] at hpp
    have hP0 : 0 < P := by rw [hP]; exact Nat.two_pow_pos s
    have hZ0 : 0 < Z := by rw [← hZ]; exact Nat.two_pow_pos _
    have hY := Nat.div_add_mod Y 4294967296
    obtain ⟨h, hh⟩ : ∃ h, Y % 4294967296 = h := ⟨_, rfl⟩
    obtain ⟨u, hu⟩ : ∃ u, Y / 4294967296 = u := ⟨_, rfl⟩
    have hhl : h < 4294967296 := by rw [← hh]; exact Nat.mod_lt _ (by decide)
    rw [hh, hu] at hY
    rw [hh]
    clear hh hu hZ
    -- everything by the power
    have e1 : Y / P = Z * u + h / P := by
      rw [← hY, ← hpp, Nat.mul_assoc, Nat.mul_add_div hP0]
    have e2 : (x + 4294967296 * Y) / P = (h * 4294967296 + x) / P + 4294967296 * (Z * u) := by
      have : x + 4294967296 * Y = P * (4294967296 * (Z * u)) + (h * 4294967296 + x) := by
        rw [← hY]
        have : P * (4294967296 * (Z * u)) = 4294967296 * (4294967296 * u) := by
          rw [show P * (4294967296 * (Z * u)) = 4294967296 * (P * Z * u) by grind, hpp]
        rw [this]
        omega
      rw [this, Nat.mul_add_div hP0]
      omega
    have e3 : (h * 4294967296 + x) / P / 4294967296 = h / P := by
      rw [Nat.div_div_eq_div_mul, Nat.mul_comm P, ← Nat.div_div_eq_div_mul]
      congr 1
      omega
    have e4 := Nat.div_add_mod ((h * 4294967296 + x) / P) 4294967296
    rw [e3] at e4
    rw [e1, e2, Nat.mul_add]
    omega
  · right; exact hx
/-- A row of the call's own, cut short. -/
theorem own_cut {w : World} {base g n c m : Nat} {l : List Nat} (h : w.ownsRow base 116 1 (.slice (some ⟨g, 0, none⟩) n c) n (u32s l)) (hm : m ≤ n) (hl : l.length = n) : w.ownsRow base 116 1 (.slice (some ⟨g, 0, none⟩) m c) m (u32s (l.take m)) := by
  refine ⟨by rw [u32s_len, List.length_take, hl]; omega, ?_⟩
  rcases h.2 with ⟨e, _⟩ | ⟨g', cap, cur, e, h1, h2, h3, h4, h5, h6⟩
  · cases e
  · injection e with e1 _ e3
    injection e1 with e1
    injection e1 with e1
    subst e1 e3
    refine .inr ⟨g, c, cur, rfl, h1, h2, by omega, h4, h5, ?_⟩
    have h7 := congrArg (List.take m) h6
    rw [List.take_take] at h7
    rw [show min m (n * 1) = m by omega] at h7
    rw [Nat.mul_one, h7]
    unfold u32s
    rw [List.map_take]
set_option maxRecDepth 100000 in
theorem add32_any (x y c : Nat) (hx : x < 4294967296) (hy : y < 4294967296) (hc : c ≤ 1) (w : World) :
    Calls Try.prog 105 #[.int .u32 (x : Int), .int .u32 (y : Int), .int .u32 (c : Int)] w
      fun e w' => e = .returned (.tuple #[.int .u32 (((x + y + c) % 4294967296 : Nat) : Int), .int .u32 (((x + y + c) / 4294967296 : Nat) : Int)]) ∧ w = w' := by
  have e1 : ((x : Int) + (y : Int) + (c : Int)) % 4294967296 = (((x + y + c) % 4294967296 : Nat) : Int) := by omega
  have e2 : ((x : Int) + (y : Int) + (c : Int)) / 4294967296 = (((x + y + c) / 4294967296 : Nat) : Int) := by omega
  have E1 := Lib.hid e1
  have E2 := Lib.hid e2
  clear e1 e2
  go_enter Try.func105, Try.ntmps105
  go_wp2_with fail
  go_ret2
  exact ⟨by show Ending.returned (.tuple #[.int .u32 (((x : Int) + (y : Int) + (c : Int)) % 4294967296), .int .u32 (((x : Int) + (y : Int) + (c : Int)) / 4294967296)]) = _; rw [E1.out, E2.out], rfl⟩
theorem lz32_of (x L : Nat) (w : World) (h : x < 4294967296) (hL : Hid (bitLen x = L)) : Calls Try.prog 115 #[.int .u32 (x : Int)] w fun e w' => e = .returned (.int .i64 (32 - (L : Int))) ∧ w = w' := by
  have c := Try.bits_LeadingZeros32 (x : Int) w (by omega) (by omega)
  rw [Int.toNat_natCast, lib_bitLen (by omega), hL.out] at c
  exact c.mono fun _ _ ⟨h1, h2⟩ => ⟨h1, h2.symm⟩
/-- A limb that is not nought, shifted to the top. -/
theorem top_shift {x : Nat} (h0 : x ≠ 0) (h : x < 4294967296) : 1 ≤ bitLen x ∧ bitLen x ≤ 32 ∧ 2 ^ 31 ≤ x * 2 ^ (32 - bitLen x) ∧ (x + 1) * 2 ^ (32 - bitLen x) ≤ 2 ^ 32 := by
  have h1 : bitLen x = Nat.log2 x + 1 := by unfold bitLen; rw [if_neg h0]
  have h2 := bitLen_32 h
  have h3 : 2 ^ Nat.log2 x ≤ x := Nat.log2_self_le h0
  have h4 : x < 2 ^ (Nat.log2 x + 1) := Nat.lt_log2_self
  rw [h1] at h2 ⊢
  refine ⟨by omega, h2, ?_, ?_⟩
  · have a1 : 2 ^ Nat.log2 x * 2 ^ (32 - (Nat.log2 x + 1)) ≤ x * 2 ^ (32 - (Nat.log2 x + 1)) := Nat.mul_le_mul_right _ h3
    rw [← Nat.pow_add, show Nat.log2 x + (32 - (Nat.log2 x + 1)) = 31 by omega] at a1
    exact a1
  · have a1 : (x + 1) * 2 ^ (32 - (Nat.log2 x + 1)) ≤ 2 ^ (Nat.log2 x + 1) * 2 ^ (32 - (Nat.log2 x + 1)) := Nat.mul_le_mul_right _ h4
    rw [← Nat.pow_add, show Nat.log2 x + 1 + (32 - (Nat.log2 x + 1)) = 32 by omega] at a1
    exact a1
end Go.Proofs.Ytdmdaoginojalaa
