/-
  math/bits.Div64 of a number of 64 bits with 64 noughts behind it.
-/
import Derived.Test.YthddodhcpfponaaProd
namespace Go.Proofs.Ythddodhcpfponaa
open Go.RowKit

theorem lz_of (x : Nat) (L : Int) (w : World) (h : x < 18446744073709551616) (hL : Hid (64 - (bitLen x : Int) = L)) : Calls Try.prog 55 #[.int .u64 (x : Int)] w fun e w' => e = .returned (.int .i64 L) ∧ w = w' := by
  have c := Try.bits_LeadingZeros64 (x : Int) w (by omega) (by omega)
  rw [Int.toNat_natCast, lib_bitLen h, hL.out] at c
  exact c.mono fun _ _ ⟨h1, h2⟩ => ⟨h1, h2.symm⟩

/-! ### plain: one digit of 32 bits -/
/-- What holds of the digit that is tried. -/
structure Dig (Y Y1 Y0 U q r : Nat) : Prop where
  y : Y = Y1 * 4294967296 + Y0
  y1 : 2147483648 ≤ Y1
  y2 : Y1 < 4294967296
  y3 : Y0 < 4294967296
  u : U < Y
  sum : q * Y1 + r = U
  most : q ≤ 4294967297
  low : U * 4294967296 / Y ≤ q

theorem Dig.start {Y Y1 Y0 U : Nat} (y : Y = Y1 * 4294967296 + Y0) (y1 : 2147483648 ≤ Y1) (y2 : Y1 < 4294967296) (y3 : Y0 < 4294967296) (u : U < Y) : Dig Y Y1 Y0 U (U / Y1) (U % Y1) := by
  have hp : 0 < Y1 := by omega
  refine ⟨y, y1, y2, y3, u, by rw [Nat.mul_comm]; exact Nat.div_add_mod U Y1, ?_, ?_⟩
  · have : U / Y1 < 4294967298 := by
      rw [Nat.div_lt_iff_lt_mul hp]; omega
    omega
  · rw [Nat.le_div_iff_mul_le hp]
    have hY : 0 < Y := by omega
    have h1 := Nat.div_mul_le_self (U * 4294967296) Y
    have h2 : U * 4294967296 / Y * (Y1 * 4294967296) ≤ U * 4294967296 / Y * Y := Nat.mul_le_mul_left _ (by omega)
    rw [← Nat.mul_assoc] at h2
    omega
theorem Dig.prod {Y Y1 Y0 U q r : Nat} (h : Dig Y Y1 Y0 U q r) : q * Y + r * 4294967296 = U * 4294967296 + q * Y0 := by
  rw [h.y, ← h.sum, Nat.mul_add, ← Nat.mul_assoc, Nat.add_mul]
  omega
theorem Dig.lt {Y Y1 Y0 U q r : Nat} (h : Dig Y Y1 Y0 U q r) : U * 4294967296 / Y < 4294967296 := by
  have := h.u
  rw [Nat.div_lt_iff_lt_mul (by omega), Nat.mul_comm]
  omega
theorem Dig.less {Y Y1 Y0 U q r : Nat} (h : Dig Y Y1 Y0 U q r) (hc : 4294967296 ≤ q ∨ 4294967296 * r < q * Y0) : 1 ≤ q ∧ Dig Y Y1 Y0 U (q - 1) (r + Y1) := by
  have hq : U * 4294967296 / Y ≤ q - 1 ∧ 1 ≤ q := by
    rcases hc with hc | hc
    · have := h.lt; omega
    · have hp := h.prod
      have hY : 0 < Y := by have := h.u; omega
      have : U * 4294967296 / Y < q := by
        rw [Nat.div_lt_iff_lt_mul hY]; omega
      exact ⟨Nat.le_sub_one_of_lt this, Nat.lt_of_le_of_lt (Nat.zero_le _) this⟩
  refine ⟨hq.2, h.y, h.y1, h.y2, h.y3, h.u, ?_, by have := h.most; omega, hq.1⟩
  have hs := h.sum
  obtain ⟨t, rfl⟩ : ∃ t, q = t + 1 := ⟨q - 1, by omega⟩
  rw [Nat.add_mul] at hs
  simp only [Nat.add_sub_cancel]
  omega
theorem Dig.stop {Y Y1 Y0 U q r : Nat} (h : Dig Y Y1 Y0 U q r) (hc : q * Y0 ≤ 4294967296 * r) : q = U * 4294967296 / Y := by
  have hp := h.prod
  have hY : 0 < Y := by have := h.u; omega
  have : q ≤ U * 4294967296 / Y := by
    rw [Nat.le_div_iff_mul_le hY]; omega
  have := h.low
  omega
theorem Dig.far {Y Y1 Y0 U q r : Nat} (h : Dig Y Y1 Y0 U q r) (hq : q ≤ 4294967296) (hr : 4294967296 ≤ r) : q = U * 4294967296 / Y := by
  refine h.stop ?_
  have h1 : q * Y0 ≤ 4294967296 * 4294967296 := Nat.mul_le_mul hq (Nat.le_of_lt h.y3)
  omega
theorem Dig.p64 {Y Y1 Y0 U q r : Nat} (h : Dig Y Y1 Y0 U q r) : q * Y0 ≤ 18446744073709551615 := by
  have : q * Y0 ≤ 4294967297 * 4294967295 := Nat.mul_le_mul h.most (by have := h.y3; omega)
  omega
theorem mod_wrap {a b c : Nat} (h : c ≤ a) (hb : a - c < 18446744073709551616) (hb' : b = a - c) : ((a : Int) % 18446744073709551616 - (c : Int) % 18446744073709551616) % 18446744073709551616 = (b : Int) := by omega
theorem two_digits {h y U Y V Q1 Q0 R : Nat} (hU : U = 2 * h) (hY : Y = 2 * y) (hy : 0 < y) (h1 : Q1 = U * 4294967296 / Y) (hV : V = U * 4294967296 % Y) (h0 : Q0 = V * 4294967296 / Y) (hR : R = V * 4294967296 % Y) :
    Q1 * 4294967296 + Q0 = h * 18446744073709551616 / y ∧ R / 2 = h * 18446744073709551616 % y := by
  have hYp : 0 < Y := by omega
  have e1 := Nat.div_add_mod (U * 4294967296) Y
  have e0 := Nat.div_add_mod (V * 4294967296) Y
  have r0 := Nat.mod_lt (V * 4294967296) hYp
  rw [← h1, ← hV] at e1
  rw [← h0, ← hR] at e0
  rw [← hR] at r0
  have e2 : Y * (Q1 * 4294967296 + Q0) + R = U * 18446744073709551616 := by
    rw [Nat.mul_add, ← Nat.mul_assoc]
    omega
  have e3 : y * (Q1 * 4294967296 + Q0) + R / 2 = h * 18446744073709551616 ∧ R / 2 < y := by
    rw [hY, hU, Nat.mul_assoc] at e2
    generalize y * (Q1 * 4294967296 + Q0) = X at *
    omega
  rw [← e3.1]
  refine ⟨?_, ?_⟩
  · rw [Nat.mul_add_div hy, Nat.div_eq_of_lt e3.2, Nat.add_zero]
  · rw [Nat.mul_add_mod, Nat.mod_eq_of_lt e3.2]

set_option maxRecDepth 100000 in
set_option maxHeartbeats 4000000 in
theorem div64_walk (h y Y U Y1 Y0 : Nat) (w : World) (hy1 : 4611686018427387904 ≤ y) (hy2 : y < 9223372036854775808) (hhy : h < y) (h0 : 0 < h)
    (hL : Hid (64 - (bitLen y : Int) = 1)) (hY : (y : Int) * 2 = (Y : Int)) (hU : (h : Int) * 2 = (U : Int)) (hU2 : bits .or .u64 (U : Int) 0 = (U : Int)) (hY1 : (Y : Int) / 4294967296 = (Y1 : Int)) (hY0 : bits .and .u64 (Y : Int) 4294967295 = (Y0 : Int))
    (h00 : bits .and .u64 0 4294967295 = 0) (hb1 : 2147483648 ≤ Y1) (hb2 : Y1 < 4294967296) (_hb3 : Y0 < 4294967296) (hUb : U < 18446744073709551616)
    (q0 r0 qy : Nat) (hq : (U : Int) / (Y1 : Int) = (q0 : Int)) (hq64 : q0 ≤ 4294967297) (hqy : (q0 : Int) * (Y1 : Int) = (qy : Int)) (hqyb : qy ≤ U) (hr : (U : Int) - (qy : Int) = (r0 : Int)) (hrb0 : r0 < 4294967296) (HD : Hid (Dig Y Y1 Y0 U q0 r0))
    (Q1 V Wu Wq : Nat) (hQ1 : Hid (Q1 = U * 4294967296 / Y)) (hQ1b : Q1 < 4294967296) (hWu : IntKind.u64.wrap ((U : Int) * 4294967296) = (Wu : Int)) (hWub : Wu < 18446744073709551616) (hWq : IntKind.u64.wrap ((Q1 : Int) * (Y : Int)) = (Wq : Int))
    (hV : IntKind.u64.wrap ((Wu : Int) - (Wq : Int)) = (V : Int)) (hVb : V < 18446744073709551616)
    (q2 r2 qy2 : Nat) (hq2' : (V : Int) / (Y1 : Int) = (q2 : Int)) (hq642 : q2 ≤ 4294967297) (hqy2 : (q2 : Int) * (Y1 : Int) = (qy2 : Int)) (hqyb2 : qy2 ≤ V) (hr2 : (V : Int) - (qy2 : Int) = (r2 : Int)) (hrb2 : r2 < 4294967296) (HD2 : Hid (Dig Y Y1 Y0 V q2 r2))
    (Q0 Wv Wq0 Rr R : Nat) (hQ0 : Hid (Q0 = V * 4294967296 / Y)) (hQ0b : Q0 < 4294967296) (hWv : IntKind.u64.wrap ((V : Int) * 4294967296) = (Wv : Int)) (hWvb : Wv < 18446744073709551616) (hWq0 : IntKind.u64.wrap ((Q0 : Int) * (Y : Int)) = (Wq0 : Int))
    (hRr : IntKind.u64.wrap ((Wv : Int) - (Wq0 : Int)) = (Rr : Int)) (hRb : Rr < 18446744073709551616) (hR : (Rr : Int) / 2 = (R : Int)) :
    Calls Try.prog 56 #[.int .u64 (h : Int), .int .u64 0, .int .u64 (y : Int)] w fun e w' => e = .returned (.tuple #[.int .u64 ((Q1 : Int) * 4294967296 + (Q0 : Int)), .int .u64 (R : Int)]) ∧ w = w' := by
  go_enter Try.func56, Try.ntmps56
  go_wp2_with (go_at_call 55; refine (lz_of y 1 _ (by omega) hL).mono ?_; rintro e w' ⟨rfl, rfl⟩)
  go_loop [15, 16] (fun a b => ∃ q r : Nat, a = .int .u64 (q : Int) ∧ b = .int .u64 (r : Int) ∧ r < 4294967296 ∧ q ≤ 4294967297 ∧ Hid (Dig Y Y1 Y0 U q r)) (fun a _ => (intOf a).toNat)
  case atStart => exact ⟨q0, r0, rfl, rfl, hrb0, hq64, HD⟩
  case round =>
    clear hq hq64 hqyb hr hrb0 HD hqy
    obtain ⟨q, r, rfl, rfl, hrb, hqb, hD⟩ := hrel
    obtain ⟨P, hP⟩ : ∃ P, q * Y0 = P := ⟨_, rfl⟩
    have hPb : P < 18446744073709551616 := by rw [← hP]; have := hD.out.p64; omega
    have hPi : (q : Int) * (Y0 : Int) = (P : Int) := by rw [← hP, Int.natCast_mul]
    have HP := Lib.hid hP
    clear hP
    by_cases hq1 : (q : Int) < 4294967296
    · have hq2 : decide ((4294967296 : Int) ≤ (q : Int)) = false := decide_eq_false (by omega)
      by_cases hc : 4294967296 * (r : Int) < (P : Int)
      · obtain ⟨l1, l2⟩ := hD.out.less (.inr (by rw [HP.out]; omega))
        have HL := Lib.hid l2
        clear l2
        by_cases hf : (r : Int) + (Y1 : Int) < 4294967296
        · have hf2 : decide ((4294967296 : Int) ≤ (r : Int) + (Y1 : Int)) = false := decide_eq_false (by omega)
          go_wp2_with fail
          exact ⟨⟨q - 1, r + Y1, by go_num, by go_num, by omega, by omega, HL⟩, by simp [intOf]; omega⟩
        · have hf2 : decide ((4294967296 : Int) ≤ (r : Int) + (Y1 : Int)) = true := decide_eq_true (by omega)
          have e0 : q - 1 = Q1 := (HL.out.far (by omega) (by omega)).trans hQ1.out.symm
          have e1 : (q : Int) - 1 = (Q1 : Int) := by omega
          clear e0 HL hD HP
          go_wp2_with fail
          go_loop [18, 16] (fun a b => ∃ q r : Nat, a = .int .u64 (q : Int) ∧ b = .int .u64 (r : Int) ∧ r < 4294967296 ∧ q ≤ 4294967297 ∧ Hid (Dig Y Y1 Y0 V q r)) (fun a _ => (intOf a).toNat)
          case atStart => exact ⟨q2, r2, rfl, rfl, hrb2, hq642, HD2⟩
          case round =>
            clear hq2' hq642 hqyb2 hr2 hrb2 hqy2
            obtain ⟨q, r, rfl, rfl, hrb, hqb, hD⟩ := hrel
            obtain ⟨P, hP⟩ : ∃ P, q * Y0 = P := ⟨_, rfl⟩
            have hPb : P < 18446744073709551616 := by rw [← hP]; have := hD.out.p64; omega
            have hPi : (q : Int) * (Y0 : Int) = (P : Int) := by rw [← hP, Int.natCast_mul]
            have HP := Lib.hid hP
            clear hP
            by_cases hq1 : (q : Int) < 4294967296
            · have hq2 : decide ((4294967296 : Int) ≤ (q : Int)) = false := decide_eq_false (by omega)
              by_cases hc : 4294967296 * (r : Int) < (P : Int)
              · obtain ⟨l1, l2⟩ := hD.out.less (.inr (by rw [HP.out]; omega))
                have HL := Lib.hid l2
                clear l2
                by_cases hf : (r : Int) + (Y1 : Int) < 4294967296
                · have hf2 : decide ((4294967296 : Int) ≤ (r : Int) + (Y1 : Int)) = false := decide_eq_false (by omega)
                  go_wp2_with fail
                  exact ⟨⟨q - 1, r + Y1, by go_num, by go_num, by omega, by omega, HL⟩, by simp [intOf]; omega⟩
                · have hf2 : decide ((4294967296 : Int) ≤ (r : Int) + (Y1 : Int)) = true := decide_eq_true (by omega)
                  have e0 : q - 1 = Q0 := (HL.out.far (by omega) (by omega)).trans hQ0.out.symm
                  have e1 : (q : Int) - 1 = (Q0 : Int) := by omega
                  clear e0 HL hD HP
                  go_wp2_with fail
                  go_ret2
                  exact ⟨rfl, rfl⟩
              · have e0 : q = Q0 := (hD.out.stop (by rw [HP.out]; omega)).trans hQ0.out.symm
                subst e0
                clear hD HP
                go_wp2_with fail
                go_ret2
                exact ⟨rfl, rfl⟩
            · have hq2 : decide ((4294967296 : Int) ≤ (q : Int)) = true := decide_eq_true (by omega)
              obtain ⟨l1, l2⟩ := hD.out.less (.inl (by omega))
              have HL := Lib.hid l2
              clear l2
              by_cases hf : (r : Int) + (Y1 : Int) < 4294967296
              · have hf2 : decide ((4294967296 : Int) ≤ (r : Int) + (Y1 : Int)) = false := decide_eq_false (by omega)
                go_wp2_with fail
                exact ⟨⟨q - 1, r + Y1, by go_num, by go_num, by omega, by omega, HL⟩, by simp [intOf]; omega⟩
              · have hf2 : decide ((4294967296 : Int) ≤ (r : Int) + (Y1 : Int)) = true := decide_eq_true (by omega)
                have e0 : q - 1 = Q0 := (HL.out.far (by omega) (by omega)).trans hQ0.out.symm
                have e1 : (q : Int) - 1 = (Q0 : Int) := by omega
                clear e0 HL hD HP
                go_wp2_with fail
                go_ret2
                exact ⟨rfl, rfl⟩
      · have e0 : q = Q1 := (hD.out.stop (by rw [HP.out]; omega)).trans hQ1.out.symm
        subst e0
        clear hD HP
        go_wp2_with fail
        go_loop [18, 16] (fun a b => ∃ q r : Nat, a = .int .u64 (q : Int) ∧ b = .int .u64 (r : Int) ∧ r < 4294967296 ∧ q ≤ 4294967297 ∧ Hid (Dig Y Y1 Y0 V q r)) (fun a _ => (intOf a).toNat)
        case atStart => exact ⟨q2, r2, rfl, rfl, hrb2, hq642, HD2⟩
        case round =>
          clear hq2' hq642 hqyb2 hr2 hrb2 hqy2
          obtain ⟨q, r, rfl, rfl, hrb, hqb, hD⟩ := hrel
          obtain ⟨P, hP⟩ : ∃ P, q * Y0 = P := ⟨_, rfl⟩
          have hPb : P < 18446744073709551616 := by rw [← hP]; have := hD.out.p64; omega
          have hPi : (q : Int) * (Y0 : Int) = (P : Int) := by rw [← hP, Int.natCast_mul]
          have HP := Lib.hid hP
          clear hP
          by_cases hq1 : (q : Int) < 4294967296
          · have hq2 : decide ((4294967296 : Int) ≤ (q : Int)) = false := decide_eq_false (by omega)
            by_cases hc : 4294967296 * (r : Int) < (P : Int)
            · obtain ⟨l1, l2⟩ := hD.out.less (.inr (by rw [HP.out]; omega))
              have HL := Lib.hid l2
              clear l2
              by_cases hf : (r : Int) + (Y1 : Int) < 4294967296
              · have hf2 : decide ((4294967296 : Int) ≤ (r : Int) + (Y1 : Int)) = false := decide_eq_false (by omega)
                go_wp2_with fail
                exact ⟨⟨q - 1, r + Y1, by go_num, by go_num, by omega, by omega, HL⟩, by simp [intOf]; omega⟩
              · have hf2 : decide ((4294967296 : Int) ≤ (r : Int) + (Y1 : Int)) = true := decide_eq_true (by omega)
                have e0 : q - 1 = Q0 := (HL.out.far (by omega) (by omega)).trans hQ0.out.symm
                have e1 : (q : Int) - 1 = (Q0 : Int) := by omega
                clear e0 HL hD HP
                go_wp2_with fail
                go_ret2
                exact ⟨rfl, rfl⟩
            · have e0 : q = Q0 := (hD.out.stop (by rw [HP.out]; omega)).trans hQ0.out.symm
              subst e0
              clear hD HP
              go_wp2_with fail
              go_ret2
              exact ⟨rfl, rfl⟩
          · have hq2 : decide ((4294967296 : Int) ≤ (q : Int)) = true := decide_eq_true (by omega)
            obtain ⟨l1, l2⟩ := hD.out.less (.inl (by omega))
            have HL := Lib.hid l2
            clear l2
            by_cases hf : (r : Int) + (Y1 : Int) < 4294967296
            · have hf2 : decide ((4294967296 : Int) ≤ (r : Int) + (Y1 : Int)) = false := decide_eq_false (by omega)
              go_wp2_with fail
              exact ⟨⟨q - 1, r + Y1, by go_num, by go_num, by omega, by omega, HL⟩, by simp [intOf]; omega⟩
            · have hf2 : decide ((4294967296 : Int) ≤ (r : Int) + (Y1 : Int)) = true := decide_eq_true (by omega)
              have e0 : q - 1 = Q0 := (HL.out.far (by omega) (by omega)).trans hQ0.out.symm
              have e1 : (q : Int) - 1 = (Q0 : Int) := by omega
              clear e0 HL hD HP
              go_wp2_with fail
              go_ret2
              exact ⟨rfl, rfl⟩
    · have hq2 : decide ((4294967296 : Int) ≤ (q : Int)) = true := decide_eq_true (by omega)
      obtain ⟨l1, l2⟩ := hD.out.less (.inl (by omega))
      have HL := Lib.hid l2
      clear l2
      by_cases hf : (r : Int) + (Y1 : Int) < 4294967296
      · have hf2 : decide ((4294967296 : Int) ≤ (r : Int) + (Y1 : Int)) = false := decide_eq_false (by omega)
        go_wp2_with fail
        exact ⟨⟨q - 1, r + Y1, by go_num, by go_num, by omega, by omega, HL⟩, by simp [intOf]; omega⟩
      · have hf2 : decide ((4294967296 : Int) ≤ (r : Int) + (Y1 : Int)) = true := decide_eq_true (by omega)
        have e0 : q - 1 = Q1 := (HL.out.far (by omega) (by omega)).trans hQ1.out.symm
        have e1 : (q : Int) - 1 = (Q1 : Int) := by omega
        clear e0 HL hD HP
        go_wp2_with fail
        go_loop [18, 16] (fun a b => ∃ q r : Nat, a = .int .u64 (q : Int) ∧ b = .int .u64 (r : Int) ∧ r < 4294967296 ∧ q ≤ 4294967297 ∧ Hid (Dig Y Y1 Y0 V q r)) (fun a _ => (intOf a).toNat)
        case atStart => exact ⟨q2, r2, rfl, rfl, hrb2, hq642, HD2⟩
        case round =>
          clear hq2' hq642 hqyb2 hr2 hrb2 hqy2
          obtain ⟨q, r, rfl, rfl, hrb, hqb, hD⟩ := hrel
          obtain ⟨P, hP⟩ : ∃ P, q * Y0 = P := ⟨_, rfl⟩
          have hPb : P < 18446744073709551616 := by rw [← hP]; have := hD.out.p64; omega
          have hPi : (q : Int) * (Y0 : Int) = (P : Int) := by rw [← hP, Int.natCast_mul]
          have HP := Lib.hid hP
          clear hP
          by_cases hq1 : (q : Int) < 4294967296
          · have hq2 : decide ((4294967296 : Int) ≤ (q : Int)) = false := decide_eq_false (by omega)
            by_cases hc : 4294967296 * (r : Int) < (P : Int)
            · obtain ⟨l1, l2⟩ := hD.out.less (.inr (by rw [HP.out]; omega))
              have HL := Lib.hid l2
              clear l2
              by_cases hf : (r : Int) + (Y1 : Int) < 4294967296
              · have hf2 : decide ((4294967296 : Int) ≤ (r : Int) + (Y1 : Int)) = false := decide_eq_false (by omega)
                go_wp2_with fail
                exact ⟨⟨q - 1, r + Y1, by go_num, by go_num, by omega, by omega, HL⟩, by simp [intOf]; omega⟩
              · have hf2 : decide ((4294967296 : Int) ≤ (r : Int) + (Y1 : Int)) = true := decide_eq_true (by omega)
                have e0 : q - 1 = Q0 := (HL.out.far (by omega) (by omega)).trans hQ0.out.symm
                have e1 : (q : Int) - 1 = (Q0 : Int) := by omega
                clear e0 HL hD HP
                go_wp2_with fail
                go_ret2
                exact ⟨rfl, rfl⟩
            · have e0 : q = Q0 := (hD.out.stop (by rw [HP.out]; omega)).trans hQ0.out.symm
              subst e0
              clear hD HP
              go_wp2_with fail
              go_ret2
              exact ⟨rfl, rfl⟩
          · have hq2 : decide ((4294967296 : Int) ≤ (q : Int)) = true := decide_eq_true (by omega)
            obtain ⟨l1, l2⟩ := hD.out.less (.inl (by omega))
            have HL := Lib.hid l2
            clear l2
            by_cases hf : (r : Int) + (Y1 : Int) < 4294967296
            · have hf2 : decide ((4294967296 : Int) ≤ (r : Int) + (Y1 : Int)) = false := decide_eq_false (by omega)
              go_wp2_with fail
              exact ⟨⟨q - 1, r + Y1, by go_num, by go_num, by omega, by omega, HL⟩, by simp [intOf]; omega⟩
            · have hf2 : decide ((4294967296 : Int) ≤ (r : Int) + (Y1 : Int)) = true := decide_eq_true (by omega)
              have e0 : q - 1 = Q0 := (HL.out.far (by omega) (by omega)).trans hQ0.out.symm
              have e1 : (q : Int) - 1 = (Q0 : Int) := by omega
              clear e0 HL hD HP
              go_wp2_with fail
              go_ret2
              exact ⟨rfl, rfl⟩

def RetDiv (w : World) (h y : Nat) (e : Ending) (w' : World) : Prop :=
  ∃ q r : Nat, e = .returned (.tuple #[.int .u64 (q : Int), .int .u64 (r : Int)]) ∧ (q < 18446744073709551616 ∧ r < y ∧ h * 18446744073709551616 = q * y + r) ∧ w = w'

theorem div64_any (h y : Nat) (w : World) (hy1 : 4611686018427387904 ≤ y) (hy2 : y < 9223372036854775808) (hhy : h < y) (h0 : 0 < h) :
    Calls Try.prog 56 #[.int .u64 (h : Int), .int .u64 0, .int .u64 (y : Int)] w (RetDiv w h y) := by
  obtain ⟨Y, hY⟩ : ∃ Y, Y = 2 * y := ⟨_, rfl⟩
  obtain ⟨U, hU⟩ : ∃ U, U = 2 * h := ⟨_, rfl⟩
  obtain ⟨Y1, hY1⟩ : ∃ Y1, Y1 = Y / 4294967296 := ⟨_, rfl⟩
  obtain ⟨Y0, hY0⟩ : ∃ Y0, Y0 = Y % 4294967296 := ⟨_, rfl⟩
  have hYb : Y < 18446744073709551616 := by omega
  have hp : 0 < Y1 := by omega
  have D1 := Dig.start (Y := Y) (Y1 := Y1) (Y0 := Y0) (U := U) (by omega) (by omega) (by omega) (by omega) (by omega)
  obtain ⟨Q1, hQ1⟩ : ∃ Q1, Q1 = U * 4294967296 / Y := ⟨_, rfl⟩
  obtain ⟨V, hV⟩ : ∃ V, V = U * 4294967296 % Y := ⟨_, rfl⟩
  have hVY : V < Y := by rw [hV]; exact Nat.mod_lt _ (by omega)
  have D2 := Dig.start (Y := Y) (Y1 := Y1) (Y0 := Y0) (U := V) (by omega) (by omega) (by omega) (by omega) hVY
  obtain ⟨Q0, hQ0⟩ : ∃ Q0, Q0 = V * 4294967296 / Y := ⟨_, rfl⟩
  obtain ⟨R, hR⟩ : ∃ R, R = V * 4294967296 % Y := ⟨_, rfl⟩
  have hRY : R < Y := by rw [hR]; exact Nat.mod_lt _ (by omega)
  have l1 := D1.lt
  have l2 := D2.lt
  rw [← hQ1] at l1
  rw [← hQ0] at l2
  obtain ⟨t1, t2⟩ := two_digits hU hY (by omega) hQ1 hV hQ0 hR
  have e1 := Nat.div_add_mod (U * 4294967296) Y
  have e2 := Nat.div_add_mod (V * 4294967296) Y
  rw [← hQ1, ← hV, Nat.mul_comm] at e1
  rw [← hQ0, ← hR, Nat.mul_comm] at e2
  have hL : bitLen y = 63 := bitLen_uniq (by omega) (by omega) (by omega)
  have m1 := D1.sum
  have m2 := D2.sum
  have k1 := D1.most
  have k2 := D2.most
  have r1 := Nat.mod_lt U hp
  have r2 := Nat.mod_lt V hp
  have dq1 : ((U : Int) / (Y1 : Int)) = ((U / Y1 : Nat) : Int) := (Int.natCast_ediv U Y1).symm
  have dq2 : ((V : Int) / (Y1 : Int)) = ((V / Y1 : Nat) : Int) := (Int.natCast_ediv V Y1).symm
  have D1h := Lib.hid D1
  have D2h := Lib.hid D2
  have mq : ∀ a b : Nat, IntKind.u64.wrap ((a : Int) * (b : Int)) = ((a * b % 18446744073709551616 : Nat) : Int) := fun a b => by
    rw [← Int.natCast_mul, IntKind.wrap_u64]; omega
  have mw : ∀ a : Nat, IntKind.u64.wrap ((a : Int) * 4294967296) = ((a * 4294967296 % 18446744073709551616 : Nat) : Int) := fun a => mq a 4294967296
  have ms : ∀ a c b : Nat, c ≤ a → b = a - c → b < 18446744073709551616 → IntKind.u64.wrap (((a % 18446744073709551616 : Nat) : Int) - ((c % 18446744073709551616 : Nat) : Int)) = (b : Int) := fun a c b x1 x2 x3 => by
    rw [IntKind.wrap_u64]; omega
  have or0 : bits .or .u64 (U : Int) 0 = (U : Int) := by
    have := u64_or_nat U 0 (by omega) (by decide)
    rw [Nat.or_zero] at this
    exact this
  have and0 : bits .and .u64 (Y : Int) 4294967295 = (Y0 : Int) := by
    have := u64_and_nat Y 4294967295 hYb (by decide)
    rw [show (4294967295 : Nat) = 2 ^ 32 - 1 by decide, Nat.and_two_pow_sub_one_eq_mod] at this
    rw [hY0]
    exact this
  generalize U / Y1 = q1 at *
  generalize U % Y1 = s1 at *
  generalize V / Y1 = q2 at *
  generalize V % Y1 = s2 at *
  obtain ⟨p1, hp1⟩ : ∃ p, p = q1 * Y1 := ⟨_, rfl⟩
  obtain ⟨p2, hp2⟩ : ∃ p, p = q2 * Y1 := ⟨_, rfl⟩
  obtain ⟨x1, hx1⟩ : ∃ x, x = Q1 * Y := ⟨_, rfl⟩
  obtain ⟨x0, hx0⟩ : ∃ x, x = Q0 * Y := ⟨_, rfl⟩
  rw [← hp1] at m1
  rw [← hp2] at m2
  rw [← hx1] at e1
  rw [← hx0] at e2
  have c := div64_walk h y Y U Y1 Y0 w hy1 hy2 hhy h0 (Lib.hid (by rw [hL]; rfl)) (by omega) (by omega) or0 (by omega) and0
    (by decide) (by omega) (by omega) (by omega) (by omega)
    q1 s1 p1 dq1 k1 (by rw [hp1, Int.natCast_mul]) (by omega) (by omega) (by omega) D1h
    Q1 V (U * 4294967296 % 18446744073709551616) (x1 % 18446744073709551616) (Lib.hid hQ1) l1 (mw U) (by omega) (by rw [mq, ← hx1]) (ms _ _ _ (by omega) (by omega) (by omega)) (by omega)
    q2 s2 p2 dq2 k2 (by rw [hp2, Int.natCast_mul]) (by omega) (by omega) (by omega) D2h
    Q0 (V * 4294967296 % 18446744073709551616) (x0 % 18446744073709551616) R (R / 2) (Lib.hid hQ0) l2 (mw V) (by omega) (by rw [mq, ← hx0]) (ms _ _ _ (by omega) (by omega) (by omega)) (by omega) (by omega)
  refine c.mono fun _ _ ⟨a, b⟩ => ⟨Q1 * 4294967296 + Q0, R / 2, ?_, ⟨by omega, by omega, ?_⟩, b⟩
  · rw [a, Int.natCast_add, Int.natCast_mul]; rfl
  · rw [t1, t2]
    have := Nat.div_add_mod (h * 18446744073709551616) y
    rw [Nat.mul_comm y] at this
    exact this.symm
end Go.Proofs.Ythddodhcpfponaa
