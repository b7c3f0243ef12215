/-
  The floats straight below and above a number (edge).
-/
import Derived.Test.YtejlicacndpfpaaFlt
import Derived.Test.YtejlicacndpfpaaZero
import Derived.Test.YtejlicacndpfpaaShelf
import Derived.Laws.MathBits
import Derived.Test.YtejlicacndpfpaaRndU
/-! math.Ldexp of a whole number below 2^53, where the answer is exact. -/
namespace Go.Proofs.Ytejlicacndpfpaa
open Go.RowKit

theorem norm_whole (r : Nat) (h1 : 4503599627370496 ≤ r) (h2 : r < Flt.inf) (w : World) : Calls Try.prog 182 #[.float .f64 r] w fun e w' => e = .returned (.tuple #[.float .f64 r, .int .i64 0]) ∧ w = w' := by
  have hi := Flt.inf_eq
  have hrg : Flt.rg r = r := by unfold Flt.rg; omega
  have hc : (Ieee.double.order (Flt.rg r) 4503599627370496 == some .lt) = false := by
    rw [hrg, Flt.lt_spec (by unfold Flt.Nan; omega) (by unfold Flt.Nan Flt.rg; omega)]
    have e1 : Flt.sv r = Flt.val r := by rw [← hrg, Flt.sv_rg, hrg]
    have e2 : Flt.sv 4503599627370496 = Flt.val 4503599627370496 := by rfl
    rw [e1, e2]
    have := Flt.val_le h1
    exact decide_eq_false (by omega)
  have h64 : r < 2 ^ 64 := by omega
  clear hi hrg
  go_enter Try.func182, Try.ntmps182
  go_wp2_with (go_at_call 163; refine (abs_any _ h64 _).mono ?_; rintro e w' ⟨rfl, rfl⟩)
  go_ret2
  exact ⟨rfl, rfl⟩

theorem upon_fmul {P : Program} {w : World} {o : Oper} {a : Act} {next : Act → World → Prop} {Q : Exit → Act → World → Prop} {t : TypeId} {x y z : Nat}
    (hz : Ieee.double.mul x y = some z) (hK : next (a.put o.dst (.float .f64 z)) w) :
    o.upon P a next Q (((binOp .mul t (.float .f64 x) (.float .f64 y)).run P w).andThen fun v w' => .ok (.value v) w') := by
  rw [run_float_arith w .mul t .f64 x y z hz]
  exact hK

set_option maxHeartbeats 600000 in
theorem ldexp_norm (R q t res : Nat) (k : Int) (w : World) (hk1 : -1074 ≤ k) (hk2 : k ≤ 971) (hR1 : 4503599627370496 ≤ R) (hR2 : R < 9218868437227405312) (hq1 : 1023 ≤ q) (hq2 : q ≤ 1075)
    (h0 : (Ieee.double.order R 0 == some .eq) = false) (hi : Flt.infB R = false) (hn : Flt.nanB R = false)
    (eb : bits .and .i64 ((R : Int) / 4503599627370496) 2047 = (q : Int)) (ab : bits .andNot .u64 (R : Int) 9218868437227405312 = (t : Int))
    (hlt : -1022 ≤ k + ((q : Int) - 1023)) (hle : k + ((q : Int) - 1023) ≤ 1023)
    (ob : Hid (bits .or .u64 (t : Int) ((k + ((q : Int) - 1023) + 1023) * 4503599627370496) = (res : Int))) (hm : Hid (Ieee.double.mul 4607182418800017408 res = some res)) :
    Calls Try.prog 181 #[.float .f64 R, .int .i64 k] w fun e w' => e = .returned (.float .f64 res) ∧ w = w' := by
  have h64 : R < 2 ^ 64 := by omega
  have hR3 : R < Flt.inf := by rw [Flt.inf_eq]; exact hR2
  go_enter Try.func181, Try.ntmps181
  go_wp2_with (first | (go_at_call 136; refine (isInf0_any _ h64 _).mono ?_; rintro e w' ⟨rfl, rfl⟩; rw [hi]) | (go_at_call 137; refine (isNaN_any _ _).mono ?_; rintro e w' ⟨rfl, rfl⟩; rw [hn]) | (go_at_call 182; refine (norm_whole _ hR1 hR3 _).mono ?_; rintro e w' ⟨rfl, rfl⟩))
  rw [ob.out, Int.toNat_natCast]
  refine upon_fmul hm.out ?_
  go_wp2
  go_ret
  exact ⟨rfl, rfl⟩

set_option maxHeartbeats 600000 in
theorem ldexp_low (R q t y res : Nat) (w : World) (hR1 : 4503599627370496 ≤ R) (hR2 : R < 9218868437227405312) (hq1 : 1023 ≤ q) (hq2 : q ≤ 1074)
    (h0 : (Ieee.double.order R 0 == some .eq) = false) (hi : Flt.infB R = false) (hn : Flt.nanB R = false)
    (eb : bits .and .i64 ((R : Int) / 4503599627370496) 2047 = (q : Int)) (ab : bits .andNot .u64 (R : Int) 9218868437227405312 = (t : Int))
    (ob : Hid (bits .or .u64 (t : Int) ((-1074 + ((q : Int) - 1023) + 53 + 1023) * 4503599627370496) = (y : Int))) (hm : Hid (Ieee.double.mul 4368491638549381120 y = some res)) :
    Calls Try.prog 181 #[.float .f64 R, .int .i64 (-1074)] w fun e w' => e = .returned (.float .f64 res) ∧ w = w' := by
  have h64 : R < 2 ^ 64 := by omega
  have hR3 : R < Flt.inf := by rw [Flt.inf_eq]; exact hR2
  go_enter Try.func181, Try.ntmps181
  go_wp2_with (first | (go_at_call 136; refine (isInf0_any _ h64 _).mono ?_; rintro e w' ⟨rfl, rfl⟩; rw [hi]) | (go_at_call 137; refine (isNaN_any _ _).mono ?_; rintro e w' ⟨rfl, rfl⟩; rw [hn]) | (go_at_call 182; refine (norm_whole _ hR1 hR3 _).mono ?_; rintro e w' ⟨rfl, rfl⟩))
  rw [ob.out, Int.toNat_natCast]
  refine upon_fmul hm.out ?_
  go_wp2
  go_ret
  exact ⟨rfl, rfl⟩

theorem ldexp_zero (k : Int) (w : World) : Calls Try.prog 181 #[.float .f64 0, .int .i64 k] w fun e w' => e = .returned (.float .f64 0) ∧ w = w' := by
  have h0 : (Ieee.double.order 0 0 == some .eq) = true := by decide
  go_enter Try.func181, Try.ntmps181
  go_wp2
  go_ret
  exact ⟨rfl, rfl⟩

theorem and_top (x : Nat) (h : x < 2 ^ 63) : x &&& 2 ^ 63 = 0 := by
  apply Nat.eq_of_testBit_eq
  intro i
  rw [Nat.testBit_and, Nat.testBit_two_pow, Nat.zero_testBit]
  by_cases hi : 63 = i
  · subst hi; rw [Nat.testBit_lt_two_pow h]; rfl
  · simp [hi]
theorem ldx_andNot (R : Nat) (h : R < 2 ^ 63) : bits .andNot .u64 (R : Int) 9218868437227405312 = ((R % 2 ^ 52 : Nat) : Int) := by
  have := u64_andNot_nat R 9218868437227405312 (by omega) (by omega)
  rw [show ((9218868437227405312 : Nat) : Int) = 9218868437227405312 from rfl] at this
  rw [this]
  congr 1
  rw [show (18446744073709551615 - 9218868437227405312 : Nat) = 2 ^ 63 ||| (2 ^ 52 - 1) by decide, Nat.and_or_distrib_left, and_top R h, Nat.zero_or]
  exact Nat.and_two_pow_sub_one_eq_mod R 52
theorem ofInt_i64 (a : Nat) (ha : a < 9223372036854775808) : (BitVec.ofInt 64 (a : Int)).toNat = a := by
  rw [BitVec.ofInt_natCast, BitVec.toNat_ofNat]; exact Nat.mod_eq_of_lt (by omega)
theorem i64_and_nat (a b : Nat) (ha : a < 9223372036854775808) (hb : b < 9223372036854775808) : bits .and .i64 (a : Int) (b : Int) = ((a &&& b : Nat) : Int) := by
  have hx : a &&& b < 2 ^ 63 := Nat.and_lt_two_pow _ (by omega)
  show IntKind.i64.wrap ((BitVec.ofInt 64 (a : Int) &&& BitVec.ofInt 64 (b : Int)).toNat : Int) = _
  rw [BitVec.toNat_and, ofInt_i64 a ha, ofInt_i64 b hb, IntKind.wrap_i64]
  omega
theorem ldx_and (x : Nat) (h : x < 2 ^ 63) : bits .and .i64 ((x : Int) / 4503599627370496) 2047 = ((x / 2 ^ 52 : Nat) : Int) := by
  have := i64_and_nat (x / 2 ^ 52) 2047 (by omega) (by omega)
  rw [show ((2047 : Nat) : Int) = 2047 from rfl, show ((x / 2 ^ 52 : Nat) : Int) = (x : Int) / 4503599627370496 by omega] at this
  rw [this, Nat.and_two_pow_sub_one_eq_mod _ 11]
  omega
theorem ldx_or (t : Nat) (E : Nat) (e : Int) (he : e = (E : Int) * 4503599627370496) (ht : t < 2 ^ 52) (hE : E < 2048) : bits .or .u64 (t : Int) e = ((E * 2 ^ 52 + t : Nat) : Int) := by
  have := u64_or_nat t (E * 2 ^ 52) (by omega) (by omega)
  rw [show ((E * 2 ^ 52 : Nat) : Int) = e by omega] at this
  rw [this]
  congr 1
  rw [Nat.or_comm, Nat.mul_comm, ← Nat.two_pow_add_eq_or_of_lt ht]

/-- The whole number m times 2^k, exactly. -/
theorem ldexp_of (m R E res : Nat) (k : Int) (w : World) (hR : Hid (R = Flt.whole m)) (hm : m < 2 ^ 53) (hE : (E : Int) - 1074 = k) (hk2 : k ≤ 971) (hn : E = 0 ∨ 2 ^ 52 ≤ m) (hres : Hid (res = E * 2 ^ 52 + m)) :
    Calls Try.prog 181 #[.float .f64 R, .int .i64 k] w fun e w' => e = .returned (.float .f64 res) ∧ w = w' := by
  obtain rfl := hR.out
  have vr : Flt.val res = m * 2 ^ E := by rw [hres.out]; exact Flt.val_at _ _ (by omega) hn
  have hr := hres.out
  have hinf := Flt.inf_eq
  by_cases h0 : m = 0
  · subst h0
    have : res = 0 := by omega
    subst this
    exact ldexp_zero _ w
  · obtain ⟨t1, t2⟩ := Flt.tail52_spec h0 hm
    have hl := Flt.log_52 h0 hm
    have tl := Flt.two_log h0
    have hvm := Flt.val_whole hm
    have hw : Flt.whole m = (m.log2 + 1023) * 2 ^ 52 + Flt.tail52 m := by unfold Flt.whole; rw [if_neg h0]
    have v1 := Flt.val_tail h0 hm
    have hL52 : 2 ^ 52 ≤ m → m.log2 = 52 := fun h => by
      rcases Nat.lt_or_ge m.log2 52 with h' | h'
      · have : 2 ^ (m.log2 + 1) ≤ 2 ^ 52 := Nat.pow_le_pow_right (by decide) h'
        omega
      · omega
    generalize Flt.tail52 m = t at *
    generalize hL : m.log2 = L at *
    generalize Flt.whole m = R at *
    have hrg : Flt.rg R = R := by unfold Flt.rg; omega
    have f0 : (Ieee.double.order R 0 == some .eq) = false := by
      rw [Flt.eq_spec (by unfold Flt.Nan; omega) (by unfold Flt.Nan Flt.rg; omega)]
      have e2 : Flt.sv 0 = 0 := rfl
      rw [e2]
      refine decide_eq_false fun h => ?_
      have := Flt.sv_zero_iff.1 h
      omega
    have fi : Flt.infB R = false := by unfold Flt.infB; exact decide_eq_false (by omega)
    have fn : Flt.nanB R = false := by unfold Flt.nanB; exact decide_eq_false (by omega)
    have ab := ldx_andNot R (by omega)
    have eb := ldx_and R (by omega)
    rw [show R % 2 ^ 52 = t by omega] at ab
    rw [show R / 2 ^ 52 = L + 1023 by omega] at eb
    have il := Flt.inf_lt
    have hK := Flt.K74_eq
    have p1 : Flt.val 4607182418800017408 = 2 ^ Flt.K74 := by
      rw [show (4607182418800017408 : Nat) = Flt.whole 1 by rfl, Flt.val_whole (by decide), Nat.one_mul]
    have p2 : Flt.val 4368491638549381120 * 2 ^ 53 = 2 ^ Flt.K74 := by
      obtain ⟨E0, hE0⟩ : ∃ E0 : Nat, E0 = 969 := ⟨_, rfl⟩
      have v := Flt.val_tail (m := 1) (by decide) (by decide) E0
      have e1 : (E0 + 1) * 2 ^ 52 + Flt.tail52 1 = 4368491638549381120 := by rw [hE0]; rfl
      rw [e1, Nat.one_mul] at v
      rw [v, ← Nat.pow_add, show 52 - Nat.log2 1 + E0 + 53 = Flt.K74 by rw [hK, hE0]; rfl]
    by_cases hlow : 52 ≤ E + L
    · have hres2 : res = (E + L - 52 + 1) * 2 ^ 52 + t := by
        have v2 := v1 (E + L - 52)
        rw [show 52 - L + (E + L - 52) = E by omega] at v2
        exact Flt.val_inj (vr.trans v2.symm)
      refine ldexp_norm R (L + 1023) t res k w (by omega) hk2 (by omega) (by omega) (by omega) (by omega) f0 fi fn eb ab (by omega) (by omega) ?_ ?_
      · rw [hres2]
        exact ldx_or t _ _ (by omega) t1 (by omega)
      · exact Lib.hid (Flt.mul_one_pow (by omega) (by omega) (by omega) (by rw [p1]))
    · have hE0 : E = 0 := by omega
      subst hE0
      have hk : k = -1074 := by omega
      subst hk
      rw [Nat.pow_zero, Nat.mul_one] at vr
      refine ldexp_low R (L + 1023) t ((L + 1 + 1) * 2 ^ 52 + t) res w (by omega) (by omega) (by omega) (by omega) f0 fi fn eb ab ?_ ?_
      · exact ldx_or t _ _ (by omega) t1 (by omega)
      · refine Lib.hid (Flt.mul_one_pow (by omega) (by omega) (by omega) ?_)
        rw [v1, vr, ← p2, show 52 - L + (L + 1) = 53 by omega, Nat.mul_assoc, Nat.mul_comm (2 ^ 53)]

theorem Ldexp_any (m R E res : Nat) (k : Int) (w : World) (hR : Hid (R = Flt.whole m)) (hm : m < 2 ^ 53) (hE : (E : Int) - 1074 = k) (hk2 : k ≤ 971) (hn : E = 0 ∨ 2 ^ 52 ≤ m) (hres : Hid (res = E * 2 ^ 52 + m)) :
    Calls Try.prog 177 #[.float .f64 R, .int .i64 k] w fun e w' => e = .returned (.float .f64 res) ∧ w = w' := by
  have HE := Lib.hid hE
  clear hE
  go_enter Try.func177, Try.ntmps177
  go_wp2_with (go_at_call 181; refine (ldexp_of m R E res k _ hR hm HE.out hk2 hn hres).mono ?_; rintro e w' ⟨rfl, rfl⟩)
  go_ret
  exact ⟨rfl, rfl⟩
end Go.Proofs.Ytejlicacndpfpaa

/-! The program's floats straight below and above a number (edge): under. -/
namespace Go.Proofs.Ytejlicacndpfpaa
open Go.RowKit

theorem bitLen_step {x : Nat} (h : x ≠ 0) : bitLen x = 1 + bitLen (x / 2) := by
  by_cases h1 : x / 2 = 0
  · have : x = 1 := by omega
    subst this; rfl
  · have := bitLen_shift x 1 (by simpa using h1)
    rw [Nat.pow_one] at this
    omega
theorem lib_bitLenAux : ∀ (f x : Nat), x < 2 ^ f → Lib.bitLenAux f x = bitLen x
  | 0, x, h => by
    have : x = 0 := by simpa using h
    subst this; rfl
  | f + 1, x, h => by
    unfold Lib.bitLenAux
    by_cases h0 : x = 0
    · subst h0; rfl
    · rw [if_neg h0, lib_bitLenAux f (x / 2) (by rw [Nat.pow_succ] at h; omega), bitLen_step h0]
theorem lib_bitLen {x : Nat} (h : x < 2 ^ 64) : Lib.bitLen x = bitLen x := lib_bitLenAux 64 x h
theorem float_whole {z : Int} {m : Nat} (hz : z = (m : Int)) (hm : m < 2 ^ 53) : floatOfInt .f64 z = Flt.whole m := by
  subst hz
  obtain ⟨r, h1, h2⟩ := Flt.nearest_spec (decide ((m : Int) < 0)) m 0
  have e : floatOfInt .f64 (m : Int) = Ieee.double.nearest (decide ((m : Int) < 0)) m 0 := by
    show Ieee.double.nearest (decide ((m : Int) < 0)) (m : Int).natAbs 0 = _
    rw [Int.natAbs_natCast]
  rw [e, h1, Flt.double_word, decide_eq_false (by omega)]
  have hv := Flt.val_whole hm
  have hK := Flt.K74_eq
  have ha : ((0 : Int) + 1074).toNat = Flt.K74 := by rw [hK]; rfl
  have hb : (-((0 : Int) + 1074)).toNat = 0 := by omega
  rw [ha, hb, Nat.pow_zero, ← hv] at h2
  exact Flt.near_eq h2 (Nat.le_of_lt (Flt.whole_lt hm)) rfl

/-- Where the call of Ldexp ends. -/
structure Ldx (m E res : Nat) (k : Int) : Prop where
  small : m < 2 ^ 53
  place : (E : Int) - 1074 = k
  top : k ≤ 971
  low : E = 0 ∨ 2 ^ 52 ≤ m
  word : res = E * 2 ^ 52 + m
theorem Ldx.call {m E res : Nat} {k : Int} (L : Hid (Ldx m E res k)) {z : Int} (hz : Hid (z = (m : Int))) (w : World) :
    Calls Try.prog 177 #[.float .f64 (floatOfInt .f64 z), .int .i64 k] w fun e w' => e = .returned (.float .f64 res) ∧ w = w' :=
  Ldexp_any m _ E res k w (Lib.hid (float_whole hz.out L.out.small)) L.out.small L.out.place L.out.top L.out.low (Lib.hid L.out.word)

end Go.Proofs.Ytejlicacndpfpaa
