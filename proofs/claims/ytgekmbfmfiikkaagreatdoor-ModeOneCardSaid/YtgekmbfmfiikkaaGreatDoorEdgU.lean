/-
  The floats straight below and above a number (edge).
-/
import Derived.Test.YtgekmbfmfiikkaaGreatDoorFlt
import Derived.Test.YtgekmbfmfiikkaaGreatDoorZero
import Derived.Test.YtgekmbfmfiikkaaGreatDoorShelf
import Derived.Laws.MathBits
import Derived.Test.YtgekmbfmfiikkaaGreatDoorRndU
set_option maxHeartbeats 1000000
/-! math.Ldexp of a whole number below 2^53, where the answer is exact. -/
namespace Go.Proofs.YtgekmbfmfiikkaaGreatDoor
open Go.RowKit
theorem norm_whole (r : Nat) (h1 : 4503599627370496 ≤ r) (h2 : r < Flt.inf) (w : World) : Calls Tryz.prog 370 #[.float .f64 r] w fun e w' => e = .returned (.tuple #[.float .f64 r, .int .i64 0]) ∧ w = w' := by
 have hi := Flt.inf_eq
 have hrg : Flt.rg r = r := by unfold Flt.rg; omega
 have hc : (Ieee.double.order (Flt.rg r) 4503599627370496 == some .lt) = false := by
  rw [hrg, Flt.lt_spec (by unfold Flt.Nan; omega) (by unfold Flt.Nan Flt.rg; omega)]
  have e1 : Flt.sv r = Flt.val r := by rw [← hrg, Flt.sv_rg, hrg]
  have e2 : Flt.sv 4503599627370496 = Flt.val 4503599627370496 := by rfl
  rw [e1, e2]
  have := Flt.val_le h1
  exact decide_eq_false (by omega)
 have h64 : r < 2 ^ 64 := by omega
 clear hi hrg
 go_enter Tryz.func370, Tryz.ntmps370
 go_wp2_with (go_at_call 318; refine (abs_any _ h64 _).mono ?_; rintro e w' ⟨rfl, rfl⟩)
 go_ret2
 exact ⟨rfl, rfl⟩
theorem upon_fmul {P : Program} {w : World} {o : Oper} {a : Act} {next : Act → World → Prop} {Q : Exit → Act → World → Prop} {t : TypeId} {x y z : Nat}
  (hz : Ieee.double.mul x y = some z) (hK : next (a.put o.dst (.float .f64 z)) w) :
  o.upon P a next Q (((binOp .mul t (.float .f64 x) (.float .f64 y)).run P w).andThen fun v w' => .ok (.value v) w') := by
 rw [run_float_arith w .mul t .f64 x y z hz]
 exact hK
theorem ldexp_norm (R q t res : Nat) (k : Int) (w : World) (hk1 : -1074 ≤ k) (hk2 : k ≤ 971) (hR1 : 4503599627370496 ≤ R) (hR2 : R < 9218868437227405312) (hq1 : 1023 ≤ q) (hq2 : q ≤ 1075)
  (h0 : (Ieee.double.order R 0 == some .eq) = false) (hi : Flt.infB R = false) (hn : Flt.nanB R = false)
  (eb : bits .and .i64 ((R : Int) / 4503599627370496) 2047 = (q : Int)) (ab : bits .andNot .u64 (R : Int) 9218868437227405312 = (t : Int))
  (hlt : -1022 ≤ k + ((q : Int) - 1023)) (hle : k + ((q : Int) - 1023) ≤ 1023)
  (ob : Hid (bits .or .u64 (t : Int) ((k + ((q : Int) - 1023) + 1023) * 4503599627370496) = (res : Int))) (hm : Hid (Ieee.double.mul 4607182418800017408 res = some res)) :
  Calls Tryz.prog 361 #[.float .f64 R, .int .i64 k] w fun e w' => e = .returned (.float .f64 res) ∧ w = w' := by
 have h64 : R < 2 ^ 64 := by omega
 have hR3 : R < Flt.inf := by rw [Flt.inf_eq]; exact hR2
 go_enter Tryz.func361, Tryz.ntmps361
 go_wp2_with (first | (go_at_call 319; refine (isInf0_any _ h64 _).mono ?_; rintro e w' ⟨rfl, rfl⟩; rw [hi]) | (go_at_call 321; refine (isNaN_any _ _).mono ?_; rintro e w' ⟨rfl, rfl⟩; rw [hn]) | (go_at_call 370; refine (norm_whole _ hR1 hR3 _).mono ?_; rintro e w' ⟨rfl, rfl⟩))
 rw [ob.out, Int.toNat_natCast]
 refine upon_fmul hm.out ?_
 go_wp2
 go_ret
 exact ⟨rfl, rfl⟩
theorem ldexp_low (R q t y res : Nat) (w : World) (hR1 : 4503599627370496 ≤ R) (hR2 : R < 9218868437227405312) (hq1 : 1023 ≤ q) (hq2 : q ≤ 1074)
  (h0 : (Ieee.double.order R 0 == some .eq) = false) (hi : Flt.infB R = false) (hn : Flt.nanB R = false)
  (eb : bits .and .i64 ((R : Int) / 4503599627370496) 2047 = (q : Int)) (ab : bits .andNot .u64 (R : Int) 9218868437227405312 = (t : Int))
  (ob : Hid (bits .or .u64 (t : Int) ((-1074 + ((q : Int) - 1023) + 53 + 1023) * 4503599627370496) = (y : Int))) (hm : Hid (Ieee.double.mul 4368491638549381120 y = some res)) :
  Calls Tryz.prog 361 #[.float .f64 R, .int .i64 (-1074)] w fun e w' => e = .returned (.float .f64 res) ∧ w = w' := by
 have h64 : R < 2 ^ 64 := by omega
 have hR3 : R < Flt.inf := by rw [Flt.inf_eq]; exact hR2
 go_enter Tryz.func361, Tryz.ntmps361
 go_wp2_with (first | (go_at_call 319; refine (isInf0_any _ h64 _).mono ?_; rintro e w' ⟨rfl, rfl⟩; rw [hi]) | (go_at_call 321; refine (isNaN_any _ _).mono ?_; rintro e w' ⟨rfl, rfl⟩; rw [hn]) | (go_at_call 370; refine (norm_whole _ hR1 hR3 _).mono ?_; rintro e w' ⟨rfl, rfl⟩))
 rw [ob.out, Int.toNat_natCast]
 refine upon_fmul hm.out ?_
 go_wp2
 go_ret
 exact ⟨rfl, rfl⟩
theorem ldexp_zero (k : Int) (w : World) : Calls Tryz.prog 361 #[.float .f64 0, .int .i64 k] w fun e w' => e = .returned (.float .f64 0) ∧ w = w' := by
 have h0 : (Ieee.double.order 0 0 == some .eq) = true := by decide
 go_enter Tryz.func361, Tryz.ntmps361
 go_wp2
 go_ret
 exact ⟨rfl, rfl⟩
theorem and_top (x : Nat) (h : x < 2 ^ 63) : x &&& 2 ^ 63 = 0 := by
 apply Nat.eq_of_testBit_eq
 intro i
 rw [Nat.testBit_and, Nat.testBit_two_pow, Nat.zero_testBit]
 by_cases hi : 63 = i
 ·subst hi; rw [Nat.testBit_lt_two_pow h]; rfl
 ·simp [hi]
theorem ldx_andNot (R : Nat) (h : R < 2 ^ 63) : bits .andNot .u64 (R : Int) 9218868437227405312 = ((R % 2 ^ 52 : Nat) : Int) := by
 have := u64_andNot_nat R 9218868437227405312 (by omega) (by omega)
 rw [show ((9218868437227405312 : Nat) : Int) = 9218868437227405312 from rfl] at this
 rw [this]
 congr 1
 rw [show (18446744073709551615 - 9218868437227405312 : Nat) = 2 ^ 63 ||| (2 ^ 52 - 1) by decide, Nat.and_or_distrib_left, and_top R h, Nat.zero_or]
 exact Nat.and_two_pow_sub_one_eq_mod R 52
theorem ofInt_i64 (a : Nat) (ha : a < 9223372036854775808) : (BitVec.ofInt 64 (a : Int)).toNat = a := by
 rw [BitVec.ofInt_natCast, BitVec.toNat_ofNat]; exact Nat.mod_eq_of_lt (by omega)
theorem i64_and_nat (a b : Nat) (ha : a < 9223372036854775808) (hb : b < 9223372036854775808) : bits .and .i64 (a : Int) (b : Int) = ((a &&& b : Nat) : Int) := by
 have hx : a &&& b < 2 ^ 63 := Nat.and_lt_two_pow _ (by omega)
 show IntKind.i64.wrap ((BitVec.ofInt 64 (a : Int) &&& BitVec.ofInt 64 (b : Int)).toNat : Int) = _
 rw [BitVec.toNat_and, ofInt_i64 a ha, ofInt_i64 b hb, IntKind.wrap_i64]
 omega
theorem ldx_and (x : Nat) (h : x < 2 ^ 63) : bits .and .i64 ((x : Int) / 4503599627370496) 2047 = ((x / 2 ^ 52 : Nat) : Int) := by
 have := i64_and_nat (x / 2 ^ 52) 2047 (by omega) (by omega)
 rw [show ((2047 : Nat) : Int) = 2047 from rfl, show ((x / 2 ^ 52 : Nat) : Int) = (x : Int) / 4503599627370496 by omega] at this
 rw [this, Nat.and_two_pow_sub_one_eq_mod _ 11]
 omega
theorem ldx_or (t : Nat) (E : Nat) (e : Int) (he : e = (E : Int) * 4503599627370496) (ht : t < 2 ^ 52) (hE : E < 2048) : bits .or .u64 (t : Int) e = ((E * 2 ^ 52 + t : Nat) : Int) := by
 have := u64_or_nat t (E * 2 ^ 52) (by omega) (by omega)
 rw [show ((E * 2 ^ 52 : Nat) : Int) = e by omega] at this
 rw [this]
 congr 1
 rw [Nat.or_comm, Nat.mul_comm, ← Nat.two_pow_add_eq_or_of_lt ht]
theorem ldexp_of (m R E res : Nat) (k : Int) (w : World) (hR : Hid (R = Flt.whole m)) (hm : m < 2 ^ 53) (hE : (E : Int) - 1074 = k) (hk2 : k ≤ 971) (hn : E = 0 ∨ 2 ^ 52 ≤ m) (hres : Hid (res = E * 2 ^ 52 + m)) :
  Calls Tryz.prog 361 #[.float .f64 R, .int .i64 k] w fun e w' => e = .returned (.float .f64 res) ∧ w = w' := by
 obtain rfl := hR.out
 have vr : Flt.val res = m * 2 ^ E := by rw [hres.out]; exact Flt.val_at _ _ (by omega) hn
 have hr := hres.out
 have hinf := Flt.inf_eq
 by_cases h0 : m = 0
 ·subst h0
  have : res = 0 := by omega
  subst this
  exact ldexp_zero _ w
 ·obtain ⟨t1, t2⟩ := Flt.tail52_spec h0 hm
  have hl := Flt.log_52 h0 hm
  have tl := Flt.two_log h0
  have hvm := Flt.val_whole hm
  have hw : Flt.whole m = (m.log2 + 1023) * 2 ^ 52 + Flt.tail52 m := by unfold Flt.whole; rw [if_neg h0]
  have v1 := Flt.val_tail h0 hm
  have hL52 : 2 ^ 52 ≤ m → m.log2 = 52 := fun h => by
   rcases Nat.lt_or_ge m.log2 52 with h' | h'
   ·have : 2 ^ (m.log2 + 1) ≤ 2 ^ 52 := Nat.pow_le_pow_right (by decide) h'
    omega
   ·omega
  generalize Flt.tail52 m = t at *
  generalize hL : m.log2 = L at *
  generalize Flt.whole m = R at *
  have hrg : Flt.rg R = R := by unfold Flt.rg; omega
  have f0 : (Ieee.double.order R 0 == some .eq) = false := by
   rw [Flt.eq_spec (by unfold Flt.Nan; omega) (by unfold Flt.Nan Flt.rg; omega)]
   have e2 : Flt.sv 0 = 0 := rfl
   rw [e2]
   refine decide_eq_false fun h => ?_
   have := Flt.sv_zero_iff.1 h
   omega
  have fi : Flt.infB R = false := by unfold Flt.infB; exact decide_eq_false (by omega)
  have fn : Flt.nanB R = false := by unfold Flt.nanB; exact decide_eq_false (by omega)
  have ab := ldx_andNot R (by omega)
  have eb := ldx_and R (by omega)
  rw [show R % 2 ^ 52 = t by omega] at ab
  rw [show R / 2 ^ 52 = L + 1023 by omega] at eb
  have il := Flt.inf_lt
  have hK := Flt.K74_eq
  have p1 : Flt.val 4607182418800017408 = 2 ^ Flt.K74 := by
   rw [show (4607182418800017408 : Nat) = Flt.whole 1 by rfl, Flt.val_whole (by decide), Nat.one_mul]
  have p2 : Flt.val 4368491638549381120 * 2 ^ 53 = 2 ^ Flt.K74 := by
   obtain ⟨E0, hE0⟩ : ∃ E0 : Nat, E0 = 969 := ⟨_, rfl⟩
   have v := Flt.val_tail (m := 1) (by decide) (by decide) E0
   have e1 : (E0 + 1) * 2 ^ 52 + Flt.tail52 1 = 4368491638549381120 := by rw [hE0]; rfl
   rw [e1, Nat.one_mul] at v
   rw [v, ← Nat.pow_add, show 52 - Nat.log2 1 + E0 + 53 = Flt.K74 by rw [hK, hE0]; rfl]
  by_cases hlow : 52 ≤ E + L
  ·have hres2 : res = (E + L - 52 + 1) * 2 ^ 52 + t := by
    have v2 := v1 (E + L - 52)
    rw [show 52 - L + (E + L - 52) = E by omega] at v2
    exact Flt.val_inj (vr.trans v2.symm)
   refine ldexp_norm R (L + 1023) t res k w (by omega) hk2 (by omega) (by omega) (by omega) (by omega) f0 fi fn eb ab (by omega) (by omega) ?_ ?_
   ·rw [hres2]
    exact ldx_or t _ _ (by omega) t1 (by omega)
   ·exact Lib.hid (Flt.mul_one_pow (by omega) (by omega) (by omega) (by rw [p1]))
  ·have hE0 : E = 0 := by omega
   subst hE0
   have hk : k = -1074 := by omega
   subst hk
   rw [Nat.pow_zero, Nat.mul_one] at vr
   refine ldexp_low R (L + 1023) t ((L + 1 + 1) * 2 ^ 52 + t) res w (by omega) (by omega) (by omega) (by omega) f0 fi fn eb ab ?_ ?_
   ·exact ldx_or t _ _ (by omega) t1 (by omega)
   ·refine Lib.hid (Flt.mul_one_pow (by omega) (by omega) (by omega) ?_)
    rw [v1, vr, ← p2, show 52 - L + (L + 1) = 53 by omega, Nat.mul_assoc, Nat.mul_comm (2 ^ 53)]
theorem Ldexp_any (m R E res : Nat) (k : Int) (w : World) (hR : Hid (R = Flt.whole m)) (hm : m < 2 ^ 53) (hE : (E : Int) - 1074 = k) (hk2 : k ≤ 971) (hn : E = 0 ∨ 2 ^ 52 ≤ m) (hres : Hid (res = E * 2 ^ 52 + m)) :
  Calls Tryz.prog 324 #[.float .f64 R, .int .i64 k] w fun e w' => e = .returned (.float .f64 res) ∧ w = w' := by
 have HE := Lib.hid hE
 clear hE
 go_enter Tryz.func324, Tryz.ntmps324
 go_wp2_with (go_at_call 361; refine (ldexp_of m R E res k _ hR hm HE.out hk2 hn hres).mono ?_; rintro e w' ⟨rfl, rfl⟩)
 go_ret
 exact ⟨rfl, rfl⟩
end Go.Proofs.YtgekmbfmfiikkaaGreatDoor
/-! The program's floats straight below and above a number (edge): under. -/
namespace Go.Proofs.YtgekmbfmfiikkaaGreatDoor
open Go.RowKit
theorem bitLen_spec {x : Nat} (h : x ≠ 0) : 1 ≤ bitLen x ∧ 2 ^ (bitLen x - 1) ≤ x ∧ x < 2 ^ bitLen x := by
 unfold bitLen
 rw [if_neg h]
 exact ⟨by omega, Nat.log2_self_le h, Nat.lt_log2_self⟩
theorem bitLen_uniq {x L : Nat} (h1 : 2 ^ L ≤ 2 * x) (h2 : x < 2 ^ L) (h0 : x ≠ 0) : bitLen x = L := by
 obtain ⟨a, b, c⟩ := bitLen_spec h0
 rcases Nat.lt_trichotomy (bitLen x) L with h | h | h
 ·have h3 : 2 ^ (bitLen x + 1) ≤ 2 ^ L := Nat.pow_le_pow_right (by decide) h
  rw [Nat.pow_succ] at h3
  omega
 ·exact h
 ·have h3 : 2 ^ L ≤ 2 ^ (bitLen x - 1) := Nat.pow_le_pow_right (by decide) (by omega)
  omega
theorem bitLen_step {x : Nat} (h : x ≠ 0) : bitLen x = 1 + bitLen (x / 2) := by
 by_cases h1 : x / 2 = 0
 ·have : x = 1 := by omega
  subst this; rfl
 ·have := bitLen_shift x 1 (by simpa using h1)
  rw [Nat.pow_one] at this
  omega
theorem lib_bitLenAux : ∀ (f x : Nat), x < 2 ^ f → Lib.bitLenAux f x = bitLen x
 | 0, x, h => by
  have : x = 0 := by simpa using h
  subst this; rfl
 | f + 1, x, h => by
  unfold Lib.bitLenAux
  by_cases h0 : x = 0
  ·subst h0; rfl
  ·rw [if_neg h0, lib_bitLenAux f (x / 2) (by rw [Nat.pow_succ] at h; omega), bitLen_step h0]
theorem lib_bitLen {x : Nat} (h : x < 2 ^ 64) : Lib.bitLen x = bitLen x := lib_bitLenAux 64 x h
theorem len64_of (x L : Nat) (w : World) (h : x < 18446744073709551616) (hL : Hid (bitLen x = L)) : Calls Tryz.prog 368 #[.int .u64 (x : Int)] w fun e w' => e = .returned (.int .i64 (L : Int)) ∧ w = w' := by
 have c := Tryz.bits_Len64 (x : Int) w (by omega) (by omega)
 rw [Int.toNat_natCast, lib_bitLen h, hL.out] at c
 exact c.mono fun _ _ ⟨h1, h2⟩ => ⟨h1, h2.symm⟩
theorem float_whole {z : Int} {m : Nat} (hz : z = (m : Int)) (hm : m < 2 ^ 53) : floatOfInt .f64 z = Flt.whole m := by
 subst hz
 obtain ⟨r, h1, h2⟩ := Flt.nearest_spec (decide ((m : Int) < 0)) m 0
 have e : floatOfInt .f64 (m : Int) = Ieee.double.nearest (decide ((m : Int) < 0)) m 0 := by
  show Ieee.double.nearest (decide ((m : Int) < 0)) (m : Int).natAbs 0 = _
  rw [Int.natAbs_natCast]
 rw [e, h1, Flt.double_word, decide_eq_false (by omega)]
 have hv := Flt.val_whole hm
 have hK := Flt.K74_eq
 have ha : ((0 : Int) + 1074).toNat = Flt.K74 := by rw [hK]; rfl
 have hb : (-((0 : Int) + 1074)).toNat = 0 := by omega
 rw [ha, hb, Nat.pow_zero, ← hv] at h2
 exact Flt.near_eq h2 (Nat.le_of_lt (Flt.whole_lt hm)) rfl
structure Ldx (m E res : Nat) (k : Int) : Prop where
 small : m < 2 ^ 53
 place : (E : Int) - 1074 = k
 top : k ≤ 971
 low : E = 0 ∨ 2 ^ 52 ≤ m
 word : res = E * 2 ^ 52 + m
theorem Ldx.call {m E res : Nat} {k : Int} (L : Hid (Ldx m E res k)) {z : Int} (hz : Hid (z = (m : Int))) (w : World) :
  Calls Tryz.prog 324 #[.float .f64 (floatOfInt .f64 z), .int .i64 k] w fun e w' => e = .returned (.float .f64 res) ∧ w = w' :=
 Ldexp_any m _ E res k w (Lib.hid (float_whole hz.out L.out.small)) L.out.small L.out.place L.out.top L.out.low (Lib.hid L.out.word)
def RetD (w : World) (v : Value) (e : Ending) (w' : World) : Prop := e = .returned v ∧ ∃ d, w.drewN d = w'
theorem und_big_0 (l n : Nat) (e k : Int) (more : Bool) (w : World) (hl : l < 18446744073709551616) (hn : Hid (bitLen l = n)) (he1 : -2000000 ≤ e) (he2 : e ≤ 2000000) (hn2 : n ≤ 64) (hk : max (e + (n : Int) - 53) (-1074) = k) (hk2 : 971 < k) 
  :
  Calls Tryz.prog 351 #[.int .u64 0, .int .u64 l, .bool more, .int .i64 e] w (RetD w (.tuple #[.float .f64 9218868437227405311, .bool false])) := by
 go_enter Tryz.func351, Tryz.ntmps351
 go_wp2_with (first | (go_at_call 368; (with_reducible refine (len64_of l n _ hl hn).mono ?_); rintro e w' ⟨rfl, rfl⟩))
 go_ret2
 exact ⟨rfl, ⟨0, World.drewN_zero _⟩⟩
theorem und_up (l n m E res : Nat) (e k : Int) (more : Bool) (w : World) (hl : l < 18446744073709551616) (hn : Hid (bitLen l = n)) (he1 : -2000000 ≤ e) (he2 : e ≤ 2000000) (hn2 : n ≤ 64) (hk : max (e + (n : Int) - 53) (-1074) = k) (hk2 : k ≤ 971) (hs : k - e ≤ 0) 
  (L : Hid (Ldx m E res k)) (hm : Hid (IntKind.u64.wrap (↑l * 2 ^ (-(k - e)).toNat) = (m : Int))) :
  Calls Tryz.prog 351 #[.int .u64 0, .int .u64 l, .bool more, .int .i64 e] w (RetD w (.tuple #[.float .f64 res, .bool !more])) := by
 go_enter Tryz.func351, Tryz.ntmps351
 go_wp2_with (first | (go_at_call 368; (with_reducible refine (len64_of l n _ hl hn).mono ?_); rintro e w' ⟨rfl, rfl⟩) | (go_at_call 324; refine (Ldx.call L hm _).mono ?_; rintro e w' ⟨rfl, rfl⟩))
 go_ret2
 exact ⟨rfl, ⟨0, World.drewN_zero _⟩⟩
theorem und_mid_0_t (l n m E res : Nat) (e k : Int) (w : World) (hl : l < 18446744073709551616) (hn : Hid (bitLen l = n)) (he1 : -2000000 ≤ e) (he2 : e ≤ 2000000) (hn2 : n ≤ 64) (hk : max (e + (n : Int) - 53) (-1074) = k) (hk2 : k ≤ 971) (hs : 0 < k - e) (hs2 : k - e < 64) 
  (L : Hid (Ldx m E res k)) (hm : Hid (bits .or .u64 (↑l / 2 ^ (k - e).toNat) 0 = (m : Int))) :
  Calls Tryz.prog 351 #[.int .u64 0, .int .u64 l, .bool true, .int .i64 e] w (RetD w (.tuple #[.float .f64 res, .bool false])) := by
 go_enter Tryz.func351, Tryz.ntmps351
 go_wp2_with (first | (go_at_call 368; (with_reducible refine (len64_of l n _ hl hn).mono ?_); rintro e w' ⟨rfl, rfl⟩) | (go_at_call 324; refine (Ldx.call L hm _).mono ?_; rintro e w' ⟨rfl, rfl⟩))
 go_quiet (fail)
 go_wp2_with (first | (go_at_call 368; (with_reducible refine (len64_of l n _ hl hn).mono ?_); rintro e w' ⟨rfl, rfl⟩) | (go_at_call 324; refine (Ldx.call L hm _).mono ?_; rintro e w' ⟨rfl, rfl⟩))
 go_ret2
 exact ⟨rfl, ⟨nq, rfl⟩⟩
theorem und_mid_0_f (l n m E res : Nat) (e k : Int) (w : World) (hl : l < 18446744073709551616) (hn : Hid (bitLen l = n)) (he1 : -2000000 ≤ e) (he2 : e ≤ 2000000) (hn2 : n ≤ 64) (hk : max (e + (n : Int) - 53) (-1074) = k) (hk2 : k ≤ 971) (hs : 0 < k - e) (hs2 : k - e < 64) 
  (L : Hid (Ldx m E res k)) (hm : Hid (bits .or .u64 (↑l / 2 ^ (k - e).toNat) 0 = (m : Int))) (b : Bool) (hb : Hid ((bits .and .u64 (↑l) (IntKind.u64.wrap (IntKind.u64.wrap (2 ^ (k - e).toNat) - 1)) != 0) = !b)) :
  Calls Tryz.prog 351 #[.int .u64 0, .int .u64 l, .bool false, .int .i64 e] w (RetD w (.tuple #[.float .f64 res, .bool b])) := by
 go_enter Tryz.func351, Tryz.ntmps351
 go_wp2_with (first | (go_at_call 368; (with_reducible refine (len64_of l n _ hl hn).mono ?_); rintro e w' ⟨rfl, rfl⟩) | (go_at_call 324; refine (Ldx.call L hm _).mono ?_; rintro e w' ⟨rfl, rfl⟩))
 go_quiet (fail)
 go_wp2_with (first | (go_at_call 368; (with_reducible refine (len64_of l n _ hl hn).mono ?_); rintro e w' ⟨rfl, rfl⟩) | (go_at_call 324; refine (Ldx.call L hm _).mono ?_; rintro e w' ⟨rfl, rfl⟩))
 go_ret2
 exact ⟨(by rw [hb.out]; cases b <;> rfl), ⟨nq, rfl⟩⟩
theorem und_high_0_t (l n m E res : Nat) (e k : Int) (w : World) (hl : l < 18446744073709551616) (hn : Hid (bitLen l = n)) (he1 : -2000000 ≤ e) (he2 : e ≤ 2000000) (hn2 : n ≤ 64) (hk : max (e + (n : Int) - 53) (-1074) = k) (hk2 : k ≤ 971) (hs : 64 ≤ k - e) (hs2 : k - e < 128) 
  (L : Hid (Ldx m E res k)) (hm : Hid (((0 : Nat) : Int) = (m : Int))) :
  Calls Tryz.prog 351 #[.int .u64 0, .int .u64 l, .bool true, .int .i64 e] w (RetD w (.tuple #[.float .f64 res, .bool false])) := by
 go_enter Tryz.func351, Tryz.ntmps351
 go_wp2_with (first | (go_at_call 368; (with_reducible refine (len64_of l n _ hl hn).mono ?_); rintro e w' ⟨rfl, rfl⟩) | (go_at_call 324; refine (Ldx.call L hm _).mono ?_; rintro e w' ⟨rfl, rfl⟩))
 go_quiet (fail)
 go_wp2_with (first | (go_at_call 368; (with_reducible refine (len64_of l n _ hl hn).mono ?_); rintro e w' ⟨rfl, rfl⟩) | (go_at_call 324; refine (Ldx.call L hm _).mono ?_; rintro e w' ⟨rfl, rfl⟩))
 go_ret2
 exact ⟨rfl, ⟨nq, rfl⟩⟩
theorem und_high_0_l (l n m E res : Nat) (e k : Int) (w : World) (hl : l < 18446744073709551616) (hn : Hid (bitLen l = n)) (he1 : -2000000 ≤ e) (he2 : e ≤ 2000000) (hn2 : n ≤ 64) (hk : max (e + (n : Int) - 53) (-1074) = k) (hk2 : k ≤ 971) (hs : 64 ≤ k - e) (hs2 : k - e < 128) (hl0 : ((l : Int) != 0) = true) 
  (L : Hid (Ldx m E res k)) (hm : Hid (((0 : Nat) : Int) = (m : Int))) :
  Calls Tryz.prog 351 #[.int .u64 0, .int .u64 l, .bool false, .int .i64 e] w (RetD w (.tuple #[.float .f64 res, .bool false])) := by
 go_enter Tryz.func351, Tryz.ntmps351
 go_wp2_with (first | (go_at_call 368; (with_reducible refine (len64_of l n _ hl hn).mono ?_); rintro e w' ⟨rfl, rfl⟩) | (go_at_call 324; refine (Ldx.call L hm _).mono ?_; rintro e w' ⟨rfl, rfl⟩))
 go_quiet (fail)
 go_wp2_with (first | (go_at_call 368; (with_reducible refine (len64_of l n _ hl hn).mono ?_); rintro e w' ⟨rfl, rfl⟩) | (go_at_call 324; refine (Ldx.call L hm _).mono ?_; rintro e w' ⟨rfl, rfl⟩))
 go_ret2
 exact ⟨rfl, ⟨nq, rfl⟩⟩
theorem und_far_0_t (l n m E res : Nat) (e k : Int) (w : World) (hl : l < 18446744073709551616) (hn : Hid (bitLen l = n)) (he1 : -2000000 ≤ e) (he2 : e ≤ 2000000) (hn2 : n ≤ 64) (hk : max (e + (n : Int) - 53) (-1074) = k) (hk2 : k ≤ 971) (hs : 128 ≤ k - e) 
  (L : Hid (Ldx m E res k)) (hm : Hid (((0 : Nat) : Int) = (m : Int))) :
  Calls Tryz.prog 351 #[.int .u64 0, .int .u64 l, .bool true, .int .i64 e] w (RetD w (.tuple #[.float .f64 res, .bool false])) := by
 go_enter Tryz.func351, Tryz.ntmps351
 go_wp2_with (first | (go_at_call 368; (with_reducible refine (len64_of l n _ hl hn).mono ?_); rintro e w' ⟨rfl, rfl⟩) | (go_at_call 324; refine (Ldx.call L hm _).mono ?_; rintro e w' ⟨rfl, rfl⟩))
 go_ret2
 exact ⟨rfl, ⟨0, World.drewN_zero _⟩⟩
theorem und_far_0_f (l n m E res : Nat) (e k : Int) (w : World) (hl : l < 18446744073709551616) (hn : Hid (bitLen l = n)) (he1 : -2000000 ≤ e) (he2 : e ≤ 2000000) (hn2 : n ≤ 64) (hk : max (e + (n : Int) - 53) (-1074) = k) (hk2 : k ≤ 971) (hs : 128 ≤ k - e) (ho : Hid ((bits .or .u64 0 (l : Int) != 0) = true)) 
  (L : Hid (Ldx m E res k)) (hm : Hid (((0 : Nat) : Int) = (m : Int))) :
  Calls Tryz.prog 351 #[.int .u64 0, .int .u64 l, .bool false, .int .i64 e] w (RetD w (.tuple #[.float .f64 res, .bool false])) := by
 go_enter Tryz.func351, Tryz.ntmps351
 go_wp2_with (first | (go_at_call 368; (with_reducible refine (len64_of l n _ hl hn).mono ?_); rintro e w' ⟨rfl, rfl⟩) | (go_at_call 324; refine (Ldx.call L hm _).mono ?_; rintro e w' ⟨rfl, rfl⟩))
 go_ret2
 exact ⟨(by rw [ho.out]; rfl), ⟨0, World.drewN_zero _⟩⟩
theorem und_big_1 (h nh : Nat) (hh : h < 18446744073709551616) (hnh : Hid (bitLen h = nh)) (hh0 : (0 : Int) < (h : Int)) (hnh2 : nh ≤ 64) (l n : Nat) (e k : Int) (more : Bool) (w : World) (hl : l < 18446744073709551616) (hn : Hid (bitLen l = n)) (he1 : -2000000 ≤ e) (he2 : e ≤ 2000000) (hk : max (e + ((64 : Int) + (nh : Int)) - 53) (-1074) = k) (hk2 : 971 < k) 
  :
  Calls Tryz.prog 351 #[.int .u64 (h : Int), .int .u64 l, .bool more, .int .i64 e] w (RetD w (.tuple #[.float .f64 9218868437227405311, .bool false])) := by
 go_enter Tryz.func351, Tryz.ntmps351
 go_wp2_with (first | (go_at_call 368; (with_reducible refine (len64_of l n _ hl hn).mono ?_); rintro e w' ⟨rfl, rfl⟩) | (go_at_call 368; (with_reducible refine (len64_of h nh _ hh hnh).mono ?_); rintro e w' ⟨rfl, rfl⟩))
 go_ret2
 exact ⟨rfl, ⟨0, World.drewN_zero _⟩⟩
theorem und_mid_1_t (h nh : Nat) (hh : h < 18446744073709551616) (hnh : Hid (bitLen h = nh)) (hh0 : (0 : Int) < (h : Int)) (hnh2 : nh ≤ 64) (l n m E res : Nat) (e k : Int) (w : World) (hl : l < 18446744073709551616) (hn : Hid (bitLen l = n)) (he1 : -2000000 ≤ e) (he2 : e ≤ 2000000) (hk : max (e + ((64 : Int) + (nh : Int)) - 53) (-1074) = k) (hk2 : k ≤ 971) (hs : 0 < k - e) (hs2 : k - e < 64) 
  (L : Hid (Ldx m E res k)) (hm : Hid (bits .or .u64 (↑l / 2 ^ (k - e).toNat) (IntKind.u64.wrap (↑h * 2 ^ (64 - (k - e)).toNat)) = (m : Int))) :
  Calls Tryz.prog 351 #[.int .u64 (h : Int), .int .u64 l, .bool true, .int .i64 e] w (RetD w (.tuple #[.float .f64 res, .bool false])) := by
 go_enter Tryz.func351, Tryz.ntmps351
 go_wp2_with (first | (go_at_call 368; (with_reducible refine (len64_of l n _ hl hn).mono ?_); rintro e w' ⟨rfl, rfl⟩) | (go_at_call 368; (with_reducible refine (len64_of h nh _ hh hnh).mono ?_); rintro e w' ⟨rfl, rfl⟩) | (go_at_call 324; refine (Ldx.call L hm _).mono ?_; rintro e w' ⟨rfl, rfl⟩))
 go_quiet (fail)
 go_wp2_with (first | (go_at_call 368; (with_reducible refine (len64_of l n _ hl hn).mono ?_); rintro e w' ⟨rfl, rfl⟩) | (go_at_call 368; (with_reducible refine (len64_of h nh _ hh hnh).mono ?_); rintro e w' ⟨rfl, rfl⟩) | (go_at_call 324; refine (Ldx.call L hm _).mono ?_; rintro e w' ⟨rfl, rfl⟩))
 go_ret2
 exact ⟨rfl, ⟨nq, rfl⟩⟩
theorem und_mid_1_f (h nh : Nat) (hh : h < 18446744073709551616) (hnh : Hid (bitLen h = nh)) (hh0 : (0 : Int) < (h : Int)) (hnh2 : nh ≤ 64) (l n m E res : Nat) (e k : Int) (w : World) (hl : l < 18446744073709551616) (hn : Hid (bitLen l = n)) (he1 : -2000000 ≤ e) (he2 : e ≤ 2000000) (hk : max (e + ((64 : Int) + (nh : Int)) - 53) (-1074) = k) (hk2 : k ≤ 971) (hs : 0 < k - e) (hs2 : k - e < 64) 
  (L : Hid (Ldx m E res k)) (hm : Hid (bits .or .u64 (↑l / 2 ^ (k - e).toNat) (IntKind.u64.wrap (↑h * 2 ^ (64 - (k - e)).toNat)) = (m : Int))) (b : Bool) (hb : Hid ((bits .and .u64 (↑l) (IntKind.u64.wrap (IntKind.u64.wrap (2 ^ (k - e).toNat) - 1)) != 0) = !b)) :
  Calls Tryz.prog 351 #[.int .u64 (h : Int), .int .u64 l, .bool false, .int .i64 e] w (RetD w (.tuple #[.float .f64 res, .bool b])) := by
 go_enter Tryz.func351, Tryz.ntmps351
 go_wp2_with (first | (go_at_call 368; (with_reducible refine (len64_of l n _ hl hn).mono ?_); rintro e w' ⟨rfl, rfl⟩) | (go_at_call 368; (with_reducible refine (len64_of h nh _ hh hnh).mono ?_); rintro e w' ⟨rfl, rfl⟩) | (go_at_call 324; refine (Ldx.call L hm _).mono ?_; rintro e w' ⟨rfl, rfl⟩))
 go_quiet (fail)
 go_wp2_with (first | (go_at_call 368; (with_reducible refine (len64_of l n _ hl hn).mono ?_); rintro e w' ⟨rfl, rfl⟩) | (go_at_call 368; (with_reducible refine (len64_of h nh _ hh hnh).mono ?_); rintro e w' ⟨rfl, rfl⟩) | (go_at_call 324; refine (Ldx.call L hm _).mono ?_; rintro e w' ⟨rfl, rfl⟩))
 go_ret2
 exact ⟨(by rw [hb.out]; cases b <;> rfl), ⟨nq, rfl⟩⟩
theorem und_high_1_t (h nh : Nat) (hh : h < 18446744073709551616) (hnh : Hid (bitLen h = nh)) (hh0 : (0 : Int) < (h : Int)) (hnh2 : nh ≤ 64) (l n m E res : Nat) (e k : Int) (w : World) (hl : l < 18446744073709551616) (hn : Hid (bitLen l = n)) (he1 : -2000000 ≤ e) (he2 : e ≤ 2000000) (hk : max (e + ((64 : Int) + (nh : Int)) - 53) (-1074) = k) (hk2 : k ≤ 971) (hs : 64 ≤ k - e) (hs2 : k - e < 128) 
  (L : Hid (Ldx m E res k)) (hm : Hid ((h : Int) / 2 ^ (k - e - 64).toNat = (m : Int))) :
  Calls Tryz.prog 351 #[.int .u64 (h : Int), .int .u64 l, .bool true, .int .i64 e] w (RetD w (.tuple #[.float .f64 res, .bool false])) := by
 go_enter Tryz.func351, Tryz.ntmps351
 go_wp2_with (first | (go_at_call 368; (with_reducible refine (len64_of l n _ hl hn).mono ?_); rintro e w' ⟨rfl, rfl⟩) | (go_at_call 368; (with_reducible refine (len64_of h nh _ hh hnh).mono ?_); rintro e w' ⟨rfl, rfl⟩) | (go_at_call 324; refine (Ldx.call L hm _).mono ?_; rintro e w' ⟨rfl, rfl⟩))
 go_quiet (fail)
 go_wp2_with (first | (go_at_call 368; (with_reducible refine (len64_of l n _ hl hn).mono ?_); rintro e w' ⟨rfl, rfl⟩) | (go_at_call 368; (with_reducible refine (len64_of h nh _ hh hnh).mono ?_); rintro e w' ⟨rfl, rfl⟩) | (go_at_call 324; refine (Ldx.call L hm _).mono ?_; rintro e w' ⟨rfl, rfl⟩))
 go_ret2
 exact ⟨rfl, ⟨nq, rfl⟩⟩
theorem und_high_1_l (h nh : Nat) (hh : h < 18446744073709551616) (hnh : Hid (bitLen h = nh)) (hh0 : (0 : Int) < (h : Int)) (hnh2 : nh ≤ 64) (l n m E res : Nat) (e k : Int) (w : World) (hl : l < 18446744073709551616) (hn : Hid (bitLen l = n)) (he1 : -2000000 ≤ e) (he2 : e ≤ 2000000) (hk : max (e + ((64 : Int) + (nh : Int)) - 53) (-1074) = k) (hk2 : k ≤ 971) (hs : 64 ≤ k - e) (hs2 : k - e < 128) (hl0 : ((l : Int) != 0) = true) 
  (L : Hid (Ldx m E res k)) (hm : Hid ((h : Int) / 2 ^ (k - e - 64).toNat = (m : Int))) :
  Calls Tryz.prog 351 #[.int .u64 (h : Int), .int .u64 l, .bool false, .int .i64 e] w (RetD w (.tuple #[.float .f64 res, .bool false])) := by
 go_enter Tryz.func351, Tryz.ntmps351
 go_wp2_with (first | (go_at_call 368; (with_reducible refine (len64_of l n _ hl hn).mono ?_); rintro e w' ⟨rfl, rfl⟩) | (go_at_call 368; (with_reducible refine (len64_of h nh _ hh hnh).mono ?_); rintro e w' ⟨rfl, rfl⟩) | (go_at_call 324; refine (Ldx.call L hm _).mono ?_; rintro e w' ⟨rfl, rfl⟩))
 go_quiet (fail)
 go_wp2_with (first | (go_at_call 368; (with_reducible refine (len64_of l n _ hl hn).mono ?_); rintro e w' ⟨rfl, rfl⟩) | (go_at_call 368; (with_reducible refine (len64_of h nh _ hh hnh).mono ?_); rintro e w' ⟨rfl, rfl⟩) | (go_at_call 324; refine (Ldx.call L hm _).mono ?_; rintro e w' ⟨rfl, rfl⟩))
 go_ret2
 exact ⟨rfl, ⟨nq, rfl⟩⟩
theorem und_high_1_f (h nh : Nat) (hh : h < 18446744073709551616) (hnh : Hid (bitLen h = nh)) (hh0 : (0 : Int) < (h : Int)) (hnh2 : nh ≤ 64) (l n m E res : Nat) (e k : Int) (w : World) (hl : l < 18446744073709551616) (hn : Hid (bitLen l = n)) (he1 : -2000000 ≤ e) (he2 : e ≤ 2000000) (hk : max (e + ((64 : Int) + (nh : Int)) - 53) (-1074) = k) (hk2 : k ≤ 971) (hs : 64 ≤ k - e) (hs2 : k - e < 128) (hl0 : ((l : Int) != 0) = false) 
  (L : Hid (Ldx m E res k)) (hm : Hid ((h : Int) / 2 ^ (k - e - 64).toNat = (m : Int))) (b : Bool) (hb : Hid ((bits .and .u64 (↑h) (IntKind.u64.wrap (IntKind.u64.wrap (2 ^ (k - e - 64).toNat) - 1)) != 0) = !b)) :
  Calls Tryz.prog 351 #[.int .u64 (h : Int), .int .u64 l, .bool false, .int .i64 e] w (RetD w (.tuple #[.float .f64 res, .bool b])) := by
 go_enter Tryz.func351, Tryz.ntmps351
 go_wp2_with (first | (go_at_call 368; (with_reducible refine (len64_of l n _ hl hn).mono ?_); rintro e w' ⟨rfl, rfl⟩) | (go_at_call 368; (with_reducible refine (len64_of h nh _ hh hnh).mono ?_); rintro e w' ⟨rfl, rfl⟩) | (go_at_call 324; refine (Ldx.call L hm _).mono ?_; rintro e w' ⟨rfl, rfl⟩))
 go_quiet (fail)
 go_wp2_with (first | (go_at_call 368; (with_reducible refine (len64_of l n _ hl hn).mono ?_); rintro e w' ⟨rfl, rfl⟩) | (go_at_call 368; (with_reducible refine (len64_of h nh _ hh hnh).mono ?_); rintro e w' ⟨rfl, rfl⟩) | (go_at_call 324; refine (Ldx.call L hm _).mono ?_; rintro e w' ⟨rfl, rfl⟩))
 go_ret2
 exact ⟨(by rw [hb.out]; cases b <;> rfl), ⟨nq, rfl⟩⟩
theorem und_far_1_t (h nh : Nat) (hh : h < 18446744073709551616) (hnh : Hid (bitLen h = nh)) (hh0 : (0 : Int) < (h : Int)) (hnh2 : nh ≤ 64) (l n m E res : Nat) (e k : Int) (w : World) (hl : l < 18446744073709551616) (hn : Hid (bitLen l = n)) (he1 : -2000000 ≤ e) (he2 : e ≤ 2000000) (hk : max (e + ((64 : Int) + (nh : Int)) - 53) (-1074) = k) (hk2 : k ≤ 971) (hs : 128 ≤ k - e) 
  (L : Hid (Ldx m E res k)) (hm : Hid (((0 : Nat) : Int) = (m : Int))) :
  Calls Tryz.prog 351 #[.int .u64 (h : Int), .int .u64 l, .bool true, .int .i64 e] w (RetD w (.tuple #[.float .f64 res, .bool false])) := by
 go_enter Tryz.func351, Tryz.ntmps351
 go_wp2_with (first | (go_at_call 368; (with_reducible refine (len64_of l n _ hl hn).mono ?_); rintro e w' ⟨rfl, rfl⟩) | (go_at_call 368; (with_reducible refine (len64_of h nh _ hh hnh).mono ?_); rintro e w' ⟨rfl, rfl⟩) | (go_at_call 324; refine (Ldx.call L hm _).mono ?_; rintro e w' ⟨rfl, rfl⟩))
 go_ret2
 exact ⟨rfl, ⟨0, World.drewN_zero _⟩⟩
theorem und_far_1_f (h nh : Nat) (hh : h < 18446744073709551616) (hnh : Hid (bitLen h = nh)) (hh0 : (0 : Int) < (h : Int)) (hnh2 : nh ≤ 64) (l n m E res : Nat) (e k : Int) (w : World) (hl : l < 18446744073709551616) (hn : Hid (bitLen l = n)) (he1 : -2000000 ≤ e) (he2 : e ≤ 2000000) (hk : max (e + ((64 : Int) + (nh : Int)) - 53) (-1074) = k) (hk2 : k ≤ 971) (hs : 128 ≤ k - e) (ho : Hid ((bits .or .u64 (h : Int) (l : Int) != 0) = true)) 
  (L : Hid (Ldx m E res k)) (hm : Hid (((0 : Nat) : Int) = (m : Int))) :
  Calls Tryz.prog 351 #[.int .u64 (h : Int), .int .u64 l, .bool false, .int .i64 e] w (RetD w (.tuple #[.float .f64 res, .bool false])) := by
 go_enter Tryz.func351, Tryz.ntmps351
 go_wp2_with (first | (go_at_call 368; (with_reducible refine (len64_of l n _ hl hn).mono ?_); rintro e w' ⟨rfl, rfl⟩) | (go_at_call 368; (with_reducible refine (len64_of h nh _ hh hnh).mono ?_); rintro e w' ⟨rfl, rfl⟩) | (go_at_call 324; refine (Ldx.call L hm _).mono ?_; rintro e w' ⟨rfl, rfl⟩))
 go_ret2
 exact ⟨(by rw [ho.out]; rfl), ⟨0, World.drewN_zero _⟩⟩
end Go.Proofs.YtgekmbfmfiikkaaGreatDoor
/-! The program's floats straight below and above a number (edge): what under answers; Size. -/
namespace Go.Proofs.YtgekmbfmfiikkaaGreatDoor
open Go.RowKit
theorem pow_int (t : Nat) : (2 : Int) ^ t = ((2 ^ t : Nat) : Int) := by rw [Int.natCast_pow]; rfl
theorem u64_small {x : Nat} (h : x < 18446744073709551616) : IntKind.u64.wrap (x : Int) = (x : Int) := by
 rw [IntKind.wrap_u64]; omega
theorem und_and (x t : Nat) (hx : x < 18446744073709551616) (ht : t < 64) : bits .and .u64 (x : Int) (IntKind.u64.wrap (IntKind.u64.wrap ((2 : Int) ^ t) - 1)) = ((x % 2 ^ t : Nat) : Int) := by
 have h1 : 2 ^ t ≤ 2 ^ 63 := Nat.pow_le_pow_right (by decide) (by omega)
 have h2 : 0 < 2 ^ t := Nat.two_pow_pos t
 rw [pow_int, u64_small (by omega), show ((2 ^ t : Nat) : Int) - 1 = ((2 ^ t - 1 : Nat) : Int) by omega, u64_small (by omega), u64_and_nat x _ hx (by omega), Nat.and_two_pow_sub_one_eq_mod]
theorem und_split (h l t : Nat) (ht : t ≤ 64) : (h * 2 ^ 64 + l) / 2 ^ t = h * 2 ^ (64 - t) + l / 2 ^ t := by
 have e : 2 ^ 64 = 2 ^ (64 - t) * 2 ^ t := by rw [← Nat.pow_add]; congr 1; omega
 rw [e, ← Nat.mul_assoc, Nat.add_comm, Nat.add_mul_div_right _ _ (Nat.two_pow_pos t), Nat.add_comm]
theorem und_split_mod (h l t : Nat) (ht : t ≤ 64) : (h * 2 ^ 64 + l) % 2 ^ t = l % 2 ^ t := by
 have e : 2 ^ 64 = 2 ^ (64 - t) * 2 ^ t := by rw [← Nat.pow_add]; congr 1; omega
 rw [e, ← Nat.mul_assoc, Nat.add_comm, Nat.add_mul_mod_self_right]
theorem und_or (h l t : Nat) (hl : l < 18446744073709551616) (ht : t < 64) (hs : h * 2 ^ (64 - t) < 2 ^ 64) :
  bits .or .u64 ((l : Int) / 2 ^ t) (IntKind.u64.wrap ((h : Int) * 2 ^ (64 - t))) = (((h * 2 ^ 64 + l) / 2 ^ t : Nat) : Int) := by
 have h1 : l / 2 ^ t < 2 ^ (64 - t) := by
  rw [Nat.div_lt_iff_lt_mul (Nat.two_pow_pos t), ← Nat.pow_add, show 64 - t + t = 64 by omega]; exact hl
 have h2 : 2 ^ (64 - t) ≤ 2 ^ 64 := Nat.pow_le_pow_right (by decide) (by omega)
 have e1 : (l : Int) / 2 ^ t = ((l / 2 ^ t : Nat) : Int) := by rw [pow_int, ← Int.natCast_ediv]
 have e2 : (h : Int) * 2 ^ (64 - t) = ((h * 2 ^ (64 - t) : Nat) : Int) := by rw [pow_int, ← Int.natCast_mul]
 rw [e1, e2, u64_small (by omega), u64_or_nat _ _ (by omega) (by omega), und_split h l t (by omega)]
 congr 1
 rw [Nat.or_comm, Nat.mul_comm h, ← Nat.two_pow_add_eq_or_of_lt h1]
theorem und_high (h l t : Nat) (hl : l < 2 ^ 64) : (h * 2 ^ 64 + l) / 2 ^ (64 + t) = h / 2 ^ t := by
 rw [Nat.pow_add, ← Nat.div_div_eq_div_mul, Nat.add_comm, Nat.add_mul_div_right _ _ (Nat.two_pow_pos 64), Nat.div_eq_of_lt hl, Nat.zero_add]
theorem und_high_mod (h l t : Nat) (hl : l < 2 ^ 64) : (h * 2 ^ 64 + l) % 2 ^ (64 + t) = 0 ↔ l = 0 ∧ h % 2 ^ t = 0 := by
 have e := Nat.mod_mul (x := h * 2 ^ 64 + l) (a := 2 ^ 64) (b := 2 ^ t)
 rw [← Nat.pow_add] at e
 rw [e]
 have e1 : (h * 2 ^ 64 + l) % 2 ^ 64 = l := by rw [Nat.add_comm, Nat.add_mul_mod_self_right, Nat.mod_eq_of_lt hl]
 have e2 : (h * 2 ^ 64 + l) / 2 ^ 64 = h := by rw [Nat.add_comm, Nat.add_mul_div_right _ _ (Nat.two_pow_pos 64), Nat.div_eq_of_lt hl, Nat.zero_add]
 rw [e1, e2]
 constructor
 ·intro h'
  refine ⟨by omega, ?_⟩
  have : 2 ^ 64 * (h % 2 ^ t) = 0 := by omega
  omega
 ·rintro ⟨rfl, h2⟩; rw [h2]
theorem bne_dec (x : Nat) : ((x : Int) != 0) = !decide (x = 0) := by
 by_cases hx : x = 0
 ·subst hx; rfl
 ·have : ((x : Int) != 0) = true := by simp; omega
  rw [this, decide_eq_false hx]; rfl
theorem bitLen_high (h l : Nat) (h0 : h ≠ 0) (hl : l < 2 ^ 64) : bitLen (h * 2 ^ 64 + l) = 64 + bitLen h := by
 obtain ⟨a, b, c⟩ := bitLen_spec h0
 refine bitLen_uniq ?_ ?_ (by omega)
 ·have e : 2 ^ (64 + bitLen h) = 2 * 2 ^ 64 * 2 ^ (bitLen h - 1) := by rw [← Nat.pow_succ', ← Nat.pow_add]; congr 1; omega
  rw [e]
  have := Nat.mul_le_mul_left (2 * 2 ^ 64) b
  omega
 ·have := Nat.mul_le_mul_right (2 ^ 64) (Nat.succ_le_of_lt c)
  rw [Nat.pow_add, Nat.mul_comm (2 ^ 64) (2 ^ bitLen h)]
  omega
def RetDn (w : World) (num den : Nat) (e : Ending) (w' : World) : Prop :=
 ∃ r ex, e = .returned (.tuple #[.float .f64 r, .bool ex]) ∧ Flt.Dn num den r ∧ ex = decide (Flt.val r * den = num) ∧ ∃ d, w.drewN d = w'
theorem und_ret {P : Program} {f : FuncId} {args : Array Value} {w : World} {num den r : Nat} {ex : Bool} (h : Calls P f args w (RetD w (.tuple #[.float .f64 r, .bool ex]))) (h1 : Flt.Dn num den r) (h2 : ex = decide (Flt.val r * den = num)) :
  Calls P f args w (RetDn w num den) := h.mono fun _ _ ⟨e, d⟩ => ⟨r, ex, e, h1, h2, d⟩
theorem und_ret0 {P : Program} {f : FuncId} {x y z : Value} {w : World} {num den r : Nat} {ex : Bool} (h : Calls P f #[.int .u64 0, x, y, z] w (RetD w (.tuple #[.float .f64 r, .bool ex]))) (h1 : Flt.Dn num den r) (h2 : ex = decide (Flt.val r * den = num)) :
  Calls P f #[.int .u64 ((0 : Nat) : Int), x, y, z] w (RetDn w num den) := und_ret h h1 h2
theorem edge_under (h l p q N : Nat) (e : Int) (more : Bool) (w : World) (hh : h < 18446744073709551616) (hl : l < 18446744073709551616) (hN : N = h * 2 ^ 64 + l) (hN0 : N ≠ 0) (hq : 0 < q) (h1 : N * q ≤ p) (h2 : p < (N + 1) * q)
  (hm : more = decide (p ≠ N * q)) (hb : more = true → 2 ^ 53 ≤ N) (he1 : -2000000 ≤ e) (he2 : e ≤ 2000000) :
  Calls Tryz.prog 351 #[.int .u64 (h : Int), .int .u64 (l : Int), .bool more, .int .i64 e] w (RetDn w (p * 2 ^ (e + 1074).toNat) (q * 2 ^ (-(e + 1074)).toNat)) := by
 obtain ⟨n1, n2, n3⟩ := bitLen_spec hN0
 generalize hn : bitLen N = n at n1 n2 n3
 have hn128 : n ≤ 128 := by
  rcases Nat.lt_or_ge 128 n with h' | h'
  ·have : 2 ^ 128 ≤ 2 ^ (n - 1) := Nat.pow_le_pow_right (by decide) (by omega)
   omega
  ·exact h'
 generalize hk : max (e + (n : Int) - 53) (-1074) = k
 generalize ha : (e - k).toNat = a
 generalize hb' : (k - e).toNat = b
 have hk1 : -1074 ≤ k := by omega
 have hk3 : k = -1074 ∨ k = e + n - 53 := by omega
 have hk4 : e + n - 53 ≤ k := by omega
 have hplace : (((k + 1074).toNat : Nat) : Int) - 1074 = k := by omega
 obtain ⟨Q, hQ⟩ : ∃ Q, Q = N * 2 ^ a / 2 ^ b := ⟨_, rfl⟩
 have hB : 0 < 2 ^ b := Nat.two_pow_pos b
 have q1 : Q * 2 ^ b ≤ N * 2 ^ a := by rw [hQ]; exact Nat.div_mul_le_self _ _
 have q2 : N * 2 ^ a < (Q + 1) * 2 ^ b := by
  rw [hQ, Nat.add_mul, Nat.one_mul]
  have := Nat.div_add_mod (N * 2 ^ a) (2 ^ b)
  have := Nat.mod_lt (N * 2 ^ a) hB
  rw [Nat.mul_comm (2 ^ b)] at *
  omega
 have qm : Hid (Q * 2 ^ b = N * 2 ^ a ↔ N * 2 ^ a % 2 ^ b = 0) := by
  refine Lib.hid ?_
  have := Nat.div_add_mod (N * 2 ^ a) (2 ^ b)
  rw [hQ, Nat.mul_comm _ (2 ^ b)]
  omega
 have hQ53 : Q < 2 ^ 53 := by
  apply Nat.lt_of_mul_lt_mul_right (a := 2 ^ b)
  have : N * 2 ^ a < 2 ^ n * 2 ^ a := Nat.mul_lt_mul_of_pos_right n3 (Nat.two_pow_pos a)
  rw [← Nat.pow_add] at this ⊢
  have : 2 ^ (n + a) ≤ 2 ^ (53 + b) := Nat.pow_le_pow_right (by decide) (by omega)
  omega
 have hQ52 : k = -1074 ∨ 2 ^ 52 ≤ Q := by
  rcases hk3 with h' | h'
  ·exact .inl h'
  ·right
   rw [hQ, Nat.le_div_iff_mul_le hB, ← Nat.pow_add]
   have : 2 ^ (n - 1) * 2 ^ a ≤ N * 2 ^ a := Nat.mul_le_mul_right _ n2
   rw [← Nat.pow_add] at this
   rw [show 52 + b = n - 1 + a by omega]
   exact this
 have hlow : Hid ((k + 1074).toNat = 0 ∨ 2 ^ 52 ≤ Q) := Lib.hid (hQ52.imp (fun h => by rw [h]; rfl) id)
 have ha0 : p = N * q ∨ a = 0 := by
  by_cases h' : p = N * q
  ·exact .inl h'
  ·right
   have hmt : more = true := by rw [hm]; exact decide_eq_true h'
   have := hb hmt
   have : 54 ≤ n := by
    rcases Nat.lt_or_ge n 54 with h'' | h''
    ·have : 2 ^ n ≤ 2 ^ 53 := Nat.pow_le_pow_right (by decide) (by omega)
     omega
    ·exact h''
   omega
 obtain ⟨c1, c2, c3⟩ := Flt.cut_whole h1 h2 ha0 q1 q2 hq
 have C3 := Lib.hid c3
 clear c3 ha0 hk3
 obtain ⟨d1, d2⟩ := Flt.cut_dn (p := p) (q := q) (Q := Q) (e := e) (k := k) hq ha.symm hb'.symm rfl rfl rfl hk1 c1 c2
 generalize p * 2 ^ (e + 1074).toNat = num at *
 generalize q * 2 ^ (-(e + 1074)).toNat = den at *
 have D1 := fun x => Lib.hid (d1 x hQ53 hQ52)
 have hbig : 971 < k → 2 ^ 52 ≤ Q := fun x => by omega
 have D2 := fun x => Lib.hid (d2 x (hbig x))
 clear d1 d2 c1 c2 hQ52 hbig
 have hl64 : l < 2 ^ 64 := hl
 have hhq : Hid (h ≠ 0 → n = 64 + bitLen h) := Lib.hid fun h0 => by rw [← hn, hN, bitLen_high h l h0 hl64]
 have hlq : Hid (h = 0 → n = bitLen l) := Lib.hid fun h0 => by rw [← hn, hN, h0, Nat.zero_mul, Nat.zero_add]
 have hn64 : Hid (h = 0 → n ≤ 64) := Lib.hid fun h0 => by
  rcases Nat.lt_or_ge 64 n with h' | h'
  ·have : 2 ^ 64 ≤ 2 ^ (n - 1) := Nat.pow_le_pow_right (by decide) (by omega)
   omega
  ·exact h'
 by_cases hk2 : 971 < k
 ·obtain ⟨e1, e2⟩ := (D2 hk2).out
  have hi : 9218868437227405311 = Flt.inf - 1 := by rw [Flt.inf_eq]
  have hx : false = decide (Flt.val 9218868437227405311 * den = num) := by rw [hi]; exact (decide_eq_false (by omega)).symm
  rw [← hi] at e1
  by_cases h0 : h = 0
  ·subst h0
   exact und_ret0 (und_big_0 l n e k more w hl (Lib.hid (hlq.out rfl).symm) he1 he2 (hn64.out rfl) hk hk2) e1 hx
  ·have hnh := hhq.out h0
   exact und_ret (und_big_1 h (bitLen h) hh (Lib.hid rfl) (by omega) (by omega) l (bitLen l) e k more w hl (Lib.hid rfl) he1 he2 (by rw [← hk, hnh]; rfl) hk2) e1 hx
 ·have hk2' : k ≤ 971 := by omega
  obtain ⟨e1, e2⟩ := (D1 hk2').out
  have e3 := Lib.hid (e2.trans C3.out)
  clear e2 D1 D2 C3
  obtain ⟨res, hres⟩ : ∃ res, res = (k + 1074).toNat * 2 ^ 52 + Q := ⟨_, rfl⟩
  rw [← hres] at e1
  have e3 : Hid (Flt.val res * den = num ↔ p = N * q ∧ Q * 2 ^ b = N * 2 ^ a) := by rw [hres]; exact e3
  have L : Hid (Ldx Q (k + 1074).toNat res k) := Lib.hid ⟨hQ53, hplace, hk2', hlow.out, hres⟩
  clear hres hplace hlow
  by_cases hs0 : k - e ≤ 0
  ·-- no bit goes
   have hb0 : b = 0 := by omega
   have h0 : h = 0 := by
    have : n ≤ 53 := by omega
    have : 2 ^ n ≤ 2 ^ 53 := Nat.pow_le_pow_right (by decide) this
    omega
   subst h0
   subst hb0
   have hQe : Q = N * 2 ^ a := by rw [hQ, Nat.pow_zero, Nat.div_one]
   have hNl : N = l := by omega
   have hmx : IntKind.u64.wrap (↑l * 2 ^ (-(k - e)).toNat) = (Q : Int) := by
    rw [show (-(k - e)).toNat = a by omega, pow_int, ← Int.natCast_mul, ← hNl, ← hQe]
    exact u64_small (by omega)
   refine und_ret0 (und_up l n Q _ res e k more w hl (Lib.hid (hlq.out rfl).symm) he1 he2 (hn64.out rfl) hk hk2' hs0 L (Lib.hid hmx)) e1 ?_
   rw [hm]
   by_cases hp : p = N * q
   ·have : Flt.val res * den = num := e3.out.2 ⟨hp, by rw [hQe, Nat.pow_zero, Nat.mul_one]⟩
    simp [hp, this]
   ·have : ¬ Flt.val res * den = num := fun h' => hp (e3.out.1 h').1
    simp [hp, this]
  ·have ha0' : a = 0 := by omega
   subst ha0'
   have e3 : Hid (Flt.val res * den = num ↔ p = N * q ∧ N % 2 ^ b = 0) := by
    have q3 := qm.out
    have e4 := e3.out
    rw [q3, Nat.pow_zero, Nat.mul_one] at e4
    exact Lib.hid e4
   clear qm
   rw [Nat.pow_zero, Nat.mul_one] at hQ q1 q2
   have hsb : k - e = (b : Int) := by omega
   have hsn : (k - e).toNat = b := by omega
   have hmore : more = true → ¬ Flt.val res * den = num := fun h' h'' => by
    rw [hm] at h'
    exact of_decide_eq_true h' (e3.out.1 h'').1
   have hless : more = false → (Flt.val res * den = num ↔ N % 2 ^ b = 0) := fun h' => by
    rw [hm] at h'
    have hp : p = N * q := by simpa using h'
    rw [e3.out]
    exact ⟨fun x => x.2, fun x => ⟨hp, x⟩⟩
   by_cases hs1 : b < 64
   ·have hmask := und_and l b hl hs1
    have hmod : N % 2 ^ b = l % 2 ^ b := by rw [hN]; exact und_split_mod h l b (by omega)
    have hbit : Hid ((bits .and .u64 (↑l) (IntKind.u64.wrap (IntKind.u64.wrap (2 ^ (k - e).toNat) - 1)) != 0) = !decide (N % 2 ^ b = 0)) := by
     rw [hsn, hmask, hmod]
     exact Lib.hid (bne_dec _)
    have hhs : h * 2 ^ (64 - b) < 2 ^ 64 := by
     have := und_split h l b (by omega)
     rw [← hN, ← hQ] at this
     have := Nat.le_add_right (h * 2 ^ (64 - b)) (l / 2 ^ b)
     omega
    by_cases h0 : h = 0
    ·subst h0
     have hmx : Hid (bits .or .u64 (↑l / 2 ^ (k - e).toNat) 0 = (Q : Int)) := by
      have := und_or 0 l b hl hs1 hhs
      rw [← hN, ← hQ] at this
      rw [hsn]
      refine Lib.hid (Eq.trans ?_ this)
      congr 1
      rw [show ((0 : Nat) : Int) = 0 from rfl, Int.zero_mul]
      rfl
     cases hmt : more with
     | true =>
      exact und_ret0 (und_mid_0_t l n Q _ res e k w hl (Lib.hid (hlq.out rfl).symm) he1 he2 (hn64.out rfl) hk hk2' (by omega) (by omega) L hmx) e1 (decide_eq_false (hmore hmt)).symm
     | false =>
      exact und_ret0 (und_mid_0_f l n Q _ res e k w hl (Lib.hid (hlq.out rfl).symm) he1 he2 (hn64.out rfl) hk hk2' (by omega) (by omega) L hmx _ hbit) e1 (by rw [decide_eq_decide]; exact (hless hmt).symm)
    ·have hnh := hhq.out h0
     have hmx : Hid (bits .or .u64 (↑l / 2 ^ (k - e).toNat) (IntKind.u64.wrap (↑h * 2 ^ (64 - (k - e)).toNat)) = (Q : Int)) := by
      have := und_or h l b hl hs1 hhs
      rw [← hN, ← hQ] at this
      rw [hsn, show (64 - (k - e)).toNat = 64 - b by omega]
      exact Lib.hid this
     cases hmt : more with
     | true =>
      exact und_ret (und_mid_1_t h (bitLen h) hh (Lib.hid rfl) (by omega) (by omega) l (bitLen l) Q _ res e k w hl (Lib.hid rfl) he1 he2 (by rw [← hk, hnh]; rfl) hk2' (by omega) (by omega) L hmx) e1 (decide_eq_false (hmore hmt)).symm
     | false =>
      exact und_ret (und_mid_1_f h (bitLen h) hh (Lib.hid rfl) (by omega) (by omega) l (bitLen l) Q _ res e k w hl (Lib.hid rfl) he1 he2 (by rw [← hk, hnh]; rfl) hk2' (by omega) (by omega) L hmx _ hbit) e1 (by rw [decide_eq_decide]; exact (hless hmt).symm)
   ·by_cases hs2 : b < 128
    ·obtain ⟨t, ht⟩ : ∃ t, b = 64 + t := ⟨b - 64, by omega⟩
     have hQh : Q = h / 2 ^ t := by rw [hQ, hN, ht]; exact und_high h l t hl64
     have hz : Hid (N % 2 ^ b = 0 ↔ l = 0 ∧ h % 2 ^ t = 0) := Lib.hid (by rw [hN, ht]; exact und_high_mod h l t hl64)
     have hst : (k - e - 64).toNat = t := by omega
     by_cases h0 : h = 0
     ·subst h0
      have hmx : Hid (((0 : Nat) : Int) = (Q : Int)) := Lib.hid (by rw [hQh, Nat.zero_div])
      have hl0 : l ≠ 0 := by omega
      have hx : ¬ Flt.val res * den = num := by
       cases hmt : more with
       | true => exact hmore hmt
       | false => rw [hless hmt, hz.out]; exact fun x => hl0 x.1
      cases hmt : more with
      | true =>
       exact und_ret0 (und_high_0_t l n Q _ res e k w hl (Lib.hid (hlq.out rfl).symm) he1 he2 (hn64.out rfl) hk hk2' (by omega) (by omega) L hmx) e1 (decide_eq_false hx).symm
      | false =>
       exact und_ret0 (und_high_0_l l n Q _ res e k w hl (Lib.hid (hlq.out rfl).symm) he1 he2 (hn64.out rfl) hk hk2' (by omega) (by omega) (by simp; omega) L hmx) e1 (decide_eq_false hx).symm
     ·have hnh := hhq.out h0
      have hmx : Hid ((h : Int) / 2 ^ (k - e - 64).toNat = (Q : Int)) := by
       rw [hst, pow_int, ← Int.natCast_ediv, hQh]; exact Lib.hid rfl
      cases hmt : more with
      | true =>
       exact und_ret (und_high_1_t h (bitLen h) hh (Lib.hid rfl) (by omega) (by omega) l (bitLen l) Q _ res e k w hl (Lib.hid rfl) he1 he2 (by rw [← hk, hnh]; rfl) hk2' (by omega) (by omega) L hmx) e1 (decide_eq_false (hmore hmt)).symm
      | false =>
       by_cases hl0 : l = 0
       ·have hbit : Hid ((bits .and .u64 (↑h) (IntKind.u64.wrap (IntKind.u64.wrap (2 ^ (k - e - 64).toNat) - 1)) != 0) = !decide (N % 2 ^ b = 0)) := by
         rw [hst, und_and h t hh (by omega)]
         have hz' : N % 2 ^ b = 0 ↔ h % 2 ^ t = 0 := by rw [hz.out]; exact ⟨fun x => x.2, fun x => ⟨hl0, x⟩⟩
         rw [decide_eq_decide.2 hz']
         exact Lib.hid (bne_dec _)
        exact und_ret (und_high_1_f h (bitLen h) hh (Lib.hid rfl) (by omega) (by omega) l (bitLen l) Q _ res e k w hl (Lib.hid rfl) he1 he2 (by rw [← hk, hnh]; rfl) hk2' (by omega) (by omega) (by simp; omega) L hmx _ hbit) e1 (by rw [decide_eq_decide]; exact (hless hmt).symm)
       ·exact und_ret (und_high_1_l h (bitLen h) hh (Lib.hid rfl) (by omega) (by omega) l (bitLen l) Q _ res e k w hl (Lib.hid rfl) he1 he2 (by rw [← hk, hnh]; rfl) hk2' (by omega) (by omega) (by simp; omega) L hmx) e1 (decide_eq_false (by rw [hless hmt, hz.out]; exact fun x => hl0 x.1)).symm
    ·have hQ0 : Q = 0 := by
      rw [hQ]
      apply Nat.div_eq_of_lt
      have : 2 ^ n ≤ 2 ^ b := Nat.pow_le_pow_right (by decide) (by omega)
      omega
     have hmx : Hid (((0 : Nat) : Int) = (Q : Int)) := Lib.hid (by rw [hQ0])
     have hnz : N % 2 ^ b ≠ 0 := by
      have : 2 ^ n ≤ 2 ^ b := Nat.pow_le_pow_right (by decide) (by omega)
      rw [Nat.mod_eq_of_lt (by omega)]
      exact hN0
     have hx : ¬ Flt.val res * den = num := by
      cases hmt : more with
      | true => exact hmore hmt
      | false => rw [hless hmt]; exact hnz
     have hor : Hid ((bits .or .u64 (h : Int) (l : Int) != 0) = true) := by
      rw [u64_or_nat h l hh hl]
      have : h ||| l ≠ 0 := by
       intro h'
       have a1 : h ≤ h ||| l := Nat.left_le_or
       have a2 : l ≤ h ||| l := Nat.right_le_or
       omega
      exact Lib.hid (by simp; omega)
     by_cases h0 : h = 0
     ·subst h0
      cases hmt : more with
      | true =>
       exact und_ret0 (und_far_0_t l n Q _ res e k w hl (Lib.hid (hlq.out rfl).symm) he1 he2 (hn64.out rfl) hk hk2' (by omega) L hmx) e1 (decide_eq_false hx).symm
      | false =>
       exact und_ret0 (und_far_0_f l n Q _ res e k w hl (Lib.hid (hlq.out rfl).symm) he1 he2 (hn64.out rfl) hk hk2' (by omega) hor L hmx) e1 (decide_eq_false hx).symm
     ·have hnh := hhq.out h0
      cases hmt : more with
      | true =>
       exact und_ret (und_far_1_t h (bitLen h) hh (Lib.hid rfl) (by omega) (by omega) l (bitLen l) Q _ res e k w hl (Lib.hid rfl) he1 he2 (by rw [← hk, hnh]; rfl) hk2' (by omega) L hmx) e1 (decide_eq_false hx).symm
      | false =>
       exact und_ret (und_far_1_f h (bitLen h) hh (Lib.hid rfl) (by omega) (by omega) l (bitLen l) Q _ res e k w hl (Lib.hid rfl) he1 he2 (by rw [← hk, hnh]; rfl) hk2' (by omega) hor L hmx) e1 (decide_eq_false hx).symm
theorem edge_size (h l p q N : Nat) (e : Int) (neg more : Bool) (w : World) (hh : h < 18446744073709551616) (hl : l < 18446744073709551616) (hN : N = h * 2 ^ 64 + l) (hN0 : N ≠ 0) (hq : 0 < q) (h1 : N * q ≤ p) (h2 : p < (N + 1) * q)
  (hm : more = decide (p ≠ N * q)) (hb : more = true → 2 ^ 53 ≤ N) (he1 : -2000000 ≤ e) (he2 : e ≤ 2000000) :
  Calls Tryz.prog 310 #[.bool neg, .int .u64 (h : Int), .int .u64 (l : Int), .bool more, .int .i64 e] w (RetPair w (Brk neg (p * 2 ^ (e + 1074).toNat) (q * 2 ^ (-(e + 1074)).toNat))) := by
 have H := Lib.hid (edge_under h l p q N e more w hh hl hN hN0 hq h1 h2 hm hb he1 he2)
 generalize p * 2 ^ (e + 1074).toNat = num at *
 generalize q * 2 ^ (-(e + 1074)).toNat = den at *
 clear hN hN0 hq h1 h2 hm hb he1 he2 hh hl
 go_enter Tryz.func310, Tryz.ntmps310
 go_wp2_with fail
 refine H.out.mono ?_
 rintro e1 w1 ⟨r, ex, rfl, hD, hex, d, rfl⟩
 have hr := hD.1
 have hi := Flt.inf_lt
 have HD := Lib.hid hD
 have HX := Lib.hid hex
 clear hD hex
 have hn0 : Hid (neg64 r = 2 ^ 63 + r) := Lib.hid (by rw [neg64_eq r (by omega)]; have e0 : Flt.word false r = r := rfl; unfold Flt.opp; rw [← e0, Flt.sgn_word _ _ (by omega), Flt.rg_word _ _ (by omega)]; rfl)
 have hn1 : Hid (neg64 (r + 1) = 2 ^ 63 + (r + 1)) := Lib.hid (by rw [neg64_eq (r + 1) (by omega)]; have e0 : Flt.word false (r + 1) = r + 1 := rfl; unfold Flt.opp; rw [← e0, Flt.sgn_word _ _ (by omega), Flt.rg_word _ _ (by omega)]; rfl)
 have ht : Hid (((r : Int) + 1).toNat = r + 1) := Lib.hid (by omega)
 have hr2 : (r : Int) < 9223372036854775808 := by omega
 have hb : Below w.heap.size w (w.drewN d) := below_drewN (Below.refl _ _) d
 have hv : Hid (hiR num den r = if ex then r else r + 1) := by
  have := HX.out
  refine Lib.hid ?_
  unfold hiR
  by_cases h' : Flt.val r * den = num
  ·rw [decide_eq_true h'] at this; rw [this, if_pos h', if_pos rfl]
  ·rw [decide_eq_false h'] at this; rw [this, if_neg h']; rfl
 clear HX hi
 cases ex with
 | true =>
  have hv : Hid (hiR num den r = r) := hv
  cases neg with
  | true =>
   go_wp2_with fail
   go_ret2
   exact ⟨_, _, rfl, ⟨r, HD.out, by rw [hv.out]; exact hn0.out, hn0.out⟩, hb⟩
  | false =>
   go_wp2_with fail
   go_ret2
   exact ⟨_, _, rfl, ⟨r, HD.out, rfl, by rw [hv.out]; rfl⟩, hb⟩
 | false =>
  have hv : Hid (hiR num den r = r + 1) := hv
  cases neg with
  | true =>
   go_wp2_with fail
   go_ret2
   exact ⟨_, _, rfl, ⟨r, HD.out, by rw [hv.out]; exact (congrArg neg64 ht.out).trans hn1.out, hn0.out⟩, hb⟩
  | false =>
   go_wp2_with fail
   go_ret2
   exact ⟨_, _, rfl, ⟨r, HD.out, rfl, by rw [hv.out]; exact ht.out⟩, hb⟩
end Go.Proofs.YtgekmbfmfiikkaaGreatDoor
