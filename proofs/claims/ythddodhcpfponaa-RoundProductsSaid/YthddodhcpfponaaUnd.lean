/-
  The program's floats straight below and above a number (edge): under.
-/
import Derived.Test.YthddodhcpfponaaLdx
import Derived.Test.YthddodhcpfponaaMem
import Derived.Test.YthddodhcpfponaaShelf
import Derived.Laws.MathBits
namespace Go.Proofs.Ythddodhcpfponaa
open Go.RowKit

theorem bitLen_spec {x : Nat} (h : x ≠ 0) : 1 ≤ bitLen x ∧ 2 ^ (bitLen x - 1) ≤ x ∧ x < 2 ^ bitLen x := by
  unfold bitLen
  rw [if_neg h]
  exact ⟨by omega, Nat.log2_self_le h, Nat.lt_log2_self⟩
theorem bitLen_uniq {x L : Nat} (h1 : 2 ^ L ≤ 2 * x) (h2 : x < 2 ^ L) (h0 : x ≠ 0) : bitLen x = L := by
  obtain ⟨a, b, c⟩ := bitLen_spec h0
  rcases Nat.lt_trichotomy (bitLen x) L with h | h | h
  · have h3 : 2 ^ (bitLen x + 1) ≤ 2 ^ L := Nat.pow_le_pow_right (by decide) h
    rw [Nat.pow_succ] at h3
    omega
  · exact h
  · have h3 : 2 ^ L ≤ 2 ^ (bitLen x - 1) := Nat.pow_le_pow_right (by decide) (by omega)
    omega
theorem bitLen_step {x : Nat} (h : x ≠ 0) : bitLen x = 1 + bitLen (x / 2) := by
  by_cases h1 : x / 2 = 0
  · have : x = 1 := by omega
    subst this; rfl
  · have := bitLen_shift x 1 (by simpa using h1)
    rw [Nat.pow_one] at this
    omega
theorem lib_bitLenAux : ∀ (f x : Nat), x < 2 ^ f → Lib.bitLenAux f x = bitLen x
  | 0, x, h => by
    have : x = 0 := by simpa using h
    subst this; rfl
  | f + 1, x, h => by
    unfold Lib.bitLenAux
    by_cases h0 : x = 0
    · subst h0; rfl
    · rw [if_neg h0, lib_bitLenAux f (x / 2) (by rw [Nat.pow_succ] at h; omega), bitLen_step h0]
theorem lib_bitLen {x : Nat} (h : x < 2 ^ 64) : Lib.bitLen x = bitLen x := lib_bitLenAux 64 x h
theorem len64_of (x L : Nat) (w : World) (h : x < 18446744073709551616) (hL : Hid (bitLen x = L)) : Calls Try.prog 85 #[.int .u64 (x : Int)] w fun e w' => e = .returned (.int .i64 (L : Int)) ∧ w = w' := by
  have c := Try.bits_Len64 (x : Int) w (by omega) (by omega)
  rw [Int.toNat_natCast, lib_bitLen h, hL.out] at c
  exact c.mono fun _ _ ⟨h1, h2⟩ => ⟨h1, h2.symm⟩

theorem float_whole {z : Int} {m : Nat} (hz : z = (m : Int)) (hm : m < 2 ^ 53) : floatOfInt .f64 z = Flt.whole m := by
  subst hz
  obtain ⟨r, h1, h2⟩ := Flt.nearest_spec (decide ((m : Int) < 0)) m 0
  have e : floatOfInt .f64 (m : Int) = Ieee.double.nearest (decide ((m : Int) < 0)) m 0 := by
    show Ieee.double.nearest (decide ((m : Int) < 0)) (m : Int).natAbs 0 = _
    rw [Int.natAbs_natCast]
  rw [e, h1, Flt.double_word, decide_eq_false (by omega)]
  have hv := Flt.val_whole hm
  have hK := Flt.K74_eq
  have ha : ((0 : Int) + 1074).toNat = Flt.K74 := by rw [hK]; rfl
  have hb : (-((0 : Int) + 1074)).toNat = 0 := by omega
  rw [ha, hb, Nat.pow_zero, ← hv] at h2
  exact Flt.near_eq h2 (Nat.le_of_lt (Flt.whole_lt hm)) rfl

/-- Where the call of Ldexp ends. -/
structure Ldx (m E res : Nat) (k : Int) : Prop where
  small : m < 2 ^ 53
  place : (E : Int) - 1074 = k
  top : k ≤ 971
  low : E = 0 ∨ 2 ^ 52 ≤ m
  word : res = E * 2 ^ 52 + m
theorem Ldx.call {m E res : Nat} {k : Int} (L : Hid (Ldx m E res k)) {z : Int} (hz : Hid (z = (m : Int))) (w : World) :
    Calls Try.prog 106 #[.float .f64 (floatOfInt .f64 z), .int .i64 k] w fun e w' => e = .returned (.float .f64 res) ∧ w = w' :=
  Ldexp_any m _ E res k w (Lib.hid (float_whole hz.out L.out.small)) L.out.small L.out.place L.out.top L.out.low (Lib.hid L.out.word)

def RetD (w : World) (v : Value) (e : Ending) (w' : World) : Prop := e = .returned v ∧ ∃ d, w.drewN d = w'

set_option maxHeartbeats 1000000 in
theorem und_big_0 (l n : Nat) (e k : Int) (more : Bool) (w : World) (hl : l < 18446744073709551616) (hn : Hid (bitLen l = n)) (he1 : -4000 ≤ e) (he2 : e ≤ 4000) (hn2 : n ≤ 64) (hk : max (e + (n : Int) - 53) (-1074) = k) (hk2 : 971 < k) 
    :
    Calls Try.prog 83 #[.int .u64 0, .int .u64 l, .bool more, .int .i64 e] w (RetD w (.tuple #[.float .f64 9218868437227405311, .bool false])) := by
  go_enter Try.func83, Try.ntmps83
  go_wp2_with (first | (go_at_call 85; (with_reducible refine (len64_of l n _ hl hn).mono ?_); rintro e w' ⟨rfl, rfl⟩))
  go_ret2
  exact ⟨rfl, ⟨0, World.drewN_zero _⟩⟩

set_option maxHeartbeats 1000000 in
theorem und_up (l n m E res : Nat) (e k : Int) (more : Bool) (w : World) (hl : l < 18446744073709551616) (hn : Hid (bitLen l = n)) (he1 : -4000 ≤ e) (he2 : e ≤ 4000) (hn2 : n ≤ 64) (hk : max (e + (n : Int) - 53) (-1074) = k) (hk2 : k ≤ 971) (hs : k - e ≤ 0) 
    (L : Hid (Ldx m E res k)) (hm : Hid (IntKind.u64.wrap (↑l * 2 ^ (-(k - e)).toNat) = (m : Int))) :
    Calls Try.prog 83 #[.int .u64 0, .int .u64 l, .bool more, .int .i64 e] w (RetD w (.tuple #[.float .f64 res, .bool !more])) := by
  go_enter Try.func83, Try.ntmps83
  go_wp2_with (first | (go_at_call 85; (with_reducible refine (len64_of l n _ hl hn).mono ?_); rintro e w' ⟨rfl, rfl⟩) | (go_at_call 106; refine (Ldx.call L hm _).mono ?_; rintro e w' ⟨rfl, rfl⟩))
  go_ret2
  exact ⟨rfl, ⟨0, World.drewN_zero _⟩⟩

set_option maxHeartbeats 1000000 in
theorem und_mid_0_t (l n m E res : Nat) (e k : Int) (w : World) (hl : l < 18446744073709551616) (hn : Hid (bitLen l = n)) (he1 : -4000 ≤ e) (he2 : e ≤ 4000) (hn2 : n ≤ 64) (hk : max (e + (n : Int) - 53) (-1074) = k) (hk2 : k ≤ 971) (hs : 0 < k - e) (hs2 : k - e < 64) 
    (L : Hid (Ldx m E res k)) (hm : Hid (bits .or .u64 (↑l / 2 ^ (k - e).toNat) 0 = (m : Int))) :
    Calls Try.prog 83 #[.int .u64 0, .int .u64 l, .bool true, .int .i64 e] w (RetD w (.tuple #[.float .f64 res, .bool false])) := by
  go_enter Try.func83, Try.ntmps83
  go_wp2_with (first | (go_at_call 85; (with_reducible refine (len64_of l n _ hl hn).mono ?_); rintro e w' ⟨rfl, rfl⟩) | (go_at_call 106; refine (Ldx.call L hm _).mono ?_; rintro e w' ⟨rfl, rfl⟩))
  go_quiet (fail)
  go_wp2_with (first | (go_at_call 85; (with_reducible refine (len64_of l n _ hl hn).mono ?_); rintro e w' ⟨rfl, rfl⟩) | (go_at_call 106; refine (Ldx.call L hm _).mono ?_; rintro e w' ⟨rfl, rfl⟩))
  go_ret2
  exact ⟨rfl, ⟨nq, rfl⟩⟩

set_option maxHeartbeats 1000000 in
theorem und_mid_0_f (l n m E res : Nat) (e k : Int) (w : World) (hl : l < 18446744073709551616) (hn : Hid (bitLen l = n)) (he1 : -4000 ≤ e) (he2 : e ≤ 4000) (hn2 : n ≤ 64) (hk : max (e + (n : Int) - 53) (-1074) = k) (hk2 : k ≤ 971) (hs : 0 < k - e) (hs2 : k - e < 64) 
    (L : Hid (Ldx m E res k)) (hm : Hid (bits .or .u64 (↑l / 2 ^ (k - e).toNat) 0 = (m : Int))) (b : Bool) (hb : Hid ((bits .and .u64 (↑l) (IntKind.u64.wrap (IntKind.u64.wrap (2 ^ (k - e).toNat) - 1)) != 0) = !b)) :
    Calls Try.prog 83 #[.int .u64 0, .int .u64 l, .bool false, .int .i64 e] w (RetD w (.tuple #[.float .f64 res, .bool b])) := by
  go_enter Try.func83, Try.ntmps83
  go_wp2_with (first | (go_at_call 85; (with_reducible refine (len64_of l n _ hl hn).mono ?_); rintro e w' ⟨rfl, rfl⟩) | (go_at_call 106; refine (Ldx.call L hm _).mono ?_; rintro e w' ⟨rfl, rfl⟩))
  go_quiet (fail)
  go_wp2_with (first | (go_at_call 85; (with_reducible refine (len64_of l n _ hl hn).mono ?_); rintro e w' ⟨rfl, rfl⟩) | (go_at_call 106; refine (Ldx.call L hm _).mono ?_; rintro e w' ⟨rfl, rfl⟩))
  go_ret2
  exact ⟨(by rw [hb.out]; cases b <;> rfl), ⟨nq, rfl⟩⟩

set_option maxHeartbeats 1000000 in
theorem und_high_0_t (l n m E res : Nat) (e k : Int) (w : World) (hl : l < 18446744073709551616) (hn : Hid (bitLen l = n)) (he1 : -4000 ≤ e) (he2 : e ≤ 4000) (hn2 : n ≤ 64) (hk : max (e + (n : Int) - 53) (-1074) = k) (hk2 : k ≤ 971) (hs : 64 ≤ k - e) (hs2 : k - e < 128) 
    (L : Hid (Ldx m E res k)) (hm : Hid (((0 : Nat) : Int) = (m : Int))) :
    Calls Try.prog 83 #[.int .u64 0, .int .u64 l, .bool true, .int .i64 e] w (RetD w (.tuple #[.float .f64 res, .bool false])) := by
  go_enter Try.func83, Try.ntmps83
  go_wp2_with (first | (go_at_call 85; (with_reducible refine (len64_of l n _ hl hn).mono ?_); rintro e w' ⟨rfl, rfl⟩) | (go_at_call 106; refine (Ldx.call L hm _).mono ?_; rintro e w' ⟨rfl, rfl⟩))
  go_quiet (fail)
  go_wp2_with (first | (go_at_call 85; (with_reducible refine (len64_of l n _ hl hn).mono ?_); rintro e w' ⟨rfl, rfl⟩) | (go_at_call 106; refine (Ldx.call L hm _).mono ?_; rintro e w' ⟨rfl, rfl⟩))
  go_ret2
  exact ⟨rfl, ⟨nq, rfl⟩⟩

set_option maxHeartbeats 1000000 in
theorem und_high_0_l (l n m E res : Nat) (e k : Int) (w : World) (hl : l < 18446744073709551616) (hn : Hid (bitLen l = n)) (he1 : -4000 ≤ e) (he2 : e ≤ 4000) (hn2 : n ≤ 64) (hk : max (e + (n : Int) - 53) (-1074) = k) (hk2 : k ≤ 971) (hs : 64 ≤ k - e) (hs2 : k - e < 128) (hl0 : ((l : Int) != 0) = true) 
    (L : Hid (Ldx m E res k)) (hm : Hid (((0 : Nat) : Int) = (m : Int))) :
    Calls Try.prog 83 #[.int .u64 0, .int .u64 l, .bool false, .int .i64 e] w (RetD w (.tuple #[.float .f64 res, .bool false])) := by
  go_enter Try.func83, Try.ntmps83
  go_wp2_with (first | (go_at_call 85; (with_reducible refine (len64_of l n _ hl hn).mono ?_); rintro e w' ⟨rfl, rfl⟩) | (go_at_call 106; refine (Ldx.call L hm _).mono ?_; rintro e w' ⟨rfl, rfl⟩))
  go_quiet (fail)
  go_wp2_with (first | (go_at_call 85; (with_reducible refine (len64_of l n _ hl hn).mono ?_); rintro e w' ⟨rfl, rfl⟩) | (go_at_call 106; refine (Ldx.call L hm _).mono ?_; rintro e w' ⟨rfl, rfl⟩))
  go_ret2
  exact ⟨rfl, ⟨nq, rfl⟩⟩

set_option maxHeartbeats 1000000 in
theorem und_far_0_t (l n m E res : Nat) (e k : Int) (w : World) (hl : l < 18446744073709551616) (hn : Hid (bitLen l = n)) (he1 : -4000 ≤ e) (he2 : e ≤ 4000) (hn2 : n ≤ 64) (hk : max (e + (n : Int) - 53) (-1074) = k) (hk2 : k ≤ 971) (hs : 128 ≤ k - e) 
    (L : Hid (Ldx m E res k)) (hm : Hid (((0 : Nat) : Int) = (m : Int))) :
    Calls Try.prog 83 #[.int .u64 0, .int .u64 l, .bool true, .int .i64 e] w (RetD w (.tuple #[.float .f64 res, .bool false])) := by
  go_enter Try.func83, Try.ntmps83
  go_wp2_with (first | (go_at_call 85; (with_reducible refine (len64_of l n _ hl hn).mono ?_); rintro e w' ⟨rfl, rfl⟩) | (go_at_call 106; refine (Ldx.call L hm _).mono ?_; rintro e w' ⟨rfl, rfl⟩))
  go_ret2
  exact ⟨rfl, ⟨0, World.drewN_zero _⟩⟩

set_option maxHeartbeats 1000000 in
theorem und_far_0_f (l n m E res : Nat) (e k : Int) (w : World) (hl : l < 18446744073709551616) (hn : Hid (bitLen l = n)) (he1 : -4000 ≤ e) (he2 : e ≤ 4000) (hn2 : n ≤ 64) (hk : max (e + (n : Int) - 53) (-1074) = k) (hk2 : k ≤ 971) (hs : 128 ≤ k - e) (ho : Hid ((bits .or .u64 0 (l : Int) != 0) = true)) 
    (L : Hid (Ldx m E res k)) (hm : Hid (((0 : Nat) : Int) = (m : Int))) :
    Calls Try.prog 83 #[.int .u64 0, .int .u64 l, .bool false, .int .i64 e] w (RetD w (.tuple #[.float .f64 res, .bool false])) := by
  go_enter Try.func83, Try.ntmps83
  go_wp2_with (first | (go_at_call 85; (with_reducible refine (len64_of l n _ hl hn).mono ?_); rintro e w' ⟨rfl, rfl⟩) | (go_at_call 106; refine (Ldx.call L hm _).mono ?_; rintro e w' ⟨rfl, rfl⟩))
  go_ret2
  exact ⟨(by rw [ho.out]; rfl), ⟨0, World.drewN_zero _⟩⟩

set_option maxHeartbeats 1000000 in
theorem und_big_1 (h nh : Nat) (hh : h < 18446744073709551616) (hnh : Hid (bitLen h = nh)) (hh0 : (0 : Int) < (h : Int)) (hnh2 : nh ≤ 64) (l n : Nat) (e k : Int) (more : Bool) (w : World) (hl : l < 18446744073709551616) (hn : Hid (bitLen l = n)) (he1 : -4000 ≤ e) (he2 : e ≤ 4000) (hk : max (e + ((64 : Int) + (nh : Int)) - 53) (-1074) = k) (hk2 : 971 < k) 
    :
    Calls Try.prog 83 #[.int .u64 (h : Int), .int .u64 l, .bool more, .int .i64 e] w (RetD w (.tuple #[.float .f64 9218868437227405311, .bool false])) := by
  go_enter Try.func83, Try.ntmps83
  go_wp2_with (first | (go_at_call 85; (with_reducible refine (len64_of l n _ hl hn).mono ?_); rintro e w' ⟨rfl, rfl⟩) | (go_at_call 85; (with_reducible refine (len64_of h nh _ hh hnh).mono ?_); rintro e w' ⟨rfl, rfl⟩))
  go_ret2
  exact ⟨rfl, ⟨0, World.drewN_zero _⟩⟩

set_option maxHeartbeats 1000000 in
theorem und_mid_1_t (h nh : Nat) (hh : h < 18446744073709551616) (hnh : Hid (bitLen h = nh)) (hh0 : (0 : Int) < (h : Int)) (hnh2 : nh ≤ 64) (l n m E res : Nat) (e k : Int) (w : World) (hl : l < 18446744073709551616) (hn : Hid (bitLen l = n)) (he1 : -4000 ≤ e) (he2 : e ≤ 4000) (hk : max (e + ((64 : Int) + (nh : Int)) - 53) (-1074) = k) (hk2 : k ≤ 971) (hs : 0 < k - e) (hs2 : k - e < 64) 
    (L : Hid (Ldx m E res k)) (hm : Hid (bits .or .u64 (↑l / 2 ^ (k - e).toNat) (IntKind.u64.wrap (↑h * 2 ^ (64 - (k - e)).toNat)) = (m : Int))) :
    Calls Try.prog 83 #[.int .u64 (h : Int), .int .u64 l, .bool true, .int .i64 e] w (RetD w (.tuple #[.float .f64 res, .bool false])) := by
  go_enter Try.func83, Try.ntmps83
  go_wp2_with (first | (go_at_call 85; (with_reducible refine (len64_of l n _ hl hn).mono ?_); rintro e w' ⟨rfl, rfl⟩) | (go_at_call 85; (with_reducible refine (len64_of h nh _ hh hnh).mono ?_); rintro e w' ⟨rfl, rfl⟩) | (go_at_call 106; refine (Ldx.call L hm _).mono ?_; rintro e w' ⟨rfl, rfl⟩))
  go_quiet (fail)
  go_wp2_with (first | (go_at_call 85; (with_reducible refine (len64_of l n _ hl hn).mono ?_); rintro e w' ⟨rfl, rfl⟩) | (go_at_call 85; (with_reducible refine (len64_of h nh _ hh hnh).mono ?_); rintro e w' ⟨rfl, rfl⟩) | (go_at_call 106; refine (Ldx.call L hm _).mono ?_; rintro e w' ⟨rfl, rfl⟩))
  go_ret2
  exact ⟨rfl, ⟨nq, rfl⟩⟩

set_option maxHeartbeats 1000000 in
theorem und_mid_1_f (h nh : Nat) (hh : h < 18446744073709551616) (hnh : Hid (bitLen h = nh)) (hh0 : (0 : Int) < (h : Int)) (hnh2 : nh ≤ 64) (l n m E res : Nat) (e k : Int) (w : World) (hl : l < 18446744073709551616) (hn : Hid (bitLen l = n)) (he1 : -4000 ≤ e) (he2 : e ≤ 4000) (hk : max (e + ((64 : Int) + (nh : Int)) - 53) (-1074) = k) (hk2 : k ≤ 971) (hs : 0 < k - e) (hs2 : k - e < 64) 
    (L : Hid (Ldx m E res k)) (hm : Hid (bits .or .u64 (↑l / 2 ^ (k - e).toNat) (IntKind.u64.wrap (↑h * 2 ^ (64 - (k - e)).toNat)) = (m : Int))) (b : Bool) (hb : Hid ((bits .and .u64 (↑l) (IntKind.u64.wrap (IntKind.u64.wrap (2 ^ (k - e).toNat) - 1)) != 0) = !b)) :
    Calls Try.prog 83 #[.int .u64 (h : Int), .int .u64 l, .bool false, .int .i64 e] w (RetD w (.tuple #[.float .f64 res, .bool b])) := by
  go_enter Try.func83, Try.ntmps83
  go_wp2_with (first | (go_at_call 85; (with_reducible refine (len64_of l n _ hl hn).mono ?_); rintro e w' ⟨rfl, rfl⟩) | (go_at_call 85; (with_reducible refine (len64_of h nh _ hh hnh).mono ?_); rintro e w' ⟨rfl, rfl⟩) | (go_at_call 106; refine (Ldx.call L hm _).mono ?_; rintro e w' ⟨rfl, rfl⟩))
  go_quiet (fail)
  go_wp2_with (first | (go_at_call 85; (with_reducible refine (len64_of l n _ hl hn).mono ?_); rintro e w' ⟨rfl, rfl⟩) | (go_at_call 85; (with_reducible refine (len64_of h nh _ hh hnh).mono ?_); rintro e w' ⟨rfl, rfl⟩) | (go_at_call 106; refine (Ldx.call L hm _).mono ?_; rintro e w' ⟨rfl, rfl⟩))
  go_ret2
  exact ⟨(by rw [hb.out]; cases b <;> rfl), ⟨nq, rfl⟩⟩

set_option maxHeartbeats 1000000 in
theorem und_high_1_t (h nh : Nat) (hh : h < 18446744073709551616) (hnh : Hid (bitLen h = nh)) (hh0 : (0 : Int) < (h : Int)) (hnh2 : nh ≤ 64) (l n m E res : Nat) (e k : Int) (w : World) (hl : l < 18446744073709551616) (hn : Hid (bitLen l = n)) (he1 : -4000 ≤ e) (he2 : e ≤ 4000) (hk : max (e + ((64 : Int) + (nh : Int)) - 53) (-1074) = k) (hk2 : k ≤ 971) (hs : 64 ≤ k - e) (hs2 : k - e < 128) 
    (L : Hid (Ldx m E res k)) (hm : Hid ((h : Int) / 2 ^ (k - e - 64).toNat = (m : Int))) :
    Calls Try.prog 83 #[.int .u64 (h : Int), .int .u64 l, .bool true, .int .i64 e] w (RetD w (.tuple #[.float .f64 res, .bool false])) := by
  go_enter Try.func83, Try.ntmps83
  go_wp2_with (first | (go_at_call 85; (with_reducible refine (len64_of l n _ hl hn).mono ?_); rintro e w' ⟨rfl, rfl⟩) | (go_at_call 85; (with_reducible refine (len64_of h nh _ hh hnh).mono ?_); rintro e w' ⟨rfl, rfl⟩) | (go_at_call 106; refine (Ldx.call L hm _).mono ?_; rintro e w' ⟨rfl, rfl⟩))
  go_quiet (fail)
  go_wp2_with (first | (go_at_call 85; (with_reducible refine (len64_of l n _ hl hn).mono ?_); rintro e w' ⟨rfl, rfl⟩) | (go_at_call 85; (with_reducible refine (len64_of h nh _ hh hnh).mono ?_); rintro e w' ⟨rfl, rfl⟩) | (go_at_call 106; refine (Ldx.call L hm _).mono ?_; rintro e w' ⟨rfl, rfl⟩))
  go_ret2
  exact ⟨rfl, ⟨nq, rfl⟩⟩

set_option maxHeartbeats 1000000 in
theorem und_high_1_l (h nh : Nat) (hh : h < 18446744073709551616) (hnh : Hid (bitLen h = nh)) (hh0 : (0 : Int) < (h : Int)) (hnh2 : nh ≤ 64) (l n m E res : Nat) (e k : Int) (w : World) (hl : l < 18446744073709551616) (hn : Hid (bitLen l = n)) (he1 : -4000 ≤ e) (he2 : e ≤ 4000) (hk : max (e + ((64 : Int) + (nh : Int)) - 53) (-1074) = k) (hk2 : k ≤ 971) (hs : 64 ≤ k - e) (hs2 : k - e < 128) (hl0 : ((l : Int) != 0) = true) 
    (L : Hid (Ldx m E res k)) (hm : Hid ((h : Int) / 2 ^ (k - e - 64).toNat = (m : Int))) :
    Calls Try.prog 83 #[.int .u64 (h : Int), .int .u64 l, .bool false, .int .i64 e] w (RetD w (.tuple #[.float .f64 res, .bool false])) := by
  go_enter Try.func83, Try.ntmps83
  go_wp2_with (first | (go_at_call 85; (with_reducible refine (len64_of l n _ hl hn).mono ?_); rintro e w' ⟨rfl, rfl⟩) | (go_at_call 85; (with_reducible refine (len64_of h nh _ hh hnh).mono ?_); rintro e w' ⟨rfl, rfl⟩) | (go_at_call 106; refine (Ldx.call L hm _).mono ?_; rintro e w' ⟨rfl, rfl⟩))
  go_quiet (fail)
  go_wp2_with (first | (go_at_call 85; (with_reducible refine (len64_of l n _ hl hn).mono ?_); rintro e w' ⟨rfl, rfl⟩) | (go_at_call 85; (with_reducible refine (len64_of h nh _ hh hnh).mono ?_); rintro e w' ⟨rfl, rfl⟩) | (go_at_call 106; refine (Ldx.call L hm _).mono ?_; rintro e w' ⟨rfl, rfl⟩))
  go_ret2
  exact ⟨rfl, ⟨nq, rfl⟩⟩

set_option maxHeartbeats 1000000 in
theorem und_high_1_f (h nh : Nat) (hh : h < 18446744073709551616) (hnh : Hid (bitLen h = nh)) (hh0 : (0 : Int) < (h : Int)) (hnh2 : nh ≤ 64) (l n m E res : Nat) (e k : Int) (w : World) (hl : l < 18446744073709551616) (hn : Hid (bitLen l = n)) (he1 : -4000 ≤ e) (he2 : e ≤ 4000) (hk : max (e + ((64 : Int) + (nh : Int)) - 53) (-1074) = k) (hk2 : k ≤ 971) (hs : 64 ≤ k - e) (hs2 : k - e < 128) (hl0 : ((l : Int) != 0) = false) 
    (L : Hid (Ldx m E res k)) (hm : Hid ((h : Int) / 2 ^ (k - e - 64).toNat = (m : Int))) (b : Bool) (hb : Hid ((bits .and .u64 (↑h) (IntKind.u64.wrap (IntKind.u64.wrap (2 ^ (k - e - 64).toNat) - 1)) != 0) = !b)) :
    Calls Try.prog 83 #[.int .u64 (h : Int), .int .u64 l, .bool false, .int .i64 e] w (RetD w (.tuple #[.float .f64 res, .bool b])) := by
  go_enter Try.func83, Try.ntmps83
  go_wp2_with (first | (go_at_call 85; (with_reducible refine (len64_of l n _ hl hn).mono ?_); rintro e w' ⟨rfl, rfl⟩) | (go_at_call 85; (with_reducible refine (len64_of h nh _ hh hnh).mono ?_); rintro e w' ⟨rfl, rfl⟩) | (go_at_call 106; refine (Ldx.call L hm _).mono ?_; rintro e w' ⟨rfl, rfl⟩))
  go_quiet (fail)
  go_wp2_with (first | (go_at_call 85; (with_reducible refine (len64_of l n _ hl hn).mono ?_); rintro e w' ⟨rfl, rfl⟩) | (go_at_call 85; (with_reducible refine (len64_of h nh _ hh hnh).mono ?_); rintro e w' ⟨rfl, rfl⟩) | (go_at_call 106; refine (Ldx.call L hm _).mono ?_; rintro e w' ⟨rfl, rfl⟩))
  go_ret2
  exact ⟨(by rw [hb.out]; cases b <;> rfl), ⟨nq, rfl⟩⟩

set_option maxHeartbeats 1000000 in
theorem und_far_1_t (h nh : Nat) (hh : h < 18446744073709551616) (hnh : Hid (bitLen h = nh)) (hh0 : (0 : Int) < (h : Int)) (hnh2 : nh ≤ 64) (l n m E res : Nat) (e k : Int) (w : World) (hl : l < 18446744073709551616) (hn : Hid (bitLen l = n)) (he1 : -4000 ≤ e) (he2 : e ≤ 4000) (hk : max (e + ((64 : Int) + (nh : Int)) - 53) (-1074) = k) (hk2 : k ≤ 971) (hs : 128 ≤ k - e) 
    (L : Hid (Ldx m E res k)) (hm : Hid (((0 : Nat) : Int) = (m : Int))) :
    Calls Try.prog 83 #[.int .u64 (h : Int), .int .u64 l, .bool true, .int .i64 e] w (RetD w (.tuple #[.float .f64 res, .bool false])) := by
  go_enter Try.func83, Try.ntmps83
  go_wp2_with (first | (go_at_call 85; (with_reducible refine (len64_of l n _ hl hn).mono ?_); rintro e w' ⟨rfl, rfl⟩) | (go_at_call 85; (with_reducible refine (len64_of h nh _ hh hnh).mono ?_); rintro e w' ⟨rfl, rfl⟩) | (go_at_call 106; refine (Ldx.call L hm _).mono ?_; rintro e w' ⟨rfl, rfl⟩))
  go_ret2
  exact ⟨rfl, ⟨0, World.drewN_zero _⟩⟩

set_option maxHeartbeats 1000000 in
theorem und_far_1_f (h nh : Nat) (hh : h < 18446744073709551616) (hnh : Hid (bitLen h = nh)) (hh0 : (0 : Int) < (h : Int)) (hnh2 : nh ≤ 64) (l n m E res : Nat) (e k : Int) (w : World) (hl : l < 18446744073709551616) (hn : Hid (bitLen l = n)) (he1 : -4000 ≤ e) (he2 : e ≤ 4000) (hk : max (e + ((64 : Int) + (nh : Int)) - 53) (-1074) = k) (hk2 : k ≤ 971) (hs : 128 ≤ k - e) (ho : Hid ((bits .or .u64 (h : Int) (l : Int) != 0) = true)) 
    (L : Hid (Ldx m E res k)) (hm : Hid (((0 : Nat) : Int) = (m : Int))) :
    Calls Try.prog 83 #[.int .u64 (h : Int), .int .u64 l, .bool false, .int .i64 e] w (RetD w (.tuple #[.float .f64 res, .bool false])) := by
  go_enter Try.func83, Try.ntmps83
  go_wp2_with (first | (go_at_call 85; (with_reducible refine (len64_of l n _ hl hn).mono ?_); rintro e w' ⟨rfl, rfl⟩) | (go_at_call 85; (with_reducible refine (len64_of h nh _ hh hnh).mono ?_); rintro e w' ⟨rfl, rfl⟩) | (go_at_call 106; refine (Ldx.call L hm _).mono ?_; rintro e w' ⟨rfl, rfl⟩))
  go_ret2
  exact ⟨(by rw [ho.out]; rfl), ⟨0, World.drewN_zero _⟩⟩
end Go.Proofs.Ythddodhcpfponaa
