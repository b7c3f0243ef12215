/-
  Products and quotients (round).
-/
import Derived.Test.YtejlicacndpfpaaEdgU
/-! Products, rounded down and up (round.Mul). -/
namespace Go.Proofs.Ytejlicacndpfpaa
open Go.RowKit

/-! ### plain: pairs beside a fraction, however that is written -/
theorem dn_cross {num den num' den' r : Nat} (hd : 0 < den) (hd' : 0 < den') (he : num * den' = num' * den) (h : Flt.Dn num den r) : Flt.Dn num' den' r := by
  refine ⟨h.1, ?_, fun hr => ?_⟩
  · apply Nat.le_of_mul_le_mul_right _ hd
    rw [← he, Nat.mul_right_comm]
    exact Nat.mul_le_mul_right _ h.2.1
  · apply Nat.lt_of_mul_lt_mul_right (a := den)
    rw [← he, Nat.mul_right_comm]
    exact Nat.mul_lt_mul_of_pos_right (h.2.2 hr) hd'
theorem exact_cross {num den num' den' r : Nat} (hd : 0 < den) (hd' : 0 < den') (he : num * den' = num' * den) : Flt.val r * den = num ↔ Flt.val r * den' = num' := by
  constructor
  · intro h
    apply Nat.eq_of_mul_eq_mul_right hd
    rw [← he, ← h, Nat.mul_right_comm]
  · intro h
    apply Nat.eq_of_mul_eq_mul_right hd'
    rw [he, ← h, Nat.mul_right_comm]
theorem Brk.cross {s : Bool} {num den num' den' d u : Nat} (hd : 0 < den) (hd' : 0 < den') (he : num * den' = num' * den) (h : Brk s num den d u) : Brk s num' den' d u := by
  obtain ⟨r, h1, h2, h3⟩ := h
  have e : hiR num den r = hiR num' den' r := by
    unfold hiR
    by_cases h' : Flt.val r * den = num
    · rw [if_pos h', if_pos ((exact_cross hd hd' he).1 h')]
    · rw [if_neg h', if_neg (fun h'' => h' ((exact_cross hd hd' he).2 h''))]
  exact ⟨r, dn_cross hd hd' he h1, by rw [h2, e], by rw [h3, e]⟩

/-- Both finite, neither a nought. -/
def Whole2 (x y : Nat) : Prop := Flt.Fin x ∧ Flt.Fin y ∧ Flt.rg x ≠ 0 ∧ Flt.rg y ≠ 0
/-- The pair that is told of an operation: its own answer twice, or the floats beside. -/
def IsPair (f : Nat → Nat → Option Nat) (W : Prop) (x y : Nat) (s : Bool) (num den d u : Nat) : Prop :=
  (¬ W → ∃ z, IsOp f x y z ∧ d = z ∧ u = z) ∧ (W → Brk s num den d u)
def IsProd (x y d u : Nat) : Prop := IsPair Ieee.double.mul (Whole2 x y) x y (Flt.sgn x ^^ Flt.sgn y) (Flt.val (Flt.rg x) * Flt.val (Flt.rg y)) (2 ^ Flt.K74) d u

theorem val_pos {r : Nat} (h : r ≠ 0) : 0 < Flt.val r := by have := Flt.val_lt (show 0 < r by omega); rw [Flt.val_zero] at this; exact this

/-! ### parts of a float; its sign -/
def IsParts (x m E : Nat) : Prop := m < 2 ^ 53 ∧ E ≤ 2046 ∧ m * 2 ^ E = Flt.val (Flt.rg x)
def RetParts (w : World) (x : Nat) (e : Ending) (w' : World) : Prop := ∃ m E : Nat, e = .returned (.tuple #[.int .u64 (m : Int), .int .i64 ((E : Int) - 1074)]) ∧ IsParts x m E ∧ w = w'

theorem parts_or (m : Nat) (h : m < 4503599627370496) : bits .or .u64 (m : Int) 4503599627370496 = ((2 ^ 52 + m : Nat) : Int) := by
  have := ldx_or m 1 4503599627370496 (by decide) h (by decide)
  rw [this, Nat.one_mul]

set_option maxHeartbeats 600000 in
theorem rnd_parts_any (x : Nat) (hx : x < 2 ^ 64) (w : World) : Calls Try.prog 140 #[.float .f64 x] w (RetParts w x) := by
  have fb := frac_bits x hx
  have eb := expo_bits x hx
  have hr : Flt.rg x = (x / 2 ^ 52 % 2048) * 2 ^ 52 + x % 2 ^ 52 := by unfold Flt.rg; omega
  have hv := Flt.val_mk (x / 2 ^ 52 % 2048) (x % 2 ^ 52) (by omega)
  rw [← hr] at hv
  have hm : x % 2 ^ 52 < 4503599627370496 := by omega
  have hq : x / 2 ^ 52 % 2048 < 2048 := by omega
  generalize x % 2 ^ 52 = m at *
  generalize x / 2 ^ 52 % 2048 = q at *
  have HV := Lib.hid hv
  clear hr hv
  by_cases h0 : q = 0
  · subst h0
    go_enter Try.func140, Try.ntmps140
    go_wp2
    go_ret2
    exact ⟨m, 0, rfl, ⟨by omega, by omega, by rw [HV.out]; rfl⟩, rfl⟩
  · have hq0 : ((q : Int) == 0) = false := by simpa using h0
    have HP := Lib.hid (parts_or m hm)
    go_enter Try.func140, Try.ntmps140
    go_wp2
    go_ret2
    refine ⟨2 ^ 52 + m, q - 1, ?_, ⟨by omega, by omega, by rw [HV.out, if_neg h0]⟩, rfl⟩
    show Ending.returned (.tuple #[.int .u64 (bits .or .u64 (m : Int) 4503599627370496), .int .i64 ((q : Int) - 1075)]) = _
    rw [HP.out, show (q : Int) - 1075 = ((q - 1 : Nat) : Int) - 1074 by omega]

theorem signbit_any (x : Nat) (w : World) : Calls Try.prog 143 #[.float .f64 x] w fun e w' => e = .returned (.bool (Flt.sgn x)) ∧ w = w' := by
  have hs : Hid (decide (wrap64 (x : Int) < 0) = Flt.sgn x) := by
    refine Lib.hid ?_
    unfold wrap64
    unfold Flt.sgn
    rw [Bool.eq_iff_iff, decide_eq_true_iff, beq_iff_eq]
    omega
  go_enter Try.func143, Try.ntmps143
  go_wp2
  go_ret
  refine ⟨?_, rfl⟩
  rw [← hs.out]; rfl

/-- The exact product of two floats' parts. -/
theorem prod_num {x y m n E F : Nat} {e : Int} (hx : IsParts x m E) (hy : IsParts y n F) (he : e = (E : Int) + F - 2148) :
    m * n * 2 ^ (e + 1074).toNat * 2 ^ Flt.K74 = Flt.val (Flt.rg x) * Flt.val (Flt.rg y) * (1 * 2 ^ (-(e + 1074)).toNat) := by
  obtain ⟨_, _, hx⟩ := hx
  obtain ⟨_, _, hy⟩ := hy
  rw [← hx, ← hy, Nat.one_mul]
  have hK := Flt.K74_eq
  generalize Flt.K74 = K at *
  generalize hu : (e + 1074).toNat = u
  generalize hv : (-(e + 1074)).toNat = v
  have h : u + K = E + F + v := by omega
  rw [Nat.mul_assoc, ← Nat.pow_add, h, Nat.pow_add, Nat.pow_add, ← Nat.mul_assoc, Nat.mul_mul_mul_comm]

def RetMul (w : World) (m n : Nat) (e : Ending) (w' : World) : Prop := ∃ hi lo : Nat, e = .returned (.tuple #[.int .u64 (hi : Int), .int .u64 (lo : Int)]) ∧ (hi < 18446744073709551616 ∧ lo < 18446744073709551616 ∧ m * n = hi * 2 ^ 64 + lo) ∧ w = w'
theorem mul64_of (m n : Nat) (w : World) (hm : m < 18446744073709551616) (hn : n < 18446744073709551616) : Calls Try.prog 141 #[.int .u64 (m : Int), .int .u64 (n : Int)] w (RetMul w m n) :=
  (Try.bits_Mul64 m n hm hn w).mono fun _ _ ⟨h1, h2⟩ => ⟨_, _, h1, ⟨by
    have : m * n < 18446744073709551616 * 18446744073709551616 := Nat.mul_lt_mul'' hm hn
    omega, by omega, by omega⟩, h2.symm⟩

theorem fin_not_nan {x : Nat} (h : Flt.Fin x) : Flt.nanB x = false := by unfold Flt.Fin at h; unfold Flt.nanB; exact decide_eq_false (by omega)

set_option maxRecDepth 100000 in
set_option maxHeartbeats 1600000 in
theorem rnd_mul_any (x y : Nat) (hx : x < 2 ^ 64) (hy : y < 2 ^ 64) (w : World) : Calls Try.prog 117 #[.float .f64 x, .float .f64 y] w (RetPair w (IsProd x y)) := by
  cases hf : (Flt.finB x && Flt.finB y) with
  | false =>
    have hc : Hid (¬ Whole2 x y) := Lib.hid (by rintro ⟨a, b, _⟩; rw [Flt.finB_iff.2 a, Flt.finB_iff.2 b] at hf; cases hf)
    have HF := Lib.hid hf
    clear hf
    go_enter Try.func117, Try.ntmps117
    go_wp2_with (refine wpList_fmul _ rfl rfl ?_; intro s d hs; have HA := Lib.hid hs; clear hs)
    refine (rnd_finite_two w.heap.size x y _ hx hy (cell_new2 (w.drewN d) _ _ _).1 (cell_new2 (w.drewN d) _ _ _).2).mono ?_
    rintro e1 w1 ⟨rfl, rfl⟩
    rw [HF.out]
    go_wp2_with fail
    go_ret2
    exact ⟨s, s, rfl, ⟨fun _ => ⟨s, HA.out, rfl, rfl⟩, fun h => absurd h hc.out⟩, (below_drewN (Below.refl _ _) d).alloc (Nat.le_refl _) _⟩
  | true =>
    have hfx : Flt.Fin x ∧ Flt.Fin y := by rw [Bool.and_eq_true] at hf; exact ⟨Flt.finB_iff.1 hf.1, Flt.finB_iff.1 hf.2⟩
    have HX := Lib.hid hfx
    have HF := Lib.hid hf
    have zx := eq_zero (fin_not_nan hfx.1)
    have zy := eq_zero (fin_not_nan hfx.2)
    clear hf hfx
    by_cases h0 : Flt.rg x = 0
    · have hc : Hid (¬ Whole2 x y) := Lib.hid (by rintro ⟨_, _, a, _⟩; exact a h0)
      rw [decide_eq_true h0] at zx
      clear h0 zy
      go_enter Try.func117, Try.ntmps117
      go_wp2_with (refine wpList_fmul _ rfl rfl ?_; intro s d hs; have HA := Lib.hid hs; clear hs)
      refine (rnd_finite_two w.heap.size x y _ hx hy (cell_new2 (w.drewN d) _ _ _).1 (cell_new2 (w.drewN d) _ _ _).2).mono ?_
      rintro e1 w1 ⟨rfl, rfl⟩
      rw [HF.out]
      go_wp2_with fail
      go_ret2
      exact ⟨s, s, rfl, ⟨fun _ => ⟨s, HA.out, rfl, rfl⟩, fun h => absurd h hc.out⟩, (below_drewN (Below.refl _ _) d).alloc (Nat.le_refl _) _⟩
    · rw [decide_eq_false h0] at zx
      by_cases k0 : Flt.rg y = 0
      · have hc : Hid (¬ Whole2 x y) := Lib.hid (by rintro ⟨_, _, _, a⟩; exact a k0)
        rw [decide_eq_true k0] at zy
        clear h0 k0
        go_enter Try.func117, Try.ntmps117
        go_wp2_with (refine wpList_fmul _ rfl rfl ?_; intro s d hs; have HA := Lib.hid hs; clear hs)
        refine (rnd_finite_two w.heap.size x y _ hx hy (cell_new2 (w.drewN d) _ _ _).1 (cell_new2 (w.drewN d) _ _ _).2).mono ?_
        rintro e1 w1 ⟨rfl, rfl⟩
        rw [HF.out]
        go_wp2_with fail
        go_ret2
        exact ⟨s, s, rfl, ⟨fun _ => ⟨s, HA.out, rfl, rfl⟩, fun h => absurd h hc.out⟩, (below_drewN (Below.refl _ _) d).alloc (Nat.le_refl _) _⟩
      · rw [decide_eq_false k0] at zy
        have hc : Hid (Whole2 x y) := Lib.hid ⟨HX.out.1, HX.out.2, h0, k0⟩
        clear h0 k0
        go_enter Try.func117, Try.ntmps117
        go_wp2_with (refine wpList_fmul _ rfl rfl ?_; intro s d hs; clear hs)
        refine (rnd_finite_two w.heap.size x y _ hx hy (cell_new2 (w.drewN d) _ _ _).1 (cell_new2 (w.drewN d) _ _ _).2).mono ?_
        rintro e1 w1 ⟨rfl, rfl⟩
        rw [HF.out]
        have hbw : Below w.heap.size w ((w.drewN d).alloc (.cells #[.float .f64 x, .float .f64 y] 67)) := (below_drewN (Below.refl _ _) d).alloc (Nat.le_refl _) _
        generalize (w.drewN d).alloc (.cells #[.float .f64 x, .float .f64 y] 67) = w2 at hbw ⊢
        go_wp2_with fail
        refine (rnd_parts_any x hx _).mono ?_
        rintro e2 w3 ⟨m, E, rfl, hpx, rfl⟩
        go_wp2_with fail
        refine (rnd_parts_any y hy _).mono ?_
        rintro e3 w4 ⟨n, F, rfl, hpy, rfl⟩
        have hm := hpx.1
        have hn := hpy.1
        have hE := hpx.2.1
        have hF := hpy.2.1
        have hN0 : Hid (m * n ≠ 0) := Lib.hid (by
          intro h
          have h3 := val_pos hc.out.2.2.1
          have h4 := val_pos hc.out.2.2.2
          rcases Nat.mul_eq_zero.1 h with h | h
          · have h5 := hpx.2.2; rw [h, Nat.zero_mul] at h5; omega
          · have h5 := hpy.2.2; rw [h, Nat.zero_mul] at h5; omega)
        have HPX := Lib.hid hpx
        have HPY := Lib.hid hpy
        clear hpx hpy
        go_wp2_with (go_at_call 141; refine (mul64_of m n _ (by omega) (by omega)).mono ?_; rintro e4 w4 ⟨hi, lo, rfl, hml, rfl⟩)
        have S : Hid (∀ W : World, Calls Try.prog 142 #[.bool (Flt.sgn x ^^ Flt.sgn y), .int .u64 (hi : Int), .int .u64 (lo : Int), .bool false, .int .i64 ((E : Int) - 1074 + ((F : Int) - 1074))] W
            (RetPair W (Brk (Flt.sgn x ^^ Flt.sgn y) (m * n * 2 ^ (((E : Int) - 1074 + ((F : Int) - 1074)) + 1074).toNat) (1 * 2 ^ (-(((E : Int) - 1074 + ((F : Int) - 1074)) + 1074)).toNat)))) :=
          Lib.hid fun W => edge_size hi lo (m * n) 1 (m * n) ((E : Int) - 1074 + ((F : Int) - 1074)) (Flt.sgn x ^^ Flt.sgn y) false W hml.1 hml.2.1 hml.2.2 hN0.out (by decide) (by omega) (by omega) (by simp) (by simp) (by omega) (by omega)
        have HS : Hid (∀ d' u', Brk (Flt.sgn x ^^ Flt.sgn y) (m * n * 2 ^ (((E : Int) - 1074 + ((F : Int) - 1074)) + 1074).toNat) (1 * 2 ^ (-(((E : Int) - 1074 + ((F : Int) - 1074)) + 1074)).toNat) d' u' → IsProd x y d' u') :=
          Lib.hid fun d' u' hB => ⟨fun h => absurd hc.out h, fun _ => hB.cross (Nat.mul_pos (by decide) (Nat.two_pow_pos _)) (Nat.two_pow_pos _) (prod_num HPX.out HPY.out (by omega))⟩
        generalize m * n * 2 ^ (((E : Int) - 1074 + ((F : Int) - 1074)) + 1074).toNat = num at S HS
        generalize 1 * 2 ^ (-(((E : Int) - 1074 + ((F : Int) - 1074)) + 1074)).toNat = den at S HS
        generalize hz : (Flt.sgn x ^^ Flt.sgn y) = sz at S HS
        have hz2 : Hid ((!(Flt.sgn x == Flt.sgn y)) = sz) := Lib.hid (by rw [← hz]; cases Flt.sgn x <;> cases Flt.sgn y <;> rfl)
        clear hml hz
        go_wp2_with (first | (go_at_call 143; (with_reducible refine (signbit_any x _).mono ?_); rintro e5 w5 ⟨rfl, rfl⟩) | (go_at_call 143; (with_reducible refine (signbit_any y _).mono ?_); rintro e6 w6 ⟨rfl, rfl⟩))
        rw [hz2.out]
        refine (S.out _).mono ?_
        rintro e7 w7 ⟨d7, u7, rfl, hB, hb7⟩
        have HB := Lib.hid hB
        clear hB
        go_wp2_with fail
        go_ret2
        exact ⟨d7, u7, rfl, HS.out _ _ HB.out, below_next hbw hb7⟩
end Go.Proofs.Ytejlicacndpfpaa

/-! math/bits.Div64 of a number of 64 bits with 64 noughts behind it. -/
namespace Go.Proofs.Ytejlicacndpfpaa
open Go.RowKit

/-! ### plain: one digit of 32 bits -/
/-- What holds of the digit that is tried. -/
structure Dig (Y Y1 Y0 U q r : Nat) : Prop where
  y : Y = Y1 * 4294967296 + Y0
  y1 : 2147483648 ≤ Y1
  y2 : Y1 < 4294967296
  y3 : Y0 < 4294967296
  u : U < Y
  sum : q * Y1 + r = U
  most : q ≤ 4294967297
  low : U * 4294967296 / Y ≤ q

theorem Dig.prod {Y Y1 Y0 U q r : Nat} (h : Dig Y Y1 Y0 U q r) : q * Y + r * 4294967296 = U * 4294967296 + q * Y0 := by
  rw [h.y, ← h.sum, Nat.mul_add, ← Nat.mul_assoc, Nat.add_mul]
  omega
theorem Dig.lt {Y Y1 Y0 U q r : Nat} (h : Dig Y Y1 Y0 U q r) : U * 4294967296 / Y < 4294967296 := by
  have := h.u
  rw [Nat.div_lt_iff_lt_mul (by omega), Nat.mul_comm]
  omega
theorem Dig.less {Y Y1 Y0 U q r : Nat} (h : Dig Y Y1 Y0 U q r) (hc : 4294967296 ≤ q ∨ 4294967296 * r < q * Y0) : 1 ≤ q ∧ Dig Y Y1 Y0 U (q - 1) (r + Y1) := by
  have hq : U * 4294967296 / Y ≤ q - 1 ∧ 1 ≤ q := by
    rcases hc with hc | hc
    · have := h.lt; omega
    · have hp := h.prod
      have hY : 0 < Y := by have := h.u; omega
      have : U * 4294967296 / Y < q := by
        rw [Nat.div_lt_iff_lt_mul hY]; omega
      exact ⟨Nat.le_sub_one_of_lt this, Nat.lt_of_le_of_lt (Nat.zero_le _) this⟩
  refine ⟨hq.2, h.y, h.y1, h.y2, h.y3, h.u, ?_, by have := h.most; omega, hq.1⟩
  have hs := h.sum
  obtain ⟨t, rfl⟩ : ∃ t, q = t + 1 := ⟨q - 1, by omega⟩
  rw [Nat.add_mul] at hs
  simp only [Nat.add_sub_cancel]
  omega
theorem Dig.stop {Y Y1 Y0 U q r : Nat} (h : Dig Y Y1 Y0 U q r) (hc : q * Y0 ≤ 4294967296 * r) : q = U * 4294967296 / Y := by
  have hp := h.prod
  have hY : 0 < Y := by have := h.u; omega
  have : q ≤ U * 4294967296 / Y := by
    rw [Nat.le_div_iff_mul_le hY]; omega
  have := h.low
  omega
theorem Dig.far {Y Y1 Y0 U q r : Nat} (h : Dig Y Y1 Y0 U q r) (hq : q ≤ 4294967296) (hr : 4294967296 ≤ r) : q = U * 4294967296 / Y := by
  refine h.stop ?_
  have h1 : q * Y0 ≤ 4294967296 * 4294967296 := Nat.mul_le_mul hq (Nat.le_of_lt h.y3)
  omega
end Go.Proofs.Ytejlicacndpfpaa
