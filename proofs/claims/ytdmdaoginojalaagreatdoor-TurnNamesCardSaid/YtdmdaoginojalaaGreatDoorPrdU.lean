/-
  Products and quotients (round).
-/
import Derived.Test.YtdmdaoginojalaaGreatDoorEdgU
/-! Products, rounded down and up (round.Mul). -/
namespace Go.Proofs.YtdmdaoginojalaaGreatDoor
open Go.RowKit

/-! ### plain: pairs beside a fraction, however that is written -/
theorem dn_cross {num den num' den' r : Nat} (hd : 0 < den) (hd' : 0 < den') (he : num * den' = num' * den) (h : Flt.Dn num den r) : Flt.Dn num' den' r := by
  refine ⟨h.1, ?_, fun hr => ?_⟩
  · apply Nat.le_of_mul_le_mul_right _ hd
    rw [← he, Nat.mul_right_comm]
    exact Nat.mul_le_mul_right _ h.2.1
  · apply Nat.lt_of_mul_lt_mul_right (a := den)
    rw [← he, Nat.mul_right_comm]
    exact Nat.mul_lt_mul_of_pos_right (h.2.2 hr) hd'
theorem exact_cross {num den num' den' r : Nat} (hd : 0 < den) (hd' : 0 < den') (he : num * den' = num' * den) : Flt.val r * den = num ↔ Flt.val r * den' = num' := by
  constructor
  · intro h
    apply Nat.eq_of_mul_eq_mul_right hd
    rw [← he, ← h, Nat.mul_right_comm]
  · intro h
    apply Nat.eq_of_mul_eq_mul_right hd'
    rw [he, ← h, Nat.mul_right_comm]
theorem Brk.cross {s : Bool} {num den num' den' d u : Nat} (hd : 0 < den) (hd' : 0 < den') (he : num * den' = num' * den) (h : Brk s num den d u) : Brk s num' den' d u := by
  obtain ⟨r, h1, h2, h3⟩ := h
  have e : hiR num den r = hiR num' den' r := by
    unfold hiR
    by_cases h' : Flt.val r * den = num
    · rw [if_pos h', if_pos ((exact_cross hd hd' he).1 h')]
    · rw [if_neg h', if_neg (fun h'' => h' ((exact_cross hd hd' he).2 h''))]
  exact ⟨r, dn_cross hd hd' he h1, by rw [h2, e], by rw [h3, e]⟩

theorem IsOp.same {f : Nat → Nat → Option Nat} {x y s t : Nat} (h : IsOp f x y s) (k : IsOp f x y t) : Flt.Same s t := by
  have a := h.2
  have b := k.2
  cases hf : f x y with
  | some z => rw [hf] at a b; exact .inl (a.trans b.symm)
  | none => rw [hf] at a b; exact .inr ⟨a, b⟩

/-- Both finite, neither a nought. -/
def Whole2 (x y : Nat) : Prop := Flt.Fin x ∧ Flt.Fin y ∧ Flt.rg x ≠ 0 ∧ Flt.rg y ≠ 0
/-- The pair that is told of an operation: its own answer twice, or the floats beside. -/
def IsPair (f : Nat → Nat → Option Nat) (W : Prop) (x y : Nat) (s : Bool) (num den d u : Nat) : Prop :=
  (¬ W → ∃ z, IsOp f x y z ∧ d = z ∧ u = z) ∧ (W → Brk s num den d u)
theorem IsPair.same {f : Nat → Nat → Option Nat} {W : Prop} {x y : Nat} {s : Bool} {num den d u d' u' : Nat} (h : IsPair f W x y s num den d u) (k : IsPair f W x y s num den d' u') : Flt.Same d d' ∧ Flt.Same u u' := by
  by_cases hw : W
  · obtain ⟨a, b⟩ := (h.2 hw).unique (k.2 hw)
    exact ⟨.inl a, .inl b⟩
  · obtain ⟨z, h1, rfl, rfl⟩ := h.1 hw
    obtain ⟨t, k1, rfl, rfl⟩ := k.1 hw
    exact ⟨h1.same k1, h1.same k1⟩
def IsProd (x y d u : Nat) : Prop := IsPair Ieee.double.mul (Whole2 x y) x y (Flt.sgn x ^^ Flt.sgn y) (Flt.val (Flt.rg x) * Flt.val (Flt.rg y)) (2 ^ Flt.K74) d u

theorem val_pos {r : Nat} (h : r ≠ 0) : 0 < Flt.val r := by have := Flt.val_lt (show 0 < r by omega); rw [Flt.val_zero] at this; exact this

/-! ### parts of a float; its sign -/
def IsParts (x m E : Nat) : Prop := m < 2 ^ 53 ∧ E ≤ 2046 ∧ m * 2 ^ E = Flt.val (Flt.rg x)
def RetParts (w : World) (x : Nat) (e : Ending) (w' : World) : Prop := ∃ m E : Nat, e = .returned (.tuple #[.int .u64 (m : Int), .int .i64 ((E : Int) - 1074)]) ∧ IsParts x m E ∧ w = w'

theorem parts_or (m : Nat) (h : m < 4503599627370496) : bits .or .u64 (m : Int) 4503599627370496 = ((2 ^ 52 + m : Nat) : Int) := by
  have := ldx_or m 1 4503599627370496 (by decide) h (by decide)
  rw [this, Nat.one_mul]

set_option maxHeartbeats 600000 in
theorem rnd_parts_any (x : Nat) (hx : x < 2 ^ 64) (w : World) : Calls Tryz.prog 277 #[.float .f64 x] w (RetParts w x) := by
  have fb := frac_bits x hx
  have eb := expo_bits x hx
  have hr : Flt.rg x = (x / 2 ^ 52 % 2048) * 2 ^ 52 + x % 2 ^ 52 := by unfold Flt.rg; omega
  have hv := Flt.val_mk (x / 2 ^ 52 % 2048) (x % 2 ^ 52) (by omega)
  rw [← hr] at hv
  have hm : x % 2 ^ 52 < 4503599627370496 := by omega
  have hq : x / 2 ^ 52 % 2048 < 2048 := by omega
  generalize x % 2 ^ 52 = m at *
  generalize x / 2 ^ 52 % 2048 = q at *
  have HV := Lib.hid hv
  clear hr hv
  by_cases h0 : q = 0
  · subst h0
    go_enter Tryz.func277, Tryz.ntmps277
    go_wp2
    go_ret2
    exact ⟨m, 0, rfl, ⟨by omega, by omega, by rw [HV.out]; rfl⟩, rfl⟩
  · have hq0 : ((q : Int) == 0) = false := by simpa using h0
    have HP := Lib.hid (parts_or m hm)
    go_enter Tryz.func277, Tryz.ntmps277
    go_wp2
    go_ret2
    refine ⟨2 ^ 52 + m, q - 1, ?_, ⟨by omega, by omega, by rw [HV.out, if_neg h0]⟩, rfl⟩
    show Ending.returned (.tuple #[.int .u64 (bits .or .u64 (m : Int) 4503599627370496), .int .i64 ((q : Int) - 1075)]) = _
    rw [HP.out, show (q : Int) - 1075 = ((q - 1 : Nat) : Int) - 1074 by omega]

theorem signbit_any (x : Nat) (w : World) : Calls Tryz.prog 280 #[.float .f64 x] w fun e w' => e = .returned (.bool (Flt.sgn x)) ∧ w = w' := by
  have hs : Hid (decide (wrap64 (x : Int) < 0) = Flt.sgn x) := by
    refine Lib.hid ?_
    unfold wrap64
    unfold Flt.sgn
    rw [Bool.eq_iff_iff, decide_eq_true_iff, beq_iff_eq]
    omega
  go_enter Tryz.func280, Tryz.ntmps280
  go_wp2
  go_ret
  refine ⟨?_, rfl⟩
  rw [← hs.out]; rfl

/-- The exact product of two floats' parts. -/
theorem prod_num {x y m n E F : Nat} {e : Int} (hx : IsParts x m E) (hy : IsParts y n F) (he : e = (E : Int) + F - 2148) :
    m * n * 2 ^ (e + 1074).toNat * 2 ^ Flt.K74 = Flt.val (Flt.rg x) * Flt.val (Flt.rg y) * (1 * 2 ^ (-(e + 1074)).toNat) := by
  obtain ⟨_, _, hx⟩ := hx
  obtain ⟨_, _, hy⟩ := hy
  rw [← hx, ← hy, Nat.one_mul]
  have hK := Flt.K74_eq
  generalize Flt.K74 = K at *
  generalize hu : (e + 1074).toNat = u
  generalize hv : (-(e + 1074)).toNat = v
  have h : u + K = E + F + v := by omega
  rw [Nat.mul_assoc, ← Nat.pow_add, h, Nat.pow_add, Nat.pow_add, ← Nat.mul_assoc, Nat.mul_mul_mul_comm]

def RetMul (w : World) (m n : Nat) (e : Ending) (w' : World) : Prop := ∃ hi lo : Nat, e = .returned (.tuple #[.int .u64 (hi : Int), .int .u64 (lo : Int)]) ∧ (hi < 18446744073709551616 ∧ lo < 18446744073709551616 ∧ m * n = hi * 2 ^ 64 + lo) ∧ w = w'
theorem mul64_of (m n : Nat) (w : World) (hm : m < 18446744073709551616) (hn : n < 18446744073709551616) : Calls Tryz.prog 278 #[.int .u64 (m : Int), .int .u64 (n : Int)] w (RetMul w m n) :=
  (Tryz.bits_Mul64 m n hm hn w).mono fun _ _ ⟨h1, h2⟩ => ⟨_, _, h1, ⟨by
    have : m * n < 18446744073709551616 * 18446744073709551616 := Nat.mul_lt_mul'' hm hn
    omega, by omega, by omega⟩, h2.symm⟩

theorem fin_not_nan {x : Nat} (h : Flt.Fin x) : Flt.nanB x = false := by unfold Flt.Fin at h; unfold Flt.nanB; exact decide_eq_false (by omega)

set_option maxRecDepth 100000 in
set_option maxHeartbeats 1600000 in
theorem rnd_mul_any (x y : Nat) (hx : x < 2 ^ 64) (hy : y < 2 ^ 64) (w : World) : Calls Tryz.prog 163 #[.float .f64 x, .float .f64 y] w (RetPair w (IsProd x y)) := by
  cases hf : (Flt.finB x && Flt.finB y) with
  | false =>
    have hc : Hid (¬ Whole2 x y) := Lib.hid (by rintro ⟨a, b, _⟩; rw [Flt.finB_iff.2 a, Flt.finB_iff.2 b] at hf; cases hf)
    have HF := Lib.hid hf
    clear hf
    go_enter Tryz.func163, Tryz.ntmps163
    go_wp2_with (refine wpList_fmul _ rfl rfl ?_; intro s d hs; have HA := Lib.hid hs; clear hs)
    refine (rnd_finite_two w.heap.size x y _ hx hy (cell_new2 (w.drewN d) _ _ _).1 (cell_new2 (w.drewN d) _ _ _).2).mono ?_
    rintro e1 w1 ⟨rfl, rfl⟩
    rw [HF.out]
    go_wp2_with fail
    go_ret2
    exact ⟨s, s, rfl, ⟨fun _ => ⟨s, HA.out, rfl, rfl⟩, fun h => absurd h hc.out⟩, (below_drewN (Below.refl _ _) d).alloc (Nat.le_refl _) _⟩
  | true =>
    have hfx : Flt.Fin x ∧ Flt.Fin y := by rw [Bool.and_eq_true] at hf; exact ⟨Flt.finB_iff.1 hf.1, Flt.finB_iff.1 hf.2⟩
    have HX := Lib.hid hfx
    have HF := Lib.hid hf
    have zx := eq_zero (fin_not_nan hfx.1)
    have zy := eq_zero (fin_not_nan hfx.2)
    clear hf hfx
    by_cases h0 : Flt.rg x = 0
    · have hc : Hid (¬ Whole2 x y) := Lib.hid (by rintro ⟨_, _, a, _⟩; exact a h0)
      rw [decide_eq_true h0] at zx
      clear h0 zy
      go_enter Tryz.func163, Tryz.ntmps163
      go_wp2_with (refine wpList_fmul _ rfl rfl ?_; intro s d hs; have HA := Lib.hid hs; clear hs)
      refine (rnd_finite_two w.heap.size x y _ hx hy (cell_new2 (w.drewN d) _ _ _).1 (cell_new2 (w.drewN d) _ _ _).2).mono ?_
      rintro e1 w1 ⟨rfl, rfl⟩
      rw [HF.out]
      go_wp2_with fail
      go_ret2
      exact ⟨s, s, rfl, ⟨fun _ => ⟨s, HA.out, rfl, rfl⟩, fun h => absurd h hc.out⟩, (below_drewN (Below.refl _ _) d).alloc (Nat.le_refl _) _⟩
    · rw [decide_eq_false h0] at zx
      by_cases k0 : Flt.rg y = 0
      · have hc : Hid (¬ Whole2 x y) := Lib.hid (by rintro ⟨_, _, _, a⟩; exact a k0)
        rw [decide_eq_true k0] at zy
        clear h0 k0
        go_enter Tryz.func163, Tryz.ntmps163
        go_wp2_with (refine wpList_fmul _ rfl rfl ?_; intro s d hs; have HA := Lib.hid hs; clear hs)
        refine (rnd_finite_two w.heap.size x y _ hx hy (cell_new2 (w.drewN d) _ _ _).1 (cell_new2 (w.drewN d) _ _ _).2).mono ?_
        rintro e1 w1 ⟨rfl, rfl⟩
        rw [HF.out]
        go_wp2_with fail
        go_ret2
        exact ⟨s, s, rfl, ⟨fun _ => ⟨s, HA.out, rfl, rfl⟩, fun h => absurd h hc.out⟩, (below_drewN (Below.refl _ _) d).alloc (Nat.le_refl _) _⟩
      · rw [decide_eq_false k0] at zy
        have hc : Hid (Whole2 x y) := Lib.hid ⟨HX.out.1, HX.out.2, h0, k0⟩
        clear h0 k0
        go_enter Tryz.func163, Tryz.ntmps163
        go_wp2_with (refine wpList_fmul _ rfl rfl ?_; intro s d hs; clear hs)
        refine (rnd_finite_two w.heap.size x y _ hx hy (cell_new2 (w.drewN d) _ _ _).1 (cell_new2 (w.drewN d) _ _ _).2).mono ?_
        rintro e1 w1 ⟨rfl, rfl⟩
        rw [HF.out]
        have hbw : Below w.heap.size w ((w.drewN d).alloc (.cells #[.float .f64 x, .float .f64 y] 22)) := (below_drewN (Below.refl _ _) d).alloc (Nat.le_refl _) _
        generalize (w.drewN d).alloc (.cells #[.float .f64 x, .float .f64 y] 22) = w2 at hbw ⊢
        go_wp2_with fail
        refine (rnd_parts_any x hx _).mono ?_
        rintro e2 w3 ⟨m, E, rfl, hpx, rfl⟩
        go_wp2_with fail
        refine (rnd_parts_any y hy _).mono ?_
        rintro e3 w4 ⟨n, F, rfl, hpy, rfl⟩
        have hm := hpx.1
        have hn := hpy.1
        have hE := hpx.2.1
        have hF := hpy.2.1
        have hN0 : Hid (m * n ≠ 0) := Lib.hid (by
          intro h
          have h3 := val_pos hc.out.2.2.1
          have h4 := val_pos hc.out.2.2.2
          rcases Nat.mul_eq_zero.1 h with h | h
          · have h5 := hpx.2.2; rw [h, Nat.zero_mul] at h5; omega
          · have h5 := hpy.2.2; rw [h, Nat.zero_mul] at h5; omega)
        have HPX := Lib.hid hpx
        have HPY := Lib.hid hpy
        clear hpx hpy
        go_wp2_with (go_at_call 278; refine (mul64_of m n _ (by omega) (by omega)).mono ?_; rintro e4 w4 ⟨hi, lo, rfl, hml, rfl⟩)
        have S : Hid (∀ W : World, Calls Tryz.prog 279 #[.bool (Flt.sgn x ^^ Flt.sgn y), .int .u64 (hi : Int), .int .u64 (lo : Int), .bool false, .int .i64 ((E : Int) - 1074 + ((F : Int) - 1074))] W
            (RetPair W (Brk (Flt.sgn x ^^ Flt.sgn y) (m * n * 2 ^ (((E : Int) - 1074 + ((F : Int) - 1074)) + 1074).toNat) (1 * 2 ^ (-(((E : Int) - 1074 + ((F : Int) - 1074)) + 1074)).toNat)))) :=
          Lib.hid fun W => edge_size hi lo (m * n) 1 (m * n) ((E : Int) - 1074 + ((F : Int) - 1074)) (Flt.sgn x ^^ Flt.sgn y) false W hml.1 hml.2.1 hml.2.2 hN0.out (by decide) (by omega) (by omega) (by simp) (by simp) (by omega) (by omega)
        have HS : Hid (∀ d' u', Brk (Flt.sgn x ^^ Flt.sgn y) (m * n * 2 ^ (((E : Int) - 1074 + ((F : Int) - 1074)) + 1074).toNat) (1 * 2 ^ (-(((E : Int) - 1074 + ((F : Int) - 1074)) + 1074)).toNat) d' u' → IsProd x y d' u') :=
          Lib.hid fun d' u' hB => ⟨fun h => absurd hc.out h, fun _ => hB.cross (Nat.mul_pos (by decide) (Nat.two_pow_pos _)) (Nat.two_pow_pos _) (prod_num HPX.out HPY.out (by omega))⟩
        generalize m * n * 2 ^ (((E : Int) - 1074 + ((F : Int) - 1074)) + 1074).toNat = num at S HS
        generalize 1 * 2 ^ (-(((E : Int) - 1074 + ((F : Int) - 1074)) + 1074)).toNat = den at S HS
        generalize hz : (Flt.sgn x ^^ Flt.sgn y) = sz at S HS
        have hz2 : Hid ((!(Flt.sgn x == Flt.sgn y)) = sz) := Lib.hid (by rw [← hz]; cases Flt.sgn x <;> cases Flt.sgn y <;> rfl)
        clear hml hz
        go_wp2_with (first | (go_at_call 280; (with_reducible refine (signbit_any x _).mono ?_); rintro e5 w5 ⟨rfl, rfl⟩) | (go_at_call 280; (with_reducible refine (signbit_any y _).mono ?_); rintro e6 w6 ⟨rfl, rfl⟩))
        rw [hz2.out]
        refine (S.out _).mono ?_
        rintro e7 w7 ⟨d7, u7, rfl, hB, hb7⟩
        have HB := Lib.hid hB
        clear hB
        go_wp2_with fail
        go_ret2
        exact ⟨d7, u7, rfl, HS.out _ _ HB.out, below_next hbw hb7⟩
end Go.Proofs.YtdmdaoginojalaaGreatDoor

/-! math/bits.Div64 of a number of 64 bits with 64 noughts behind it. -/
namespace Go.Proofs.YtdmdaoginojalaaGreatDoor
open Go.RowKit

theorem lz_of (x : Nat) (L : Int) (w : World) (h : x < 18446744073709551616) (hL : Hid (64 - (bitLen x : Int) = L)) : Calls Tryz.prog 338 #[.int .u64 (x : Int)] w fun e w' => e = .returned (.int .i64 L) ∧ w = w' := by
  have c := Tryz.bits_LeadingZeros64 (x : Int) w (by omega) (by omega)
  rw [Int.toNat_natCast, lib_bitLen h, hL.out] at c
  exact c.mono fun _ _ ⟨h1, h2⟩ => ⟨h1, h2.symm⟩

/-! ### plain: one digit of 32 bits -/
/-- What holds of the digit that is tried. -/
structure Dig (Y Y1 Y0 U q r : Nat) : Prop where
  y : Y = Y1 * 4294967296 + Y0
  y1 : 2147483648 ≤ Y1
  y2 : Y1 < 4294967296
  y3 : Y0 < 4294967296
  u : U < Y
  sum : q * Y1 + r = U
  most : q ≤ 4294967297
  low : U * 4294967296 / Y ≤ q

theorem Dig.start {Y Y1 Y0 U : Nat} (y : Y = Y1 * 4294967296 + Y0) (y1 : 2147483648 ≤ Y1) (y2 : Y1 < 4294967296) (y3 : Y0 < 4294967296) (u : U < Y) : Dig Y Y1 Y0 U (U / Y1) (U % Y1) := by
  have hp : 0 < Y1 := by omega
  refine ⟨y, y1, y2, y3, u, by rw [Nat.mul_comm]; exact Nat.div_add_mod U Y1, ?_, ?_⟩
  · have : U / Y1 < 4294967298 := by
      rw [Nat.div_lt_iff_lt_mul hp]; omega
    omega
  · rw [Nat.le_div_iff_mul_le hp]
    have hY : 0 < Y := by omega
    have h1 := Nat.div_mul_le_self (U * 4294967296) Y
    have h2 : U * 4294967296 / Y * (Y1 * 4294967296) ≤ U * 4294967296 / Y * Y := Nat.mul_le_mul_left _ (by omega)
    rw [← Nat.mul_assoc] at h2
    omega
theorem Dig.prod {Y Y1 Y0 U q r : Nat} (h : Dig Y Y1 Y0 U q r) : q * Y + r * 4294967296 = U * 4294967296 + q * Y0 := by
  rw [h.y, ← h.sum, Nat.mul_add, ← Nat.mul_assoc, Nat.add_mul]
  omega
theorem Dig.lt {Y Y1 Y0 U q r : Nat} (h : Dig Y Y1 Y0 U q r) : U * 4294967296 / Y < 4294967296 := by
  have := h.u
  rw [Nat.div_lt_iff_lt_mul (by omega), Nat.mul_comm]
  omega
theorem Dig.less {Y Y1 Y0 U q r : Nat} (h : Dig Y Y1 Y0 U q r) (hc : 4294967296 ≤ q ∨ 4294967296 * r < q * Y0) : 1 ≤ q ∧ Dig Y Y1 Y0 U (q - 1) (r + Y1) := by
  have hq : U * 4294967296 / Y ≤ q - 1 ∧ 1 ≤ q := by
    rcases hc with hc | hc
    · have := h.lt; omega
    · have hp := h.prod
      have hY : 0 < Y := by have := h.u; omega
      have : U * 4294967296 / Y < q := by
        rw [Nat.div_lt_iff_lt_mul hY]; omega
      exact ⟨Nat.le_sub_one_of_lt this, Nat.lt_of_le_of_lt (Nat.zero_le _) this⟩
  refine ⟨hq.2, h.y, h.y1, h.y2, h.y3, h.u, ?_, by have := h.most; omega, hq.1⟩
  have hs := h.sum
  obtain ⟨t, rfl⟩ : ∃ t, q = t + 1 := ⟨q - 1, by omega⟩
  rw [Nat.add_mul] at hs
  simp only [Nat.add_sub_cancel]
  omega
theorem Dig.stop {Y Y1 Y0 U q r : Nat} (h : Dig Y Y1 Y0 U q r) (hc : q * Y0 ≤ 4294967296 * r) : q = U * 4294967296 / Y := by
  have hp := h.prod
  have hY : 0 < Y := by have := h.u; omega
  have : q ≤ U * 4294967296 / Y := by
    rw [Nat.le_div_iff_mul_le hY]; omega
  have := h.low
  omega
theorem Dig.far {Y Y1 Y0 U q r : Nat} (h : Dig Y Y1 Y0 U q r) (hq : q ≤ 4294967296) (hr : 4294967296 ≤ r) : q = U * 4294967296 / Y := by
  refine h.stop ?_
  have h1 : q * Y0 ≤ 4294967296 * 4294967296 := Nat.mul_le_mul hq (Nat.le_of_lt h.y3)
  omega
theorem Dig.p64 {Y Y1 Y0 U q r : Nat} (h : Dig Y Y1 Y0 U q r) : q * Y0 ≤ 18446744073709551615 := by
  have : q * Y0 ≤ 4294967297 * 4294967295 := Nat.mul_le_mul h.most (by have := h.y3; omega)
  omega
theorem two_digits {h y U Y V Q1 Q0 R : Nat} (hU : U = 2 * h) (hY : Y = 2 * y) (hy : 0 < y) (h1 : Q1 = U * 4294967296 / Y) (hV : V = U * 4294967296 % Y) (h0 : Q0 = V * 4294967296 / Y) (hR : R = V * 4294967296 % Y) :
    Q1 * 4294967296 + Q0 = h * 18446744073709551616 / y ∧ R / 2 = h * 18446744073709551616 % y := by
  have hYp : 0 < Y := by omega
  have e1 := Nat.div_add_mod (U * 4294967296) Y
  have e0 := Nat.div_add_mod (V * 4294967296) Y
  have r0 := Nat.mod_lt (V * 4294967296) hYp
  rw [← h1, ← hV] at e1
  rw [← h0, ← hR] at e0
  rw [← hR] at r0
  have e2 : Y * (Q1 * 4294967296 + Q0) + R = U * 18446744073709551616 := by
    rw [Nat.mul_add, ← Nat.mul_assoc]
    omega
  have e3 : y * (Q1 * 4294967296 + Q0) + R / 2 = h * 18446744073709551616 ∧ R / 2 < y := by
    rw [hY, hU, Nat.mul_assoc] at e2
    generalize y * (Q1 * 4294967296 + Q0) = X at *
    omega
  rw [← e3.1]
  refine ⟨?_, ?_⟩
  · rw [Nat.mul_add_div hy, Nat.div_eq_of_lt e3.2, Nat.add_zero]
  · rw [Nat.mul_add_mod, Nat.mod_eq_of_lt e3.2]

set_option maxRecDepth 100000 in
set_option maxHeartbeats 4000000 in
theorem div64_walk (h y Y U Y1 Y0 : Nat) (w : World) (hy1 : 4611686018427387904 ≤ y) (hy2 : y < 9223372036854775808) (hhy : h < y) (h0 : 0 < h)
    (hL : Hid (64 - (bitLen y : Int) = 1)) (hY : (y : Int) * 2 = (Y : Int)) (hU : (h : Int) * 2 = (U : Int)) (hU2 : bits .or .u64 (U : Int) 0 = (U : Int)) (hY1 : (Y : Int) / 4294967296 = (Y1 : Int)) (hY0 : bits .and .u64 (Y : Int) 4294967295 = (Y0 : Int))
    (h00 : bits .and .u64 0 4294967295 = 0) (hb1 : 2147483648 ≤ Y1) (hb2 : Y1 < 4294967296) (_hb3 : Y0 < 4294967296) (hUb : U < 18446744073709551616)
    (q0 r0 qy : Nat) (hq : (U : Int) / (Y1 : Int) = (q0 : Int)) (hq64 : q0 ≤ 4294967297) (hqy : (q0 : Int) * (Y1 : Int) = (qy : Int)) (hqyb : qy ≤ U) (hr : (U : Int) - (qy : Int) = (r0 : Int)) (hrb0 : r0 < 4294967296) (HD : Hid (Dig Y Y1 Y0 U q0 r0))
    (Q1 V Wu Wq : Nat) (hQ1 : Hid (Q1 = U * 4294967296 / Y)) (hQ1b : Q1 < 4294967296) (hWu : IntKind.u64.wrap ((U : Int) * 4294967296) = (Wu : Int)) (hWub : Wu < 18446744073709551616) (hWq : IntKind.u64.wrap ((Q1 : Int) * (Y : Int)) = (Wq : Int))
    (hV : IntKind.u64.wrap ((Wu : Int) - (Wq : Int)) = (V : Int)) (hVb : V < 18446744073709551616)
    (q2 r2 qy2 : Nat) (hq2' : (V : Int) / (Y1 : Int) = (q2 : Int)) (hq642 : q2 ≤ 4294967297) (hqy2 : (q2 : Int) * (Y1 : Int) = (qy2 : Int)) (hqyb2 : qy2 ≤ V) (hr2 : (V : Int) - (qy2 : Int) = (r2 : Int)) (hrb2 : r2 < 4294967296) (HD2 : Hid (Dig Y Y1 Y0 V q2 r2))
    (Q0 Wv Wq0 Rr R : Nat) (hQ0 : Hid (Q0 = V * 4294967296 / Y)) (hQ0b : Q0 < 4294967296) (hWv : IntKind.u64.wrap ((V : Int) * 4294967296) = (Wv : Int)) (hWvb : Wv < 18446744073709551616) (hWq0 : IntKind.u64.wrap ((Q0 : Int) * (Y : Int)) = (Wq0 : Int))
    (hRr : IntKind.u64.wrap ((Wv : Int) - (Wq0 : Int)) = (Rr : Int)) (_hRb : Rr < 18446744073709551616) (hR : (Rr : Int) / 2 = (R : Int)) :
    Calls Tryz.prog 339 #[.int .u64 (h : Int), .int .u64 0, .int .u64 (y : Int)] w fun e w' => e = .returned (.tuple #[.int .u64 ((Q1 : Int) * 4294967296 + (Q0 : Int)), .int .u64 (R : Int)]) ∧ w = w' := by
  go_enter Tryz.func339, Tryz.ntmps339
  go_wp2_with (go_at_call 338; refine (lz_of y 1 _ (by omega) hL).mono ?_; rintro e w' ⟨rfl, rfl⟩)
  go_loop [15, 16] (fun a b => ∃ q r : Nat, a = .int .u64 (q : Int) ∧ b = .int .u64 (r : Int) ∧ r < 4294967296 ∧ q ≤ 4294967297 ∧ Hid (Dig Y Y1 Y0 U q r)) (fun a _ => (intOf a).toNat)
  case atStart => exact ⟨q0, r0, rfl, rfl, hrb0, hq64, HD⟩
  case round =>
    clear hq hq64 hqyb hr hrb0 HD hqy
    obtain ⟨q, r, rfl, rfl, hrb, hqb, hD⟩ := hrel
    obtain ⟨P, hP⟩ : ∃ P, q * Y0 = P := ⟨_, rfl⟩
    have hPb : P < 18446744073709551616 := by rw [← hP]; have := hD.out.p64; omega
    have hPi : (q : Int) * (Y0 : Int) = (P : Int) := by rw [← hP, Int.natCast_mul]
    have HP := Lib.hid hP
    clear hP
    by_cases hq1 : (q : Int) < 4294967296
    · have hq2 : decide ((4294967296 : Int) ≤ (q : Int)) = false := decide_eq_false (by omega)
      by_cases hc : 4294967296 * (r : Int) < (P : Int)
      · obtain ⟨l1, l2⟩ := hD.out.less (.inr (by rw [HP.out]; omega))
        have HL := Lib.hid l2
        clear l2
        by_cases hf : (r : Int) + (Y1 : Int) < 4294967296
        · have hf2 : decide ((4294967296 : Int) ≤ (r : Int) + (Y1 : Int)) = false := decide_eq_false (by omega)
          go_wp2_with fail
          exact ⟨⟨q - 1, r + Y1, by go_num, by go_num, by omega, by omega, HL⟩, by simp [intOf]; omega⟩
        · have hf2 : decide ((4294967296 : Int) ≤ (r : Int) + (Y1 : Int)) = true := decide_eq_true (by omega)
          have e0 : q - 1 = Q1 := (HL.out.far (by omega) (by omega)).trans hQ1.out.symm
          have e1 : (q : Int) - 1 = (Q1 : Int) := by omega
          clear e0 HL hD HP
          go_wp2_with fail
          go_loop [18, 16] (fun a b => ∃ q r : Nat, a = .int .u64 (q : Int) ∧ b = .int .u64 (r : Int) ∧ r < 4294967296 ∧ q ≤ 4294967297 ∧ Hid (Dig Y Y1 Y0 V q r)) (fun a _ => (intOf a).toNat)
          case atStart => exact ⟨q2, r2, rfl, rfl, hrb2, hq642, HD2⟩
          case round =>
            clear hq2' hq642 hqyb2 hr2 hrb2 hqy2
            obtain ⟨q, r, rfl, rfl, hrb, hqb, hD⟩ := hrel
            obtain ⟨P, hP⟩ : ∃ P, q * Y0 = P := ⟨_, rfl⟩
            have hPb : P < 18446744073709551616 := by rw [← hP]; have := hD.out.p64; omega
            have hPi : (q : Int) * (Y0 : Int) = (P : Int) := by rw [← hP, Int.natCast_mul]
            have HP := Lib.hid hP
            clear hP
            by_cases hq1 : (q : Int) < 4294967296
            · have hq2 : decide ((4294967296 : Int) ≤ (q : Int)) = false := decide_eq_false (by omega)
              by_cases hc : 4294967296 * (r : Int) < (P : Int)
              · obtain ⟨l1, l2⟩ := hD.out.less (.inr (by rw [HP.out]; omega))
                have HL := Lib.hid l2
                clear l2
                by_cases hf : (r : Int) + (Y1 : Int) < 4294967296
                · have hf2 : decide ((4294967296 : Int) ≤ (r : Int) + (Y1 : Int)) = false := decide_eq_false (by omega)
                  go_wp2_with fail
                  exact ⟨⟨q - 1, r + Y1, by go_num, by go_num, by omega, by omega, HL⟩, by simp [intOf]; omega⟩
                · have hf2 : decide ((4294967296 : Int) ≤ (r : Int) + (Y1 : Int)) = true := decide_eq_true (by omega)
                  have e0 : q - 1 = Q0 := (HL.out.far (by omega) (by omega)).trans hQ0.out.symm
                  have e1 : (q : Int) - 1 = (Q0 : Int) := by omega
                  clear e0 HL hD HP
                  go_wp2_with fail
                  go_ret2
                  exact ⟨rfl, rfl⟩
              · have e0 : q = Q0 := (hD.out.stop (by rw [HP.out]; omega)).trans hQ0.out.symm
                subst e0
                clear hD HP
                go_wp2_with fail
                go_ret2
                exact ⟨rfl, rfl⟩
            · have hq2 : decide ((4294967296 : Int) ≤ (q : Int)) = true := decide_eq_true (by omega)
              obtain ⟨l1, l2⟩ := hD.out.less (.inl (by omega))
              have HL := Lib.hid l2
              clear l2
              by_cases hf : (r : Int) + (Y1 : Int) < 4294967296
              · have hf2 : decide ((4294967296 : Int) ≤ (r : Int) + (Y1 : Int)) = false := decide_eq_false (by omega)
                go_wp2_with fail
                exact ⟨⟨q - 1, r + Y1, by go_num, by go_num, by omega, by omega, HL⟩, by simp [intOf]; omega⟩
              · have hf2 : decide ((4294967296 : Int) ≤ (r : Int) + (Y1 : Int)) = true := decide_eq_true (by omega)
                have e0 : q - 1 = Q0 := (HL.out.far (by omega) (by omega)).trans hQ0.out.symm
                have e1 : (q : Int) - 1 = (Q0 : Int) := by omega
                clear e0 HL hD HP
                go_wp2_with fail
                go_ret2
                exact ⟨rfl, rfl⟩
      · have e0 : q = Q1 := (hD.out.stop (by rw [HP.out]; omega)).trans hQ1.out.symm
        subst e0
        clear hD HP
        go_wp2_with fail
        go_loop [18, 16] (fun a b => ∃ q r : Nat, a = .int .u64 (q : Int) ∧ b = .int .u64 (r : Int) ∧ r < 4294967296 ∧ q ≤ 4294967297 ∧ Hid (Dig Y Y1 Y0 V q r)) (fun a _ => (intOf a).toNat)
        case atStart => exact ⟨q2, r2, rfl, rfl, hrb2, hq642, HD2⟩
        case round =>
          clear hq2' hq642 hqyb2 hr2 hrb2 hqy2
          obtain ⟨q, r, rfl, rfl, hrb, hqb, hD⟩ := hrel
          obtain ⟨P, hP⟩ : ∃ P, q * Y0 = P := ⟨_, rfl⟩
          have hPb : P < 18446744073709551616 := by rw [← hP]; have := hD.out.p64; omega
          have hPi : (q : Int) * (Y0 : Int) = (P : Int) := by rw [← hP, Int.natCast_mul]
          have HP := Lib.hid hP
          clear hP
          by_cases hq1 : (q : Int) < 4294967296
          · have hq2 : decide ((4294967296 : Int) ≤ (q : Int)) = false := decide_eq_false (by omega)
            by_cases hc : 4294967296 * (r : Int) < (P : Int)
            · obtain ⟨l1, l2⟩ := hD.out.less (.inr (by rw [HP.out]; omega))
              have HL := Lib.hid l2
              clear l2
              by_cases hf : (r : Int) + (Y1 : Int) < 4294967296
              · have hf2 : decide ((4294967296 : Int) ≤ (r : Int) + (Y1 : Int)) = false := decide_eq_false (by omega)
                go_wp2_with fail
                exact ⟨⟨q - 1, r + Y1, by go_num, by go_num, by omega, by omega, HL⟩, by simp [intOf]; omega⟩
              · have hf2 : decide ((4294967296 : Int) ≤ (r : Int) + (Y1 : Int)) = true := decide_eq_true (by omega)
                have e0 : q - 1 = Q0 := (HL.out.far (by omega) (by omega)).trans hQ0.out.symm
                have e1 : (q : Int) - 1 = (Q0 : Int) := by omega
                clear e0 HL hD HP
                go_wp2_with fail
                go_ret2
                exact ⟨rfl, rfl⟩
            · have e0 : q = Q0 := (hD.out.stop (by rw [HP.out]; omega)).trans hQ0.out.symm
              subst e0
              clear hD HP
              go_wp2_with fail
              go_ret2
              exact ⟨rfl, rfl⟩
          · have hq2 : decide ((4294967296 : Int) ≤ (q : Int)) = true := decide_eq_true (by omega)
            obtain ⟨l1, l2⟩ := hD.out.less (.inl (by omega))
            have HL := Lib.hid l2
            clear l2
            by_cases hf : (r : Int) + (Y1 : Int) < 4294967296
            · have hf2 : decide ((4294967296 : Int) ≤ (r : Int) + (Y1 : Int)) = false := decide_eq_false (by omega)
              go_wp2_with fail
              exact ⟨⟨q - 1, r + Y1, by go_num, by go_num, by omega, by omega, HL⟩, by simp [intOf]; omega⟩
            · have hf2 : decide ((4294967296 : Int) ≤ (r : Int) + (Y1 : Int)) = true := decide_eq_true (by omega)
              have e0 : q - 1 = Q0 := (HL.out.far (by omega) (by omega)).trans hQ0.out.symm
              have e1 : (q : Int) - 1 = (Q0 : Int) := by omega
              clear e0 HL hD HP
              go_wp2_with fail
              go_ret2
              exact ⟨rfl, rfl⟩
    · have hq2 : decide ((4294967296 : Int) ≤ (q : Int)) = true := decide_eq_true (by omega)
      obtain ⟨l1, l2⟩ := hD.out.less (.inl (by omega))
      have HL := Lib.hid l2
      clear l2
      by_cases hf : (r : Int) + (Y1 : Int) < 4294967296
      · have hf2 : decide ((4294967296 : Int) ≤ (r : Int) + (Y1 : Int)) = false := decide_eq_false (by omega)
        go_wp2_with fail
        exact ⟨⟨q - 1, r + Y1, by go_num, by go_num, by omega, by omega, HL⟩, by simp [intOf]; omega⟩
      · have hf2 : decide ((4294967296 : Int) ≤ (r : Int) + (Y1 : Int)) = true := decide_eq_true (by omega)
        have e0 : q - 1 = Q1 := (HL.out.far (by omega) (by omega)).trans hQ1.out.symm
        have e1 : (q : Int) - 1 = (Q1 : Int) := by omega
        clear e0 HL hD HP
        go_wp2_with fail
        go_loop [18, 16] (fun a b => ∃ q r : Nat, a = .int .u64 (q : Int) ∧ b = .int .u64 (r : Int) ∧ r < 4294967296 ∧ q ≤ 4294967297 ∧ Hid (Dig Y Y1 Y0 V q r)) (fun a _ => (intOf a).toNat)
        case atStart => exact ⟨q2, r2, rfl, rfl, hrb2, hq642, HD2⟩
        case round =>
          clear hq2' hq642 hqyb2 hr2 hrb2 hqy2
          obtain ⟨q, r, rfl, rfl, hrb, hqb, hD⟩ := hrel
          obtain ⟨P, hP⟩ : ∃ P, q * Y0 = P := ⟨_, rfl⟩
          have hPb : P < 18446744073709551616 := by rw [← hP]; have := hD.out.p64; omega
          have hPi : (q : Int) * (Y0 : Int) = (P : Int) := by rw [← hP, Int.natCast_mul]
          have HP := Lib.hid hP
          clear hP
          by_cases hq1 : (q : Int) < 4294967296
          · have hq2 : decide ((4294967296 : Int) ≤ (q : Int)) = false := decide_eq_false (by omega)
            by_cases hc : 4294967296 * (r : Int) < (P : Int)
            · obtain ⟨l1, l2⟩ := hD.out.less (.inr (by rw [HP.out]; omega))
              have HL := Lib.hid l2
              clear l2
              by_cases hf : (r : Int) + (Y1 : Int) < 4294967296
              · have hf2 : decide ((4294967296 : Int) ≤ (r : Int) + (Y1 : Int)) = false := decide_eq_false (by omega)
                go_wp2_with fail
                exact ⟨⟨q - 1, r + Y1, by go_num, by go_num, by omega, by omega, HL⟩, by simp [intOf]; omega⟩
              · have hf2 : decide ((4294967296 : Int) ≤ (r : Int) + (Y1 : Int)) = true := decide_eq_true (by omega)
                have e0 : q - 1 = Q0 := (HL.out.far (by omega) (by omega)).trans hQ0.out.symm
                have e1 : (q : Int) - 1 = (Q0 : Int) := by omega
                clear e0 HL hD HP
                go_wp2_with fail
                go_ret2
                exact ⟨rfl, rfl⟩
            · have e0 : q = Q0 := (hD.out.stop (by rw [HP.out]; omega)).trans hQ0.out.symm
              subst e0
              clear hD HP
              go_wp2_with fail
              go_ret2
              exact ⟨rfl, rfl⟩
          · have hq2 : decide ((4294967296 : Int) ≤ (q : Int)) = true := decide_eq_true (by omega)
            obtain ⟨l1, l2⟩ := hD.out.less (.inl (by omega))
            have HL := Lib.hid l2
            clear l2
            by_cases hf : (r : Int) + (Y1 : Int) < 4294967296
            · have hf2 : decide ((4294967296 : Int) ≤ (r : Int) + (Y1 : Int)) = false := decide_eq_false (by omega)
              go_wp2_with fail
              exact ⟨⟨q - 1, r + Y1, by go_num, by go_num, by omega, by omega, HL⟩, by simp [intOf]; omega⟩
            · have hf2 : decide ((4294967296 : Int) ≤ (r : Int) + (Y1 : Int)) = true := decide_eq_true (by omega)
              have e0 : q - 1 = Q0 := (HL.out.far (by omega) (by omega)).trans hQ0.out.symm
              have e1 : (q : Int) - 1 = (Q0 : Int) := by omega
              clear e0 HL hD HP
              go_wp2_with fail
              go_ret2
              exact ⟨rfl, rfl⟩

def RetDiv (w : World) (h y : Nat) (e : Ending) (w' : World) : Prop :=
  ∃ q r : Nat, e = .returned (.tuple #[.int .u64 (q : Int), .int .u64 (r : Int)]) ∧ (q < 18446744073709551616 ∧ r < y ∧ h * 18446744073709551616 = q * y + r) ∧ w = w'

theorem div64_any (h y : Nat) (w : World) (hy1 : 4611686018427387904 ≤ y) (hy2 : y < 9223372036854775808) (hhy : h < y) (h0 : 0 < h) :
    Calls Tryz.prog 339 #[.int .u64 (h : Int), .int .u64 0, .int .u64 (y : Int)] w (RetDiv w h y) := by
  obtain ⟨Y, hY⟩ : ∃ Y, Y = 2 * y := ⟨_, rfl⟩
  obtain ⟨U, hU⟩ : ∃ U, U = 2 * h := ⟨_, rfl⟩
  obtain ⟨Y1, hY1⟩ : ∃ Y1, Y1 = Y / 4294967296 := ⟨_, rfl⟩
  obtain ⟨Y0, hY0⟩ : ∃ Y0, Y0 = Y % 4294967296 := ⟨_, rfl⟩
  have hYb : Y < 18446744073709551616 := by omega
  have hp : 0 < Y1 := by omega
  have D1 := Dig.start (Y := Y) (Y1 := Y1) (Y0 := Y0) (U := U) (by omega) (by omega) (by omega) (by omega) (by omega)
  obtain ⟨Q1, hQ1⟩ : ∃ Q1, Q1 = U * 4294967296 / Y := ⟨_, rfl⟩
  obtain ⟨V, hV⟩ : ∃ V, V = U * 4294967296 % Y := ⟨_, rfl⟩
  have hVY : V < Y := by rw [hV]; exact Nat.mod_lt _ (by omega)
  have D2 := Dig.start (Y := Y) (Y1 := Y1) (Y0 := Y0) (U := V) (by omega) (by omega) (by omega) (by omega) hVY
  obtain ⟨Q0, hQ0⟩ : ∃ Q0, Q0 = V * 4294967296 / Y := ⟨_, rfl⟩
  obtain ⟨R, hR⟩ : ∃ R, R = V * 4294967296 % Y := ⟨_, rfl⟩
  have hRY : R < Y := by rw [hR]; exact Nat.mod_lt _ (by omega)
  have l1 := D1.lt
  have l2 := D2.lt
  rw [← hQ1] at l1
  rw [← hQ0] at l2
  obtain ⟨t1, t2⟩ := two_digits hU hY (by omega) hQ1 hV hQ0 hR
  have e1 := Nat.div_add_mod (U * 4294967296) Y
  have e2 := Nat.div_add_mod (V * 4294967296) Y
  rw [← hQ1, ← hV, Nat.mul_comm] at e1
  rw [← hQ0, ← hR, Nat.mul_comm] at e2
  have hL : bitLen y = 63 := bitLen_uniq (by omega) (by omega) (by omega)
  have m1 := D1.sum
  have m2 := D2.sum
  have k1 := D1.most
  have k2 := D2.most
  have r1 := Nat.mod_lt U hp
  have r2 := Nat.mod_lt V hp
  have dq1 : ((U : Int) / (Y1 : Int)) = ((U / Y1 : Nat) : Int) := (Int.natCast_ediv U Y1).symm
  have dq2 : ((V : Int) / (Y1 : Int)) = ((V / Y1 : Nat) : Int) := (Int.natCast_ediv V Y1).symm
  have D1h := Lib.hid D1
  have D2h := Lib.hid D2
  have mq : ∀ a b : Nat, IntKind.u64.wrap ((a : Int) * (b : Int)) = ((a * b % 18446744073709551616 : Nat) : Int) := fun a b => by
    rw [← Int.natCast_mul, IntKind.wrap_u64]; omega
  have mw : ∀ a : Nat, IntKind.u64.wrap ((a : Int) * 4294967296) = ((a * 4294967296 % 18446744073709551616 : Nat) : Int) := fun a => mq a 4294967296
  have ms : ∀ a c b : Nat, c ≤ a → b = a - c → b < 18446744073709551616 → IntKind.u64.wrap (((a % 18446744073709551616 : Nat) : Int) - ((c % 18446744073709551616 : Nat) : Int)) = (b : Int) := fun a c b x1 x2 x3 => by
    rw [IntKind.wrap_u64]; omega
  have or0 : bits .or .u64 (U : Int) 0 = (U : Int) := by
    have := u64_or_nat U 0 (by omega) (by decide)
    rw [Nat.or_zero] at this
    exact this
  have and0 : bits .and .u64 (Y : Int) 4294967295 = (Y0 : Int) := by
    have := u64_and_nat Y 4294967295 hYb (by decide)
    rw [show (4294967295 : Nat) = 2 ^ 32 - 1 by decide, Nat.and_two_pow_sub_one_eq_mod] at this
    rw [hY0]
    exact this
  generalize U / Y1 = q1 at *
  generalize U % Y1 = s1 at *
  generalize V / Y1 = q2 at *
  generalize V % Y1 = s2 at *
  obtain ⟨p1, hp1⟩ : ∃ p, p = q1 * Y1 := ⟨_, rfl⟩
  obtain ⟨p2, hp2⟩ : ∃ p, p = q2 * Y1 := ⟨_, rfl⟩
  obtain ⟨x1, hx1⟩ : ∃ x, x = Q1 * Y := ⟨_, rfl⟩
  obtain ⟨x0, hx0⟩ : ∃ x, x = Q0 * Y := ⟨_, rfl⟩
  rw [← hp1] at m1
  rw [← hp2] at m2
  rw [← hx1] at e1
  rw [← hx0] at e2
  have c := div64_walk h y Y U Y1 Y0 w hy1 hy2 hhy h0 (Lib.hid (by rw [hL]; rfl)) (by omega) (by omega) or0 (by omega) and0
    (by decide) (by omega) (by omega) (by omega) (by omega)
    q1 s1 p1 dq1 k1 (by rw [hp1, Int.natCast_mul]) (by omega) (by omega) (by omega) D1h
    Q1 V (U * 4294967296 % 18446744073709551616) (x1 % 18446744073709551616) (Lib.hid hQ1) l1 (mw U) (by omega) (by rw [mq, ← hx1]) (ms _ _ _ (by omega) (by omega) (by omega)) (by omega)
    q2 s2 p2 dq2 k2 (by rw [hp2, Int.natCast_mul]) (by omega) (by omega) (by omega) D2h
    Q0 (V * 4294967296 % 18446744073709551616) (x0 % 18446744073709551616) R (R / 2) (Lib.hid hQ0) l2 (mw V) (by omega) (by rw [mq, ← hx0]) (ms _ _ _ (by omega) (by omega) (by omega)) (by omega) (by omega)
  refine c.mono fun _ _ ⟨a, b⟩ => ⟨Q1 * 4294967296 + Q0, R / 2, ?_, ⟨by omega, by omega, ?_⟩, b⟩
  · rw [a, Int.natCast_add, Int.natCast_mul]; rfl
  · rw [t1, t2]
    have := Nat.div_add_mod (h * 18446744073709551616) y
    rw [Nat.mul_comm y] at this
    exact this.symm
end Go.Proofs.YtdmdaoginojalaaGreatDoor

/-! Quotients, rounded down and up (round.Quo). -/
namespace Go.Proofs.YtdmdaoginojalaaGreatDoor
open Go.RowKit

def IsDiv (x y d u : Nat) : Prop := IsPair Ieee.double.div (Whole2 x y) x y (Flt.sgn x ^^ Flt.sgn y) (Flt.val (Flt.rg x) * 2 ^ Flt.K74) (Flt.val (Flt.rg y)) d u

theorem bitLen_le53 {x : Nat} (h : x < 2 ^ 53) : bitLen x ≤ 53 := by
  by_cases h0 : x = 0
  · subst h0; decide
  · obtain ⟨a, b, c⟩ := bitLen_spec h0
    rcases Nat.lt_or_ge 53 (bitLen x) with h' | h'
    · have : 2 ^ 53 ≤ 2 ^ (bitLen x - 1) := Nat.pow_le_pow_right (by decide) (by omega)
      omega
    · exact h'

/-- The exact quotient of two floats' parts. -/
theorem quo_num {x y m n E F M N La Lb : Nat} {e : Int} (hx : IsParts x m E) (hy : IsParts y n F) (hM : M = m * 2 ^ (Lb - 2)) (hN : N = n * 2 ^ (La - 1)) (hLa : 1 ≤ La) (hLb : 2 ≤ Lb)
    (he : e = (E : Int) - 1074 - ((Lb : Int) - 2) - ((F : Int) - 1074 - ((La : Int) - 1)) - 64) :
    M * 18446744073709551616 * 2 ^ (e + 1074).toNat * Flt.val (Flt.rg y) = Flt.val (Flt.rg x) * 2 ^ Flt.K74 * (N * 2 ^ (-(e + 1074)).toNat) := by
  obtain ⟨_, _, hx⟩ := hx
  obtain ⟨_, _, hy⟩ := hy
  rw [← hx, ← hy, hM, hN, show (18446744073709551616 : Nat) = 2 ^ 64 by decide]
  have hK := Flt.K74_eq
  generalize Flt.K74 = K at *
  generalize hu : (e + 1074).toNat = u
  generalize hv : (-(e + 1074)).toNat = v
  have h : (Lb - 2) + 64 + u + F = E + K + (La - 1) + v := by omega
  have l : m * 2 ^ (Lb - 2) * 2 ^ 64 * 2 ^ u * (n * 2 ^ F) = m * n * 2 ^ ((Lb - 2) + 64 + u + F) := by
    rw [Nat.pow_add, Nat.pow_add, Nat.pow_add]
    generalize 2 ^ (Lb - 2) = a
    generalize 2 ^ 64 = b
    generalize 2 ^ u = c
    generalize 2 ^ F = d
    simp only [Nat.mul_comm, Nat.mul_left_comm]
  have r : m * 2 ^ E * 2 ^ K * (n * 2 ^ (La - 1) * 2 ^ v) = m * n * 2 ^ (E + K + (La - 1) + v) := by
    rw [Nat.pow_add, Nat.pow_add, Nat.pow_add]
    generalize 2 ^ E = a
    generalize 2 ^ K = b
    generalize 2 ^ (La - 1) = c
    generalize 2 ^ v = d
    simp only [Nat.mul_comm, Nat.mul_left_comm]
  rw [l, r, h]

set_option maxRecDepth 100000 in
set_option maxHeartbeats 1600000 in
theorem rnd_quo_any (x y : Nat) (hx : x < 2 ^ 64) (hy : y < 2 ^ 64) (w : World) : Calls Tryz.prog 270 #[.float .f64 x, .float .f64 y] w (RetPair w (IsDiv x y)) := by
  cases hf : (Flt.finB x && Flt.finB y) with
  | false =>
    have hc : Hid (¬ Whole2 x y) := Lib.hid (by rintro ⟨a, b, _⟩; rw [Flt.finB_iff.2 a, Flt.finB_iff.2 b] at hf; cases hf)
    have HF := Lib.hid hf
    clear hf
    go_enter Tryz.func270, Tryz.ntmps270
    go_wp2_with (refine wpList_fquo _ rfl rfl ?_; intro s d hs; have HA := Lib.hid hs; clear hs)
    refine (rnd_finite_two w.heap.size x y _ hx hy (cell_new2 (w.drewN d) _ _ _).1 (cell_new2 (w.drewN d) _ _ _).2).mono ?_
    rintro e1 w1 ⟨rfl, rfl⟩
    rw [HF.out]
    go_wp2_with fail
    go_ret2
    exact ⟨s, s, rfl, ⟨fun _ => ⟨s, HA.out, rfl, rfl⟩, fun h => absurd h hc.out⟩, (below_drewN (Below.refl _ _) d).alloc (Nat.le_refl _) _⟩
  | true =>
    have hfx : Flt.Fin x ∧ Flt.Fin y := by rw [Bool.and_eq_true] at hf; exact ⟨Flt.finB_iff.1 hf.1, Flt.finB_iff.1 hf.2⟩
    have HX := Lib.hid hfx
    have HF := Lib.hid hf
    have zx := eq_zero (fin_not_nan hfx.1)
    have zy := eq_zero (fin_not_nan hfx.2)
    clear hf hfx
    by_cases h0 : Flt.rg x = 0
    · have hc : Hid (¬ Whole2 x y) := Lib.hid (by rintro ⟨_, _, a, _⟩; exact a h0)
      rw [decide_eq_true h0] at zx
      clear h0 zy
      go_enter Tryz.func270, Tryz.ntmps270
      go_wp2_with (refine wpList_fquo _ rfl rfl ?_; intro s d hs; have HA := Lib.hid hs; clear hs)
      refine (rnd_finite_two w.heap.size x y _ hx hy (cell_new2 (w.drewN d) _ _ _).1 (cell_new2 (w.drewN d) _ _ _).2).mono ?_
      rintro e1 w1 ⟨rfl, rfl⟩
      rw [HF.out]
      go_wp2_with fail
      go_ret2
      exact ⟨s, s, rfl, ⟨fun _ => ⟨s, HA.out, rfl, rfl⟩, fun h => absurd h hc.out⟩, (below_drewN (Below.refl _ _) d).alloc (Nat.le_refl _) _⟩
    · rw [decide_eq_false h0] at zx
      by_cases k0 : Flt.rg y = 0
      · have hc : Hid (¬ Whole2 x y) := Lib.hid (by rintro ⟨_, _, _, a⟩; exact a k0)
        rw [decide_eq_true k0] at zy
        clear h0 k0
        go_enter Tryz.func270, Tryz.ntmps270
        go_wp2_with (refine wpList_fquo _ rfl rfl ?_; intro s d hs; have HA := Lib.hid hs; clear hs)
        refine (rnd_finite_two w.heap.size x y _ hx hy (cell_new2 (w.drewN d) _ _ _).1 (cell_new2 (w.drewN d) _ _ _).2).mono ?_
        rintro e1 w1 ⟨rfl, rfl⟩
        rw [HF.out]
        go_wp2_with fail
        go_ret2
        exact ⟨s, s, rfl, ⟨fun _ => ⟨s, HA.out, rfl, rfl⟩, fun h => absurd h hc.out⟩, (below_drewN (Below.refl _ _) d).alloc (Nat.le_refl _) _⟩
      · rw [decide_eq_false k0] at zy
        have hc : Hid (Whole2 x y) := Lib.hid ⟨HX.out.1, HX.out.2, h0, k0⟩
        clear h0 k0
        go_enter Tryz.func270, Tryz.ntmps270
        go_wp2_with (refine wpList_fquo _ rfl rfl ?_; intro s d hs; clear hs)
        refine (rnd_finite_two w.heap.size x y _ hx hy (cell_new2 (w.drewN d) _ _ _).1 (cell_new2 (w.drewN d) _ _ _).2).mono ?_
        rintro e1 w1 ⟨rfl, rfl⟩
        rw [HF.out]
        have hbw : Below w.heap.size w ((w.drewN d).alloc (.cells #[.float .f64 x, .float .f64 y] 22)) := (below_drewN (Below.refl _ _) d).alloc (Nat.le_refl _) _
        generalize (w.drewN d).alloc (.cells #[.float .f64 x, .float .f64 y] 22) = w2 at hbw ⊢
        go_wp2_with fail
        refine (rnd_parts_any x hx _).mono ?_
        rintro e2 w3 ⟨m, E, rfl, hpx, rfl⟩
        go_wp2_with fail
        refine (rnd_parts_any y hy _).mono ?_
        rintro e3 w4 ⟨n, F, rfl, hpy, rfl⟩
        have hm := hpx.1
        have hn := hpy.1
        have hE := hpx.2.1
        have hF := hpy.2.1
        have hm0 : m ≠ 0 := fun h => by
          have h3 := val_pos hc.out.2.2.1
          have h5 := hpx.2.2
          rw [h, Nat.zero_mul] at h5; omega
        have hn0 : n ≠ 0 := fun h => by
          have h3 := val_pos hc.out.2.2.2
          have h5 := hpy.2.2
          rw [h, Nat.zero_mul] at h5; omega
        have HPX := Lib.hid hpx
        have HPY := Lib.hid hpy
        clear hpx hpy
        obtain ⟨a1, a2, a3⟩ := bitLen_spec hn0
        obtain ⟨b1, b2, b3⟩ := bitLen_spec hm0
        have a4 : bitLen n ≤ 53 := bitLen_le53 hn
        have b4 : bitLen m ≤ 53 := bitLen_le53 hm
        obtain ⟨La, hLa⟩ : ∃ La : Nat, La = 64 - bitLen n := ⟨_, rfl⟩
        obtain ⟨Lb, hLb⟩ : ∃ Lb : Nat, Lb = 64 - bitLen m := ⟨_, rfl⟩
        obtain ⟨N, hN⟩ : ∃ N, N = n * 2 ^ (La - 1) := ⟨_, rfl⟩
        obtain ⟨M, hM⟩ : ∃ M, M = m * 2 ^ (Lb - 2) := ⟨_, rfl⟩
        have N1 : 4611686018427387904 ≤ N := by
          have := Nat.mul_le_mul_right (2 ^ (La - 1)) a2
          rw [← Nat.pow_add, show bitLen n - 1 + (La - 1) = 62 by omega, ← hN] at this
          exact this
        have N2 : N < 9223372036854775808 := by
          have := Nat.mul_lt_mul_of_pos_right a3 (Nat.two_pow_pos (La - 1))
          rw [← Nat.pow_add, show bitLen n + (La - 1) = 63 by omega, ← hN] at this
          exact this
        have M1 : 2305843009213693952 ≤ M := by
          have := Nat.mul_le_mul_right (2 ^ (Lb - 2)) b2
          rw [← Nat.pow_add, show bitLen m - 1 + (Lb - 2) = 61 by omega, ← hM] at this
          exact this
        have M2 : M < 4611686018427387904 := by
          have := Nat.mul_lt_mul_of_pos_right b3 (Nat.two_pow_pos (Lb - 2))
          rw [← Nat.pow_add, show bitLen m + (Lb - 2) = 62 by omega, ← hM] at this
          exact this
        have hLn : Hid (64 - (bitLen n : Int) = (La : Int)) := Lib.hid (by omega)
        have hLm : Hid (64 - (bitLen m : Int) = (Lb : Int)) := Lib.hid (by omega)
        have La1 : 11 ≤ La := by omega
        have La2 : La ≤ 63 := by omega
        have Lb1 : 11 ≤ Lb := by omega
        have Lb2 : Lb ≤ 63 := by omega
        have hNw : IntKind.u64.wrap ((n : Int) * 2 ^ ((La : Int) - 1).toNat) = (N : Int) := by
          rw [show ((La : Int) - 1).toNat = La - 1 by omega, pow_int, ← Int.natCast_mul, ← hN]
          exact u64_small (by omega)
        have hNw2 : IntKind.u64.wrap ((n : Int) * 2 ^ (La - 1)) = (N : Int) := by
          rw [pow_int, ← Int.natCast_mul, ← hN]
          exact u64_small (by omega)
        have hMw : IntKind.u64.wrap ((m : Int) * 2 ^ ((Lb : Int) - 2).toNat) = (M : Int) := by
          rw [show ((Lb : Int) - 2).toNat = Lb - 2 by omega, pow_int, ← Int.natCast_mul, ← hM]
          exact u64_small (by omega)
        have HN := Lib.hid hN
        have HM := Lib.hid hM
        have HN0 := Lib.hid hn0
        have HM0 := Lib.hid hm0
        clear a1 a2 a3 a4 b1 b2 b3 b4 hLa hLb hN hM hm0 hn0
        go_wp2_with (first | (go_at_call 338; (with_reducible refine (lz_of n (La : Int) _ (by omega) hLn).mono ?_); rintro e4 w4 ⟨rfl, rfl⟩) | (go_at_call 338; (with_reducible refine (lz_of m (Lb : Int) _ (by omega) hLm).mono ?_); rintro e4 w4 ⟨rfl, rfl⟩))
        refine (div64_any M N _ N1 N2 (by omega) (by omega)).mono ?_
        rintro e4 w4 ⟨qq, rr, rfl, ⟨hq1, hq2, hq3⟩, rfl⟩
        have hmore : Hid (((rr : Int) != 0) = decide (M * 18446744073709551616 ≠ qq * N)) := Lib.hid (by
          rw [bne_dec]
          by_cases h0 : rr = 0
          · rw [decide_eq_true h0, decide_eq_false (by omega)]; rfl
          · rw [decide_eq_false h0, decide_eq_true (by omega)]; rfl)
        have hqge : 2 ^ 53 ≤ qq := by
          rcases Nat.lt_or_ge qq (2 ^ 53) with h | h
          · have h1 := Nat.mul_le_mul_right N (Nat.succ_le_of_lt h)
            rw [Nat.succ_mul] at h1
            have h2 : 2 ^ 53 * N < 2 ^ 53 * 9223372036854775808 := Nat.mul_lt_mul_of_pos_left N2 (by decide)
            omega
          · exact h
        obtain ⟨ee, hee⟩ : ∃ ee, ee = (E : Int) - 1074 - ((Lb : Int) - 2) - ((F : Int) - 1074 - ((La : Int) - 1)) - 64 := ⟨_, rfl⟩
        have S : Hid (∀ W : World, Calls Tryz.prog 279 #[.bool (Flt.sgn x ^^ Flt.sgn y), .int .u64 ((0 : Nat) : Int), .int .u64 (qq : Int), .bool (decide (M * 18446744073709551616 ≠ qq * N)), .int .i64 ee] W
            (RetPair W (Brk (Flt.sgn x ^^ Flt.sgn y) (M * 18446744073709551616 * 2 ^ (ee + 1074).toNat) (N * 2 ^ (-(ee + 1074)).toNat)))) :=
          Lib.hid fun W => edge_size 0 qq (M * 18446744073709551616) N qq ee (Flt.sgn x ^^ Flt.sgn y) _ W (by decide) hq1 (by omega) (by omega) (by omega) (by omega) (by rw [Nat.add_mul]; omega) rfl (fun _ => hqge) (by omega) (by omega)
        have HS : Hid (∀ d' u', Brk (Flt.sgn x ^^ Flt.sgn y) (M * 18446744073709551616 * 2 ^ (ee + 1074).toNat) (N * 2 ^ (-(ee + 1074)).toNat) d' u' → IsDiv x y d' u') :=
          Lib.hid fun d' u' hB => ⟨fun h => absurd hc.out h, fun _ => hB.cross (Nat.mul_pos (by omega) (Nat.two_pow_pos _)) (val_pos hc.out.2.2.2) (quo_num HPX.out HPY.out HM.out HN.out (by omega) (by omega) (by omega))⟩
        generalize M * 18446744073709551616 * 2 ^ (ee + 1074).toNat = num at S HS
        generalize N * 2 ^ (-(ee + 1074)).toNat = den at S HS
        generalize hz : (Flt.sgn x ^^ Flt.sgn y) = sz at S HS
        have hz2 : Hid ((!(Flt.sgn x == Flt.sgn y)) = sz) := Lib.hid (by rw [← hz]; cases Flt.sgn x <;> cases Flt.sgn y <;> rfl)
        have HEE := Lib.hid hee
        clear hq3 hqge hz hee
        go_wp2_with (first | (go_at_call 280; (with_reducible refine (signbit_any x _).mono ?_); rintro e5 w5 ⟨rfl, rfl⟩) | (go_at_call 280; (with_reducible refine (signbit_any y _).mono ?_); rintro e6 w6 ⟨rfl, rfl⟩))
        rw [hz2.out, hmore.out, ← HEE.out]
        refine (S.out _).mono ?_
        rintro e7 w7 ⟨d7, u7, rfl, hB, hb7⟩
        have HB := Lib.hid hB
        clear hB
        go_wp2_with fail
        go_ret2
        exact ⟨d7, u7, rfl, HS.out _ _ HB.out, below_next hbw hb7⟩
end Go.Proofs.YtdmdaoginojalaaGreatDoor
