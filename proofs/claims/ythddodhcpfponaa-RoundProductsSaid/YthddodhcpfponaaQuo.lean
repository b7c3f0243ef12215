/-
  Quotients, rounded down and up (round.Quo).
-/
import Derived.Test.YthddodhcpfponaaDiv
namespace Go.Proofs.Ythddodhcpfponaa
open Go.RowKit

def IsDiv (x y d u : Nat) : Prop := IsPair Ieee.double.div (Whole2 x y) x y (Flt.sgn x ^^ Flt.sgn y) (Flt.val (Flt.rg x) * 2 ^ Flt.K74) (Flt.val (Flt.rg y)) d u

theorem bitLen_le53 {x : Nat} (h : x < 2 ^ 53) : bitLen x ≤ 53 := by
  by_cases h0 : x = 0
  · subst h0; decide
  · obtain ⟨a, b, c⟩ := bitLen_spec h0
    rcases Nat.lt_or_ge 53 (bitLen x) with h' | h'
    · have : 2 ^ 53 ≤ 2 ^ (bitLen x - 1) := Nat.pow_le_pow_right (by decide) (by omega)
      omega
    · exact h'

/-- The exact quotient of two floats' parts. -/
theorem quo_num {x y m n E F M N La Lb : Nat} {e : Int} (hx : IsParts x m E) (hy : IsParts y n F) (hM : M = m * 2 ^ (Lb - 2)) (hN : N = n * 2 ^ (La - 1)) (hLa : 1 ≤ La) (hLb : 2 ≤ Lb)
    (he : e = (E : Int) - 1074 - ((Lb : Int) - 2) - ((F : Int) - 1074 - ((La : Int) - 1)) - 64) :
    M * 18446744073709551616 * 2 ^ (e + 1074).toNat * Flt.val (Flt.rg y) = Flt.val (Flt.rg x) * 2 ^ Flt.K74 * (N * 2 ^ (-(e + 1074)).toNat) := by
  obtain ⟨_, _, hx⟩ := hx
  obtain ⟨_, _, hy⟩ := hy
  rw [← hx, ← hy, hM, hN, show (18446744073709551616 : Nat) = 2 ^ 64 by decide]
  have hK := Flt.K74_eq
  generalize Flt.K74 = K at *
  generalize hu : (e + 1074).toNat = u
  generalize hv : (-(e + 1074)).toNat = v
  have h : (Lb - 2) + 64 + u + F = E + K + (La - 1) + v := by omega
  have l : m * 2 ^ (Lb - 2) * 2 ^ 64 * 2 ^ u * (n * 2 ^ F) = m * n * 2 ^ ((Lb - 2) + 64 + u + F) := by
    rw [Nat.pow_add, Nat.pow_add, Nat.pow_add]
    generalize 2 ^ (Lb - 2) = a
    generalize 2 ^ 64 = b
    generalize 2 ^ u = c
    generalize 2 ^ F = d
    simp only [Nat.mul_comm, Nat.mul_left_comm]
  have r : m * 2 ^ E * 2 ^ K * (n * 2 ^ (La - 1) * 2 ^ v) = m * n * 2 ^ (E + K + (La - 1) + v) := by
    rw [Nat.pow_add, Nat.pow_add, Nat.pow_add]
    generalize 2 ^ E = a
    generalize 2 ^ K = b
    generalize 2 ^ (La - 1) = c
    generalize 2 ^ v = d
    simp only [Nat.mul_comm, Nat.mul_left_comm]
  rw [l, r, h]

set_option maxRecDepth 100000 in
set_option maxHeartbeats 1600000 in
theorem rnd_quo_any (x y : Nat) (hx : x < 2 ^ 64) (hy : y < 2 ^ 64) (w : World) : Calls Try.prog 19 #[.float .f64 x, .float .f64 y] w (RetPair w (IsDiv x y)) := by
  cases hf : (Flt.finB x && Flt.finB y) with
  | false =>
    have hc : Hid (¬ Whole2 x y) := Lib.hid (by rintro ⟨a, b, _⟩; rw [Flt.finB_iff.2 a, Flt.finB_iff.2 b] at hf; cases hf)
    have HF := Lib.hid hf
    clear hf
    go_enter Try.func19, Try.ntmps19
    go_wp2_with (refine wpList_fquo _ rfl rfl ?_; intro s d hs; have HA := Lib.hid hs; clear hs)
    refine (rnd_finite_two w.heap.size x y _ hx hy (cell_new2 (w.drewN d) _ _ _).1 (cell_new2 (w.drewN d) _ _ _).2).mono ?_
    rintro e1 w1 ⟨rfl, rfl⟩
    rw [HF.out]
    go_wp2_with fail
    go_ret2
    exact ⟨s, s, rfl, ⟨fun _ => ⟨s, HA.out, rfl, rfl⟩, fun h => absurd h hc.out⟩, (below_drewN (Below.refl _ _) d).alloc (Nat.le_refl _) _⟩
  | true =>
    have hfx : Flt.Fin x ∧ Flt.Fin y := by rw [Bool.and_eq_true] at hf; exact ⟨Flt.finB_iff.1 hf.1, Flt.finB_iff.1 hf.2⟩
    have HX := Lib.hid hfx
    have HF := Lib.hid hf
    have zx := eq_zero (fin_not_nan hfx.1)
    have zy := eq_zero (fin_not_nan hfx.2)
    clear hf hfx
    by_cases h0 : Flt.rg x = 0
    · have hc : Hid (¬ Whole2 x y) := Lib.hid (by rintro ⟨_, _, a, _⟩; exact a h0)
      rw [decide_eq_true h0] at zx
      clear h0 zy
      go_enter Try.func19, Try.ntmps19
      go_wp2_with (refine wpList_fquo _ rfl rfl ?_; intro s d hs; have HA := Lib.hid hs; clear hs)
      refine (rnd_finite_two w.heap.size x y _ hx hy (cell_new2 (w.drewN d) _ _ _).1 (cell_new2 (w.drewN d) _ _ _).2).mono ?_
      rintro e1 w1 ⟨rfl, rfl⟩
      rw [HF.out]
      go_wp2_with fail
      go_ret2
      exact ⟨s, s, rfl, ⟨fun _ => ⟨s, HA.out, rfl, rfl⟩, fun h => absurd h hc.out⟩, (below_drewN (Below.refl _ _) d).alloc (Nat.le_refl _) _⟩
    · rw [decide_eq_false h0] at zx
      by_cases k0 : Flt.rg y = 0
      · have hc : Hid (¬ Whole2 x y) := Lib.hid (by rintro ⟨_, _, _, a⟩; exact a k0)
        rw [decide_eq_true k0] at zy
        clear h0 k0
        go_enter Try.func19, Try.ntmps19
        go_wp2_with (refine wpList_fquo _ rfl rfl ?_; intro s d hs; have HA := Lib.hid hs; clear hs)
        refine (rnd_finite_two w.heap.size x y _ hx hy (cell_new2 (w.drewN d) _ _ _).1 (cell_new2 (w.drewN d) _ _ _).2).mono ?_
        rintro e1 w1 ⟨rfl, rfl⟩
        rw [HF.out]
        go_wp2_with fail
        go_ret2
        exact ⟨s, s, rfl, ⟨fun _ => ⟨s, HA.out, rfl, rfl⟩, fun h => absurd h hc.out⟩, (below_drewN (Below.refl _ _) d).alloc (Nat.le_refl _) _⟩
      · rw [decide_eq_false k0] at zy
        have hc : Hid (Whole2 x y) := Lib.hid ⟨HX.out.1, HX.out.2, h0, k0⟩
        clear h0 k0
        go_enter Try.func19, Try.ntmps19
        go_wp2_with (refine wpList_fquo _ rfl rfl ?_; intro s d hs; clear hs)
        refine (rnd_finite_two w.heap.size x y _ hx hy (cell_new2 (w.drewN d) _ _ _).1 (cell_new2 (w.drewN d) _ _ _).2).mono ?_
        rintro e1 w1 ⟨rfl, rfl⟩
        rw [HF.out]
        have hbw : Below w.heap.size w ((w.drewN d).alloc (.cells #[.float .f64 x, .float .f64 y] 22)) := (below_drewN (Below.refl _ _) d).alloc (Nat.le_refl _) _
        generalize (w.drewN d).alloc (.cells #[.float .f64 x, .float .f64 y] 22) = w2 at hbw ⊢
        go_wp2_with fail
        refine (rnd_parts_any x hx _).mono ?_
        rintro e2 w3 ⟨m, E, rfl, hpx, rfl⟩
        go_wp2_with fail
        refine (rnd_parts_any y hy _).mono ?_
        rintro e3 w4 ⟨n, F, rfl, hpy, rfl⟩
        have hm := hpx.1
        have hn := hpy.1
        have hE := hpx.2.1
        have hF := hpy.2.1
        have hm0 : m ≠ 0 := fun h => by
          have h3 := val_pos hc.out.2.2.1
          have h5 := hpx.2.2
          rw [h, Nat.zero_mul] at h5; omega
        have hn0 : n ≠ 0 := fun h => by
          have h3 := val_pos hc.out.2.2.2
          have h5 := hpy.2.2
          rw [h, Nat.zero_mul] at h5; omega
        have HPX := Lib.hid hpx
        have HPY := Lib.hid hpy
        clear hpx hpy
        obtain ⟨a1, a2, a3⟩ := bitLen_spec hn0
        obtain ⟨b1, b2, b3⟩ := bitLen_spec hm0
        have a4 : bitLen n ≤ 53 := bitLen_le53 hn
        have b4 : bitLen m ≤ 53 := bitLen_le53 hm
        obtain ⟨La, hLa⟩ : ∃ La : Nat, La = 64 - bitLen n := ⟨_, rfl⟩
        obtain ⟨Lb, hLb⟩ : ∃ Lb : Nat, Lb = 64 - bitLen m := ⟨_, rfl⟩
        obtain ⟨N, hN⟩ : ∃ N, N = n * 2 ^ (La - 1) := ⟨_, rfl⟩
        obtain ⟨M, hM⟩ : ∃ M, M = m * 2 ^ (Lb - 2) := ⟨_, rfl⟩
        have N1 : 4611686018427387904 ≤ N := by
          have := Nat.mul_le_mul_right (2 ^ (La - 1)) a2
          rw [← Nat.pow_add, show bitLen n - 1 + (La - 1) = 62 by omega, ← hN] at this
          exact this
        have N2 : N < 9223372036854775808 := by
          have := Nat.mul_lt_mul_of_pos_right a3 (Nat.two_pow_pos (La - 1))
          rw [← Nat.pow_add, show bitLen n + (La - 1) = 63 by omega, ← hN] at this
          exact this
        have M1 : 2305843009213693952 ≤ M := by
          have := Nat.mul_le_mul_right (2 ^ (Lb - 2)) b2
          rw [← Nat.pow_add, show bitLen m - 1 + (Lb - 2) = 61 by omega, ← hM] at this
          exact this
        have M2 : M < 4611686018427387904 := by
          have := Nat.mul_lt_mul_of_pos_right b3 (Nat.two_pow_pos (Lb - 2))
          rw [← Nat.pow_add, show bitLen m + (Lb - 2) = 62 by omega, ← hM] at this
          exact this
        have hLn : Hid (64 - (bitLen n : Int) = (La : Int)) := Lib.hid (by omega)
        have hLm : Hid (64 - (bitLen m : Int) = (Lb : Int)) := Lib.hid (by omega)
        have La1 : 11 ≤ La := by omega
        have La2 : La ≤ 63 := by omega
        have Lb1 : 11 ≤ Lb := by omega
        have Lb2 : Lb ≤ 63 := by omega
        have hNw : IntKind.u64.wrap ((n : Int) * 2 ^ ((La : Int) - 1).toNat) = (N : Int) := by
          rw [show ((La : Int) - 1).toNat = La - 1 by omega, pow_int, ← Int.natCast_mul, ← hN]
          exact u64_small (by omega)
        have hNw2 : IntKind.u64.wrap ((n : Int) * 2 ^ (La - 1)) = (N : Int) := by
          rw [pow_int, ← Int.natCast_mul, ← hN]
          exact u64_small (by omega)
        have hMw : IntKind.u64.wrap ((m : Int) * 2 ^ ((Lb : Int) - 2).toNat) = (M : Int) := by
          rw [show ((Lb : Int) - 2).toNat = Lb - 2 by omega, pow_int, ← Int.natCast_mul, ← hM]
          exact u64_small (by omega)
        have HN := Lib.hid hN
        have HM := Lib.hid hM
        have HN0 := Lib.hid hn0
        have HM0 := Lib.hid hm0
        clear a1 a2 a3 a4 b1 b2 b3 b4 hLa hLb hN hM hm0 hn0
        go_wp2_with (first | (go_at_call 55; (with_reducible refine (lz_of n (La : Int) _ (by omega) hLn).mono ?_); rintro e4 w4 ⟨rfl, rfl⟩) | (go_at_call 55; (with_reducible refine (lz_of m (Lb : Int) _ (by omega) hLm).mono ?_); rintro e4 w4 ⟨rfl, rfl⟩))
        refine (div64_any M N _ N1 N2 (by omega) (by omega)).mono ?_
        rintro e4 w4 ⟨qq, rr, rfl, ⟨hq1, hq2, hq3⟩, rfl⟩
        have hmore : Hid (((rr : Int) != 0) = decide (M * 18446744073709551616 ≠ qq * N)) := Lib.hid (by
          rw [bne_dec]
          by_cases h0 : rr = 0
          · rw [decide_eq_true h0, decide_eq_false (by omega)]; rfl
          · rw [decide_eq_false h0, decide_eq_true (by omega)]; rfl)
        have hqge : 2 ^ 53 ≤ qq := by
          rcases Nat.lt_or_ge qq (2 ^ 53) with h | h
          · have h1 := Nat.mul_le_mul_right N (Nat.succ_le_of_lt h)
            rw [Nat.succ_mul] at h1
            have h2 : 2 ^ 53 * N < 2 ^ 53 * 9223372036854775808 := Nat.mul_lt_mul_of_pos_left N2 (by decide)
            omega
          · exact h
        obtain ⟨ee, hee⟩ : ∃ ee, ee = (E : Int) - 1074 - ((Lb : Int) - 2) - ((F : Int) - 1074 - ((La : Int) - 1)) - 64 := ⟨_, rfl⟩
        have S : Hid (∀ W : World, Calls Try.prog 52 #[.bool (Flt.sgn x ^^ Flt.sgn y), .int .u64 ((0 : Nat) : Int), .int .u64 (qq : Int), .bool (decide (M * 18446744073709551616 ≠ qq * N)), .int .i64 ee] W
            (RetPair W (Brk (Flt.sgn x ^^ Flt.sgn y) (M * 18446744073709551616 * 2 ^ (ee + 1074).toNat) (N * 2 ^ (-(ee + 1074)).toNat)))) :=
          Lib.hid fun W => edge_size 0 qq (M * 18446744073709551616) N qq ee (Flt.sgn x ^^ Flt.sgn y) _ W (by decide) hq1 (by omega) (by omega) (by omega) (by omega) (by rw [Nat.add_mul]; omega) rfl (fun _ => hqge) (by omega) (by omega)
        have HS : Hid (∀ d' u', Brk (Flt.sgn x ^^ Flt.sgn y) (M * 18446744073709551616 * 2 ^ (ee + 1074).toNat) (N * 2 ^ (-(ee + 1074)).toNat) d' u' → IsDiv x y d' u') :=
          Lib.hid fun d' u' hB => ⟨fun h => absurd hc.out h, fun _ => hB.cross (Nat.mul_pos (by omega) (Nat.two_pow_pos _)) (val_pos hc.out.2.2.2) (quo_num HPX.out HPY.out HM.out HN.out (by omega) (by omega) (by omega))⟩
        generalize M * 18446744073709551616 * 2 ^ (ee + 1074).toNat = num at S HS
        generalize N * 2 ^ (-(ee + 1074)).toNat = den at S HS
        generalize hz : (Flt.sgn x ^^ Flt.sgn y) = sz at S HS
        have hz2 : Hid ((!(Flt.sgn x == Flt.sgn y)) = sz) := Lib.hid (by rw [← hz]; cases Flt.sgn x <;> cases Flt.sgn y <;> rfl)
        have HEE := Lib.hid hee
        clear hq3 hqge hz hee
        go_wp2_with (first | (go_at_call 53; (with_reducible refine (signbit_any x _).mono ?_); rintro e5 w5 ⟨rfl, rfl⟩) | (go_at_call 53; (with_reducible refine (signbit_any y _).mono ?_); rintro e6 w6 ⟨rfl, rfl⟩))
        rw [hz2.out, hmore.out, ← HEE.out]
        refine (S.out _).mono ?_
        rintro e7 w7 ⟨d7, u7, rfl, hB, hb7⟩
        have HB := Lib.hid hB
        clear hB
        go_wp2_with fail
        go_ret2
        exact ⟨d7, u7, rfl, HS.out _ _ HB.out, below_next hbw hb7⟩
end Go.Proofs.Ythddodhcpfponaa
