/-
  The references' floats (polestarref04): the product.
-/
import Derived.Test.YthddodhcpfponaaRef4G
import Derived.Test.YthddodhcpfponaaProd
namespace Go.Proofs.Ythddodhcpfponaa
open Go.RowKit

theorem ref_beside_gen (neg negq : Bool) (A Aq : Option Addr) (n c nq cq : Nat) (z q e : Int) (num den : Nat) (w : World) (hp : IsInt w neg A n c z) (hq : IsInt w negq Aq nq cq q) (hn : n ≤ 1000000)
    (hU : ∀ (W : World) (neg' : Bool) (A' : Option Addr) (n' c' : Nat), IsInt W neg' A' n' c' (z.natAbs : Nat) → IsInt W negq Aq nq cq q →
      Calls Try.prog 61 #[.agg #[.bool neg', .slice A' n' c'], .agg #[.bool negq, .slice Aq nq cq], .int .i64 e] W (RetUnder W num den)) (hnum : z ≠ 0 → 0 < num) :
    Calls Try.prog 44 #[.agg #[.bool neg, .slice A n c], .agg #[.bool negq, .slice Aq nq cq], .int .i64 e] w (RetPair w (Brk (decide (z < 0)) num den)) :=
  (ref_beside_of neg negq A Aq n c nq cq z q e num den w hp hq hn hU hnum).mono fun _ _ ⟨r, h1, h2, h3⟩ => ⟨_, _, h1, ⟨r, h2, rfl, rfl⟩, h3⟩

/-- Beside a whole number times a power of two. -/
theorem ref_beside_pow (neg negq : Bool) (A Aq : Option Addr) (n c nq cq : Nat) (z e : Int) (num den : Nat) (w : World) (hp : IsInt w neg A n c z) (hq : IsInt w negq Aq nq cq 1) (hn : n ≤ 1000000) (he : -1000000 ≤ e ∧ e ≤ 1000000)
    (hnum : Hid (num = z.natAbs * 2 ^ (e + 1074).toNat)) (hden : Hid (den = 2 ^ (-(e + 1074)).toNat)) :
    Calls Try.prog 44 #[.agg #[.bool neg, .slice A n c], .agg #[.bool negq, .slice Aq nq cq], .int .i64 e] w (RetPair w (Brk (decide (z < 0)) num den)) := by
  refine ref_beside_gen neg negq A Aq n c nq cq z 1 e num den w hp hq hn (fun W neg' A' n' c' h1 h2 => ?_) (fun h => ?_)
  · have hneg : neg' = false := by
      obtain ⟨l, _, cl, hl, hz⟩ := h1
      cases neg' with
      | false => rfl
      | true =>
        have h0 : Lm.lv l = 0 := by unfold sgnd at hz; simp at hz; omega
        exact hl ((Lm.lv_zero cl).1 h0)
    subst hneg
    have hn' : n' ≤ n := isInt_len_mono h1 hp (by simp)
    rw [hnum.out, hden.out]
    exact ref_under_one negq A' Aq n' c' nq cq z.natAbs e W h1 h2 (by omega) he
  · rw [hnum.out]
    exact Nat.mul_pos (by omega) (Nat.two_pow_pos _)

theorem sv_abs (x : Nat) : (Flt.sv x).natAbs = Flt.val (Flt.rg x) := by unfold Flt.sv; split <;> omega
theorem sv_neg {x : Nat} (h : Flt.rg x ≠ 0) : decide (Flt.sv x < 0) = Flt.sgn x := by
  have := val_pos h
  unfold Flt.sv
  cases Flt.sgn x
  · exact decide_eq_false (by simp)
  · exact decide_eq_true (by simp; omega)
theorem scaled_abs {z : Int} {E : Nat} {S : Int} (h : z * ((2 ^ E : Nat) : Int) = S) : z.natAbs * 2 ^ E = S.natAbs ∧ (z = 0 ↔ S = 0) ∧ (z < 0 ↔ S < 0) := by
  have hp := Nat.two_pow_pos E
  generalize 2 ^ E = p at *
  subst h
  refine ⟨by rw [Int.natAbs_mul, Int.natAbs_natCast], ?_, ?_⟩
  · constructor
    · rintro rfl; simp
    · intro h; rcases Int.mul_eq_zero.1 h with h | h <;> omega
  · constructor
    · intro h; exact Int.mul_neg_of_neg_of_pos h (by omega)
    · intro h
      rcases Int.lt_or_le z 0 with h' | h'
      · exact h'
      · have := Int.mul_nonneg h' (show (0 : Int) ≤ (p : Int) by omega); omega

theorem sign_mul {a b : Int} (ha : a ≠ 0) (hb : b ≠ 0) : decide (a * b < 0) = (decide (a < 0) ^^ decide (b < 0)) := by
  rcases Int.lt_or_lt_of_ne ha with h1 | h1 <;> rcases Int.lt_or_lt_of_ne hb with h2 | h2
  · have := Int.mul_pos_of_neg_of_neg h1 h2
    rw [decide_eq_true h1, decide_eq_true h2, decide_eq_false (show ¬ a * b < 0 by omega)]; rfl
  · have := Int.mul_neg_of_neg_of_pos h1 h2
    rw [decide_eq_true h1, decide_eq_false (show ¬ b < 0 by omega), decide_eq_true this]; rfl
  · have := Int.mul_neg_of_pos_of_neg h1 h2
    rw [decide_eq_false (show ¬ a < 0 by omega), decide_eq_true h2, decide_eq_true this]; rfl
  · have := Int.mul_pos h1 h2
    rw [decide_eq_false (show ¬ a < 0 by omega), decide_eq_false (show ¬ b < 0 by omega), decide_eq_false (show ¬ a * b < 0 by omega)]; rfl

theorem told_prod {x y s : Nat} {z1 z2 e : Int} {E1 E2 d u num den : Nat} (hop : IsOp Ieee.double.mul x y s) (hx : Flt.Fin x) (hy : Flt.Fin y) (h1 : z1 * ((2 ^ E1 : Nat) : Int) = Flt.sv x) (h2 : z2 * ((2 ^ E2 : Nat) : Int) = Flt.sv y)
    (he : e = (E1 : Int) - 1074 + ((E2 : Int) - 1074)) (hnum : num = (z1 * z2).natAbs * 2 ^ (e + 1074).toNat) (hden : den = 2 ^ (-(e + 1074)).toNat) (h : Told s (z1 * z2) num den d u) : IsProd x y d u := by
  obtain ⟨a1, b1, c1⟩ := scaled_abs h1
  obtain ⟨a2, b2, c2⟩ := scaled_abs h2
  rw [Flt.sv_zero_iff] at b1 b2
  rw [sv_abs] at a1 a2
  by_cases hz : z1 * z2 = 0
  · have hw : ¬ Whole2 x y := by
      rintro ⟨_, _, k1, k2⟩
      rcases Int.mul_eq_zero.1 hz with h' | h'
      · exact k1 (b1.1 h')
      · exact k2 (b2.1 h')
    obtain ⟨r1, r2⟩ := h.1 hz
    exact ⟨fun _ => ⟨s, hop, r1, r2⟩, fun h' => absurd h' hw⟩
  · have k1 : z1 ≠ 0 := by rintro rfl; simp at hz
    have k2 : z2 ≠ 0 := by rintro rfl; simp at hz
    have r1 : Flt.rg x ≠ 0 := fun h' => k1 (b1.2 h')
    have r2 : Flt.rg y ≠ 0 := fun h' => k2 (b2.2 h')
    refine ⟨fun h' => absurd ⟨hx, hy, r1, r2⟩ h', fun _ => ?_⟩
    have hb := h.2 hz
    have hs : decide (z1 * z2 < 0) = (Flt.sgn x ^^ Flt.sgn y) := by
      rw [sign_mul k1 k2, ← sv_neg r1, ← sv_neg r2, decide_eq_decide.2 c1, decide_eq_decide.2 c2]
    rw [hs] at hb
    refine hb.cross (by rw [hden]; exact Nat.two_pow_pos _) (Nat.two_pow_pos _) ?_
    rw [hnum, hden, ← a1, ← a2, Int.natAbs_mul]
    have hK := Flt.K74_eq
    generalize Flt.K74 = K at *
    generalize hu : (e + 1074).toNat = U
    generalize hv : (-(e + 1074)).toNat = V
    have h : U + K = E1 + E2 + V := by omega
    rw [Nat.mul_assoc, ← Nat.pow_add, h, Nat.pow_add, Nat.pow_add, ← Nat.mul_assoc, Nat.mul_mul_mul_comm]

set_option maxRecDepth 100000 in
set_option maxHeartbeats 1600000 in
theorem ref_mul_float (x y : Nat) (hx : x < 2 ^ 64) (hy : y < 2 ^ 64) (w : World) : Calls Try.prog 18 #[.float .f64 x, .float .f64 y] w (RetPair w (IsProd x y)) := by
  cases hfx : Flt.finB x with
  | false =>
    have hc : Hid (¬ Whole2 x y) := Lib.hid (by rintro ⟨a, _⟩; exact absurd a (Flt.finB_false.1 hfx))
    have HF := Lib.hid hfx
    clear hfx
    go_enter Try.func18, Try.ntmps18
    go_wp2_with (first | (refine wpList_fmul _ rfl rfl ?_; intro s d hs; have HA := Lib.hid hs; clear hs) | (go_at_call 37; (with_reducible refine (ref_finite_any x hx _).mono ?_); rintro e1 w1 ⟨rfl, rfl⟩; rw [HF.out]))
    go_ret2
    exact ⟨s, s, rfl, ⟨fun _ => ⟨s, HA.out, rfl, rfl⟩, fun h => absurd h hc.out⟩, below_drewN (Below.refl _ _) d⟩
  | true =>
    cases hfy : Flt.finB y with
    | false =>
      have hc : Hid (¬ Whole2 x y) := Lib.hid (by rintro ⟨_, b, _⟩; exact absurd b (Flt.finB_false.1 hfy))
      have HF := Lib.hid hfx
      have HF2 := Lib.hid hfy
      clear hfx hfy
      go_enter Try.func18, Try.ntmps18
      go_wp2_with (first | (refine wpList_fmul _ rfl rfl ?_; intro s d hs; have HA := Lib.hid hs; clear hs) | (go_at_call 37; (with_reducible refine (ref_finite_any x hx _).mono ?_); rintro e1 w1 ⟨rfl, rfl⟩; rw [HF.out]) | (go_at_call 37; (with_reducible refine (ref_finite_any y hy _).mono ?_); rintro e1 w1 ⟨rfl, rfl⟩; rw [HF2.out]))
      go_ret2
      exact ⟨s, s, rfl, ⟨fun _ => ⟨s, HA.out, rfl, rfl⟩, fun h => absurd h hc.out⟩, below_drewN (Below.refl _ _) d⟩
    | true =>
      have HX := Lib.hid (Flt.finB_iff.1 hfx)
      have HY := Lib.hid (Flt.finB_iff.1 hfy)
      have HF := Lib.hid hfx
      have HF2 := Lib.hid hfy
      clear hfx hfy
      go_enter Try.func18, Try.ntmps18
      go_wp2_with (first | (refine wpList_fmul _ rfl rfl ?_; intro s d hs; have HA := Lib.hid hs; clear hs) | (go_at_call 37; (with_reducible refine (ref_finite_any x hx _).mono ?_); rintro e1 w1 ⟨rfl, rfl⟩; rw [HF.out]) | (go_at_call 37; (with_reducible refine (ref_finite_any y hy _).mono ?_); rintro e1 w1 ⟨rfl, rfl⟩; rw [HF2.out]))
      refine (ref_worth_any x hx _).mono ?_
      rintro e1 w1 ⟨neg1, A1, n1, c1, z1, E1, rfl, hI1, hE1, hz1, hw1, hb1⟩
      go_wp2_with fail
      have hi1 := hI1.alloc (.cells #[.bool neg1, .slice A1 n1 c1] 32)
      have hbw1 : Below w.heap.size w w1 := below_of_drewN (k := d) hb1
      refine (ref_worth_any y hy _).mono ?_
      rintro e2 w2 ⟨neg2, A2, n2, c2, z2, E2, rfl, hI2, hE2, hz2, hw2, hb2⟩
      have hbw2 := below_next hbw1 (below_box hb2)
      replace hi1 := hi1.below hb2
      obtain ⟨hc2, hf2⟩ := bcell hb2
      have k0 := hc2 w1.heap.size 0 (by simp)
      have k1 := hc2 w1.heap.size 1 (by simp)
      have s12 : w1.heap.size < w2.heap.size := by have := hb2.size; simp at this; omega
      have j0 : w2.cell? ⟨w1.heap.size, 0, none⟩ = some (.bool neg1) := k0.trans (by simp [go_sem])
      have j1 : w2.cell? ⟨w1.heap.size, 1, none⟩ = some (.slice A1 n1 c1) := k1.trans (by simp [go_sem])
      clear k0 k1 hc2 hf2 hb1 hb2 hbw1
      obtain ⟨w4, hw4⟩ : ∃ w4, w2.alloc (.cells #[.bool neg2, .slice A2 n2 c2] 32) = w4 := ⟨_, rfl⟩
      have l1 : IsInt w4 neg1 A1 n1 c1 z1 := by rw [← hw4]; exact hi1.alloc _
      have l2 : IsInt w4 neg2 A2 n2 c2 z2 := by rw [← hw4]; exact hI2.alloc _
      have m0 : w4.cell? ⟨w1.heap.size, 0, none⟩ = some (.bool neg1) := by rw [← hw4]; exact cell_alloc _ _ (by omega) j0
      have m1 : w4.cell? ⟨w1.heap.size, 1, none⟩ = some (.slice A1 n1 c1) := by rw [← hw4]; exact cell_alloc _ _ (by omega) j1
      have m2 : w4.cell? ⟨w2.heap.size, 0, none⟩ = some (.bool neg2) := by rw [← hw4]; simp [go_sem]
      have m3 : w4.cell? ⟨w2.heap.size, 1, none⟩ = some (.slice A2 n2 c2) := by rw [← hw4]; simp [go_sem]
      have s4 : w2.heap.size < w4.heap.size := by rw [← hw4]; simp
      have hbw4 : Below w.heap.size w w4 := by rw [← hw4]; exact hbw2.alloc hbw2.size _
      have HW4 := Lib.hid hw4
      have n1b : n1 ≤ 100 := len_small l1 (k := 53) (by decide) hz1
      have n2b : n2 ≤ 100 := len_small l2 (k := 53) (by decide) hz2
      have hz12 : Hid ((z1 * z2).natAbs < 2 ^ 106) := Lib.hid (by
        rw [Int.natAbs_mul]
        have := Nat.mul_lt_mul'' hz1 hz2
        rw [← Nat.pow_add] at this
        exact this)
      obtain ⟨ee, hee⟩ : ∃ ee, ee = (E1 : Int) - 1074 + ((E2 : Int) - 1074) := ⟨_, rfl⟩
      have heb : -1000000 ≤ ee ∧ ee ≤ 1000000 := by omega
      obtain ⟨num, hnum⟩ : ∃ num, num = (z1 * z2).natAbs * 2 ^ (ee + 1074).toNat := ⟨_, rfl⟩
      obtain ⟨den, hden⟩ : ∃ den, den = 2 ^ (-(ee + 1074)).toNat := ⟨_, rfl⟩
      have HEND : Hid (∀ d u, Told s (z1 * z2) num den d u → IsProd x y d u) := Lib.hid fun d u h => told_prod HA.out HX.out HY.out hw1 hw2 hee hnum hden h
      have HNUM := Lib.hid hnum
      have HDEN := Lib.hid hden
      have HEE := Lib.hid hee
      clear hw4 j0 j1 hi1 hbw2 hw1 hw2 hz1 hz2 hI1 hI2 hnum hden hee
      go_upto_region 6 with (fail)
      rw [HW4.out]
      clear HW4
      go_wp2_with fail
      (with_reducible refine (ref_times_int neg1 neg2 A1 A2 n1 c1 n2 c2 z1 z2 _ ?_ ?_ ?_ ?_).mono ?_)
      exact l1
      exact l2
      omega
      omega
      rintro e9 w9 ⟨neg9, A9, n9, c9, rfl, hI9, hb9⟩
      obtain ⟨hc9, hf9⟩ := bcell hb9
      have kc0 := hc9 (w1.heap.size) 0 (by first | omega | (simp <;> omega))
      have kc1 := hc9 (w1.heap.size) 1 (by first | omega | (simp <;> omega))
      have kc2 := hc9 (w2.heap.size) 0 (by first | omega | (simp <;> omega))
      have kc3 := hc9 (w2.heap.size) 1 (by first | omega | (simp <;> omega))
      have s9 : w2.heap.size < w9.heap.size := (by have := hb9.size; omega)
      have hbw9 := below_next hbw4 hb9
      have n9b := len_small hI9 (k := 106) (by decide) hz12.out
      go_wp2_with fail
      refine (ref_one_any _).mono ?_
      rintro e10 w10 ⟨neg10, A10, n10, c10, rfl, hI10, hb10⟩
      have hI910 := (hI9).below hb10
      have hbw10 := below_next hbw9 hb10
      go_wp2_with fail
      rw [← HEE.out]
      (with_reducible refine (ref_told_of s neg9 neg10 A9 A10 n9 c9 n10 c10 (z1 * z2) 1 ee num den _ ?_ ?_ ?_).mono ?_)
      exact hI910
      exact hI10
      exact fun W a b => ref_beside_pow _ _ _ _ _ _ _ _ _ _ _ _ W a b (by omega) heb HNUM HDEN
      rintro e11 w11 ⟨dd, uu, rfl, hT, hb11⟩
      have hbw11 := below_next hbw10 hb11
      have HTOLD := Lib.hid hT
      clear hT
      go_wp2_with fail
      go_ret2
      exact ⟨_, _, rfl, HEND.out _ _ HTOLD.out, hbw11⟩
end Go.Proofs.Ythddodhcpfponaa
