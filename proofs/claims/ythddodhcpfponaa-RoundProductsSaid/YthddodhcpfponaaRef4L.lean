/-
  The references' floats (polestarref04): the quotient.
-/
import Derived.Test.YthddodhcpfponaaRef4H
import Derived.Test.YthddodhcpfponaaRef4K
import Derived.Test.YthddodhcpfponaaQuo
namespace Go.Proofs.Ythddodhcpfponaa
open Go.RowKit

theorem frozen_alloc {w : World} (o : Obj) {g k : Nat} (h : g < w.heap.size) : (w.alloc o).frozen? ⟨g, k, none⟩ = w.frozen? ⟨g, k, none⟩ :=
  ((Below.refl w.heap.size w).alloc (Nat.le_refl _) o).frozen (p := ⟨g, k, none⟩) h

/-- Beside a fraction times a power of two. -/
theorem ref_beside_frac (neg negq : Bool) (A Aq : Option Addr) (n c nq cq : Nat) (z e : Int) (D num den : Nat) (w : World) (hp : IsInt w neg A n c z) (hq : IsInt w negq Aq nq cq (D : Int)) (hn : n ≤ 10000) (hnq : nq ≤ 10000) (hD : D ≠ 0) (he : -10000 ≤ e ∧ e ≤ 10000)
    (hnum : Hid (num = z.natAbs * 2 ^ (e + 1074).toNat)) (hden : Hid (den = D * 2 ^ (-(e + 1074)).toNat)) :
    Calls Try.prog 44 #[.agg #[.bool neg, .slice A n c], .agg #[.bool negq, .slice Aq nq cq], .int .i64 e] w (RetPair w (Brk (decide (z < 0)) num den)) := by
  refine ref_beside_gen neg negq A Aq n c nq cq z (D : Int) e num den w hp hq (by omega) (fun W neg' A' n' c' h1 h2 => ?_) (fun h => ?_)
  · have hneg : neg' = false := by
      obtain ⟨l, _, cl, hl, hz⟩ := h1
      cases neg' with
      | false => rfl
      | true =>
        have h0 : Lm.lv l = 0 := by unfold sgnd at hz; simp at hz; omega
        exact hl ((Lm.lv_zero cl).1 h0)
    subst hneg
    have hn' : n' ≤ n := isInt_len_mono h1 hp (by simp)
    rw [hnum.out, hden.out]
    by_cases h1' : D = 1
    · subst h1'
      rw [Nat.one_mul]
      exact ref_under_one negq A' Aq n' c' nq cq z.natAbs e W h1 h2 (by omega) (by omega)
    · exact ref_under_long negq A' Aq n' c' nq cq z.natAbs D e W h1 h2 (by omega) hnq hD h1' (by omega)
  · rw [hnum.out]
    exact Nat.mul_pos (by omega) (Nat.two_pow_pos _)

theorem told_div {x y s : Nat} {z1 z2 zA e : Int} {E1 E2 d u num den : Nat} (hop : IsOp Ieee.double.div x y s) (hx : Flt.Fin x) (hy : Flt.Fin y) (h0 : Flt.rg y ≠ 0) (h1 : z1 * ((2 ^ E1 : Nat) : Int) = Flt.sv x) (h2 : z2 * ((2 ^ E2 : Nat) : Int) = Flt.sv y)
    (he : e = (E1 : Int) - 1074 - ((E2 : Int) - 1074)) (hnum : num = z1.natAbs * 2 ^ (e + 1074).toNat) (hden : den = z2.natAbs * 2 ^ (-(e + 1074)).toNat) (hzA : zA = if z2 < 0 then -z1 else z1) (h : Told s zA num den d u) : IsDiv x y d u := by
  obtain ⟨a1, b1, c1⟩ := scaled_abs h1
  obtain ⟨a2, b2, c2⟩ := scaled_abs h2
  rw [Flt.sv_zero_iff] at b1 b2
  rw [sv_abs] at a1 a2
  have k2 : z2 ≠ 0 := fun h' => h0 (b2.1 h')
  by_cases hz : z1 = 0
  · have hw : ¬ Whole2 x y := by
      rintro ⟨_, _, k1, _⟩
      exact k1 (b1.1 hz)
    obtain ⟨r1, r2⟩ := h.1 (by rw [hzA, hz]; split <;> rfl)
    exact ⟨fun _ => ⟨s, hop, r1, r2⟩, fun h' => absurd h' hw⟩
  · have r1 : Flt.rg x ≠ 0 := fun h' => hz (b1.2 h')
    refine ⟨fun h' => absurd ⟨hx, hy, r1, h0⟩ h', fun _ => ?_⟩
    have hb := h.2 (by rw [hzA]; split <;> omega)
    have hs : decide (zA < 0) = (Flt.sgn x ^^ Flt.sgn y) := by
      rw [← sv_neg r1, ← sv_neg h0, ← decide_eq_decide.2 c1, ← decide_eq_decide.2 c2, hzA]
      by_cases h3 : z2 < 0
      · rw [if_pos h3, decide_eq_true h3]
        by_cases h4 : z1 < 0
        · rw [decide_eq_true h4, decide_eq_false (show ¬ -z1 < 0 by omega)]; rfl
        · rw [decide_eq_false h4, decide_eq_true (show -z1 < 0 by omega)]; rfl
      · rw [if_neg h3, decide_eq_false h3]
        cases decide (z1 < 0) <;> rfl
    rw [hs] at hb
    refine hb.cross (by rw [hden]; exact Nat.mul_pos (by omega) (Nat.two_pow_pos _)) (val_pos h0) ?_
    rw [hnum, hden, ← a1, ← a2]
    have hK := Flt.K74_eq
    generalize Flt.K74 = K at *
    generalize hu : (e + 1074).toNat = U
    generalize hv : (-(e + 1074)).toNat = V
    have h : U + E2 = E1 + K + V := by omega
    have l : z1.natAbs * 2 ^ U * (z2.natAbs * 2 ^ E2) = z1.natAbs * z2.natAbs * 2 ^ (U + E2) := by rw [Nat.mul_mul_mul_comm, ← Nat.pow_add]
    have r : z1.natAbs * 2 ^ E1 * 2 ^ K * (z2.natAbs * 2 ^ V) = z1.natAbs * z2.natAbs * 2 ^ (E1 + K + V) := by
      rw [Nat.mul_assoc z1.natAbs, ← Nat.pow_add, Nat.mul_mul_mul_comm, ← Nat.pow_add]
    rw [l, r, h]

set_option maxRecDepth 100000 in
set_option maxHeartbeats 1600000 in
theorem ref_quo_float (x y : Nat) (hx : x < 2 ^ 64) (hy : y < 2 ^ 64) (w : World) : Calls Try.prog 20 #[.float .f64 x, .float .f64 y] w (RetPair w (IsDiv x y)) := by
  cases hfx : Flt.finB x with
  | false =>
    have hc : Hid (¬ Whole2 x y) := Lib.hid (by rintro ⟨a, _⟩; exact absurd a (Flt.finB_false.1 hfx))
    have HF := Lib.hid hfx
    clear hfx
    go_enter Try.func20, Try.ntmps20
    go_wp2_with (first | (refine wpList_fquo _ rfl rfl ?_; intro s d hs; have HA := Lib.hid hs; clear hs) | (go_at_call 37; (with_reducible refine (ref_finite_any x hx _).mono ?_); rintro e1 w1 ⟨rfl, rfl⟩; rw [HF.out]))
    go_ret2
    exact ⟨s, s, rfl, ⟨fun _ => ⟨s, HA.out, rfl, rfl⟩, fun h => absurd h hc.out⟩, below_drewN (Below.refl _ _) d⟩
  | true =>
    cases hfy : Flt.finB y with
    | false =>
      have hc : Hid (¬ Whole2 x y) := Lib.hid (by rintro ⟨_, b, _⟩; exact absurd b (Flt.finB_false.1 hfy))
      have HF := Lib.hid hfx
      have HF2 := Lib.hid hfy
      clear hfx hfy
      go_enter Try.func20, Try.ntmps20
      go_wp2_with (first | (refine wpList_fquo _ rfl rfl ?_; intro s d hs; have HA := Lib.hid hs; clear hs) | (go_at_call 37; (with_reducible refine (ref_finite_any x hx _).mono ?_); rintro e1 w1 ⟨rfl, rfl⟩; rw [HF.out]) | (go_at_call 37; (with_reducible refine (ref_finite_any y hy _).mono ?_); rintro e1 w1 ⟨rfl, rfl⟩; rw [HF2.out]))
      go_ret2
      exact ⟨s, s, rfl, ⟨fun _ => ⟨s, HA.out, rfl, rfl⟩, fun h => absurd h hc.out⟩, below_drewN (Below.refl _ _) d⟩
    | true =>
      have HX := Lib.hid (Flt.finB_iff.1 hfx)
      have HY := Lib.hid (Flt.finB_iff.1 hfy)
      have zy := eq_zero (fin_not_nan HY.out)
      have HF := Lib.hid hfx
      have HF2 := Lib.hid hfy
      clear hfx hfy
      by_cases k0 : Flt.rg y = 0
      · have hc : Hid (¬ Whole2 x y) := Lib.hid (by rintro ⟨_, _, _, a⟩; exact a k0)
        rw [decide_eq_true k0] at zy
        clear k0
        go_enter Try.func20, Try.ntmps20
        go_wp2_with (first | (refine wpList_fquo _ rfl rfl ?_; intro s d hs; have HA := Lib.hid hs; clear hs) | (go_at_call 37; (with_reducible refine (ref_finite_any x hx _).mono ?_); rintro e1 w1 ⟨rfl, rfl⟩; rw [HF.out]) | (go_at_call 37; (with_reducible refine (ref_finite_any y hy _).mono ?_); rintro e1 w1 ⟨rfl, rfl⟩; rw [HF2.out]))
        go_ret2
        exact ⟨s, s, rfl, ⟨fun _ => ⟨s, HA.out, rfl, rfl⟩, fun h => absurd h hc.out⟩, below_drewN (Below.refl _ _) d⟩
      rw [decide_eq_false k0] at zy
      have K0 := Lib.hid k0
      clear k0
      go_enter Try.func20, Try.ntmps20
      go_wp2_with (first | (refine wpList_fquo _ rfl rfl ?_; intro s d hs; have HA := Lib.hid hs; clear hs) | (go_at_call 37; (with_reducible refine (ref_finite_any x hx _).mono ?_); rintro e1 w1 ⟨rfl, rfl⟩; rw [HF.out]) | (go_at_call 37; (with_reducible refine (ref_finite_any y hy _).mono ?_); rintro e1 w1 ⟨rfl, rfl⟩; rw [HF2.out]))
      refine (ref_worth_any x hx _).mono ?_
      rintro e1 w1 ⟨neg1, A1, n1, c1, z1, E1, rfl, hI1, hE1, hz1, hw1, hb1⟩
      go_wp2_with fail
      have hi1 := hI1.alloc (.cells #[.bool neg1, .slice A1 n1 c1] 32)
      have hbw1 : Below w.heap.size w w1 := below_of_drewN (k := d) hb1
      refine (ref_worth_any y hy _).mono ?_
      rintro e2 w2 ⟨neg2, A2, n2, c2, z2, E2, rfl, hI2, hE2, hz2, hw2, hb2⟩
      have hbw2 := below_next hbw1 (below_box hb2)
      replace hi1 := hi1.below hb2
      obtain ⟨hc2, hf2⟩ := bcell hb2
      have k0 := hc2 w1.heap.size 0 (by simp)
      have k1 := hc2 w1.heap.size 1 (by simp)
      have s12 : w1.heap.size < w2.heap.size := by have := hb2.size; simp at this; omega
      have j0 : w2.cell? ⟨w1.heap.size, 0, none⟩ = some (.bool neg1) := k0.trans (by simp [go_sem])
      have j1 : w2.cell? ⟨w1.heap.size, 1, none⟩ = some (.slice A1 n1 c1) := k1.trans (by simp [go_sem])
      have g0 : w2.frozen? ⟨w1.heap.size, 0, none⟩ = false := (hf2 w1.heap.size 0 (by simp)).trans (by simp [go_sem])
      have g1 : w2.frozen? ⟨w1.heap.size, 1, none⟩ = false := (hf2 w1.heap.size 1 (by simp)).trans (by simp [go_sem])
      have hs1 : w.heap.size ≤ w1.heap.size := hbw1.size
      clear k0 k1 hc2 hf2 hb1 hb2 hbw1
      obtain ⟨w4, hw4⟩ : ∃ w4, w2.alloc (.cells #[.bool neg2, .slice A2 n2 c2] 32) = w4 := ⟨_, rfl⟩
      have l1 : IsInt w4 neg1 A1 n1 c1 z1 := by rw [← hw4]; exact hi1.alloc _
      have l2 : IsInt w4 neg2 A2 n2 c2 z2 := by rw [← hw4]; exact hI2.alloc _
      have m0 : w4.cell? ⟨w1.heap.size, 0, none⟩ = some (.bool neg1) := by rw [← hw4]; exact cell_alloc _ _ (by omega) j0
      have m1 : w4.cell? ⟨w1.heap.size, 1, none⟩ = some (.slice A1 n1 c1) := by rw [← hw4]; exact cell_alloc _ _ (by omega) j1
      have m2 : w4.cell? ⟨w2.heap.size, 0, none⟩ = some (.bool neg2) := by rw [← hw4]; simp [go_sem]
      have m3 : w4.cell? ⟨w2.heap.size, 1, none⟩ = some (.slice A2 n2 c2) := by rw [← hw4]; simp [go_sem]
      have s4 : w2.heap.size < w4.heap.size := by rw [← hw4]; simp
      have hbw4 : Below w.heap.size w w4 := by rw [← hw4]; exact hbw2.alloc hbw2.size _
      have HW4 := Lib.hid hw4
      have f0 : w4.frozen? ⟨w1.heap.size, 0, none⟩ = false := by rw [← hw4]; exact (frozen_alloc _ (by omega)).trans g0
      have f1 : w4.frozen? ⟨w1.heap.size, 1, none⟩ = false := by rw [← hw4]; exact (frozen_alloc _ (by omega)).trans g1
      have n1b : n1 ≤ 100 := len_small l1 (k := 53) (by decide) hz1
      have n2b : n2 ≤ 100 := len_small l2 (k := 53) (by decide) hz2
      obtain ⟨ee, hee⟩ : ∃ ee, ee = (E1 : Int) - 1074 - ((E2 : Int) - 1074) := ⟨_, rfl⟩
      have heb : -10000 ≤ ee ∧ ee ≤ 10000 := by omega
      obtain ⟨num, hnum⟩ : ∃ num, num = z1.natAbs * 2 ^ (ee + 1074).toNat := ⟨_, rfl⟩
      obtain ⟨den, hden⟩ : ∃ den, den = z2.natAbs * 2 ^ (-(ee + 1074)).toNat := ⟨_, rfl⟩
      obtain ⟨zA, hzA⟩ : ∃ zA : Int, zA = if z2 < 0 then -z1 else z1 := ⟨_, rfl⟩
      have hzA1 : zA.natAbs = z1.natAbs := by rw [hzA]; split <;> omega
      have HEND : Hid (∀ d u, Told s zA num den d u → IsDiv x y d u) := Lib.hid fun d u h => told_div HA.out HX.out HY.out K0.out hw1 hw2 hee hnum hden hzA h
      have hz2n : Hid (z2.natAbs ≠ 0) := Lib.hid (fun h => by
        have h1 := (scaled_abs hw2).2.1.1 (by omega)
        exact K0.out (Flt.sv_zero_iff.1 h1))
      have hzA2 : Hid (zA.natAbs < 2 ^ 53) := Lib.hid (by rw [hzA1]; exact hz1)
      have hz2b : Hid (z2.natAbs < 2 ^ 53) := Lib.hid hz2
      have HNUM : Hid (num = zA.natAbs * 2 ^ (ee + 1074).toNat) := Lib.hid (by rw [hzA1]; exact hnum)
      have HDEN := Lib.hid hden
      have HEE := Lib.hid hee
      have HWE : Hid (IntKind.i64.wrap ee = ee) := Lib.hid (IntWalk.i64_in _ (by omega))
      obtain ⟨t, ht⟩ : ∃ t, z2.sign = t := ⟨_, rfl⟩
      have ht0 : t < 0 ↔ z2 < 0 := by rw [← ht]; exact Int.sign_neg_iff
      have HT := Lib.hid ht
      clear hw4 j0 j1 hi1 hbw2 hw1 hw2 hz1 hz2 hI1 hI2 hnum hden hee ht hzA1
      go_upto_region 6 with (fail)
      rw [HW4.out]
      clear HW4
      go_wp2_with fail
      refine (ref_sign_of neg2 A2 n2 c2 z2 t _ l2 HT).mono ?_
      rintro e5 w5 ⟨rfl, hb5⟩
      obtain ⟨hc5, hf5⟩ := bcell hb5
      have y0 := (hc5 w1.heap.size 0 (by omega)).trans m0
      have y1 := (hc5 w1.heap.size 1 (by omega)).trans m1
      have y2 := (hc5 w2.heap.size 0 (by omega)).trans m2
      have y3 := (hc5 w2.heap.size 1 (by omega)).trans m3
      have y4 := (hf5 w1.heap.size 0 (by omega)).trans f0
      have y5 := (hf5 w1.heap.size 1 (by omega)).trans f1
      have q1 := l1.below hb5
      have q2 := l2.below hb5
      have s5 : w2.heap.size < w5.heap.size := by have := hb5.size; omega
      have hbw5 := below_next hbw4 hb5
      clear hc5 hf5 hb5 m0 m1 m2 m3 l1 l2 hbw4 s4 f0 f1
      by_cases hneg : t < 0
      · have HZ : Hid (zA = -z1) := Lib.hid (by rw [hzA, if_pos (ht0.1 hneg)])
        clear hzA ht0
        go_wp2_with fail
        refine (ref_turned_any _ _ _ _ _ _ q1 (by omega)).mono ?_
        rintro e6 w6 ⟨neg6, A6, n6, c6, rfl, hI6, hb6⟩
        rw [← HZ.out] at hI6
        obtain ⟨hc6, hf6⟩ := bcell hb6
        have x0 := (hc6 w1.heap.size 0 (by omega)).trans y0
        have x1 := (hc6 w1.heap.size 1 (by omega)).trans y1
        have x2 := (hc6 w2.heap.size 0 (by omega)).trans y2
        have x3 := (hc6 w2.heap.size 1 (by omega)).trans y3
        have x4 := (hf6 w1.heap.size 0 (by omega)).trans y4
        have x5 := (hf6 w1.heap.size 1 (by omega)).trans y5
        have s6 : w2.heap.size < w6.heap.size := by have := hb6.size; omega
        have q26 := q2.below hb6
        have n6b : n6 ≤ 100 := len_small hI6 (k := 53) (by decide) hzA2.out
        have k1 := isInt_result hI6 x0 x1 (.bool neg6) (.slice A6 n6 c6)
        have k2 := isInt_result q26 x0 x1 (.bool neg6) (.slice A6 n6 c6)
        have hne : ¬ w2.heap.size = w1.heap.size := by omega
        have z2' := (cell_far w6 w1.heap.size (.bool neg6) (.slice A6 n6 c6) ⟨w2.heap.size, 0, none⟩ hne).trans x2
        have z3' := (cell_far w6 w1.heap.size (.bool neg6) (.slice A6 n6 c6) ⟨w2.heap.size, 1, none⟩ hne).trans x3
        have hbw6 : Below w.heap.size w ((w6.setCell ⟨w1.heap.size, 0, none⟩ (.bool neg6)).setCell ⟨w1.heap.size, 1, none⟩ (.slice A6 n6 c6)) := below_result (below_next hbw5 hb6) hs1 _ _
        have z0' : ((w6.setCell ⟨w1.heap.size, 0, none⟩ (.bool neg6)).setCell ⟨w1.heap.size, 1, none⟩ (.slice A6 n6 c6)).cell? ⟨w1.heap.size, 0, none⟩ = some (.bool neg6) := by simp [go_sem, x0]
        have z1' : ((w6.setCell ⟨w1.heap.size, 0, none⟩ (.bool neg6)).setCell ⟨w1.heap.size, 1, none⟩ (.slice A6 n6 c6)).cell? ⟨w1.heap.size, 1, none⟩ = some (.slice A6 n6 c6) := by simp [go_sem, x1]
        obtain ⟨W1, hW1⟩ : ∃ W1, W1 = ((w6.setCell ⟨w1.heap.size, 0, none⟩ (.bool neg6)).setCell ⟨w1.heap.size, 1, none⟩ (.slice A6 n6 c6)) := ⟨_, rfl⟩
        have hzW : w6.heap.size = W1.heap.size := by rw [hW1]; simp [World.setCell]
        go_upto_region 8 with (fail)
        rw [← hW1]
        rw [← hW1] at k1 k2 hbw6 z0' z1' z2' z3'
        have s7 : w2.heap.size < W1.heap.size := by omega
        clear hW1 hzW x0 x1 x2 x3 x4 x5 y0 y1 y2 y3 y4 y5 hc6 hf6 hb6 q26 hI6 hbw5 q1 q2 s6 s5 hne
        go_region_held3 (fun w' => w'.cell? ⟨w1.heap.size, 0, none⟩ = some (.bool neg6) ∧ w'.cell? ⟨w1.heap.size, 1, none⟩ = some (.slice A6 n6 c6) ∧ w'.cell? ⟨w2.heap.size, 0, none⟩ = some (.bool neg2) ∧ w'.cell? ⟨w2.heap.size, 1, none⟩ = some (.slice A2 n2 c2))
          (go_keep)
          (first
          | (go_at_call 58; (with_reducible refine (ref_size_any neg2 A2 n2 c2 z2 _ ?_ ?_).mono ?_); exact k2.drewN 1; omega; rintro e9 w9 ⟨neg9, A9, n9, c9, rfl, hI9, hb9⟩; obtain ⟨hc9, hf9⟩ := bcell hb9; have kc0 := hc9 (w1.heap.size) 0 (by first | omega | (simp <;> omega)); have kc1 := hc9 (w1.heap.size) 1 (by first | omega | (simp <;> omega)); have kc2 := hc9 (w2.heap.size) 0 (by first | omega | (simp <;> omega)); have kc3 := hc9 (w2.heap.size) 1 (by first | omega | (simp <;> omega)); have s9 : w2.heap.size < w9.heap.size := (by have := hb9.size; simp at this; omega); have k19 := (k1.drewN 1).below hb9; have hbw9 := below_next hbw6 (below_of_drew hb9); have n9b := len_small hI9 (k := 53) (by decide) (by rw [Int.natAbs_natCast]; exact hz2b.out))
          | (go_at_call 49; rw [← HEE.out, HWE.out]; (with_reducible refine (ref_told_of s neg6 neg9 A6 A9 n6 c6 n9 c9 zA (z2.natAbs : Nat) ee num den _ ?_ ?_ ?_).mono ?_); exact k19; exact hI9; exact fun W a b => ref_beside_frac _ _ _ _ _ _ _ _ _ _ _ _ _ W a b (by omega) (by omega) hz2n.out heb HNUM HDEN; rintro e11 w11 ⟨dd, uu, rfl, hT, hb11⟩; obtain ⟨hc11, hf11⟩ := bcell hb11; have ke0 := hc11 (w1.heap.size) 0 (by omega); have ke1 := hc11 (w1.heap.size) 1 (by omega); have ke2 := hc11 (w2.heap.size) 0 (by omega); have ke3 := hc11 (w2.heap.size) 1 (by omega); have hbw11 := below_next hbw9 hb11; have HTOLD := Lib.hid hT; clear hT))
        go_wp2_with fail
        go_ret2
        exact ⟨_, _, rfl, HEND.out _ _ HTOLD.out, hbw11⟩
      · have HZ : Hid (zA = z1) := Lib.hid (by rw [hzA, if_neg (fun h => hneg (ht0.2 h))])
        clear hzA ht0
        have k1 : IsInt w5 neg1 A1 n1 c1 zA := by rw [HZ.out]; exact q1
        have k2 := q2
        have z0' := y0
        have z1' := y1
        have z2' := y2
        have z3' := y3
        have s7 := s5
        have hbw6 := hbw5
        obtain ⟨W1, hW1⟩ : ∃ W1, W1 = w5 := ⟨_, rfl⟩
        go_upto_region 8 with (fail)
        rw [← hW1]
        rw [← hW1] at k1 k2 hbw6 z0' z1' z2' z3' s7
        clear hW1 y0 y1 y2 y3 y4 y5 hbw5 q1 q2 s5
        go_region_held3 (fun w' => w'.cell? ⟨w1.heap.size, 0, none⟩ = some (.bool neg1) ∧ w'.cell? ⟨w1.heap.size, 1, none⟩ = some (.slice A1 n1 c1) ∧ w'.cell? ⟨w2.heap.size, 0, none⟩ = some (.bool neg2) ∧ w'.cell? ⟨w2.heap.size, 1, none⟩ = some (.slice A2 n2 c2))
          (go_keep)
          (first
          | (go_at_call 58; (with_reducible refine (ref_size_any neg2 A2 n2 c2 z2 _ ?_ ?_).mono ?_); exact k2.drewN 1; omega; rintro e9 w9 ⟨neg9, A9, n9, c9, rfl, hI9, hb9⟩; obtain ⟨hc9, hf9⟩ := bcell hb9; have kc0 := hc9 (w1.heap.size) 0 (by first | omega | (simp <;> omega)); have kc1 := hc9 (w1.heap.size) 1 (by first | omega | (simp <;> omega)); have kc2 := hc9 (w2.heap.size) 0 (by first | omega | (simp <;> omega)); have kc3 := hc9 (w2.heap.size) 1 (by first | omega | (simp <;> omega)); have s9 : w2.heap.size < w9.heap.size := (by have := hb9.size; simp at this; omega); have k19 := (k1.drewN 1).below hb9; have hbw9 := below_next hbw6 (below_of_drew hb9); have n9b := len_small hI9 (k := 53) (by decide) (by rw [Int.natAbs_natCast]; exact hz2b.out))
          | (go_at_call 49; rw [← HEE.out, HWE.out]; (with_reducible refine (ref_told_of s neg1 neg9 A1 A9 n1 c1 n9 c9 zA (z2.natAbs : Nat) ee num den _ ?_ ?_ ?_).mono ?_); exact k19; exact hI9; exact fun W a b => ref_beside_frac _ _ _ _ _ _ _ _ _ _ _ _ _ W a b (by omega) (by omega) hz2n.out heb HNUM HDEN; rintro e11 w11 ⟨dd, uu, rfl, hT, hb11⟩; obtain ⟨hc11, hf11⟩ := bcell hb11; have ke0 := hc11 (w1.heap.size) 0 (by omega); have ke1 := hc11 (w1.heap.size) 1 (by omega); have ke2 := hc11 (w2.heap.size) 0 (by omega); have ke3 := hc11 (w2.heap.size) 1 (by omega); have hbw11 := below_next hbw9 hb11; have HTOLD := Lib.hid hT; clear hT))
        go_wp2_with fail
        go_ret2
        exact ⟨_, _, rfl, HEND.out _ _ HTOLD.out, hbw11⟩
end Go.Proofs.Ythddodhcpfponaa
