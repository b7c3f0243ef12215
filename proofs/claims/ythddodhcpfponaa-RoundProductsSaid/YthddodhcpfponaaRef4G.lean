/-
  The references' floats (polestarref04): told; the sum and the difference.
-/
import Derived.Test.YthddodhcpfponaaRndC
namespace Go.Proofs.Ythddodhcpfponaa
open Go.RowKit

theorem ref_beside_pair (neg negq : Bool) (A Aq : Option Addr) (n c nq cq : Nat) (z e : Int) (num : Nat) (w : World) (hp : IsInt w neg A n c z) (hq : IsInt w negq Aq nq cq 1) (hn : n ≤ 1000000) (he : -1074 ≤ e ∧ e ≤ 1000000) (hnum : Hid (z.natAbs * 2 ^ (e + 1074).toNat = num)) :
    Calls Try.prog 44 #[.agg #[.bool neg, .slice A n c], .agg #[.bool negq, .slice Aq nq cq], .int .i64 e] w (RetPair w (Brk (decide (z < 0)) num 1)) := by
  refine (ref_beside_int neg negq A Aq n c nq cq z e num w hp hq hn he hnum).mono ?_
  rintro _ w' ⟨r, rfl, hd, hb⟩
  exact ⟨_, _, rfl, ⟨r, hd, rfl, rfl⟩, hb⟩

def Told (own : Nat) (z : Int) (num den d u : Nat) : Prop := (z = 0 → d = own ∧ u = own) ∧ (z ≠ 0 → Brk (decide (z < 0)) num den d u)

set_option maxHeartbeats 800000 in
theorem ref_told_of (own : Nat) (neg negq : Bool) (A Aq : Option Addr) (n c nq cq : Nat) (z q e : Int) (num den : Nat) (w : World) (hp : IsInt w neg A n c z) (hq : IsInt w negq Aq nq cq q)
    (hB : ∀ W : World, IsInt W neg A n c z → IsInt W negq Aq nq cq q → Calls Try.prog 44 #[.agg #[.bool neg, .slice A n c], .agg #[.bool negq, .slice Aq nq cq], .int .i64 e] W (RetPair W (Brk (decide (z < 0)) num den))) :
    Calls Try.prog 49 #[.float .f64 own, .agg #[.bool neg, .slice A n c], .agg #[.bool negq, .slice Aq nq cq], .int .i64 e] w (RetPair w (Told own z num den)) := by
  have HB := Lib.hid hB
  clear hB
  have hp2 := (hp.alloc (.cells #[.bool neg, .slice A n c] 32)).alloc (.cells #[.bool negq, .slice Aq nq cq] 32)
  have hq2 := (hq.alloc (.cells #[.bool neg, .slice A n c] 32)).alloc (.cells #[.bool negq, .slice Aq nq cq] 32)
  obtain ⟨t, ht⟩ : ∃ t, z.sign = t := ⟨_, rfl⟩
  have ht0 : (t = 0) ↔ z = 0 := by rw [← ht]; exact Int.sign_eq_zero_iff_zero
  have HT := Lib.hid ht
  clear ht
  by_cases h0 : t = 0
  · have hz := Lib.hid (ht0.1 h0)
    clear ht0
    go_enter Try.func49, Try.ntmps49
    go_wp2_with (go_at_call 43; refine (ref_sign_of _ _ _ _ _ t _ (by exact hp2) HT).mono ?_; rintro e1 w1 ⟨rfl, hb1⟩)
    go_ret2
    exact ⟨_, _, rfl, ⟨fun _ => ⟨rfl, rfl⟩, fun h => absurd hz.out h⟩, below_box (below_box hb1)⟩
  · have hz : Hid (z ≠ 0) := Lib.hid (fun h => h0 (ht0.2 h))
    clear ht0
    go_enter Try.func49, Try.ntmps49
    go_wp2_with fail
    refine (ref_sign_of _ _ _ _ _ t _ (by exact hp2) HT).mono ?_
    rintro e1 w1 ⟨rfl, hb1⟩
    obtain ⟨hc1, hf1⟩ := bcell hb1
    have k0 := hc1 w.heap.size 0 (by simp <;> omega)
    have k1 := hc1 w.heap.size 1 (by simp <;> omega)
    have k2 := hc1 (w.heap.size + 1) 0 (by simp <;> omega)
    have k3 := hc1 (w.heap.size + 1) 1 (by simp <;> omega)
    have hp3 := hp2.below hb1
    have hq3 := hq2.below hb1
    have hbw := below_box (below_box hb1)
    go_wp2_with fail
    refine (HB.out _ hp3 hq3).mono ?_
    rintro e2 w2 ⟨d, u, rfl, hbr, hb2⟩
    have HR := Lib.hid hbr
    clear hbr
    go_wp2_with fail
    go_ret2
    exact ⟨_, _, rfl, ⟨fun h => absurd h hz.out, fun _ => HR.out⟩, below_next hbw hb2⟩

theorem sum2_small {a b : Int} {K : Nat} (ha : a.natAbs < 2 ^ K) (hb : b.natAbs < 2 ^ K) : (a + b).natAbs < 2 ^ (K + 1) := by
  have e1 : 2 ^ (K + 1) = 2 ^ K * 2 := by rw [Nat.pow_succ]
  rw [e1]
  generalize 2 ^ K = M at *
  omega
theorem least2_facts {z1 z2 g1 g2 L : Int} (b1 : -1074 ≤ g1 ∧ g1 ≤ 972) (b2 : -1074 ≤ g2 ∧ g2 ≤ 972) (hL : lst z1 g1 z2 g2 = L) :
    (z1 = 0 ∨ 0 ≤ g1 - L) ∧ (z2 = 0 ∨ 0 ≤ g2 - L) ∧ -1074 ≤ L ∧ L ≤ 972 := by
  obtain ⟨a1, a2, a3⟩ := @lst_ge z1 z2 g1 g2
  rw [hL] at a1 a2 a3
  omega
/-- What is told of a sum by its exact worth. -/
theorem told_sum {x y s : Nat} {u : Int} {k d v : Nat} (hA : Flt.IsAdd x y s) (hx : Flt.Fin x) (hy : Flt.Fin y) (hu : u * ((2 ^ k : Nat) : Int) = Flt.sv x + Flt.sv y) (h : Told s u (u.natAbs * 2 ^ k) 1 d v) : IsSum x y d v := by
  have hp : (0 : Int) < ((2 ^ k : Nat) : Int) := by exact_mod_cast Nat.two_pow_pos k
  have hz : u = 0 ↔ Flt.sv x + Flt.sv y = 0 := by
    rw [← hu]
    constructor
    · rintro rfl; simp
    · intro e; rcases Int.mul_eq_zero.1 e with e | e
      · exact e
      · omega
  have hneg : (u < 0) ↔ (Flt.sv x + Flt.sv y < 0) := by
    rw [← hu]
    constructor
    · intro h; exact Int.mul_neg_of_neg_of_pos h hp
    · intro h
      by_cases k : u < 0
      · exact k
      · have := Int.mul_nonneg (Int.not_lt.1 k) (Int.le_of_lt hp); omega
  have habs : u.natAbs * 2 ^ k = (Flt.sv x + Flt.sv y).natAbs := by rw [← hu, Int.natAbs_mul, Int.natAbs_natCast]
  refine ⟨s, hA, fun hc => ?_, fun _ _ hne => ?_⟩
  · rcases hc with hc | hc
    · exact absurd ⟨hx, hy⟩ hc
    · exact h.1 (hz.2 hc)
  · have := h.2 (fun e => hne (hz.1 e))
    rw [habs] at this
    rwa [show decide (u < 0) = decide (Flt.sv x + Flt.sv y < 0) by simp [hneg]] at this

set_option maxRecDepth 100000 in
set_option maxHeartbeats 1600000 in
theorem ref_add_float (x y : Nat) (hx : x < 2 ^ 64) (hy : y < 2 ^ 64) (w : World) : Calls Try.prog 14 #[.float .f64 x, .float .f64 y] w (RetPair w (IsSum x y)) := by
  go_enter Try.func14, Try.ntmps14
  go_wp2_with fail
  refine upon_fadd ?_
  intro s d hs
  have hs64 : s < 2 ^ 64 := hs.1
  have HA : Hid (Flt.IsAdd x y s) := Lib.hid hs
  clear hs
  cases hfx : Flt.finB x with
  | false =>
    have hc : Hid (¬ (Flt.Fin x ∧ Flt.Fin y)) := Lib.hid (by rintro ⟨a, b⟩; exact absurd a (Flt.finB_false.1 hfx))
    have HF := Lib.hid hfx
    clear hfx
    go_wp2_with (first | (go_at_call 37; (with_reducible refine (ref_finite_any x hx _).mono ?_); rintro e1 w1 ⟨rfl, rfl⟩; rw [HF.out]))
    go_ret2
    exact ⟨_, _, rfl, sum_own HA.out hc.out, below_drewN (Below.refl _ _) d⟩
  | true =>
    cases hfy : Flt.finB y with
    | false =>
      have hc : Hid (¬ (Flt.Fin x ∧ Flt.Fin y)) := Lib.hid (by rintro ⟨a, b⟩; exact absurd b (Flt.finB_false.1 hfy))
      have HF := Lib.hid hfx
      have HF2 := Lib.hid hfy
      clear hfx hfy
      go_wp2_with (first | (go_at_call 37; (with_reducible refine (ref_finite_any x hx _).mono ?_); rintro e1 w1 ⟨rfl, rfl⟩; rw [HF.out]) | (go_at_call 37; (with_reducible refine (ref_finite_any y hy _).mono ?_); rintro e1 w1 ⟨rfl, rfl⟩; rw [HF2.out]))
      go_ret2
      exact ⟨_, _, rfl, sum_own HA.out hc.out, below_drewN (Below.refl _ _) d⟩
    | true =>
      have HX := Lib.hid (Flt.finB_iff.1 hfx)
      have HY := Lib.hid (Flt.finB_iff.1 hfy)
      have HF := Lib.hid hfx
      have HF2 := Lib.hid hfy
      clear hfx hfy
      go_wp2_with (first | (go_at_call 37; (with_reducible refine (ref_finite_any x hx _).mono ?_); rintro e1 w1 ⟨rfl, rfl⟩; rw [HF.out]) | (go_at_call 37; (with_reducible refine (ref_finite_any y hy _).mono ?_); rintro e1 w1 ⟨rfl, rfl⟩; rw [HF2.out]))
      refine (ref_worth_any x hx _).mono ?_
      rintro e1 w1 ⟨neg1, A1, n1, c1, z1, E1, rfl, hI1, hE1, hz1, hw1, hb1⟩
      go_wp2_with fail
      have hi1 := hI1.alloc (.cells #[.bool neg1, .slice A1 n1 c1] 32)
      have hbw1 : Below w.heap.size w w1 := below_of_drewN (k := d) hb1
      refine (ref_worth_any y hy _).mono ?_
      rintro e2 w2 ⟨neg2, A2, n2, c2, z2, E2, rfl, hI2, hE2, hz2, hw2, hb2⟩
      have hbw2 := below_next hbw1 (below_box hb2)
      replace hi1 := hi1.below hb2
      obtain ⟨hc2, hf2⟩ := bcell hb2
      have k0 := hc2 w1.heap.size 0 (by simp)
      have k1 := hc2 w1.heap.size 1 (by simp)
      have s12 : w1.heap.size < w2.heap.size := by have := hb2.size; simp at this; omega
      have j0 : w2.cell? ⟨w1.heap.size, 0, none⟩ = some (.bool neg1) := k0.trans (by simp [go_sem])
      have j1 : w2.cell? ⟨w1.heap.size, 1, none⟩ = some (.slice A1 n1 c1) := k1.trans (by simp [go_sem])
      clear k0 k1 hc2 hf2 hb1 hb2 hbw1
      obtain ⟨g1, hg1⟩ : ∃ g : Int, (E1 : Int) - 1074 = g := ⟨_, rfl⟩
      obtain ⟨g2, hg2⟩ : ∃ g : Int, (E2 : Int) - 1074 = g := ⟨_, rfl⟩
      rw [hg1, hg2]
      obtain ⟨w4, hw4⟩ : ∃ w4, w2.alloc (.cells #[.bool neg2, .slice A2 n2 c2] 32) = w4 := ⟨_, rfl⟩
      have l1 : IsInt w4 neg1 A1 n1 c1 z1 := by rw [← hw4]; exact hi1.alloc _
      have l2 : IsInt w4 neg2 A2 n2 c2 z2 := by rw [← hw4]; exact hI2.alloc _
      have m0 : w4.cell? ⟨w1.heap.size, 0, none⟩ = some (.bool neg1) := by rw [← hw4]; exact cell_alloc _ _ (by omega) j0
      have m1 : w4.cell? ⟨w1.heap.size, 1, none⟩ = some (.slice A1 n1 c1) := by rw [← hw4]; exact cell_alloc _ _ (by omega) j1
      have m2 : w4.cell? ⟨w2.heap.size, 0, none⟩ = some (.bool neg2) := by rw [← hw4]; simp [go_sem]
      have m3 : w4.cell? ⟨w2.heap.size, 1, none⟩ = some (.slice A2 n2 c2) := by rw [← hw4]; simp [go_sem]
      have s4 : w2.heap.size < w4.heap.size := by rw [← hw4]; simp
      have hbw4 : Below w.heap.size w w4 := by rw [← hw4]; exact hbw2.alloc hbw2.size _
      have HW4 := Lib.hid hw4
      have HG1 := Lib.hid hg1
      have HG2 := Lib.hid hg2
      clear hw4 j0 j1 hi1 hbw2 hg1 hg2
      obtain ⟨L, hL⟩ : ∃ L, lst z1 g1 z2 g2 = L := ⟨_, rfl⟩
      obtain ⟨f1, f2, f4, f5⟩ := least2_facts (z1 := z1) (z2 := z2) (g1 := g1) (g2 := g2) (L := L) (by have := HG1.out; omega) (by have := HG2.out; omega) hL
      obtain ⟨u1, hu1⟩ : ∃ u, u = z1 * 2 ^ (g1 - L).toNat := ⟨_, rfl⟩
      obtain ⟨u2, hu2⟩ : ∃ u, u = z2 * 2 ^ (g2 - L).toNat := ⟨_, rfl⟩
      have x1 := shifted HG1.out hw1 f1 f4 hu1
      have x2 := shifted HG2.out hw2 f2 f4 hu2
      obtain ⟨K, hK⟩ : ∃ K : Nat, K = 2046 := ⟨_, rfl⟩
      have HK := Lib.hid hK
      have c1' := shift_small (K := K) hz1 (by have := HG1.out; omega) hu1
      have c2' := shift_small (K := K) hz2 (by have := HG2.out; omega) hu2
      have c4' := sum2_small c1' c2'
      have hsum : (u1 + u2) * ((2 ^ (L + 1074).toNat : Nat) : Int) = Flt.sv x + Flt.sv y := by rw [Int.add_mul, x1, x2]
      have n1b : n1 ≤ 100 := len_small l1 (k := 53) (by decide) hz1
      have n2b : n2 ≤ 100 := len_small l2 (k := 53) (by decide) hz2
      obtain ⟨d1, hd1⟩ : ∃ d, g1 - L = d := ⟨_, rfl⟩
      obtain ⟨d2, hd2⟩ : ∃ d, g2 - L = d := ⟨_, rfl⟩
      have r1 : IntKind.i64.wrap (g1 - L) = d1 := by rw [← hd1]; exact IntWalk.i64_in _ (by have := HG1.out; omega)
      have r2 : IntKind.i64.wrap (g2 - L) = d2 := by rw [← hd2]; exact IntWalk.i64_in _ (by have := HG2.out; omega)
      rw [hd1] at hu1 f1
      rw [hd2] at hu2 f2
      have d1b : d1 ≤ 3000 ∧ -3000 ≤ d1 := by have := HG1.out; omega
      have d2b : d2 ≤ 3000 ∧ -3000 ≤ d2 := by have := HG2.out; omega
      have Lb : -1074 ≤ L ∧ L ≤ 1000000 := by omega
      obtain ⟨num, hnum⟩ : ∃ num, (u1 + u2).natAbs * 2 ^ (L + 1074).toNat = num := ⟨_, rfl⟩
      have HLST := Lib.hid hL
      have HU1 := Lib.hid hu1
      have HU2 := Lib.hid hu2
      have HC1 := Lib.hid c1'
      have HC2 := Lib.hid c2'
      have HC4 := Lib.hid c4'
      have HSUM := Lib.hid hsum
      have HF1 := Lib.hid f1
      have HF22 := Lib.hid f2
      have HN := Lib.hid hnum
      clear hK hd1 hd2 hu1 hu2 x1 x2 c1' c2' c4' hsum f1 f2 f4 f5 hL hw1 hw2 hE1 hE2 hz1 hz2 hI1 hI2 HG1 HG2 hnum
      go_upto_region 6 with (fail)
      rw [HW4.out]
      clear HW4
      go_wp2_with fail
      refine (ref_least_of neg1 neg2 A1 A2 n1 c1 n2 c2 z1 z2 g1 g2 L _ l1 l2 HLST).mono ?_
      rintro e5 w5 ⟨rfl, hb5⟩
      obtain ⟨hc5, hf5⟩ := bcell hb5
      have y0 := (hc5 w1.heap.size 0 (by omega)).trans m0
      have y1 := (hc5 w1.heap.size 1 (by omega)).trans m1
      have y2 := (hc5 w2.heap.size 0 (by omega)).trans m2
      have y3 := (hc5 w2.heap.size 1 (by omega)).trans m3
      have q1 := l1.below hb5
      have q2 := l2.below hb5
      have s5 : w2.heap.size < w5.heap.size := by have := hb5.size; omega
      have hbw5 := below_next hbw4 hb5
      clear hc5 hf5 hb5 m0 m1 m2 m3 l1 l2 hbw4 s4
      go_wp2_with fail
      go_region_held3 (fun w' => w'.cell? ⟨w1.heap.size, 0, none⟩ = some (.bool neg1) ∧ w'.cell? ⟨w1.heap.size, 1, none⟩ = some (.slice A1 n1 c1) ∧ w'.cell? ⟨w2.heap.size, 0, none⟩ = some (.bool neg2) ∧ w'.cell? ⟨w2.heap.size, 1, none⟩ = some (.slice A2 n2 c2))
        (go_keep)
        (first
        | (go_at_call 42; (with_reducible refine (ref_double_int neg1 A1 n1 c1 z1 d1 u1 _ ?_ ?_ ?_ ?_ ?_ HU1).mono ?_); exact q1.drewN 1; omega; exact HF1.out; omega; omega; rintro e7 w7 ⟨neg7, A7, n7, c7, rfl, hI7, hb7⟩; obtain ⟨hc7, hf7⟩ := bcell hb7; have ka0 := hc7 (w1.heap.size) 0 (by first | omega | (simp <;> omega)); have ka1 := hc7 (w1.heap.size) 1 (by first | omega | (simp <;> omega)); have ka2 := hc7 (w2.heap.size) 0 (by first | omega | (simp <;> omega)); have ka3 := hc7 (w2.heap.size) 1 (by first | omega | (simp <;> omega)); have s7 : w2.heap.size < w7.heap.size := (by have := hb7.size; simp at this; omega); have q27 := (q2.drewN 1).below hb7; have hbw7 := below_next hbw5 (below_of_drew hb7); have n7b := len_small hI7 (k := 53 + K) (by have := HK.out; omega) HC1.out)
        | (go_at_call 42; (with_reducible refine (ref_double_int neg2 A2 n2 c2 z2 d2 u2 _ ?_ ?_ ?_ ?_ ?_ HU2).mono ?_); exact q27; omega; exact HF22.out; omega; omega; rintro e8 w8 ⟨neg8, A8, n8, c8, rfl, hI8, hb8⟩; obtain ⟨hc8, hf8⟩ := bcell hb8; have kb0 := hc8 (w1.heap.size) 0 (by first | omega | (simp <;> omega)); have kb1 := hc8 (w1.heap.size) 1 (by first | omega | (simp <;> omega)); have kb2 := hc8 (w2.heap.size) 0 (by first | omega | (simp <;> omega)); have kb3 := hc8 (w2.heap.size) 1 (by first | omega | (simp <;> omega)); have s8 : w2.heap.size < w8.heap.size := (by have := hb8.size; omega); have hI78 := (hI7).below hb8; have hbw8 := below_next hbw7 hb8; have n8b := len_small hI8 (k := 53 + K) (by have := HK.out; omega) HC2.out)
        | (go_at_call 41; (with_reducible refine (ref_plus_any neg7 neg8 A7 A8 n7 c7 n8 c8 u1 u2 _ ?_ ?_ ?_ ?_).mono ?_); exact hI78; exact hI8; omega; omega; rintro e9 w9 ⟨neg9, A9, n9, c9, rfl, hI9, hb9⟩; obtain ⟨hc9, hf9⟩ := bcell hb9; have kc0 := hc9 (w1.heap.size) 0 (by first | omega | (simp <;> omega)); have kc1 := hc9 (w1.heap.size) 1 (by first | omega | (simp <;> omega)); have kc2 := hc9 (w2.heap.size) 0 (by first | omega | (simp <;> omega)); have kc3 := hc9 (w2.heap.size) 1 (by first | omega | (simp <;> omega)); have s9 : w2.heap.size < w9.heap.size := (by have := hb9.size; omega); have hbw9 := below_next hbw8 hb9; have n9b := len_small hI9 (k := 53 + K + 1) (by have := HK.out; omega) HC4.out)
        | (go_at_call 45; refine (ref_one_any _).mono ?_; rintro e10 w10 ⟨neg10, A10, n10, c10, rfl, hI10, hb10⟩; obtain ⟨hc10, hf10⟩ := bcell hb10; have kd0 := hc10 (w1.heap.size) 0 (by first | omega | (simp <;> omega)); have kd1 := hc10 (w1.heap.size) 1 (by first | omega | (simp <;> omega)); have kd2 := hc10 (w2.heap.size) 0 (by first | omega | (simp <;> omega)); have kd3 := hc10 (w2.heap.size) 1 (by first | omega | (simp <;> omega)); have s10 : w2.heap.size < w10.heap.size := (by have := hb10.size; omega); have hI910 := (hI9).below hb10; have hbw10 := below_next hbw9 hb10)
        | (go_at_call 49; (with_reducible refine (ref_told_of s neg9 neg10 A9 A10 n9 c9 n10 c10 (u1 + u2) 1 L num 1 _ ?_ ?_ ?_).mono ?_); exact hI910; exact hI10; exact fun W a b => ref_beside_pair _ _ _ _ _ _ _ _ _ _ _ W a b (by omega) Lb HN; rintro e11 w11 ⟨dd, uu, rfl, hT, hb11⟩; obtain ⟨hc11, hf11⟩ := bcell hb11; have ke0 := hc11 (w1.heap.size) 0 (by first | omega | (simp <;> omega)); have ke1 := hc11 (w1.heap.size) 1 (by first | omega | (simp <;> omega)); have ke2 := hc11 (w2.heap.size) 0 (by first | omega | (simp <;> omega)); have ke3 := hc11 (w2.heap.size) 1 (by first | omega | (simp <;> omega)); have s11 : w2.heap.size < w11.heap.size := (by have := hb11.size; omega); have hbw11 := below_next hbw10 hb11; have HTOLD := Lib.hid hT; clear hT))
      go_wp2_with fail
      go_ret2
      exact ⟨_, _, rfl, told_sum HA.out HX.out HY.out HSUM.out (by rw [HN.out]; exact HTOLD.out), hbw11⟩
end Go.Proofs.Ythddodhcpfponaa
