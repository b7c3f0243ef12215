/-
  The references floats (polestarref04): Add, Mul, Quo.
-/
import Derived.Test.YtjcjphgpmpjmbaaGreatDoorRndU
import Derived.Test.YtjcjphgpmpjmbaaGreatDoorPrdU
import Derived.Test.YtjcjphgpmpjmbaaGreatDoorRefV
import Derived.Test.YtjcjphgpmpjmbaaGreatDoorRefW
import Derived.Test.YtjcjphgpmpjmbaaGreatDoorFlt
/-! The references' floats (polestarref04): the product. -/
namespace Go.Proofs.YtjcjphgpmpjmbaaGreatDoor
open Go.RowKit

theorem ref_beside_gen (neg negq : Bool) (A Aq : Option Addr) (n c nq cq : Nat) (z q e : Int) (num den : Nat) (w : World) (hp : IsInt w neg A n c z) (hq : IsInt w negq Aq nq cq q) (hn : n ≤ 1000000)
    (hU : ∀ (W : World) (neg' : Bool) (A' : Option Addr) (n' c' : Nat), IsInt W neg' A' n' c' (z.natAbs : Nat) → IsInt W negq Aq nq cq q →
      Calls Tryz.prog 159 #[.agg #[.bool neg', .slice A' n' c'], .agg #[.bool negq, .slice Aq nq cq], .int .i64 e] W (RetUnder W num den)) (hnum : z ≠ 0 → 0 < num) :
    Calls Tryz.prog 144 #[.agg #[.bool neg, .slice A n c], .agg #[.bool negq, .slice Aq nq cq], .int .i64 e] w (RetPair w (Brk (decide (z < 0)) num den)) :=
  (ref_beside_of neg negq A Aq n c nq cq z q e num den w hp hq hn hU hnum).mono fun _ _ ⟨r, h1, h2, h3⟩ => ⟨_, _, h1, ⟨r, h2, rfl, rfl⟩, h3⟩

theorem sv_abs (x : Nat) : (Flt.sv x).natAbs = Flt.val (Flt.rg x) := by unfold Flt.sv; split <;> omega
theorem sv_neg {x : Nat} (h : Flt.rg x ≠ 0) : decide (Flt.sv x < 0) = Flt.sgn x := by
  have := val_pos h
  unfold Flt.sv
  cases Flt.sgn x
  · exact decide_eq_false (by simp)
  · exact decide_eq_true (by simp; omega)
end Go.Proofs.YtjcjphgpmpjmbaaGreatDoor

/-! The references' whole numbers and floats: Divide by any number; quotients by any number. -/
namespace Go.Proofs.YtjcjphgpmpjmbaaGreatDoor
open Go.RowKit

theorem isInt_lt {w : World} {neg : Bool} {A : Option Addr} {n c : Nat} {z : Int} (h : IsInt w neg A n c z) : z.natAbs < Lm.B ^ n := by
  obtain ⟨l, hl, _, _, rfl⟩ := h
  have h1 : (sgnd neg (Lm.lv l)).natAbs = Lm.lv l := by unfold sgnd; split <;> omega
  rw [h1, ← hl.len]
  exact Lm.lv_lt hl.ok
theorem len_doubled {w w' : World} {neg neg' : Bool} {A A' : Option Addr} {n c n' c' k : Nat} {z v : Int} (h : IsInt w neg A n c z) (h' : IsInt w' neg' A' n' c' v) (hv : v.natAbs = z.natAbs * 2 ^ k) : n' ≤ n + (k / 32 + 1) := by
  refine isInt_len_le h' ?_
  rw [hv, Nat.pow_add]
  have h1 := isInt_lt h
  have h2 : 2 ^ k ≤ Lm.B ^ (k / 32 + 1) := by
    have e : Lm.B ^ (k / 32 + 1) = 2 ^ (32 * (k / 32 + 1)) := by rw [Nat.pow_mul]
    rw [e]
    exact Nat.pow_le_pow_right (by decide) (by omega)
  exact Nat.lt_of_lt_of_le (Nat.mul_lt_mul_of_pos_right h1 (Nat.two_pow_pos k)) (Nat.mul_le_mul_left _ h2)

theorem ref_Divide_any (neg neg' : Bool) (A A' : Option Addr) (n c n' c' : Nat) (x y : Int) (w : World) (hx : IsInt w neg A n c x) (hy : IsInt w neg' A' n' c' y) (hn : n ≤ 1000000000) (hn' : n' ≤ 1000000) (hy0 : y ≠ 0) :
    Calls Tryz.prog 107 #[.agg #[.bool neg, .slice A n c], .agg #[.bool neg', .slice A' n' c']] w (RetTwoInts w (x.tdiv y) (x.tmod y)) := by
  have h0 : n' ≠ 0 := fun e => hy0 ((isInt_zero hy).1 e)
  by_cases h1 : n' = 1
  · subst h1
    exact ref_Divide_one _ _ _ _ _ _ _ _ _ _ hx hy hn
  · obtain ⟨a, ha, ca, _, rfl⟩ := hx
    obtain ⟨b, hb, cb, _, rfl⟩ := hy
    rw [sgnd_tdiv, sgnd_tmod]
    exact ref_quo_of _ _ _ _ _ _ _ _ _ _ _ ha hb hn (by omega) (fun W hA hB => ref_divide_long _ _ _ _ _ _ _ _ _ hA hB cb hn hn' (by omega))

set_option maxRecDepth 100000 in
set_option maxHeartbeats 1200000 in
theorem ref_quot_pos (negq : Bool) (A Aq : Option Addr) (n c nq cq k P D Q : Nat) (b : Bool) (w : World) (hp : IsInt w false A n c (P : Int)) (hq : IsInt w negq Aq nq cq (D : Int)) (hn : n ≤ 10000000) (hnq : nq ≤ 1000000) (hk : k ≤ 1000000000) (hD : D ≠ 0)
    (hQ : Hid (Q = P * 2 ^ k / D)) (hQb : Q ≤ 9223372036854775807) (hb : Hid (b = decide (P * 2 ^ k % D = 0))) :
    Calls Tryz.prog 167 #[.agg #[.bool false, .slice A n c], .agg #[.bool negq, .slice Aq nq cq], .int .i64 (k : Int)] w (RetV w (.tuple #[.int .u64 Q, .bool b])) := by
  have hp2 := (hp.alloc (.cells #[.bool false, .slice A n c] 27)).alloc (.cells #[.bool negq, .slice Aq nq cq] 27)
  have hq2 := (hq.alloc (.cells #[.bool false, .slice A n c] 27)).alloc (.cells #[.bool negq, .slice Aq nq cq] 27)
  have hk0 : decide ((k : Int) < 0) = false := decide_eq_false (by omega)
  go_enter Tryz.func167, Tryz.ntmps167
  go_wp2
  go_quiet (fail)
  go_wp2_with fail
  refine (ref_double_any _ _ _ _ _ _ _ (by exact hp2.drewN _) (by omega) hk).mono ?_
  rintro e w1 ⟨neg1, A1, n1, c1, rfl, hI1, hb1⟩
  have hPQ : ((P : Int) * 2 ^ k) = ((P * 2 ^ k : Nat) : Int) := by rw [Int.natCast_mul, Int.natCast_pow]; rfl
  rw [hPQ] at hI1
  have hn1 : n1 ≤ n + (k / 32 + 1) := len_doubled hp hI1 (by rw [Int.natAbs_natCast, Int.natAbs_natCast])
  obtain ⟨M, hM⟩ : ∃ M, P * 2 ^ k = M := ⟨_, rfl⟩
  rw [hM] at hI1 hQ hb
  clear hPQ hM
  obtain ⟨hc1, hf1⟩ := bcell hb1
  have r1 := hc1 w.heap.size 0 (by simp <;> omega)
  have r2 := hc1 w.heap.size 1 (by simp <;> omega)
  have r3 := hf1 w.heap.size 0 (by simp <;> omega)
  have r4 := hf1 w.heap.size 1 (by simp <;> omega)
  have r5 := hc1 (w.heap.size + 1) 0 (by simp <;> omega)
  have r6 := hc1 (w.heap.size + 1) 1 (by simp <;> omega)
  have hz1 : w.heap.size + 1 < w1.heap.size := by have := hb1.size; simp at this; omega
  have hq3 := (hq2.drewN _).below hb1
  have x1 : ¬ w.heap.size + 1 = w.heap.size := by omega
  have x2 : ¬ w.heap.size = w.heap.size + 1 := by omega
  have c0 : w1.cell? ⟨w.heap.size, 0, none⟩ = some (.bool false) := r1.trans (by simp [go_sem])
  have c1' : w1.cell? ⟨w.heap.size, 1, none⟩ = some (.slice A n c) := r2.trans (by simp [go_sem])
  have hI2 := isInt_result hI1 c0 c1' (.bool neg1) (.slice A1 n1 c1)
  have hq4 := isInt_result hq3 c0 c1' (.bool neg1) (.slice A1 n1 c1)
  have hbw1 : Below w.heap.size w ((w1.setCell ⟨w.heap.size, 0, none⟩ (.bool neg1)).setCell ⟨w.heap.size, 1, none⟩ (.slice A1 n1 c1)) := below_result (below_box (below_box (below_of_drewN hb1))) (Nat.le_refl _) _ _
  obtain ⟨W1, hW1⟩ : ∃ W1, W1 = ((w1.setCell ⟨w.heap.size, 0, none⟩ (.bool neg1)).setCell ⟨w.heap.size, 1, none⟩ (.slice A1 n1 c1)) := ⟨_, rfl⟩
  have hzW : w1.heap.size = W1.heap.size := by rw [hW1]; simp [World.setCell]
  clear hb1 hc1 hf1
  go_wp2_with fail
  rw [← hW1]
  rw [← hW1] at hI2 hq4 hbw1
  refine (ref_Divide_any _ _ _ _ _ _ _ _ _ _ _ (by exact hI2) (by exact hq4) (by omega) hnq (by omega)).mono ?_
  rintro e w2 ⟨neg2, A2, n2, c2, neg3, A3, n3, c3, rfl, hI3, hI4, hb2⟩
  have e3 : ((M : Int).tdiv (D : Int)) = (Q : Int) := by rw [hQ.out, ← Int.ofNat_tdiv]
  have e4 : ((M : Int).tmod (D : Int)) = ((M % D : Nat) : Int) := (Int.ofNat_tmod M D).symm
  rw [e3] at hI3
  rw [e4] at hI4
  obtain ⟨R, hR⟩ : ∃ R, M % D = R := ⟨_, rfl⟩
  rw [hR] at hI4 hb
  obtain ⟨t, ht⟩ : ∃ t, (R : Int).sign = t := ⟨_, rfl⟩
  have HT := Lib.hid ht
  have HB : Hid ((t == 0) = b) := by
    have ht0 : t = 0 ↔ (R : Int) = 0 := by rw [← ht]; exact Int.sign_eq_zero_iff_zero
    rw [hb.out]
    refine Lib.hid ?_
    by_cases h0 : R = 0
    · rw [decide_eq_true h0]; exact beq_iff_eq.2 (ht0.2 (by omega))
    · rw [decide_eq_false h0, beq_eq_false_iff_ne]; intro h'; have := ht0.1 h'; omega
  have hz2 : w.heap.size + 1 < w2.heap.size := by have := hb2.size; omega
  have hbw2 := below_next hbw1 hb2
  clear hW1 hzW r1 r2 r3 r4 r5 r6 c0 c1' hb2 e3 e4 hR ht
  have hI5 := (hI3.alloc (.cells #[.bool neg2, .slice A2 n2 c2] 27)).alloc (.cells #[.bool neg3, .slice A3 n3 c3] 27)
  have hI6 := (hI4.alloc (.cells #[.bool neg2, .slice A2 n2 c2] 27)).alloc (.cells #[.bool neg3, .slice A3 n3 c3] 27)
  go_wp2
  go_region_held3 (fun w' => w'.cell? ⟨w2.heap.size, 0, none⟩ = some (.bool neg2) ∧ w'.cell? ⟨w2.heap.size, 1, none⟩ = some (.slice A2 n2 c2) ∧ w'.cell? ⟨w2.heap.size + 1, 0, none⟩ = some (.bool neg3) ∧ w'.cell? ⟨w2.heap.size + 1, 1, none⟩ = some (.slice A3 n3 c3))
    (go_keep)
    (first | (go_at_call 175; refine (ref_number_any _ _ _ _ _ _ (by exact hI5.drewN 1) (by omega) (by omega)).mono ?_; rintro e w4 ⟨rfl, hb4⟩; obtain ⟨hc4, hf4⟩ := bcell hb4; have a0 := hc4 (w2.heap.size) 0 (by simp <;> omega); have a1 := hc4 (w2.heap.size) 1 (by simp <;> omega); have a2 := hc4 (w2.heap.size + 1) 0 (by simp <;> omega); have a3 := hc4 (w2.heap.size + 1) 1 (by simp <;> omega); have hI7 := (hI6.drewN 1).below hb4; have hz4 : w2.heap.size + 1 < w4.heap.size := (by have := hb4.size; simp at this; omega); have hbw4 : Below w.heap.size w w4 := below_next hbw2 (below_box (below_box (below_of_drew hb4)))) | (go_at_call 63; refine (ref_sign_of _ _ _ _ _ t _ (by exact hI7) HT).mono ?_; rintro e w5 ⟨rfl, hb5⟩; obtain ⟨hc5, hf5⟩ := bcell hb5; have b0 := hc5 (w2.heap.size) 0 (by omega); have b1 := hc5 (w2.heap.size) 1 (by omega); have b2 := hc5 (w2.heap.size + 1) 0 (by omega); have b3 := hc5 (w2.heap.size + 1) 1 (by omega); have hbw5 := below_next hbw4 hb5))
  go_wp2
  go_ret2
  exact ⟨by rw [← HB.out]; rfl, hbw5⟩

theorem ref_cmp_of (neg neg' : Bool) (A A' : Option Addr) (n c n' c' : Nat) (x y v : Int) (w : World) (hx : IsInt w neg A n c x) (hy : IsInt w neg' A' n' c' y) (hn : n ≤ 1000000000) (hn' : n' ≤ 1000000000) (h : Hid (icmp x y = v)) :
    Calls Tryz.prog 108 #[.agg #[.bool neg, .slice A n c], .agg #[.bool neg', .slice A' n' c']] w (RetV w (.int .i64 v)) :=
  (ref_cmp_int _ _ _ _ _ _ _ _ _ _ _ hx hy hn hn').mono fun _ _ ⟨he, hb⟩ => ⟨by rw [he, h.out], hb⟩

set_option maxRecDepth 100000 in
set_option maxHeartbeats 1200000 in
theorem ref_quot_neg (negq : Bool) (A Aq : Option Addr) (n c nq cq k P D Q : Nat) (b : Bool) (w : World) (hp : IsInt w false A n c (P : Int)) (hq : IsInt w negq Aq nq cq (D : Int)) (hn : n ≤ 10000000) (hnq : nq ≤ 100000) (hk0 : 0 < k) (hk : k ≤ 1000000) (hD : D ≠ 0) (hD1 : D ≠ 1)
    (hQ : Hid (Q = P / (D * 2 ^ k))) (hQb : Q ≤ 9223372036854775807) (hb : Hid (b = decide (P % (D * 2 ^ k) = 0))) :
    Calls Tryz.prog 167 #[.agg #[.bool false, .slice A n c], .agg #[.bool negq, .slice Aq nq cq], .int .i64 (-(k : Int))] w (RetV w (.tuple #[.int .u64 Q, .bool b])) := by
  have hneg : -(k : Int) < 0 := by omega
  have hkk : IntKind.i64.wrap (-(-(k : Int))) = (k : Int) := by rw [Int.neg_neg]; exact IntWalk.i64_in _ (by omega)
  have hp2 := (hp.alloc (.cells #[.bool false, .slice A n c] 27)).alloc (.cells #[.bool negq, .slice Aq nq cq] 27)
  have hq2 := (hq.alloc (.cells #[.bool false, .slice A n c] 27)).alloc (.cells #[.bool negq, .slice Aq nq cq] 27)
  obtain ⟨v, hv⟩ : ∃ v, icmp (D : Int) 1 = v := ⟨_, rfl⟩
  have hv0 : (v == 0) = false := by rw [← hv, icmp_zero]; exact decide_eq_false (by omega)
  have HV := Lib.hid hv
  clear hv
  go_enter Tryz.func167, Tryz.ntmps167
  go_wp2
  go_region_held3 (fun w' => w'.cell? ⟨w.heap.size + 1, 0, none⟩ = some (.bool negq) ∧ w'.cell? ⟨w.heap.size + 1, 1, none⟩ = some (.slice Aq nq cq))
    (go_keep)
    (first | (go_at_call 173; refine (ref_one_any _).mono ?_; rintro e w1 ⟨neg1, A1, n1, c1, rfl, hI1, hb1⟩; obtain ⟨hc1, hf1⟩ := bcell hb1; have k1 := hc1 (w.heap.size + 1) 0 (by simp <;> omega); have k2 := hc1 (w.heap.size + 1) 1 (by simp <;> omega); have k3 := hc1 w.heap.size 0 (by simp <;> omega); have k4 := hc1 w.heap.size 1 (by simp <;> omega); have g1 := hf1 (w.heap.size + 1) 0 (by simp <;> omega); have g2 := hf1 (w.heap.size + 1) 1 (by simp <;> omega); have hq3 := (hq2.drewN 1).below hb1; have hp3 := (hp2.drewN 1).below hb1; have hbw : Below w.heap.size w w1 := below_box (below_box (below_of_drew hb1)); have hz1 : w.heap.size + 1 < w1.heap.size := (by have := hb1.size; simp at this; omega); have hn1 : n1 ≤ 1 := isInt_len_le hI1 (by decide)) | (go_at_call 108; refine (ref_cmp_of _ _ _ _ _ _ _ _ _ _ v _ hq3 hI1 (by omega) (by omega) HV).mono ?_; rintro e w2 ⟨rfl, hb2⟩; obtain ⟨hc2, hf2⟩ := bcell hb2; have j1 := hc2 (w.heap.size + 1) 0 (by omega); have j2 := hc2 (w.heap.size + 1) 1 (by omega); have j3 := hc2 w.heap.size 0 (by omega); have j4 := hc2 w.heap.size 1 (by omega); have i1 := hf2 (w.heap.size + 1) 0 (by omega); have i2 := hf2 (w.heap.size + 1) 1 (by omega); have hz2 : w.heap.size + 1 < w2.heap.size := (by have := hb2.size; omega)))
  have hp4 := hp3.below hb2
  have hq4 := hq3.below hb2
  have hbw2 := below_next hbw hb2
  have y1 : w2.cell? ⟨w.heap.size + 1, 0, none⟩ = some (.bool negq) := j1.trans (k1.trans (by simp [go_sem]))
  have y2 : w2.cell? ⟨w.heap.size + 1, 1, none⟩ = some (.slice Aq nq cq) := j2.trans (k2.trans (by simp [go_sem]))
  have y3 : w2.cell? ⟨w.heap.size, 0, none⟩ = some (.bool false) := j3.trans (k3.trans (by simp [go_sem]))
  have y4 : w2.cell? ⟨w.heap.size, 1, none⟩ = some (.slice A n c) := j4.trans (k4.trans (by simp [go_sem]))
  have z1 : w2.frozen? ⟨w.heap.size + 1, 0, none⟩ = false := i1.trans (g1.trans (by simp [go_sem]))
  have z2 : w2.frozen? ⟨w.heap.size + 1, 1, none⟩ = false := i2.trans (g2.trans (by simp [go_sem]))
  clear k1 k2 k3 k4 j1 j2 j3 j4 hc1 hf1 hc2 hf2 g1 g2 i1 i2 hb1 hb2 hp3 hq3 hp2 hq2 hbw
  go_wp2_with fail
  refine (ref_double_any _ _ _ _ _ _ _ (by exact hq4) (by omega) (by omega)).mono ?_
  rintro e w3 ⟨neg3, A3, n3, c3, rfl, hI3, hb3⟩
  have hPQ : ((D : Int) * 2 ^ k) = ((D * 2 ^ k : Nat) : Int) := by rw [Int.natCast_mul, Int.natCast_pow]; rfl
  rw [hPQ] at hI3
  have hn3 : n3 ≤ nq + (k / 32 + 1) := len_doubled hq hI3 (by rw [Int.natAbs_natCast, Int.natAbs_natCast])
  have hM0 : Hid (D * 2 ^ k ≠ 0) := Lib.hid (Nat.ne_of_gt (Nat.mul_pos (by omega) (Nat.two_pow_pos k)))
  obtain ⟨M, hM⟩ : ∃ M, D * 2 ^ k = M := ⟨_, rfl⟩
  rw [hM] at hI3 hQ hb hM0
  clear hPQ hM
  obtain ⟨hc3, hf3⟩ := bcell hb3
  have r1 := (hc3 (w.heap.size + 1) 0 (by omega)).trans y1
  have r2 := (hc3 (w.heap.size + 1) 1 (by omega)).trans y2
  have r3 := (hf3 (w.heap.size + 1) 0 (by omega)).trans z1
  have r4 := (hf3 (w.heap.size + 1) 1 (by omega)).trans z2
  have r5 := (hc3 w.heap.size 0 (by omega)).trans y3
  have r6 := (hc3 w.heap.size 1 (by omega)).trans y4
  have hz3 : w.heap.size + 1 < w3.heap.size := by have := hb3.size; omega
  have hp5 := hp4.below hb3
  have x1 : ¬ w.heap.size + 1 = w.heap.size := by omega
  have x2 : ¬ w.heap.size = w.heap.size + 1 := by omega
  have hI4 := isInt_result hI3 r1 r2 (.bool neg3) (.slice A3 n3 c3)
  have hp6 := isInt_result hp5 r1 r2 (.bool neg3) (.slice A3 n3 c3)
  have hbw3 : Below w.heap.size w ((w3.setCell ⟨w.heap.size + 1, 0, none⟩ (.bool neg3)).setCell ⟨w.heap.size + 1, 1, none⟩ (.slice A3 n3 c3)) := below_result (below_next hbw2 hb3) (by omega) _ _
  obtain ⟨W1, hW1⟩ : ∃ W1, W1 = ((w3.setCell ⟨w.heap.size + 1, 0, none⟩ (.bool neg3)).setCell ⟨w.heap.size + 1, 1, none⟩ (.slice A3 n3 c3)) := ⟨_, rfl⟩
  have hzW : w3.heap.size = W1.heap.size := by rw [hW1]; simp [World.setCell]
  clear hb3 hc3 hf3 y1 y2 y3 y4 z1 z2 hp4 hq4 hbw2 hp5 hI3
  go_wp2_with fail
  rw [← hW1]
  rw [← hW1] at hI4 hp6 hbw3
  refine (ref_Divide_any _ _ _ _ _ _ _ _ _ _ _ (by exact hp6) (by exact hI4) (by omega) (by omega) (by have := hM0.out; omega)).mono ?_
  rintro e w2 ⟨neg2, A2, n2, c2, neg3, A3, n3, c3, rfl, hI3, hI4, hb2⟩
  have e3 : ((P : Int).tdiv (M : Int)) = (Q : Int) := by rw [hQ.out, ← Int.ofNat_tdiv]
  have e4 : ((P : Int).tmod (M : Int)) = ((P % M : Nat) : Int) := (Int.ofNat_tmod P M).symm
  rw [e3] at hI3
  rw [e4] at hI4
  obtain ⟨R, hR⟩ : ∃ R, P % M = R := ⟨_, rfl⟩
  rw [hR] at hI4 hb
  obtain ⟨t, ht⟩ : ∃ t, (R : Int).sign = t := ⟨_, rfl⟩
  have HT := Lib.hid ht
  have HB : Hid ((t == 0) = b) := by
    have ht0 : t = 0 ↔ (R : Int) = 0 := by rw [← ht]; exact Int.sign_eq_zero_iff_zero
    rw [hb.out]
    refine Lib.hid ?_
    by_cases h0 : R = 0
    · rw [decide_eq_true h0]; exact beq_iff_eq.2 (ht0.2 (by omega))
    · rw [decide_eq_false h0, beq_eq_false_iff_ne]; intro h'; have := ht0.1 h'; omega
  have hz2 : w.heap.size + 1 < w2.heap.size := by have := hb2.size; omega
  have hbw2 := below_next hbw3 hb2
  clear hW1 hzW r1 r2 r3 r4 r5 r6 hb2 e3 e4 hR ht
  have hI5 := (hI3.alloc (.cells #[.bool neg2, .slice A2 n2 c2] 27)).alloc (.cells #[.bool neg3, .slice A3 n3 c3] 27)
  have hI6 := (hI4.alloc (.cells #[.bool neg2, .slice A2 n2 c2] 27)).alloc (.cells #[.bool neg3, .slice A3 n3 c3] 27)
  go_wp2
  go_region_held3 (fun w' => w'.cell? ⟨w2.heap.size, 0, none⟩ = some (.bool neg2) ∧ w'.cell? ⟨w2.heap.size, 1, none⟩ = some (.slice A2 n2 c2) ∧ w'.cell? ⟨w2.heap.size + 1, 0, none⟩ = some (.bool neg3) ∧ w'.cell? ⟨w2.heap.size + 1, 1, none⟩ = some (.slice A3 n3 c3))
    (go_keep)
    (first | (go_at_call 175; refine (ref_number_any _ _ _ _ _ _ (by exact hI5.drewN 1) (by omega) (by omega)).mono ?_; rintro e w4 ⟨rfl, hb4⟩; obtain ⟨hc4, hf4⟩ := bcell hb4; have a0 := hc4 (w2.heap.size) 0 (by simp <;> omega); have a1 := hc4 (w2.heap.size) 1 (by simp <;> omega); have a2 := hc4 (w2.heap.size + 1) 0 (by simp <;> omega); have a3 := hc4 (w2.heap.size + 1) 1 (by simp <;> omega); have hI7 := (hI6.drewN 1).below hb4; have hz4 : w2.heap.size + 1 < w4.heap.size := (by have := hb4.size; simp at this; omega); have hbw4 : Below w.heap.size w w4 := below_next hbw2 (below_box (below_box (below_of_drew hb4)))) | (go_at_call 63; refine (ref_sign_of _ _ _ _ _ t _ (by exact hI7) HT).mono ?_; rintro e w5 ⟨rfl, hb5⟩; obtain ⟨hc5, hf5⟩ := bcell hb5; have b0 := hc5 (w2.heap.size) 0 (by omega); have b1 := hc5 (w2.heap.size) 1 (by omega); have b2 := hc5 (w2.heap.size + 1) 0 (by omega); have b3 := hc5 (w2.heap.size + 1) 1 (by omega); have hbw5 := below_next hbw4 hb5))
  go_wp2
  go_ret2
  exact ⟨by rw [← HB.out]; rfl, hbw5⟩
end Go.Proofs.YtjcjphgpmpjmbaaGreatDoor

/-! The references' floats (polestarref04): the greatest float that is not above a fraction times a power of two. -/
namespace Go.Proofs.YtjcjphgpmpjmbaaGreatDoor
open Go.RowKit

/-- p / q times 2^s rounded down, and whether it is that. -/
def qq (P D : Nat) (s : Int) : Nat := P * 2 ^ s.toNat / (D * 2 ^ (-s).toNat)
def qb (P D : Nat) (s : Int) : Bool := decide (P * 2 ^ s.toNat % (D * 2 ^ (-s).toNat) = 0)

theorem qq_spec (P : Nat) {D : Nat} (hD : 0 < D) (s : Int) : qq P D s * (D * 2 ^ (-s).toNat) ≤ P * 2 ^ s.toNat ∧ P * 2 ^ s.toNat < (qq P D s + 1) * (D * 2 ^ (-s).toNat) ∧ (qb P D s = decide (qq P D s * (D * 2 ^ (-s).toNat) = P * 2 ^ s.toNat)) := by
  unfold qq qb
  have hM : 0 < D * 2 ^ (-s).toNat := Nat.mul_pos hD (Nat.two_pow_pos _)
  generalize D * 2 ^ (-s).toNat = M at *
  generalize P * 2 ^ s.toNat = N at *
  have h1 := Nat.div_add_mod N M
  have h2 := Nat.mod_lt N hM
  rw [Nat.mul_comm] at h1
  refine ⟨by omega, by rw [Nat.add_mul]; omega, ?_⟩
  rw [decide_eq_decide]
  omega

theorem half_cut {N M N' M' Q : Nat} (hM : 0 < M) (hM' : 0 < M') (he : N' * M * 2 = N * M') (h1 : Q * M ≤ N) (h2 : N < (Q + 1) * M) :
    Q / 2 * M' ≤ N' ∧ N' < (Q / 2 + 1) * M' ∧ (Q / 2 * M' = N' ↔ Q * M = N ∧ Q % 2 = 0) := by
  have hd : 0 < M * 2 := by omega
  have hQ : Q / 2 * 2 ≤ Q := by omega
  have hQ2 : Q + 1 ≤ (Q / 2 + 1) * 2 := by omega
  have key : ∀ R : Nat, R * M' * (M * 2) = R * 2 * M * M' := fun R => by
    simp only [Nat.mul_assoc, Nat.mul_comm, Nat.mul_left_comm]
  have hN : N' * (M * 2) = N * M' := by rw [← he, Nat.mul_assoc]
  have l1 : Q / 2 * 2 * M * M' ≤ N * M' := Nat.mul_le_mul_right _ (Nat.le_trans (Nat.mul_le_mul_right _ hQ) h1)
  have l2 : N * M' < (Q / 2 + 1) * 2 * M * M' := Nat.mul_lt_mul_of_pos_right (Nat.lt_of_lt_of_le h2 (Nat.mul_le_mul_right _ hQ2)) hM'
  refine ⟨?_, ?_, ?_⟩
  · apply Nat.le_of_mul_le_mul_right _ hd
    rw [key, hN]; exact l1
  · apply Nat.lt_of_mul_lt_mul_right (a := M * 2)
    rw [key, hN]; exact l2
  · constructor
    · intro h
      have e : Q / 2 * 2 * M * M' = N * M' := by rw [← key, h, hN]
      have e1 : Q / 2 * 2 * M = N := Nat.eq_of_mul_eq_mul_right hM' e
      have e2 : Q * M ≤ Q / 2 * 2 * M := by omega
      have e3 : Q ≤ Q / 2 * 2 := Nat.le_of_mul_le_mul_right e2 hM
      have e4 : Q / 2 * 2 = Q := by omega
      rw [e4] at e1
      exact ⟨e1, by omega⟩
    · rintro ⟨h, h0⟩
      have e4 : Q / 2 * 2 = Q := by omega
      apply Nat.eq_of_mul_eq_mul_right hd
      rw [key, hN, e4, h]

theorem qq_half (P : Nat) {D : Nat} (hD : 0 < D) (s : Int) : qq P D (s - 1) = qq P D s / 2 ∧ qb P D (s - 1) = (qb P D s && qq P D s % 2 == 0) := by
  obtain ⟨a1, a2, a3⟩ := qq_spec P hD s
  obtain ⟨b1, b2, b3⟩ := qq_spec P hD (s - 1)
  have hM : 0 < D * 2 ^ (-s).toNat := Nat.mul_pos hD (Nat.two_pow_pos _)
  have hM' : 0 < D * 2 ^ (-(s - 1)).toNat := Nat.mul_pos hD (Nat.two_pow_pos _)
  have he : P * 2 ^ (s - 1).toNat * (D * 2 ^ (-s).toNat) * 2 = P * 2 ^ s.toNat * (D * 2 ^ (-(s - 1)).toNat) := by
    have e : (s - 1).toNat + (-s).toNat + 1 = s.toNat + (-(s - 1)).toNat := by omega
    have e2 : 2 ^ (s - 1).toNat * 2 ^ (-s).toNat * 2 = 2 ^ s.toNat * 2 ^ (-(s - 1)).toNat := by
      rw [← Nat.pow_add, ← Nat.pow_succ]
      show 2 ^ ((s - 1).toNat + (-s).toNat + 1) = _
      rw [e, Nat.pow_add]
    rw [Nat.mul_mul_mul_comm P _ D, Nat.mul_mul_mul_comm P _ D, Nat.mul_assoc (P * D), e2]
  obtain ⟨c1, c2, c3⟩ := half_cut hM hM' he a1 a2
  have hq : qq P D (s - 1) = qq P D s / 2 := by
    have h1 : qq P D (s - 1) < qq P D s / 2 + 1 := Nat.lt_of_mul_lt_mul_right (Nat.lt_of_le_of_lt b1 c2)
    have h2 : qq P D s / 2 < qq P D (s - 1) + 1 := Nat.lt_of_mul_lt_mul_right (Nat.lt_of_le_of_lt c1 b2)
    omega
  refine ⟨hq, ?_⟩
  rw [b3, hq, a3, decide_eq_decide.2 c3, Bool.decide_and]
  congr 1

/-- The floats of such a quotient. -/
theorem qq_dn (P : Nat) {D E : Nat} {e k : Int} (hD : 0 < D) (hk : -1074 ≤ k) (hE : E = (k + 1074).toNat) :
    (k ≤ 971 → qq P D (e - k) < 2 ^ 53 → (k = -1074 ∨ 2 ^ 52 ≤ qq P D (e - k)) → Flt.Dn (P * 2 ^ (e + 1074).toNat) (D * 2 ^ (-(e + 1074)).toNat) (E * 2 ^ 52 + qq P D (e - k)) ∧
      qb P D (e - k) = decide (Flt.val (E * 2 ^ 52 + qq P D (e - k)) * (D * 2 ^ (-(e + 1074)).toNat) = P * 2 ^ (e + 1074).toNat)) ∧
    (971 < k → 2 ^ 52 ≤ qq P D (e - k) → Flt.Dn (P * 2 ^ (e + 1074).toNat) (D * 2 ^ (-(e + 1074)).toNat) (Flt.inf - 1) ∧ ¬ Flt.val (Flt.inf - 1) * (D * 2 ^ (-(e + 1074)).toNat) = P * 2 ^ (e + 1074).toNat) := by
  obtain ⟨a1, a2, a3⟩ := qq_spec P hD (e - k)
  rw [show -(e - k) = k - e by omega] at a1 a2 a3
  obtain ⟨d1, d2⟩ := Flt.cut_dn (p := P) (q := D) (e := e) (k := k) hD rfl rfl rfl rfl hE hk a1 a2
  refine ⟨fun h1 h2 h3 => ?_, fun h1 h2 => ?_⟩
  · obtain ⟨r1, r2⟩ := d1 h1 h2 h3
    exact ⟨r1, by rw [a3, decide_eq_decide]; exact r2.symm⟩
  · obtain ⟨r1, r2⟩ := d2 h1 h2
    exact ⟨r1, by omega⟩

/-- How many bits are taken. -/
theorem qq_bits {P D L M : Nat} (hP : P ≠ 0) (hD : D ≠ 0) (hL : L = bitLen P) (hM : M = bitLen D) : 2 ^ 52 ≤ qq P D (53 + M - L) ∧ qq P D (53 + M - L) < 2 ^ 54 := by
  have p1 : L = P.log2 + 1 := by rw [hL]; unfold bitLen; rw [if_neg hP]
  have p2 := Nat.log2_self_le hP
  have p3 : P < 2 ^ (P.log2 + 1) := Nat.lt_log2_self
  have d1 : M = D.log2 + 1 := by rw [hM]; unfold bitLen; rw [if_neg hD]
  have d2 := Nat.log2_self_le hD
  have d3 : D < 2 ^ (D.log2 + 1) := Nat.lt_log2_self
  obtain ⟨f1, f2, _⟩ := qq_spec P (Nat.pos_of_ne_zero hD) (53 + M - L)
  generalize qq P D (53 + M - L) = Q at *
  generalize P.log2 = l at *
  generalize D.log2 = m at *
  generalize ha : (53 + (M : Int) - L).toNat = a at *
  generalize hb : (-(53 + (M : Int) - L)).toNat = b at *
  have e1 : l + a = 53 + m + b := by omega
  have g1 : 2 ^ 53 * (2 ^ m * 2 ^ b) ≤ P * 2 ^ a := by
    have := Nat.mul_le_mul_right (2 ^ a) p2
    rw [← Nat.pow_add, e1, Nat.pow_add, Nat.pow_add, Nat.mul_assoc] at this
    exact this
  have g2 : P * 2 ^ a < 2 ^ 54 * (2 ^ m * 2 ^ b) := by
    have := Nat.mul_lt_mul_of_pos_right p3 (Nat.two_pow_pos a)
    rw [← Nat.pow_add, show l + 1 + a = 54 + m + b by omega, Nat.pow_add, Nat.pow_add, Nat.mul_assoc] at this
    exact this
  have g3 : 2 ^ m * 2 ^ b ≤ D * 2 ^ b := Nat.mul_le_mul_right _ d2
  have g4 : D * 2 ^ b < 2 * (2 ^ m * 2 ^ b) := by
    have := Nat.mul_lt_mul_of_pos_right d3 (Nat.two_pow_pos b)
    rw [Nat.pow_succ', Nat.mul_assoc] at this
    exact this
  have hX : 0 < 2 ^ m * 2 ^ b := Nat.mul_pos (Nat.two_pow_pos _) (Nat.two_pow_pos _)
  generalize 2 ^ m * 2 ^ b = X at *
  generalize D * 2 ^ b = Y at *
  generalize P * 2 ^ a = N at *
  constructor
  · rcases Nat.lt_or_ge Q (2 ^ 52) with h | h
    · have h5 : (Q + 1) * Y ≤ 2 ^ 52 * Y := Nat.mul_le_mul_right _ h
      omega
    · exact h
  · rcases Nat.lt_or_ge Q (2 ^ 54) with h | h
    · exact h
    · have h5 : 2 ^ 54 * X ≤ Q * Y := Nat.mul_le_mul h g3
      omega
theorem qq_low {P D L M : Nat} (hP : P ≠ 0) (hD : D ≠ 0) (hL : L = bitLen P) (hM : M = bitLen D) {s : Int} (hs : s ≤ 52 + M - L) : qq P D s < 2 ^ 53 := by
  have p1 : L = P.log2 + 1 := by rw [hL]; unfold bitLen; rw [if_neg hP]
  have p3 : P < 2 ^ (P.log2 + 1) := Nat.lt_log2_self
  have d1 : M = D.log2 + 1 := by rw [hM]; unfold bitLen; rw [if_neg hD]
  have d2 := Nat.log2_self_le hD
  obtain ⟨f1, _, _⟩ := qq_spec P (Nat.pos_of_ne_zero hD) s
  generalize qq P D s = Q at *
  generalize P.log2 = l at *
  generalize D.log2 = m at *
  generalize ha : s.toNat = a at *
  generalize hb : (-s).toNat = b at *
  have g2 : P * 2 ^ a < 2 ^ 53 * (2 ^ m * 2 ^ b) := by
    have h1 := Nat.mul_lt_mul_of_pos_right p3 (Nat.two_pow_pos a)
    rw [← Nat.pow_add] at h1
    have h2 : 2 ^ (l + 1 + a) ≤ 2 ^ 53 * (2 ^ m * 2 ^ b) := by
      rw [← Nat.pow_add 2 m, ← Nat.pow_add]
      exact Nat.pow_le_pow_right (by decide) (by omega)
    exact Nat.lt_of_lt_of_le h1 h2
  have g3 : 2 ^ m * 2 ^ b ≤ D * 2 ^ b := Nat.mul_le_mul_right _ d2
  rcases Nat.lt_or_ge Q (2 ^ 53) with h | h
  · exact h
  · have h5 : 2 ^ 53 * (2 ^ m * 2 ^ b) ≤ Q * (D * 2 ^ b) := Nat.mul_le_mul h g3
    omega

theorem ref_quot_of (negq : Bool) (A Aq : Option Addr) (n c nq cq P D : Nat) (s : Int) (w : World) (hp : IsInt w false A n c (P : Int)) (hq : IsInt w negq Aq nq cq (D : Int)) (hn : n ≤ 10000000) (hnq : nq ≤ 100000) (hs : -1000000 ≤ s ∧ s ≤ 1000000) (hD : D ≠ 0) (hD1 : D ≠ 1)
    (Q : Nat) (b : Bool) (hQ : Hid (Q = qq P D s)) (hb : Hid (b = qb P D s)) (hQb : Q ≤ 9223372036854775807) :
    Calls Tryz.prog 167 #[.agg #[.bool false, .slice A n c], .agg #[.bool negq, .slice Aq nq cq], .int .i64 s] w (RetV w (.tuple #[.int .u64 Q, .bool b])) := by
  have h1 := hQ.out
  have h2 := hb.out
  unfold qq at h1
  unfold qb at h2
  rcases Int.lt_or_le s 0 with h | h
  · obtain ⟨k, hk⟩ : ∃ k : Nat, s = -(k : Int) := ⟨(-s).toNat, by omega⟩
    subst hk
    rw [show (-(k : Int)).toNat = 0 by omega, show (-(-(k : Int))).toNat = k by omega, Nat.pow_zero, Nat.mul_one] at h1 h2
    exact ref_quot_neg negq A Aq n c nq cq k P D Q b w hp hq hn hnq (by omega) (by omega) hD hD1 (Lib.hid h1) hQb (Lib.hid h2)
  · obtain ⟨k, rfl⟩ := Int.eq_ofNat_of_zero_le h
    rw [show ((k : Int)).toNat = k by omega, show (-(k : Int)).toNat = 0 by omega, Nat.pow_zero, Nat.mul_one] at h1 h2
    exact ref_quot_pos negq A Aq n c nq cq k P D Q b w hp hq hn (by omega) (by omega) hD (Lib.hid h1) hQb (Lib.hid h2)
end Go.Proofs.YtjcjphgpmpjmbaaGreatDoor

/-! The references' floats (polestarref04): the greatest float that is not above a fraction times a power of two: the walk. -/
namespace Go.Proofs.YtjcjphgpmpjmbaaGreatDoor
open Go.RowKit

set_option maxRecDepth 100000 in
set_option maxHeartbeats 1600000 in
theorem ref_under_long (negq : Bool) (A Aq : Option Addr) (n c nq cq P D : Nat) (e : Int) (w : World) (hp : IsInt w false A n c (P : Int)) (hq : IsInt w negq Aq nq cq (D : Int)) (hn : n ≤ 10000) (hnq : nq ≤ 10000) (hD0 : D ≠ 0) (hD1 : D ≠ 1) (he : -100000 ≤ e ∧ e ≤ 100000) :
    Calls Tryz.prog 159 #[.agg #[.bool false, .slice A n c], .agg #[.bool negq, .slice Aq nq cq], .int .i64 e] w (RetUnder w (P * 2 ^ (e + 1074).toNat) (D * 2 ^ (-(e + 1074)).toNat)) := by
  obtain ⟨num, hnum⟩ : ∃ num, num = P * 2 ^ (e + 1074).toNat := ⟨_, rfl⟩
  obtain ⟨den, hden⟩ : ∃ den, den = D * 2 ^ (-(e + 1074)).toNat := ⟨_, rfl⟩
  rw [← hnum, ← hden]
  have HNUM := Lib.hid hnum
  have HDEN := Lib.hid hden
  clear hnum hden
  have hp2 := (hp.alloc (.cells #[.bool false, .slice A n c] 27)).alloc (.cells #[.bool negq, .slice Aq nq cq] 27)
  have hq2 := (hq.alloc (.cells #[.bool false, .slice A n c] 27)).alloc (.cells #[.bool negq, .slice Aq nq cq] 27)
  have hDp : Hid (0 < D) := Lib.hid (by omega)
  by_cases hP0 : P = 0
  · subst hP0
    have hD : Flt.Dn num den 0 ∧ true = decide (Flt.val 0 * den = num) := by rw [show num = 0 by rw [HNUM.out]; omega]; exact dn_zero den (by rw [HDEN.out]; exact Nat.mul_pos hDp.out (Nat.two_pow_pos _))
    have HD := Lib.hid hD
    clear hD
    go_enter Tryz.func159, Tryz.ntmps159
    go_wp2_with (go_at_call 63; refine (ref_sign_any _ _ _ _ _ _ (by exact hp2)).mono ?_; rintro e w1 ⟨rfl, hb1⟩)
    go_ret2
    exact ⟨0, true, rfl, HD.out.1, HD.out.2, below_box (below_box hb1)⟩
  · have hs1 : (P : Int).sign = 1 := Int.sign_eq_one_of_pos (by omega)
    have HS := Lib.hid hs1
    obtain ⟨L, hL⟩ : ∃ L, L = bitLen P := ⟨_, rfl⟩
    have hLb : L ≤ 320000 := by
      obtain ⟨l, hl, _, _, hx⟩ := hp
      have h1 : Lm.lv l = P := by unfold sgnd at hx; simp at hx; omega
      have h2 := Lm.lv_lt hl.ok
      rw [h1, hl.len, show Lm.B ^ n = 2 ^ (32 * n) by rw [Nat.pow_mul]] at h2
      rw [hL]; unfold bitLen; rw [if_neg hP0]
      have := (Nat.log2_lt hP0).2 h2
      omega
    obtain ⟨M, hM⟩ : ∃ M, M = bitLen D := ⟨_, rfl⟩
    have hMb : M ≤ 320000 := by
      have h2 := isInt_lt hq
      rw [Int.natAbs_natCast, show Lm.B ^ nq = 2 ^ (32 * nq) by rw [Nat.pow_mul]] at h2
      rw [hM]; unfold bitLen; rw [if_neg hD0]
      have := (Nat.log2_lt hD0).2 h2
      omega
    have hLM : Hid (1 ≤ L ∧ 1 ≤ M) := Lib.hid (by rw [hL, hM]; unfold bitLen; rw [if_neg hD0, if_neg hP0]; omega)
    have HL1 : Hid (bitLen (P : Int).natAbs = L) := by rw [hL]; exact rfl
    have HL2 : Hid (bitLen (D : Int).natAbs = M) := by rw [hM]; exact rfl
    have HM := Lib.hid hM
    clear hM
    have HL := Lib.hid hL
    clear hL hs1
    go_enter Tryz.func159, Tryz.ntmps159
    go_wp2_with fail
    refine (ref_sign_any _ _ _ _ _ _ (by exact hp2)).mono ?_
    rintro e1 w1 ⟨rfl, hb1⟩
    rw [HS.out]
    obtain ⟨hc1, hf1⟩ := bcell hb1
    have k0 := hc1 w.heap.size 0 (by simp <;> omega)
    have k1 := hc1 w.heap.size 1 (by simp <;> omega)
    have k2 := hc1 (w.heap.size + 1) 0 (by simp <;> omega)
    have k3 := hc1 (w.heap.size + 1) 1 (by simp <;> omega)
    have hz1 : w.heap.size + 1 < w1.heap.size := by have := hb1.size; simp at this; omega
    have hp3 := hp2.below hb1
    have hq3 := hq2.below hb1
    have hbw1 := below_box (below_box hb1)
    go_wp2_with fail
    go_region_held3 (fun w' => w'.cell? ⟨w.heap.size, 0, none⟩ = some (.bool false) ∧ w'.cell? ⟨w.heap.size, 1, none⟩ = some (.slice A n c) ∧ w'.cell? ⟨w.heap.size + 1, 0, none⟩ = some (.bool negq) ∧ w'.cell? ⟨w.heap.size + 1, 1, none⟩ = some (.slice Aq nq cq))
      (go_keep)
      (first | (go_at_call 105; (with_reducible refine (ref_bits_of _ A _ _ _ L _ ?_ ?_ HL1).mono ?_); exact hp3.drewN 1; omega; rintro e2 w2 ⟨rfl, hb2⟩; obtain ⟨hc2, hf2⟩ := bcell hb2; have a0 := hc2 (w.heap.size) 0 (by simp <;> omega); have a1 := hc2 (w.heap.size) 1 (by simp <;> omega); have a2 := hc2 (w.heap.size + 1) 0 (by simp <;> omega); have a3 := hc2 (w.heap.size + 1) 1 (by simp <;> omega); have hz2 : w.heap.size + 1 < w2.heap.size := (by have := hb2.size; simp at this; omega); have hq4 := (hq3.drewN 1).below hb2; have hp4 := (hp3.drewN 1).below hb2; have hbw2 := below_next hbw1 (below_of_drew hb2)) | (go_at_call 105; (with_reducible refine (ref_bits_of _ Aq _ _ _ M _ ?_ ?_ HL2).mono ?_); exact hq4; omega; rintro e3 w3 ⟨rfl, hb3⟩; obtain ⟨hc3, hf3⟩ := bcell hb3; have b0 := hc3 (w.heap.size) 0 (by omega); have b1 := hc3 (w.heap.size) 1 (by omega); have b2 := hc3 (w.heap.size + 1) 0 (by omega); have b3 := hc3 (w.heap.size + 1) 1 (by omega); have hz3 : w.heap.size + 1 < w3.heap.size := (by have := hb3.size; omega); have hq5 := hq4.below hb3; have hp5 := hp4.below hb3; have hbw3 := below_next hbw2 hb3))
    have y0 : w3.cell? ⟨w.heap.size, 0, none⟩ = some (.bool false) := b0.trans (a0.trans (k0.trans (by simp [go_sem])))
    have y1 : w3.cell? ⟨w.heap.size, 1, none⟩ = some (.slice A n c) := b1.trans (a1.trans (k1.trans (by simp [go_sem])))
    have y2 : w3.cell? ⟨w.heap.size + 1, 0, none⟩ = some (.bool negq) := b2.trans (a2.trans (k2.trans (by simp [go_sem])))
    have y3 : w3.cell? ⟨w.heap.size + 1, 1, none⟩ = some (.slice Aq nq cq) := b3.trans (a3.trans (k3.trans (by simp [go_sem])))
    clear a0 a1 a2 a3 b0 b1 b2 b3 k0 k1 k2 k3 hc1 hf1 hc2 hf2 hc3 hf3 hb1 hb2 hb3
    have hs0 : Hid (1 ≤ L ∧ 1 ≤ M) := hLM
    by_cases hlow : (L : Int) - (M : Int) + e - 53 < -1074
    · obtain ⟨Q, hQ⟩ : ∃ Q, Q = qq P D (e + 1074) := ⟨_, rfl⟩
      obtain ⟨b, hb⟩ : ∃ b, b = qb P D (e + 1074) := ⟨_, rfl⟩
      have hQlt : Q < 2 ^ 53 := by rw [hQ]; exact qq_low hP0 hD0 HL.out HM.out (by omega)
      have hD := (qq_dn P (D := D) (E := 0) (e := e) (k := -1074) hDp.out (by omega) (by decide)).1
      rw [show e - -1074 = e + 1074 by omega, ← hQ, ← hb, Nat.zero_mul, Nat.zero_add, ← HNUM.out, ← HDEN.out] at hD
      have hD := hD (by omega) hQlt (Or.inl rfl)
      have HD := Lib.hid hD
      have HQ := Lib.hid hQ
      have HB := Lib.hid hb
      clear hD hQ hb
      go_wp2_with fail
      refine (ref_quot_of negq A Aq _ _ _ _ P D (e + 1074) _ (by exact hp5) (by exact hq5) (by omega) (by omega) (by omega) hD0 hD1 Q b HQ HB (by omega)).mono ?_
      rintro e4 w4 ⟨rfl, hb4⟩
      have hbw4 := below_next hbw3 hb4
      obtain ⟨z, hz⟩ : ∃ z : Int, z = (Q : Int) := ⟨_, rfl⟩
      rw [← hz]
      have g1 : ¬ ((9007199254740992 : Int) ≤ z) := by omega
      have g2 : z.toNat = Q := by omega
      have g3 : 4503599627370496 + z - 4503599627370496 = z := by omega
      have G2 := Lib.hid g2
      have G3 := Lib.hid g3
      clear hz HQ hQlt g2 g3
      by_cases hq52 : z < 4503599627370496
      · go_wp2_with fail
        rw [G2.out]
        go_ret2
        exact ⟨Q, b, rfl, HD.out.1, HD.out.2, hbw4⟩
      · go_wp2_with fail
        rw [G3.out, G2.out]
        go_ret2
        exact ⟨Q, b, rfl, HD.out.1, HD.out.2, hbw4⟩
    · have hbits := qq_bits hP0 hD0 HL.out HM.out
      by_cases hbig : (L : Int) - (M : Int) + e - 53 > 2000
      · have hD := (qq_dn P (D := D) (E := ((L : Int) - (M : Int) + e - 53 + 1074).toNat) (e := e) (k := (L : Int) - (M : Int) + e - 53) hDp.out (by omega) rfl).2 (by omega) (by rw [show e - ((L : Int) - (M : Int) + e - 53) = 53 + (M : Int) - (L : Int) by omega]; exact hbits.1)
        rw [← HNUM.out, ← HDEN.out, Flt.inf_eq] at hD
        have HD := Lib.hid hD
        clear hD hbits
        go_wp2_with fail
        go_ret2
        exact ⟨_, _, rfl, HD.out.1, by simp [HD.out.2], hbw3⟩
      · obtain ⟨Q, hQ⟩ : ∃ Q, Q = qq P D (53 + (M : Int) - (L : Int)) := ⟨_, rfl⟩
        obtain ⟨b, hb⟩ : ∃ b, b = qb P D (53 + (M : Int) - (L : Int)) := ⟨_, rfl⟩
        rw [← hQ] at hbits
        have HQ := Lib.hid hQ
        have HB := Lib.hid hb
        have HQB := Lib.hid hbits
        clear hQ hb hbits
        go_wp2_with fail
        rw [show (e - ((L : Int) - (M : Int) + e - 53)) = 53 + (M : Int) - (L : Int) by omega]
        refine (ref_quot_of negq A Aq _ _ _ _ P D (53 + (M : Int) - (L : Int)) _ (by exact hp5) (by exact hq5) (by omega) (by omega) (by omega) hD0 hD1 Q b HQ HB (by have := HQB.out; omega)).mono ?_
        rintro e4 w4 ⟨rfl, hb4⟩
        have hbw4 := below_next hbw3 hb4
        obtain ⟨z, hz⟩ : ∃ z : Int, z = (Q : Int) := ⟨_, rfl⟩
        rw [← hz]
        have hQb := HQB.out
        by_cases h53 : Q < 2 ^ 53
        · have g1 : ¬ (9007199254740992 : Int) ≤ z := by omega
          have g2 : ¬ z < 4503599627370496 := by omega
          have g4 : z < 9007199254740992 := by omega
          have GZ := Lib.hid hz
          have H53 := Lib.hid h53
          clear hz h53 hQb
          by_cases hk : (971 : Int) < (L : Int) - (M : Int) + e - 53
          · have hD := (qq_dn P (D := D) (E := ((L : Int) - (M : Int) + e - 53 + 1074).toNat) (e := e) (k := (L : Int) - (M : Int) + e - 53) hDp.out (by omega) rfl).2 hk (by rw [show e - ((L : Int) - (M : Int) + e - 53) = 53 + (M : Int) - (L : Int) by omega, ← HQ.out]; exact HQB.out.1)
            rw [← HNUM.out, ← HDEN.out, Flt.inf_eq] at hD
            have HD := Lib.hid hD
            clear hD HQ HB
            go_wp2_with fail
            go_ret2
            exact ⟨_, _, rfl, HD.out.1, by simp [HD.out.2], hbw4⟩
          · have hD := (qq_dn P (D := D) (E := ((L : Int) - (M : Int) + e - 53 + 1074).toNat) (e := e) (k := (L : Int) - (M : Int) + e - 53) hDp.out (by omega) rfl).1
            rw [show e - ((L : Int) - (M : Int) + e - 53) = 53 + (M : Int) - (L : Int) by omega, ← HQ.out, ← HB.out, ← HNUM.out, ← HDEN.out, show ((L : Int) - (M : Int) + e - 53 + 1074).toNat * 2 ^ 52 + Q = (((L : Int) - (M : Int) + e - 53 + 1075) * 4503599627370496 + z - 4503599627370496).toNat by rw [GZ.out]; omega] at hD
            have hD := hD (by omega) H53.out (Or.inr (by have := HQB.out; omega))
            generalize hr : (((L : Int) - (M : Int) + e - 53 + 1075) * 4503599627370496 + z - 4503599627370496).toNat = r at hD
            have HD := Lib.hid hD
            have HR := Lib.hid hr
            clear hD hr HQ HB
            go_wp2_with fail
            rw [HR.out]
            go_ret2
            exact ⟨r, b, rfl, HD.out.1, HD.out.2, hbw4⟩
        · obtain ⟨h, hh⟩ : ∃ h : Int, h = ((Q / 2 : Nat) : Int) := ⟨_, rfl⟩
          have g1 : (9007199254740992 : Int) ≤ z := by omega
          have gh : z.tdiv 2 = h := by rw [hz, hh, Int.tdiv_eq_ediv_of_nonneg (by omega)]; omega
          have gw : IntKind.u64.wrap h = h := IntWalk.u64_in _ (by omega)
          have g2 : ¬ h < 4503599627370496 := by omega
          have g4 : h < 9007199254740992 := by omega
          have GZ := Lib.hid hz
          have GH := Lib.hid hh
          obtain ⟨c1, hc⟩ : ∃ c1 : Bool, (z % 2 == 0) = c1 := ⟨_, rfl⟩
          have gc : Hid ((qb P D (53 + (M : Int) - (L : Int)) && qq P D (53 + (M : Int) - (L : Int)) % 2 == 0) = (b && c1)) := by
            have : (Q % 2 == 0) = c1 := by rw [← hc, hz, Bool.eq_iff_iff]; simp only [beq_iff_eq]; omega
            rw [← HQ.out, ← HB.out, this]
            exact rfl
          have HQ2 := HQ
          have h53' : 9007199254740992 ≤ Q := by omega
          clear hz hh HQ HB h53
          have hh2 := qq_half P hDp.out (53 + (M : Int) - (L : Int))
          by_cases hk : (971 : Int) < (L : Int) - (M : Int) + e - 52
          · have hD := (qq_dn P (D := D) (E := ((L : Int) - (M : Int) + e - 52 + 1074).toNat) (e := e) (k := (L : Int) - (M : Int) + e - 52) hDp.out (by omega) rfl).2 hk (by rw [show e - ((L : Int) - (M : Int) + e - 52) = 53 + (M : Int) - (L : Int) - 1 by omega, hh2.1, ← HQ2.out]; omega)
            rw [← HNUM.out, ← HDEN.out, Flt.inf_eq] at hD
            have HD := Lib.hid hD
            clear hD hh2 hQb
            cases b with
            | true =>
              go_wp2_with fail
              go_ret2
              exact ⟨_, _, rfl, HD.out.1, by simp [HD.out.2], hbw4⟩
            | false =>
              go_wp2_with fail
              go_ret2
              exact ⟨_, _, rfl, HD.out.1, by simp [HD.out.2], hbw4⟩
          · have hD := (qq_dn P (D := D) (E := ((L : Int) - (M : Int) + e - 52 + 1074).toNat) (e := e) (k := (L : Int) - (M : Int) + e - 52) hDp.out (by omega) rfl).1
            rw [show e - ((L : Int) - (M : Int) + e - 52) = 53 + (M : Int) - (L : Int) - 1 by omega, hh2.1, hh2.2, gc.out, ← HQ2.out, ← HNUM.out, ← HDEN.out, show ((L : Int) - (M : Int) + e - 52 + 1074).toNat * 2 ^ 52 + Q / 2 = (((L : Int) - (M : Int) + e - 53 + 1 + 1075) * 4503599627370496 + h - 4503599627370496).toNat by rw [GH.out]; omega] at hD
            have hD := hD (by omega) (by omega) (Or.inr (by omega))
            generalize hr : (((L : Int) - (M : Int) + e - 53 + 1 + 1075) * 4503599627370496 + h - 4503599627370496).toNat = r at hD
            have HD := Lib.hid hD
            have HR := Lib.hid hr
            clear hD hh2 hQb hr
            cases b with
            | true =>
              go_wp2_with fail
              rw [HR.out]
              go_ret2
              exact ⟨r, c1, rfl, HD.out.1, HD.out.2, hbw4⟩
            | false =>
              go_wp2_with fail
              rw [HR.out]
              go_ret2
              exact ⟨r, false, rfl, HD.out.1, HD.out.2, hbw4⟩
end Go.Proofs.YtjcjphgpmpjmbaaGreatDoor

/-! The references' floats (polestarref04): the quotient. -/
namespace Go.Proofs.YtjcjphgpmpjmbaaGreatDoor
open Go.RowKit

theorem frozen_alloc {w : World} (o : Obj) {g k : Nat} (h : g < w.heap.size) : (w.alloc o).frozen? ⟨g, k, none⟩ = w.frozen? ⟨g, k, none⟩ :=
  ((Below.refl w.heap.size w).alloc (Nat.le_refl _) o).frozen (p := ⟨g, k, none⟩) h

/-- Beside a fraction times a power of two. -/
theorem ref_beside_frac (neg negq : Bool) (A Aq : Option Addr) (n c nq cq : Nat) (z e : Int) (D num den : Nat) (w : World) (hp : IsInt w neg A n c z) (hq : IsInt w negq Aq nq cq (D : Int)) (hn : n ≤ 10000) (hnq : nq ≤ 10000) (hD : D ≠ 0) (he : -10000 ≤ e ∧ e ≤ 10000)
    (hnum : Hid (num = z.natAbs * 2 ^ (e + 1074).toNat)) (hden : Hid (den = D * 2 ^ (-(e + 1074)).toNat)) :
    Calls Tryz.prog 144 #[.agg #[.bool neg, .slice A n c], .agg #[.bool negq, .slice Aq nq cq], .int .i64 e] w (RetPair w (Brk (decide (z < 0)) num den)) := by
  refine ref_beside_gen neg negq A Aq n c nq cq z (D : Int) e num den w hp hq (by omega) (fun W neg' A' n' c' h1 h2 => ?_) (fun h => ?_)
  · have hneg : neg' = false := by
      obtain ⟨l, _, cl, hl, hz⟩ := h1
      cases neg' with
      | false => rfl
      | true =>
        have h0 : Lm.lv l = 0 := by unfold sgnd at hz; simp at hz; omega
        exact hl ((Lm.lv_zero cl).1 h0)
    subst hneg
    have hn' : n' ≤ n := isInt_len_mono h1 hp (by simp)
    rw [hnum.out, hden.out]
    by_cases h1' : D = 1
    · subst h1'
      rw [Nat.one_mul]
      exact ref_under_one negq A' Aq n' c' nq cq z.natAbs e W h1 h2 (by omega) (by omega)
    · exact ref_under_long negq A' Aq n' c' nq cq z.natAbs D e W h1 h2 (by omega) hnq hD h1' (by omega)
  · rw [hnum.out]
    exact Nat.mul_pos (by omega) (Nat.two_pow_pos _)

end Go.Proofs.YtjcjphgpmpjmbaaGreatDoor
