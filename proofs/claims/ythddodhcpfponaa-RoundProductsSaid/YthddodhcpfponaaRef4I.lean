/-
  The references' whole numbers and floats: Divide by any number; quotients by any number.
-/
import Derived.Test.YthddodhcpfponaaRefP
import Derived.Test.YthddodhcpfponaaRef4E
namespace Go.Proofs.Ythddodhcpfponaa
open Go.RowKit

theorem isInt_lt {w : World} {neg : Bool} {A : Option Addr} {n c : Nat} {z : Int} (h : IsInt w neg A n c z) : z.natAbs < Lm.B ^ n := by
  obtain ⟨l, hl, _, _, rfl⟩ := h
  have h1 : (sgnd neg (Lm.lv l)).natAbs = Lm.lv l := by unfold sgnd; split <;> omega
  rw [h1, ← hl.len]
  exact Lm.lv_lt hl.ok
theorem len_doubled {w w' : World} {neg neg' : Bool} {A A' : Option Addr} {n c n' c' k : Nat} {z v : Int} (h : IsInt w neg A n c z) (h' : IsInt w' neg' A' n' c' v) (hv : v.natAbs = z.natAbs * 2 ^ k) : n' ≤ n + (k / 32 + 1) := by
  refine isInt_len_le h' ?_
  rw [hv, Nat.pow_add]
  have h1 := isInt_lt h
  have h2 : 2 ^ k ≤ Lm.B ^ (k / 32 + 1) := by
    have e : Lm.B ^ (k / 32 + 1) = 2 ^ (32 * (k / 32 + 1)) := by rw [Nat.pow_mul]
    rw [e]
    exact Nat.pow_le_pow_right (by decide) (by omega)
  exact Nat.lt_of_lt_of_le (Nat.mul_lt_mul_of_pos_right h1 (Nat.two_pow_pos k)) (Nat.mul_le_mul_left _ h2)

theorem ref_Divide_any (neg neg' : Bool) (A A' : Option Addr) (n c n' c' : Nat) (x y : Int) (w : World) (hx : IsInt w neg A n c x) (hy : IsInt w neg' A' n' c' y) (hn : n ≤ 1000000000) (hn' : n' ≤ 1000000) (hy0 : y ≠ 0) :
    Calls Try.prog 87 #[.agg #[.bool neg, .slice A n c], .agg #[.bool neg', .slice A' n' c']] w (RetTwoInts w (x.tdiv y) (x.tmod y)) := by
  have h0 : n' ≠ 0 := fun e => hy0 ((isInt_zero hy).1 e)
  by_cases h1 : n' = 1
  · subst h1
    exact ref_Divide_one _ _ _ _ _ _ _ _ _ _ hx hy hn
  · obtain ⟨a, ha, ca, _, rfl⟩ := hx
    obtain ⟨b, hb, cb, _, rfl⟩ := hy
    rw [sgnd_tdiv, sgnd_tmod]
    exact ref_quo_of _ _ _ _ _ _ _ _ _ _ _ ha hb hn (by omega) (fun W hA hB => ref_divide_long _ _ _ _ _ _ _ _ _ hA hB cb hn hn' (by omega))

set_option maxRecDepth 100000 in
set_option maxHeartbeats 1200000 in
theorem ref_quot_pos (negq : Bool) (A Aq : Option Addr) (n c nq cq k P D Q : Nat) (b : Bool) (w : World) (hp : IsInt w false A n c (P : Int)) (hq : IsInt w negq Aq nq cq (D : Int)) (hn : n ≤ 10000000) (hnq : nq ≤ 1000000) (hk : k ≤ 1000000000) (hD : D ≠ 0)
    (hQ : Hid (Q = P * 2 ^ k / D)) (hQb : Q ≤ 9223372036854775807) (hb : Hid (b = decide (P * 2 ^ k % D = 0))) :
    Calls Try.prog 90 #[.agg #[.bool false, .slice A n c], .agg #[.bool negq, .slice Aq nq cq], .int .i64 (k : Int)] w (RetV w (.tuple #[.int .u64 Q, .bool b])) := by
  have hp2 := (hp.alloc (.cells #[.bool false, .slice A n c] 32)).alloc (.cells #[.bool negq, .slice Aq nq cq] 32)
  have hq2 := (hq.alloc (.cells #[.bool false, .slice A n c] 32)).alloc (.cells #[.bool negq, .slice Aq nq cq] 32)
  have hk0 : decide ((k : Int) < 0) = false := decide_eq_false (by omega)
  go_enter Try.func90, Try.ntmps90
  go_wp2
  go_quiet (fail)
  go_wp2_with fail
  refine (ref_double_any _ _ _ _ _ _ _ (by exact hp2.drewN _) (by omega) hk).mono ?_
  rintro e w1 ⟨neg1, A1, n1, c1, rfl, hI1, hb1⟩
  have hPQ : ((P : Int) * 2 ^ k) = ((P * 2 ^ k : Nat) : Int) := by rw [Int.natCast_mul, Int.natCast_pow]; rfl
  rw [hPQ] at hI1
  have hn1 : n1 ≤ n + (k / 32 + 1) := len_doubled hp hI1 (by rw [Int.natAbs_natCast, Int.natAbs_natCast])
  obtain ⟨M, hM⟩ : ∃ M, P * 2 ^ k = M := ⟨_, rfl⟩
  rw [hM] at hI1 hQ hb
  clear hPQ hM
  obtain ⟨hc1, hf1⟩ := bcell hb1
  have r1 := hc1 w.heap.size 0 (by simp <;> omega)
  have r2 := hc1 w.heap.size 1 (by simp <;> omega)
  have r3 := hf1 w.heap.size 0 (by simp <;> omega)
  have r4 := hf1 w.heap.size 1 (by simp <;> omega)
  have r5 := hc1 (w.heap.size + 1) 0 (by simp <;> omega)
  have r6 := hc1 (w.heap.size + 1) 1 (by simp <;> omega)
  have hz1 : w.heap.size + 1 < w1.heap.size := by have := hb1.size; simp at this; omega
  have hq3 := (hq2.drewN _).below hb1
  have x1 : ¬ w.heap.size + 1 = w.heap.size := by omega
  have x2 : ¬ w.heap.size = w.heap.size + 1 := by omega
  have c0 : w1.cell? ⟨w.heap.size, 0, none⟩ = some (.bool false) := r1.trans (by simp [go_sem])
  have c1' : w1.cell? ⟨w.heap.size, 1, none⟩ = some (.slice A n c) := r2.trans (by simp [go_sem])
  have hI2 := isInt_result hI1 c0 c1' (.bool neg1) (.slice A1 n1 c1)
  have hq4 := isInt_result hq3 c0 c1' (.bool neg1) (.slice A1 n1 c1)
  have hbw1 : Below w.heap.size w ((w1.setCell ⟨w.heap.size, 0, none⟩ (.bool neg1)).setCell ⟨w.heap.size, 1, none⟩ (.slice A1 n1 c1)) := below_result (below_box (below_box (below_of_drewN hb1))) (Nat.le_refl _) _ _
  obtain ⟨W1, hW1⟩ : ∃ W1, W1 = ((w1.setCell ⟨w.heap.size, 0, none⟩ (.bool neg1)).setCell ⟨w.heap.size, 1, none⟩ (.slice A1 n1 c1)) := ⟨_, rfl⟩
  have hzW : w1.heap.size = W1.heap.size := by rw [hW1]; simp [World.setCell]
  clear hb1 hc1 hf1
  go_wp2_with fail
  rw [← hW1]
  rw [← hW1] at hI2 hq4 hbw1
  refine (ref_Divide_any _ _ _ _ _ _ _ _ _ _ _ (by exact hI2) (by exact hq4) (by omega) hnq (by omega)).mono ?_
  rintro e w2 ⟨neg2, A2, n2, c2, neg3, A3, n3, c3, rfl, hI3, hI4, hb2⟩
  have e3 : ((M : Int).tdiv (D : Int)) = (Q : Int) := by rw [hQ.out, ← Int.ofNat_tdiv]
  have e4 : ((M : Int).tmod (D : Int)) = ((M % D : Nat) : Int) := (Int.ofNat_tmod M D).symm
  rw [e3] at hI3
  rw [e4] at hI4
  obtain ⟨R, hR⟩ : ∃ R, M % D = R := ⟨_, rfl⟩
  rw [hR] at hI4 hb
  obtain ⟨t, ht⟩ : ∃ t, (R : Int).sign = t := ⟨_, rfl⟩
  have HT := Lib.hid ht
  have HB : Hid ((t == 0) = b) := by
    have ht0 : t = 0 ↔ (R : Int) = 0 := by rw [← ht]; exact Int.sign_eq_zero_iff_zero
    rw [hb.out]
    refine Lib.hid ?_
    by_cases h0 : R = 0
    · rw [decide_eq_true h0]; exact beq_iff_eq.2 (ht0.2 (by omega))
    · rw [decide_eq_false h0, beq_eq_false_iff_ne]; intro h'; have := ht0.1 h'; omega
  have hz2 : w.heap.size + 1 < w2.heap.size := by have := hb2.size; omega
  have hbw2 := below_next hbw1 hb2
  clear hW1 hzW r1 r2 r3 r4 r5 r6 c0 c1' hb2 e3 e4 hR ht
  have hI5 := (hI3.alloc (.cells #[.bool neg2, .slice A2 n2 c2] 32)).alloc (.cells #[.bool neg3, .slice A3 n3 c3] 32)
  have hI6 := (hI4.alloc (.cells #[.bool neg2, .slice A2 n2 c2] 32)).alloc (.cells #[.bool neg3, .slice A3 n3 c3] 32)
  go_wp2
  go_region_held3 (fun w' => w'.cell? ⟨w2.heap.size, 0, none⟩ = some (.bool neg2) ∧ w'.cell? ⟨w2.heap.size, 1, none⟩ = some (.slice A2 n2 c2) ∧ w'.cell? ⟨w2.heap.size + 1, 0, none⟩ = some (.bool neg3) ∧ w'.cell? ⟨w2.heap.size + 1, 1, none⟩ = some (.slice A3 n3 c3))
    (go_keep)
    (first | (go_at_call 110; refine (ref_number_any _ _ _ _ _ _ (by exact hI5.drewN 1) (by omega) (by omega)).mono ?_; rintro e w4 ⟨rfl, hb4⟩; obtain ⟨hc4, hf4⟩ := bcell hb4; have a0 := hc4 (w2.heap.size) 0 (by simp <;> omega); have a1 := hc4 (w2.heap.size) 1 (by simp <;> omega); have a2 := hc4 (w2.heap.size + 1) 0 (by simp <;> omega); have a3 := hc4 (w2.heap.size + 1) 1 (by simp <;> omega); have hI7 := (hI6.drewN 1).below hb4; have hz4 : w2.heap.size + 1 < w4.heap.size := (by have := hb4.size; simp at this; omega); have hbw4 : Below w.heap.size w w4 := below_next hbw2 (below_box (below_box (below_of_drew hb4)))) | (go_at_call 43; refine (ref_sign_of _ _ _ _ _ t _ (by exact hI7) HT).mono ?_; rintro e w5 ⟨rfl, hb5⟩; obtain ⟨hc5, hf5⟩ := bcell hb5; have b0 := hc5 (w2.heap.size) 0 (by omega); have b1 := hc5 (w2.heap.size) 1 (by omega); have b2 := hc5 (w2.heap.size + 1) 0 (by omega); have b3 := hc5 (w2.heap.size + 1) 1 (by omega); have hbw5 := below_next hbw4 hb5))
  go_wp2
  go_ret2
  exact ⟨by rw [← HB.out]; rfl, hbw5⟩

theorem ref_cmp_of (neg neg' : Bool) (A A' : Option Addr) (n c n' c' : Nat) (x y v : Int) (w : World) (hx : IsInt w neg A n c x) (hy : IsInt w neg' A' n' c' y) (hn : n ≤ 1000000000) (hn' : n' ≤ 1000000000) (h : Hid (icmp x y = v)) :
    Calls Try.prog 89 #[.agg #[.bool neg, .slice A n c], .agg #[.bool neg', .slice A' n' c']] w (RetV w (.int .i64 v)) :=
  (ref_cmp_int _ _ _ _ _ _ _ _ _ _ _ hx hy hn hn').mono fun _ _ ⟨he, hb⟩ => ⟨by rw [he, h.out], hb⟩

set_option maxRecDepth 100000 in
set_option maxHeartbeats 1200000 in
theorem ref_quot_neg (negq : Bool) (A Aq : Option Addr) (n c nq cq k P D Q : Nat) (b : Bool) (w : World) (hp : IsInt w false A n c (P : Int)) (hq : IsInt w negq Aq nq cq (D : Int)) (hn : n ≤ 10000000) (hnq : nq ≤ 100000) (hk0 : 0 < k) (hk : k ≤ 1000000) (hD : D ≠ 0) (hD1 : D ≠ 1)
    (hQ : Hid (Q = P / (D * 2 ^ k))) (hQb : Q ≤ 9223372036854775807) (hb : Hid (b = decide (P % (D * 2 ^ k) = 0))) :
    Calls Try.prog 90 #[.agg #[.bool false, .slice A n c], .agg #[.bool negq, .slice Aq nq cq], .int .i64 (-(k : Int))] w (RetV w (.tuple #[.int .u64 Q, .bool b])) := by
  have hneg : -(k : Int) < 0 := by omega
  have hkk : IntKind.i64.wrap (-(-(k : Int))) = (k : Int) := by rw [Int.neg_neg]; exact IntWalk.i64_in _ (by omega)
  have hp2 := (hp.alloc (.cells #[.bool false, .slice A n c] 32)).alloc (.cells #[.bool negq, .slice Aq nq cq] 32)
  have hq2 := (hq.alloc (.cells #[.bool false, .slice A n c] 32)).alloc (.cells #[.bool negq, .slice Aq nq cq] 32)
  obtain ⟨v, hv⟩ : ∃ v, icmp (D : Int) 1 = v := ⟨_, rfl⟩
  have hv0 : (v == 0) = false := by rw [← hv, icmp_zero]; exact decide_eq_false (by omega)
  have HV := Lib.hid hv
  clear hv
  go_enter Try.func90, Try.ntmps90
  go_wp2
  go_region_held3 (fun w' => w'.cell? ⟨w.heap.size + 1, 0, none⟩ = some (.bool negq) ∧ w'.cell? ⟨w.heap.size + 1, 1, none⟩ = some (.slice Aq nq cq))
    (go_keep)
    (first | (go_at_call 45; refine (ref_one_any _).mono ?_; rintro e w1 ⟨neg1, A1, n1, c1, rfl, hI1, hb1⟩; obtain ⟨hc1, hf1⟩ := bcell hb1; have k1 := hc1 (w.heap.size + 1) 0 (by simp <;> omega); have k2 := hc1 (w.heap.size + 1) 1 (by simp <;> omega); have k3 := hc1 w.heap.size 0 (by simp <;> omega); have k4 := hc1 w.heap.size 1 (by simp <;> omega); have g1 := hf1 (w.heap.size + 1) 0 (by simp <;> omega); have g2 := hf1 (w.heap.size + 1) 1 (by simp <;> omega); have hq3 := (hq2.drewN 1).below hb1; have hp3 := (hp2.drewN 1).below hb1; have hbw : Below w.heap.size w w1 := below_box (below_box (below_of_drew hb1)); have hz1 : w.heap.size + 1 < w1.heap.size := (by have := hb1.size; simp at this; omega); have hn1 : n1 ≤ 1 := isInt_len_le hI1 (by decide)) | (go_at_call 89; refine (ref_cmp_of _ _ _ _ _ _ _ _ _ _ v _ hq3 hI1 (by omega) (by omega) HV).mono ?_; rintro e w2 ⟨rfl, hb2⟩; obtain ⟨hc2, hf2⟩ := bcell hb2; have j1 := hc2 (w.heap.size + 1) 0 (by omega); have j2 := hc2 (w.heap.size + 1) 1 (by omega); have j3 := hc2 w.heap.size 0 (by omega); have j4 := hc2 w.heap.size 1 (by omega); have i1 := hf2 (w.heap.size + 1) 0 (by omega); have i2 := hf2 (w.heap.size + 1) 1 (by omega); have hz2 : w.heap.size + 1 < w2.heap.size := (by have := hb2.size; omega)))
  have hp4 := hp3.below hb2
  have hq4 := hq3.below hb2
  have hbw2 := below_next hbw hb2
  have y1 : w2.cell? ⟨w.heap.size + 1, 0, none⟩ = some (.bool negq) := j1.trans (k1.trans (by simp [go_sem]))
  have y2 : w2.cell? ⟨w.heap.size + 1, 1, none⟩ = some (.slice Aq nq cq) := j2.trans (k2.trans (by simp [go_sem]))
  have y3 : w2.cell? ⟨w.heap.size, 0, none⟩ = some (.bool false) := j3.trans (k3.trans (by simp [go_sem]))
  have y4 : w2.cell? ⟨w.heap.size, 1, none⟩ = some (.slice A n c) := j4.trans (k4.trans (by simp [go_sem]))
  have z1 : w2.frozen? ⟨w.heap.size + 1, 0, none⟩ = false := i1.trans (g1.trans (by simp [go_sem]))
  have z2 : w2.frozen? ⟨w.heap.size + 1, 1, none⟩ = false := i2.trans (g2.trans (by simp [go_sem]))
  clear k1 k2 k3 k4 j1 j2 j3 j4 hc1 hf1 hc2 hf2 g1 g2 i1 i2 hb1 hb2 hp3 hq3 hp2 hq2 hbw
  go_wp2_with fail
  refine (ref_double_any _ _ _ _ _ _ _ (by exact hq4) (by omega) (by omega)).mono ?_
  rintro e w3 ⟨neg3, A3, n3, c3, rfl, hI3, hb3⟩
  have hPQ : ((D : Int) * 2 ^ k) = ((D * 2 ^ k : Nat) : Int) := by rw [Int.natCast_mul, Int.natCast_pow]; rfl
  rw [hPQ] at hI3
  have hn3 : n3 ≤ nq + (k / 32 + 1) := len_doubled hq hI3 (by rw [Int.natAbs_natCast, Int.natAbs_natCast])
  have hM0 : Hid (D * 2 ^ k ≠ 0) := Lib.hid (Nat.ne_of_gt (Nat.mul_pos (by omega) (Nat.two_pow_pos k)))
  obtain ⟨M, hM⟩ : ∃ M, D * 2 ^ k = M := ⟨_, rfl⟩
  rw [hM] at hI3 hQ hb hM0
  clear hPQ hM
  obtain ⟨hc3, hf3⟩ := bcell hb3
  have r1 := (hc3 (w.heap.size + 1) 0 (by omega)).trans y1
  have r2 := (hc3 (w.heap.size + 1) 1 (by omega)).trans y2
  have r3 := (hf3 (w.heap.size + 1) 0 (by omega)).trans z1
  have r4 := (hf3 (w.heap.size + 1) 1 (by omega)).trans z2
  have r5 := (hc3 w.heap.size 0 (by omega)).trans y3
  have r6 := (hc3 w.heap.size 1 (by omega)).trans y4
  have hz3 : w.heap.size + 1 < w3.heap.size := by have := hb3.size; omega
  have hp5 := hp4.below hb3
  have x1 : ¬ w.heap.size + 1 = w.heap.size := by omega
  have x2 : ¬ w.heap.size = w.heap.size + 1 := by omega
  have hI4 := isInt_result hI3 r1 r2 (.bool neg3) (.slice A3 n3 c3)
  have hp6 := isInt_result hp5 r1 r2 (.bool neg3) (.slice A3 n3 c3)
  have hbw3 : Below w.heap.size w ((w3.setCell ⟨w.heap.size + 1, 0, none⟩ (.bool neg3)).setCell ⟨w.heap.size + 1, 1, none⟩ (.slice A3 n3 c3)) := below_result (below_next hbw2 hb3) (by omega) _ _
  obtain ⟨W1, hW1⟩ : ∃ W1, W1 = ((w3.setCell ⟨w.heap.size + 1, 0, none⟩ (.bool neg3)).setCell ⟨w.heap.size + 1, 1, none⟩ (.slice A3 n3 c3)) := ⟨_, rfl⟩
  have hzW : w3.heap.size = W1.heap.size := by rw [hW1]; simp [World.setCell]
  clear hb3 hc3 hf3 y1 y2 y3 y4 z1 z2 hp4 hq4 hbw2 hp5 hI3
  go_wp2_with fail
  rw [← hW1]
  rw [← hW1] at hI4 hp6 hbw3
  refine (ref_Divide_any _ _ _ _ _ _ _ _ _ _ _ (by exact hp6) (by exact hI4) (by omega) (by omega) (by have := hM0.out; omega)).mono ?_
  rintro e w2 ⟨neg2, A2, n2, c2, neg3, A3, n3, c3, rfl, hI3, hI4, hb2⟩
  have e3 : ((P : Int).tdiv (M : Int)) = (Q : Int) := by rw [hQ.out, ← Int.ofNat_tdiv]
  have e4 : ((P : Int).tmod (M : Int)) = ((P % M : Nat) : Int) := (Int.ofNat_tmod P M).symm
  rw [e3] at hI3
  rw [e4] at hI4
  obtain ⟨R, hR⟩ : ∃ R, P % M = R := ⟨_, rfl⟩
  rw [hR] at hI4 hb
  obtain ⟨t, ht⟩ : ∃ t, (R : Int).sign = t := ⟨_, rfl⟩
  have HT := Lib.hid ht
  have HB : Hid ((t == 0) = b) := by
    have ht0 : t = 0 ↔ (R : Int) = 0 := by rw [← ht]; exact Int.sign_eq_zero_iff_zero
    rw [hb.out]
    refine Lib.hid ?_
    by_cases h0 : R = 0
    · rw [decide_eq_true h0]; exact beq_iff_eq.2 (ht0.2 (by omega))
    · rw [decide_eq_false h0, beq_eq_false_iff_ne]; intro h'; have := ht0.1 h'; omega
  have hz2 : w.heap.size + 1 < w2.heap.size := by have := hb2.size; omega
  have hbw2 := below_next hbw3 hb2
  clear hW1 hzW r1 r2 r3 r4 r5 r6 hb2 e3 e4 hR ht
  have hI5 := (hI3.alloc (.cells #[.bool neg2, .slice A2 n2 c2] 32)).alloc (.cells #[.bool neg3, .slice A3 n3 c3] 32)
  have hI6 := (hI4.alloc (.cells #[.bool neg2, .slice A2 n2 c2] 32)).alloc (.cells #[.bool neg3, .slice A3 n3 c3] 32)
  go_wp2
  go_region_held3 (fun w' => w'.cell? ⟨w2.heap.size, 0, none⟩ = some (.bool neg2) ∧ w'.cell? ⟨w2.heap.size, 1, none⟩ = some (.slice A2 n2 c2) ∧ w'.cell? ⟨w2.heap.size + 1, 0, none⟩ = some (.bool neg3) ∧ w'.cell? ⟨w2.heap.size + 1, 1, none⟩ = some (.slice A3 n3 c3))
    (go_keep)
    (first | (go_at_call 110; refine (ref_number_any _ _ _ _ _ _ (by exact hI5.drewN 1) (by omega) (by omega)).mono ?_; rintro e w4 ⟨rfl, hb4⟩; obtain ⟨hc4, hf4⟩ := bcell hb4; have a0 := hc4 (w2.heap.size) 0 (by simp <;> omega); have a1 := hc4 (w2.heap.size) 1 (by simp <;> omega); have a2 := hc4 (w2.heap.size + 1) 0 (by simp <;> omega); have a3 := hc4 (w2.heap.size + 1) 1 (by simp <;> omega); have hI7 := (hI6.drewN 1).below hb4; have hz4 : w2.heap.size + 1 < w4.heap.size := (by have := hb4.size; simp at this; omega); have hbw4 : Below w.heap.size w w4 := below_next hbw2 (below_box (below_box (below_of_drew hb4)))) | (go_at_call 43; refine (ref_sign_of _ _ _ _ _ t _ (by exact hI7) HT).mono ?_; rintro e w5 ⟨rfl, hb5⟩; obtain ⟨hc5, hf5⟩ := bcell hb5; have b0 := hc5 (w2.heap.size) 0 (by omega); have b1 := hc5 (w2.heap.size) 1 (by omega); have b2 := hc5 (w2.heap.size + 1) 0 (by omega); have b3 := hc5 (w2.heap.size + 1) 1 (by omega); have hbw5 := below_next hbw4 hb5))
  go_wp2
  go_ret2
  exact ⟨by rw [← HB.out]; rfl, hbw5⟩
end Go.Proofs.Ythddodhcpfponaa
