/-
  The references floats (polestarref04): worth, the floats beside, Two.
-/
import Derived.Test.YtjcjphgpmpjmbaaGreatDoorRefV
import Derived.Test.YtjcjphgpmpjmbaaGreatDoorFlt
import Derived.Deep.CutRange
/-! The references' floats (polestarref04): what a float is worth. -/
namespace Go.Proofs.YtjcjphgpmpjmbaaGreatDoor
open Go.RowKit

/-- The two fields of a float's bits, and its sign, as the walk spells them. -/
theorem frac_bits (x : Nat) (h : x < 2 ^ 64) : bits .and .u64 (x : Int) 4503599627370495 = ((x % 2 ^ 52 : Nat) : Int) := by
  have := u64_and_nat x 4503599627370495 (by omega) (by omega)
  rw [show ((4503599627370495 : Nat) : Int) = 4503599627370495 from rfl] at this
  rw [this]
  congr 1
  exact Nat.and_two_pow_sub_one_eq_mod x 52
theorem expo_bits (x : Nat) (h : x < 2 ^ 64) : bits .and .u64 ((x : Int) / 4503599627370496) 2047 = ((x / 2 ^ 52 % 2048 : Nat) : Int) := by
  have := u64_and_nat (x / 2 ^ 52) 2047 (by omega) (by omega)
  rw [show ((2047 : Nat) : Int) = 2047 from rfl, show ((x / 2 ^ 52 : Nat) : Int) = (x : Int) / 4503599627370496 by omega] at this
  rw [this]
  congr 1
  exact Nat.and_two_pow_sub_one_eq_mod _ 11
theorem worth_sv {x m q : Nat} (hm : m = x % 2 ^ 52) (hq : q = x / 2 ^ 52 % 2048) (s : Bool) (hs : s = Flt.sgn x) {z : Int} (hz : z = (if s then -1 else 1) * (if q = 0 then (m : Int) else 4503599627370496 + m)) :
    z * ((2 ^ (q - 1) : Nat) : Int) = Flt.sv x ∧ z.natAbs < 2 ^ 53 ∧ q - 1 ≤ 2046 := by
  have hr : Flt.rg x = q * 2 ^ 52 + m := by unfold Flt.rg; omega
  have hv := Flt.val_mk q m (by omega)
  refine ⟨?_, ?_, by omega⟩
  · unfold Flt.sv
    rw [hr, hv, ← hs, hz]
    generalize 2 ^ (q - 1) = p
    by_cases h0 : q = 0
    · simp only [h0, if_true]
      cases s
      · simp
      · simp [Int.neg_mul]
    · simp only [h0, if_false]
      cases s
      · simp
      · simp [Int.neg_mul]
  · rw [hz]
    split <;> split <;> omega

end Go.Proofs.YtjcjphgpmpjmbaaGreatDoor

/-! The references' floats (polestarref04): one; quotients by a power of two. -/
namespace Go.Proofs.YtjcjphgpmpjmbaaGreatDoor
open Go.RowKit

set_option maxHeartbeats 400000 in
theorem ref_one_any (w : World) : Calls Tryz.prog 173 #[] w (RetInt w 1) := by
  go_enter Tryz.func173, Tryz.ntmps173
  go_wp2_with (go_at_call 66; refine (ref_of_any _ _ (by omega)).mono ?_; rintro e w1 ⟨neg1, A1, n1, c1, rfl, hI1, hb1⟩; obtain ⟨hc1, hf1⟩ := bcell hb1; have r1 := hc1 w.heap.size 0 (by simp <;> omega); have r2 := hc1 w.heap.size 1 (by simp <;> omega); have r3 := hf1 w.heap.size 0 (by simp <;> omega); have r4 := hf1 w.heap.size 1 (by simp <;> omega); have hz1 : w.heap.size < w1.heap.size := (by have := hb1.size; simp at this; omega))
  exact bodyPost_ret (v := .agg #[.bool neg1, .slice A1 n1 c1]) (by simp [results, Tryz.results173, go_sem, r1, r2]) rfl
    ⟨neg1, A1, n1, c1, rfl, isInt_result (b0 := false) (a0 := none) (n0 := 0) (c0 := 0) hI1 (r1.trans (by simp [go_sem])) (r2.trans (by simp [go_sem])) _ _, below_result (below_box hb1) (by omega) _ _⟩

theorem ref_cmp_same (neg neg' : Bool) (A A' : Option Addr) (n c n' c' : Nat) (x y : Int) (w : World) (hx : IsInt w neg A n c x) (hy : IsInt w neg' A' n' c' y) (hn : n ≤ 1000000000) (hn' : n' ≤ 1000000000) (h : x = y) :
    Calls Tryz.prog 108 #[.agg #[.bool neg, .slice A n c], .agg #[.bool neg', .slice A' n' c']] w (RetV w (.int .i64 0)) :=
  (ref_cmp_int _ _ _ _ _ _ _ _ _ _ _ hx hy hn hn').mono fun _ _ ⟨he, hb⟩ => ⟨by rw [he]; unfold icmp; rw [if_neg (by omega), if_neg (by omega)], hb⟩
theorem isInt_len_mono {w w' : World} {neg neg' : Bool} {A A' : Option Addr} {n c n' c' : Nat} {x y : Int} (h : IsInt w neg A n c x) (k : IsInt w' neg' A' n' c' y) (e : x.natAbs ≤ y.natAbs) : n ≤ n' := by
  refine isInt_len_le h ?_
  obtain ⟨b, hb, cb, _, rfl⟩ := k
  have h1 : ∀ (s : Bool) (m : Nat), (sgnd s m).natAbs = m := by intro s m; unfold sgnd; split <;> omega
  rw [h1] at e
  have := Lm.lv_lt hb.ok
  rw [hb.len] at this
  omega
theorem icmp_zero (x y : Int) : (icmp x y == 0) = decide (x = y) := by
  unfold icmp
  split
  · simp; omega
  · split
    · simp; omega
    · simp; omega

set_option maxRecDepth 100000 in
set_option maxHeartbeats 1200000 in
theorem ref_quotient_neg (negq : Bool) (A Aq : Option Addr) (n c nq cq k P Q : Nat) (b : Bool) (w : World) (hp : IsInt w false A n c (P : Int)) (hq : IsInt w negq Aq nq cq 1) (hn : n ≤ 10000000) (hk0 : 0 < k) (hk : k ≤ 1000000000)
    (hQ : Hid (Q = P / 2 ^ k)) (hQb : Q ≤ 9223372036854775807) (hb : Hid (b = decide (P % 2 ^ k = 0))) :
    Calls Tryz.prog 167 #[.agg #[.bool false, .slice A n c], .agg #[.bool negq, .slice Aq nq cq], .int .i64 (-(k : Int))] w (RetV w (.tuple #[.int .u64 Q, .bool b])) := by
  have hnq : nq ≤ 1 := isInt_len_le hq (by decide)
  have hneg : -(k : Int) < 0 := by omega
  have hp2 := (hp.alloc (.cells #[.bool false, .slice A n c] 27)).alloc (.cells #[.bool negq, .slice Aq nq cq] 27)
  have hq2 := (hq.alloc (.cells #[.bool false, .slice A n c] 27)).alloc (.cells #[.bool negq, .slice Aq nq cq] 27)
  go_enter Tryz.func167, Tryz.ntmps167
  go_wp2
  go_region_held3 (fun w' => w'.cell? ⟨w.heap.size + 1, 0, none⟩ = some (.bool negq) ∧ w'.cell? ⟨w.heap.size + 1, 1, none⟩ = some (.slice Aq nq cq))
    (go_keep)
    (first | (go_at_call 173; refine (ref_one_any _).mono ?_; rintro e w1 ⟨neg1, A1, n1, c1, rfl, hI1, hb1⟩; obtain ⟨hc1, hf1⟩ := bcell hb1; have k1 := hc1 (w.heap.size + 1) 0 (by simp <;> omega); have k2 := hc1 (w.heap.size + 1) 1 (by simp <;> omega); have k3 := hc1 w.heap.size 0 (by simp <;> omega); have k4 := hc1 w.heap.size 1 (by simp <;> omega); have hq3 := (hq2.drewN 1).below hb1; have hp3 := (hp2.drewN 1).below hb1; have hbw : Below w.heap.size w w1 := below_box (below_box (below_of_drew hb1)); have hz1 : w.heap.size + 1 < w1.heap.size := (by have := hb1.size; simp at this; omega); have hn1 : n1 ≤ 1 := isInt_len_le hI1 (by decide)) | (go_at_call 108; refine (ref_cmp_same _ _ _ _ _ _ _ _ _ _ _ hq3 hI1 (by omega) (by omega) rfl).mono ?_; rintro e w2 ⟨rfl, hb2⟩; obtain ⟨hc2, hf2⟩ := bcell hb2; have j1 := hc2 (w.heap.size + 1) 0 (by omega); have j2 := hc2 (w.heap.size + 1) 1 (by omega); have j3 := hc2 w.heap.size 0 (by omega); have j4 := hc2 w.heap.size 1 (by omega); have hz2 : w.heap.size + 1 < w2.heap.size := (by have := hb2.size; omega)))
  have hp4 := hp3.below hb2
  have hbw2 := below_next hbw hb2
  have y3 : w2.cell? ⟨w.heap.size, 0, none⟩ = some (.bool false) := j3.trans (k3.trans (by simp [go_sem]))
  have y4 : w2.cell? ⟨w.heap.size, 1, none⟩ = some (.slice A n c) := j4.trans (k4.trans (by simp [go_sem]))
  clear k1 k2 k3 k4 j1 j2 j3 j4 hc1 hf1 hc2 hf2
  have hdbl : ∀ {w' : World} {neg' : Bool} {A' : Option Addr} {n' c' : Nat}, IsInt w' neg' A' n' c' ((Q : Int) * 2 ^ k) → n' ≤ 1000000000 := by
    intro w' neg' A' n' c' h
    have hle : ((Q : Int) * 2 ^ k).natAbs ≤ (P : Int).natAbs := by
      have h2 : (Q : Int) * 2 ^ k = ((Q * 2 ^ k : Nat) : Int) := by rw [Int.natCast_mul, Int.natCast_pow]; rfl
      rw [h2, Int.natAbs_natCast, Int.natAbs_natCast, hQ.out]
      exact Nat.div_mul_le_self _ _
    have := isInt_len_mono h hp hle
    omega
  have hkk : IntKind.i64.wrap (-(-(k : Int))) = (k : Int) := by rw [Int.neg_neg]; exact IntWalk.i64_in _ (by omega)
  go_wp2_with fail
  refine (ref_halved_any _ _ _ _ _ _ (by exact hp4) hn hk).mono ?_
  rintro e w3 ⟨neg3, A3, n3, c3, rfl, hI3, hb3⟩
  rw [Int.natAbs_natCast, ← hQ.out] at hI3
  obtain ⟨hc3, hf3⟩ := bcell hb3
  have z3 := hc3 w.heap.size 0 (by omega)
  have z4 := hc3 w.heap.size 1 (by omega)
  have hn3 : n3 ≤ 10000000 := by
    have h1 := isInt_len_mono hI3 hp (by rw [Int.natAbs_natCast, Int.natAbs_natCast, hQ.out]; exact Nat.div_le_self _ _)
    omega
  have hneg3 : neg3 = false := by rw [isInt_neg hI3]; exact decide_eq_false (by omega)
  have hp5 := (hp4.below hb3).alloc (.cells #[.bool neg3, .slice A3 n3 c3] 27)
  have hI4 := hI3.alloc (.cells #[.bool neg3, .slice A3 n3 c3] 27)
  have hz3 : w.heap.size + 1 < w3.heap.size := by have := hb3.size; omega
  have x1 : ¬ w3.heap.size = w.heap.size := by omega
  have x2 : ¬ w.heap.size = w3.heap.size := by omega
  have hbw3 := below_next hbw2 hb3
  clear hneg3
  go_wp2
  have hk2 : IntKind.i64.wrap (k : Int) = (k : Int) := IntWalk.i64_in _ (by omega)
  go_region_held3 (fun w' => w'.cell? ⟨w.heap.size, 0, none⟩ = some (.bool false) ∧ w'.cell? ⟨w.heap.size, 1, none⟩ = some (.slice A n c) ∧ w'.cell? ⟨w3.heap.size, 0, none⟩ = some (.bool neg3) ∧ w'.cell? ⟨w3.heap.size, 1, none⟩ = some (.slice A3 n3 c3))
    (go_keep)
    (first | (go_at_call 175; refine (ref_number_any _ _ _ _ _ _ (by exact hI4.drewN 1) (by omega) (by omega)).mono ?_; rintro e w4 ⟨rfl, hb4⟩; obtain ⟨hc4, hf4⟩ := bcell hb4; have a0 := hc4 (w.heap.size) 0 (by simp <;> omega); have a1 := hc4 (w.heap.size) 1 (by simp <;> omega); have a2 := hc4 (w3.heap.size) 0 (by simp <;> omega); have a3 := hc4 (w3.heap.size) 1 (by simp <;> omega); have hI5 := (hI4.drewN 1).below hb4; have hp6 := (hp5.drewN 1).below hb4; have hz4 : w3.heap.size < w4.heap.size := (by have := hb4.size; simp at this; omega); have hbw4 : Below w.heap.size w w4 := below_next hbw3 (below_box (below_of_drew hb4))) | (go_at_call 120; refine (ref_double_any _ _ _ _ _ _ _ (by exact hI5) (by omega) hk).mono ?_; rintro e w5 ⟨neg5, A5, n5, c5, rfl, hI6, hb5⟩; obtain ⟨hc5, hf5⟩ := bcell hb5; have b0 := hc5 (w.heap.size) 0 (by omega); have b1 := hc5 (w.heap.size) 1 (by omega); have b2 := hc5 (w3.heap.size) 0 (by omega); have b3 := hc5 (w3.heap.size) 1 (by omega); have hp7 := hp6.below hb5; have hz5 : w3.heap.size < w5.heap.size := (by have := hb5.size; omega); have hbw5 := below_next hbw4 hb5; have hn5 : n5 ≤ 1000000000 := hdbl hI6) | (go_at_call 108; refine (ref_cmp_int _ _ _ _ _ _ _ _ _ _ _ hI6 hp7 hn5 (by omega)).mono ?_; rintro e w6 ⟨rfl, hb6⟩; obtain ⟨hc6, hf6⟩ := bcell hb6; have d0 := hc6 (w.heap.size) 0 (by omega); have d1 := hc6 (w.heap.size) 1 (by omega); have d2 := hc6 (w3.heap.size) 0 (by omega); have d3 := hc6 (w3.heap.size) 1 (by omega); have hbw6 := below_next hbw5 hb6))
  go_wp2
  go_ret2
  refine ⟨?_, hbw6⟩
  have hbe : (icmp ((Q : Int) * 2 ^ k) (P : Int) == 0) = b := by
    rw [icmp_zero, hb.out, hQ.out]
    have h1 := Nat.div_add_mod P (2 ^ k)
    have h2 : ((P / 2 ^ k : Nat) : Int) * 2 ^ k = ((P / 2 ^ k * 2 ^ k : Nat) : Int) := by rw [Int.natCast_mul, Int.natCast_pow]; rfl
    rw [h2]
    rw [Nat.mul_comm] at h1
    congr 1
    rw [eq_iff_iff]
    omega
  rw [← hbe]
  rfl
end Go.Proofs.YtjcjphgpmpjmbaaGreatDoor

/-! The references' floats (polestarref04): quotients of a number made greater. -/
namespace Go.Proofs.YtjcjphgpmpjmbaaGreatDoor
open Go.RowKit

set_option maxRecDepth 100000 in
set_option maxHeartbeats 1200000 in
theorem ref_quotient_pos (negq : Bool) (A Aq : Option Addr) (n c nq cq k P Q : Nat) (w : World) (hp : IsInt w false A n c (P : Int)) (hq : IsInt w negq Aq nq cq 1) (hn : n ≤ 10000000) (hk : k ≤ 1000000000)
    (hQ : Hid (Q = P * 2 ^ k)) (hQb : Q ≤ 9223372036854775807) :
    Calls Tryz.prog 167 #[.agg #[.bool false, .slice A n c], .agg #[.bool negq, .slice Aq nq cq], .int .i64 (k : Int)] w (RetV w (.tuple #[.int .u64 Q, .bool true])) := by
  have hnq : nq ≤ 1 := isInt_len_le hq (by decide)
  have hnq0 : nq ≠ 0 := fun e => by have := (isInt_zero hq).1 e; omega
  obtain rfl : nq = 1 := by omega
  clear hnq0 hnq
  have hp2 := (hp.alloc (.cells #[.bool false, .slice A n c] 27)).alloc (.cells #[.bool negq, .slice Aq 1 cq] 27)
  have hq2 := (hq.alloc (.cells #[.bool false, .slice A n c] 27)).alloc (.cells #[.bool negq, .slice Aq 1 cq] 27)
  have hk0 : decide ((k : Int) < 0) = false := decide_eq_false (by omega)
  go_enter Tryz.func167, Tryz.ntmps167
  go_wp2
  go_quiet (fail)
  go_wp2_with fail
  refine (ref_double_any _ _ _ _ _ _ _ (by exact hp2.drewN _) (by omega) hk).mono ?_
  rintro e w1 ⟨neg1, A1, n1, c1, rfl, hI1, hb1⟩
  have hPQ : ((P : Int) * 2 ^ k) = (Q : Int) := by rw [hQ.out, Int.natCast_mul, Int.natCast_pow]; rfl
  rw [hPQ] at hI1
  clear hPQ
  obtain ⟨hc1, hf1⟩ := bcell hb1
  have r1 := hc1 w.heap.size 0 (by simp <;> omega)
  have r2 := hc1 w.heap.size 1 (by simp <;> omega)
  have r3 := hf1 w.heap.size 0 (by simp <;> omega)
  have r4 := hf1 w.heap.size 1 (by simp <;> omega)
  have r5 := hc1 (w.heap.size + 1) 0 (by simp <;> omega)
  have r6 := hc1 (w.heap.size + 1) 1 (by simp <;> omega)
  have hz1 : w.heap.size + 1 < w1.heap.size := by have := hb1.size; simp at this; omega
  have hq3 := (hq2.drewN _).below hb1
  have hn1 : n1 ≤ 2 := isInt_len_le hI1 (by show _ < 4294967296 ^ 2; omega)
  have x1 : ¬ w.heap.size + 1 = w.heap.size := by omega
  have x2 : ¬ w.heap.size = w.heap.size + 1 := by omega
  have c0 : w1.cell? ⟨w.heap.size, 0, none⟩ = some (.bool false) := r1.trans (by simp [go_sem])
  have c1' : w1.cell? ⟨w.heap.size, 1, none⟩ = some (.slice A n c) := r2.trans (by simp [go_sem])
  have hI2 := isInt_result hI1 c0 c1' (.bool neg1) (.slice A1 n1 c1)
  have hq4 := isInt_result hq3 c0 c1' (.bool neg1) (.slice A1 n1 c1)
  have hbw1 : Below w.heap.size w ((w1.setCell ⟨w.heap.size, 0, none⟩ (.bool neg1)).setCell ⟨w.heap.size, 1, none⟩ (.slice A1 n1 c1)) := below_result (below_box (below_box (below_of_drewN hb1))) (Nat.le_refl _) _ _
  obtain ⟨W1, hW1⟩ : ∃ W1, W1 = ((w1.setCell ⟨w.heap.size, 0, none⟩ (.bool neg1)).setCell ⟨w.heap.size, 1, none⟩ (.slice A1 n1 c1)) := ⟨_, rfl⟩
  have hzW : w1.heap.size = W1.heap.size := by rw [hW1]; simp [World.setCell]
  clear hb1 hc1 hf1
  go_wp2_with fail
  rw [← hW1]
  rw [← hW1] at hI2 hq4 hbw1
  refine (ref_Divide_one _ _ _ _ _ _ _ _ _ _ (by exact hI2) (by exact hq4) (by omega)).mono ?_
  rintro e w2 ⟨neg2, A2, n2, c2, neg3, A3, n3, c3, rfl, hI3, hI4, hb2⟩
  rw [Int.tdiv_one] at hI3
  rw [Int.tmod_one] at hI4
  have hz2 : w.heap.size + 1 < w2.heap.size := by have := hb2.size; omega
  have hbw2 := below_next hbw1 hb2
  clear hW1 hzW r1 r2 r3 r4 r5 r6 c0 c1' hb2
  have hI5 := (hI3.alloc (.cells #[.bool neg2, .slice A2 n2 c2] 27)).alloc (.cells #[.bool neg3, .slice A3 n3 c3] 27)
  have hI6 := (hI4.alloc (.cells #[.bool neg2, .slice A2 n2 c2] 27)).alloc (.cells #[.bool neg3, .slice A3 n3 c3] 27)
  go_wp2
  go_region_held3 (fun w' => w'.cell? ⟨w2.heap.size, 0, none⟩ = some (.bool neg2) ∧ w'.cell? ⟨w2.heap.size, 1, none⟩ = some (.slice A2 n2 c2) ∧ w'.cell? ⟨w2.heap.size + 1, 0, none⟩ = some (.bool neg3) ∧ w'.cell? ⟨w2.heap.size + 1, 1, none⟩ = some (.slice A3 n3 c3))
    (go_keep)
    (first | (go_at_call 175; refine (ref_number_any _ _ _ _ _ _ (by exact hI5.drewN 1) (by omega) (by omega)).mono ?_; rintro e w4 ⟨rfl, hb4⟩; obtain ⟨hc4, hf4⟩ := bcell hb4; have a0 := hc4 (w2.heap.size) 0 (by simp <;> omega); have a1 := hc4 (w2.heap.size) 1 (by simp <;> omega); have a2 := hc4 (w2.heap.size + 1) 0 (by simp <;> omega); have a3 := hc4 (w2.heap.size + 1) 1 (by simp <;> omega); have hI7 := (hI6.drewN 1).below hb4; have hz4 : w2.heap.size + 1 < w4.heap.size := (by have := hb4.size; simp at this; omega); have hbw4 : Below w.heap.size w w4 := below_next hbw2 (below_box (below_box (below_of_drew hb4)))) | (go_at_call 63; refine (ref_sign_any _ _ _ _ _ _ (by exact hI7)).mono ?_; rintro e w5 ⟨rfl, hb5⟩; obtain ⟨hc5, hf5⟩ := bcell hb5; have b0 := hc5 (w2.heap.size) 0 (by omega); have b1 := hc5 (w2.heap.size) 1 (by omega); have b2 := hc5 (w2.heap.size + 1) 0 (by omega); have b3 := hc5 (w2.heap.size + 1) 1 (by omega); have hbw5 := below_next hbw4 hb5))
  go_wp2
  go_ret2
  exact ⟨rfl, hbw5⟩

/-- Of any number from 0 on, by one: p times 2^s rounded down, and whether it is that. -/
theorem ref_quotient_one (negq : Bool) (A Aq : Option Addr) (n c nq cq P : Nat) (s : Int) (w : World) (hp : IsInt w false A n c (P : Int)) (hq : IsInt w negq Aq nq cq 1) (hn : n ≤ 10000000) (hs : -1000000000 ≤ s ∧ s ≤ 1000000000)
    (Q : Nat) (b : Bool) (h0 : 0 ≤ s → Q = P * 2 ^ s.toNat ∧ b = true) (h1 : s < 0 → Q = P / 2 ^ (-s).toNat ∧ b = decide (P % 2 ^ (-s).toNat = 0)) (hQb : Q ≤ 9223372036854775807) :
    Calls Tryz.prog 167 #[.agg #[.bool false, .slice A n c], .agg #[.bool negq, .slice Aq nq cq], .int .i64 s] w (RetV w (.tuple #[.int .u64 Q, .bool b])) := by
  by_cases h : 0 ≤ s
  · obtain ⟨e1, rfl⟩ := h0 h
    obtain ⟨k, rfl⟩ := Int.eq_ofNat_of_zero_le h
    exact ref_quotient_pos _ _ _ _ _ _ _ k P Q w hp hq hn (by omega) (by rw [e1]; rfl) hQb
  · obtain ⟨e1, e2⟩ := h1 (by omega)
    have e : s = -(((-s).toNat : Nat) : Int) := by omega
    rw [e]
    exact ref_quotient_neg _ _ _ _ _ _ _ (-s).toNat P Q b w hp hq hn (by omega) (by omega) e1 hQb e2
end Go.Proofs.YtjcjphgpmpjmbaaGreatDoor

/-! The references' floats (polestarref04): the greatest float that is not above a number times a power of two. -/
namespace Go.Proofs.YtjcjphgpmpjmbaaGreatDoor
open Go.RowKit

def RetUnder (W : World) (num den : Nat) (e : Ending) (w' : World) : Prop :=
  ∃ r b, e = .returned (.tuple #[.float .f64 r, .bool b]) ∧ Flt.Dn num den r ∧ b = decide (Flt.val r * den = num) ∧ Below W.heap.size W w'

theorem ref_quotient_fq (negq : Bool) (A Aq : Option Addr) (n c nq cq P : Nat) (s : Int) (w : World) (hp : IsInt w false A n c (P : Int)) (hq : IsInt w negq Aq nq cq 1) (hn : n ≤ 10000000) (hs : -1000000000 ≤ s ∧ s ≤ 1000000000)
    (Q : Nat) (b : Bool) (hQ : Hid (Q = Flt.fq P s)) (hb : Hid (b = Flt.fb P s)) (hQb : Q ≤ 9223372036854775807) :
    Calls Tryz.prog 167 #[.agg #[.bool false, .slice A n c], .agg #[.bool negq, .slice Aq nq cq], .int .i64 s] w (RetV w (.tuple #[.int .u64 Q, .bool b])) :=
  ref_quotient_one _ _ _ _ _ _ _ P s w hp hq hn hs Q b (fun h => ⟨by rw [hQ.out]; unfold Flt.fq; rw [if_pos h], by rw [hb.out]; unfold Flt.fb; rw [if_pos h]⟩)
    (fun h => ⟨by rw [hQ.out]; unfold Flt.fq; rw [if_neg (by omega)], by rw [hb.out]; unfold Flt.fb; rw [if_neg (by omega)]⟩) hQb
theorem ref_bits_of (neg : Bool) (A : Option Addr) (n c : Nat) (x : Int) (L : Nat) (w : World) (hx : IsInt w neg A n c x) (hn : n ≤ 100000000) (hL : Hid (bitLen x.natAbs = L)) :
    Calls Tryz.prog 105 #[.agg #[.bool neg, .slice A n c]] w (RetV w (.int .i64 (L : Int))) := by
  have := ref_bits_any neg A n c x w hx hn
  rwa [hL.out] at this

/-- How many bits are taken. -/
theorem fq_bits {P : Nat} (hP : P ≠ 0) {L : Nat} (hL : L = bitLen P) : 2 ^ 53 ≤ Flt.fq P (54 - (L : Int)) ∧ Flt.fq P (54 - (L : Int)) < 2 ^ 54 := by
  have h1 : L = P.log2 + 1 := by rw [hL]; unfold bitLen; rw [if_neg hP]
  have h2 := Nat.log2_self_le hP
  have h3 : P < 2 ^ (P.log2 + 1) := Nat.lt_log2_self
  obtain ⟨f1, f2, _⟩ := Flt.fq_spec P (54 - (L : Int))
  generalize Flt.fq P (54 - (L : Int)) = Q at *
  generalize hl : P.log2 = l at *
  generalize ha : (54 - (L : Int)).toNat = a at *
  generalize hb : (-(54 - (L : Int))).toNat = b at *
  have e1 : l + a = 53 + b := by omega
  have hB : 0 < 2 ^ b := Nat.two_pow_pos _
  have g1 : 2 ^ 53 * 2 ^ b ≤ P * 2 ^ a := by
    have := Nat.mul_le_mul_right (2 ^ a) h2
    rw [← Nat.pow_add, e1, Nat.pow_add] at this
    exact this
  have g2 : P * 2 ^ a < 2 ^ 54 * 2 ^ b := by
    have := Nat.mul_lt_mul_of_pos_right h3 (Nat.two_pow_pos a)
    rw [← Nat.pow_add, show l + 1 + a = 54 + b by omega, Nat.pow_add] at this
    exact this
  constructor
  · have : 2 ^ 53 * 2 ^ b < (Q + 1) * 2 ^ b := Nat.lt_of_le_of_lt g1 f2
    have := Nat.lt_of_mul_lt_mul_right this
    omega
  · exact Nat.lt_of_mul_lt_mul_right (Nat.lt_of_le_of_lt f1 g2)
theorem fq_low {P : Nat} {L : Nat} (hL : L = bitLen P) {s : Int} (hs : (L : Int) + s ≤ 53) : Flt.fq P s < 2 ^ 53 := by
  have hP := (bitLen_spec P).1
  rw [← hL] at hP
  obtain ⟨f1, _, _⟩ := Flt.fq_spec P s
  generalize Flt.fq P s = Q at *
  generalize ha : s.toNat = a at *
  generalize hb : (-s).toNat = b at *
  have g2 : P * 2 ^ a < 2 ^ 53 * 2 ^ b := by
    have h1 := Nat.mul_lt_mul_of_pos_right hP (Nat.two_pow_pos a)
    rw [← Nat.pow_add] at h1
    have h2 : 2 ^ (L + a) ≤ 2 ^ (53 + b) := Nat.pow_le_pow_right (by decide) (by omega)
    rw [Nat.pow_add 2 53] at h2
    omega
  exact Nat.lt_of_mul_lt_mul_right (Nat.lt_of_le_of_lt f1 g2)
theorem dn_zero (den : Nat) (hd : 0 < den) : Flt.Dn 0 den 0 ∧ true = decide (Flt.val 0 * den = 0) := by
  refine ⟨⟨by rw [Flt.inf_eq]; omega, by rw [Flt.val_zero]; omega, fun _ => ?_⟩, by rw [Flt.val_zero]; simp⟩
  have : 0 < Flt.val (0 + 1) := by have := Flt.val_lt (show 0 < 0 + 1 by omega); omega
  exact Nat.mul_pos this hd

set_option maxRecDepth 100000 in
set_option maxHeartbeats 1600000 in
theorem ref_under_one (negq : Bool) (A Aq : Option Addr) (n c nq cq P : Nat) (e : Int) (w : World) (hp : IsInt w false A n c (P : Int)) (hq : IsInt w negq Aq nq cq 1) (hn : n ≤ 1000000) (he : -1000000 ≤ e ∧ e ≤ 1000000) :
    Calls Tryz.prog 159 #[.agg #[.bool false, .slice A n c], .agg #[.bool negq, .slice Aq nq cq], .int .i64 e] w (RetUnder w (P * 2 ^ (e + 1074).toNat) (2 ^ (-(e + 1074)).toNat)) := by
  obtain ⟨num, hnum⟩ : ∃ num, num = P * 2 ^ (e + 1074).toNat := ⟨_, rfl⟩
  obtain ⟨den, hden⟩ : ∃ den, den = 2 ^ (-(e + 1074)).toNat := ⟨_, rfl⟩
  rw [← hnum, ← hden]
  have HNUM := Lib.hid hnum
  have HDEN := Lib.hid hden
  clear hnum hden
  have hp2 := (hp.alloc (.cells #[.bool false, .slice A n c] 27)).alloc (.cells #[.bool negq, .slice Aq nq cq] 27)
  have hq2 := (hq.alloc (.cells #[.bool false, .slice A n c] 27)).alloc (.cells #[.bool negq, .slice Aq nq cq] 27)
  have hnq : nq ≤ 1 := isInt_len_le hq (by decide)
  by_cases hP0 : P = 0
  · subst hP0
    have hD : Flt.Dn num den 0 ∧ true = decide (Flt.val 0 * den = num) := by rw [show num = 0 by rw [HNUM.out]; omega]; exact dn_zero den (by rw [HDEN.out]; exact Nat.two_pow_pos _)
    have HD := Lib.hid hD
    clear hD
    go_enter Tryz.func159, Tryz.ntmps159
    go_wp2_with (go_at_call 63; refine (ref_sign_any _ _ _ _ _ _ (by exact hp2)).mono ?_; rintro e w1 ⟨rfl, hb1⟩)
    go_ret2
    exact ⟨0, true, rfl, HD.out.1, HD.out.2, below_box (below_box hb1)⟩
  · have hs1 : (P : Int).sign = 1 := Int.sign_eq_one_of_pos (by omega)
    have HS := Lib.hid hs1
    obtain ⟨L, hL⟩ : ∃ L, L = bitLen P := ⟨_, rfl⟩
    have hLb : L ≤ 32000000 := by
      obtain ⟨l, hl, _, _, hx⟩ := hp
      have h1 : Lm.lv l = P := by unfold sgnd at hx; simp at hx; omega
      have h2 := Lm.lv_lt hl.ok
      rw [h1, hl.len, show Lm.B ^ n = 2 ^ (32 * n) by rw [Nat.pow_mul]] at h2
      rw [hL]; unfold bitLen; rw [if_neg hP0]
      have := (Nat.log2_lt hP0).2 h2
      omega
    have HL1 : Hid (bitLen (P : Int).natAbs = L) := by rw [hL]; exact rfl
    have HL2 : Hid (bitLen (1 : Int).natAbs = 1) := rfl
    have HL := Lib.hid hL
    clear hL hs1
    go_enter Tryz.func159, Tryz.ntmps159
    go_wp2_with fail
    refine (ref_sign_any _ _ _ _ _ _ (by exact hp2)).mono ?_
    rintro e1 w1 ⟨rfl, hb1⟩
    rw [HS.out]
    obtain ⟨hc1, hf1⟩ := bcell hb1
    have k0 := hc1 w.heap.size 0 (by simp <;> omega)
    have k1 := hc1 w.heap.size 1 (by simp <;> omega)
    have k2 := hc1 (w.heap.size + 1) 0 (by simp <;> omega)
    have k3 := hc1 (w.heap.size + 1) 1 (by simp <;> omega)
    have hz1 : w.heap.size + 1 < w1.heap.size := by have := hb1.size; simp at this; omega
    have hp3 := hp2.below hb1
    have hq3 := hq2.below hb1
    have hbw1 := below_box (below_box hb1)
    go_wp2_with fail
    go_region_held3 (fun w' => w'.cell? ⟨w.heap.size, 0, none⟩ = some (.bool false) ∧ w'.cell? ⟨w.heap.size, 1, none⟩ = some (.slice A n c) ∧ w'.cell? ⟨w.heap.size + 1, 0, none⟩ = some (.bool negq) ∧ w'.cell? ⟨w.heap.size + 1, 1, none⟩ = some (.slice Aq nq cq))
      (go_keep)
      (first | (go_at_call 105; (with_reducible refine (ref_bits_of _ A _ _ _ L _ ?_ ?_ HL1).mono ?_); exact hp3.drewN 1; omega; rintro e2 w2 ⟨rfl, hb2⟩; obtain ⟨hc2, hf2⟩ := bcell hb2; have a0 := hc2 (w.heap.size) 0 (by simp <;> omega); have a1 := hc2 (w.heap.size) 1 (by simp <;> omega); have a2 := hc2 (w.heap.size + 1) 0 (by simp <;> omega); have a3 := hc2 (w.heap.size + 1) 1 (by simp <;> omega); have hz2 : w.heap.size + 1 < w2.heap.size := (by have := hb2.size; simp at this; omega); have hq4 := (hq3.drewN 1).below hb2; have hp4 := (hp3.drewN 1).below hb2; have hbw2 := below_next hbw1 (below_of_drew hb2)) | (go_at_call 105; (with_reducible refine (ref_bits_of _ Aq _ _ _ 1 _ ?_ ?_ HL2).mono ?_); exact hq4; omega; rintro e3 w3 ⟨rfl, hb3⟩; obtain ⟨hc3, hf3⟩ := bcell hb3; have b0 := hc3 (w.heap.size) 0 (by omega); have b1 := hc3 (w.heap.size) 1 (by omega); have b2 := hc3 (w.heap.size + 1) 0 (by omega); have b3 := hc3 (w.heap.size + 1) 1 (by omega); have hz3 : w.heap.size + 1 < w3.heap.size := (by have := hb3.size; omega); have hq5 := hq4.below hb3; have hp5 := hp4.below hb3; have hbw3 := below_next hbw2 hb3))
    have y0 : w3.cell? ⟨w.heap.size, 0, none⟩ = some (.bool false) := b0.trans (a0.trans (k0.trans (by simp [go_sem])))
    have y1 : w3.cell? ⟨w.heap.size, 1, none⟩ = some (.slice A n c) := b1.trans (a1.trans (k1.trans (by simp [go_sem])))
    have y2 : w3.cell? ⟨w.heap.size + 1, 0, none⟩ = some (.bool negq) := b2.trans (a2.trans (k2.trans (by simp [go_sem])))
    have y3 : w3.cell? ⟨w.heap.size + 1, 1, none⟩ = some (.slice Aq nq cq) := b3.trans (a3.trans (k3.trans (by simp [go_sem])))
    clear a0 a1 a2 a3 b0 b1 b2 b3 k0 k1 k2 k3 hc1 hf1 hc2 hf2 hc3 hf3 hb1 hb2 hb3
    by_cases hlow : (L : Int) + e - 54 < -1074
    · obtain ⟨Q, hQ⟩ : ∃ Q, Q = Flt.fq P (e + 1074) := ⟨_, rfl⟩
      obtain ⟨b, hb⟩ : ∃ b, b = Flt.fb P (e + 1074) := ⟨_, rfl⟩
      have hQlt : Q < 2 ^ 53 := by rw [hQ]; exact fq_low HL.out (by omega)
      have hD := Flt.dn_fin (P := P) (e := e) (k := -1074) (Q := Q) (by omega) (by omega) (by rw [hQ]; congr 1) hQlt (Or.inl rfl)
      rw [← HNUM.out, ← HDEN.out, show (-1074 + 1074 : Int).toNat * 2 ^ 52 + Q = Q by simp, show e - -1074 = e + 1074 by omega, ← hb] at hD
      have HD := Lib.hid hD
      have HQ := Lib.hid hQ
      have HB := Lib.hid hb
      clear hD hQ hb
      go_wp2_with fail
      refine (ref_quotient_fq negq A Aq _ _ _ _ P (e + 1074) _ (by exact hp5) (by exact hq5) (by omega) (by omega) Q b HQ HB (by omega)).mono ?_
      rintro e4 w4 ⟨rfl, hb4⟩
      have hbw4 := below_next hbw3 hb4
      obtain ⟨z, hz⟩ : ∃ z : Int, z = (Q : Int) := ⟨_, rfl⟩
      rw [← hz]
      have g1 : ¬ ((9007199254740992 : Int) ≤ z) := by omega
      have g2 : z.toNat = Q := by omega
      have g3 : 4503599627370496 + z - 4503599627370496 = z := by omega
      have G2 := Lib.hid g2
      have G3 := Lib.hid g3
      clear hz HQ hQlt g2 g3
      by_cases hq52 : z < 4503599627370496
      · go_wp2_with fail
        rw [G2.out]
        go_ret2
        exact ⟨Q, b, rfl, HD.out.1, HD.out.2, hbw4⟩
      · go_wp2_with fail
        rw [G3.out, G2.out]
        go_ret2
        exact ⟨Q, b, rfl, HD.out.1, HD.out.2, hbw4⟩
    · by_cases hbig : (L : Int) + e - 54 > 2000
      · have hD := Flt.dn_big (P := P) (e := e) (k := (L : Int) + e - 54) (by omega) (by rw [show e - ((L : Int) + e - 54) = 54 - (L : Int) by omega]; have := fq_bits hP0 HL.out; omega)
        rw [← HNUM.out, ← HDEN.out, Flt.inf_eq] at hD
        have HD := Lib.hid hD
        clear hD
        go_wp2_with fail
        go_ret2
        exact ⟨_, _, rfl, HD.out.1, by simp [HD.out.2], hbw3⟩
      · obtain ⟨Q, hQ⟩ : ∃ Q, Q = Flt.fq P (54 - (L : Int)) := ⟨_, rfl⟩
        obtain ⟨b, hb⟩ : ∃ b, b = Flt.fb P (54 - (L : Int)) := ⟨_, rfl⟩
        have hQb := fq_bits hP0 HL.out
        rw [← hQ] at hQb
        have HQ := Lib.hid hQ
        have HB := Lib.hid hb
        have HQB := Lib.hid hQb
        clear hQ hb hQb
        go_wp2_with fail
        rw [show (e - ((L : Int) - 1 + e - 53)) = 54 - (L : Int) by omega]
        refine (ref_quotient_fq negq A Aq _ _ _ _ P (54 - (L : Int)) _ (by exact hp5) (by exact hq5) (by omega) (by omega) Q b HQ HB (by have := HQB.out; omega)).mono ?_
        rintro e4 w4 ⟨rfl, hb4⟩
        have hbw4 := below_next hbw3 hb4
        obtain ⟨z, hz⟩ : ∃ z : Int, z = (Q : Int) := ⟨_, rfl⟩
        obtain ⟨h, hh⟩ : ∃ h : Int, h = ((Q / 2 : Nat) : Int) := ⟨_, rfl⟩
        rw [← hz]
        have hQb := HQB.out
        have g1 : (9007199254740992 : Int) ≤ z := by omega
        have gh : z.tdiv 2 = h := by rw [hz, hh, Int.tdiv_eq_ediv_of_nonneg (by omega)]; omega
        have gw : IntKind.u64.wrap h = h := IntWalk.u64_in _ (by omega)
        have g2 : ¬ h < 4503599627370496 := by omega
        have g4 : h < 9007199254740992 := by omega
        have GZ := Lib.hid hz
        have GH := Lib.hid hh
        obtain ⟨c1, hc⟩ : ∃ c1 : Bool, (z % 2 == 0) = c1 := ⟨_, rfl⟩
        have gc : Hid ((Flt.fb P (54 - (L : Int)) && Flt.fq P (54 - (L : Int)) % 2 == 0) = (b && c1)) := by
          have : (Q % 2 == 0) = c1 := by rw [← hc, hz, Bool.eq_iff_iff]; simp only [beq_iff_eq]; omega
          rw [← HQ.out, ← HB.out, this]
          exact rfl
        have HQ2 := HQ
        clear hz hh HQ HB
        have hh2 := Flt.fq_half P (54 - (L : Int))
        by_cases hk : (971 : Int) < (L : Int) + e - 53
        · have hD := Flt.dn_big (P := P) (e := e) (k := (L : Int) + e - 53) (by omega) (by rw [show e - ((L : Int) + e - 53) = 54 - (L : Int) - 1 by omega, hh2.1, ← HQ2.out]; omega)
          rw [← HNUM.out, ← HDEN.out, Flt.inf_eq] at hD
          have HD := Lib.hid hD
          clear hD hh2 hQb
          cases b with
          | true =>
            go_wp2_with fail
            go_ret2
            exact ⟨_, _, rfl, HD.out.1, by simp [HD.out.2], hbw4⟩
          | false =>
            go_wp2_with fail
            go_ret2
            exact ⟨_, _, rfl, HD.out.1, by simp [HD.out.2], hbw4⟩
        · have hD := Flt.dn_fin (P := P) (e := e) (k := (L : Int) + e - 53) (Q := Q / 2) (by omega) (by omega) (by rw [show e - ((L : Int) + e - 53) = 54 - (L : Int) - 1 by omega, hh2.1, ← HQ2.out]) (by omega) (Or.inr (by omega))
          rw [← HNUM.out, ← HDEN.out, show e - ((L : Int) + e - 53) = 54 - (L : Int) - 1 by omega, hh2.2, gc.out, show (((L : Int) + e - 53) + 1074).toNat * 2 ^ 52 + Q / 2 = (((L : Int) - 1 + e - 53 + 1 + 1075) * 4503599627370496 + h - 4503599627370496).toNat by rw [GH.out]; omega] at hD
          generalize hr : (((L : Int) - 1 + e - 53 + 1 + 1075) * 4503599627370496 + h - 4503599627370496).toNat = r at hD
          have HD := Lib.hid hD
          have HR := Lib.hid hr
          clear hD hh2 hQb hr
          cases b with
          | true =>
            go_wp2_with fail
            rw [HR.out]
            go_ret2
            exact ⟨r, c1, rfl, HD.out.1, HD.out.2, hbw4⟩
          | false =>
            go_wp2_with fail
            rw [HR.out]
            go_ret2
            exact ⟨r, false, rfl, HD.out.1, HD.out.2, hbw4⟩
end Go.Proofs.YtjcjphgpmpjmbaaGreatDoor

/-! The references' floats (polestarref04): signs, the least exponent, the floats beside. -/
namespace Go.Proofs.YtjcjphgpmpjmbaaGreatDoor
open Go.RowKit

theorem sub_zero_neg {h : Nat} (h0 : 0 < h) (hi : h ≤ Flt.inf) : Ieee.double.sub 0 h = some (2 ^ 63 + h) := by
  have hl : h < 2 ^ 63 := by have := Flt.inf_lt; omega
  have r0 : Flt.rg 0 = 0 := rfl
  have s0 : Flt.sgn 0 = false := rfl
  have rh : Flt.rg h = h := by unfold Flt.rg; omega
  have sh : Flt.sgn h = false := by unfold Flt.sgn; rw [show h / 2 ^ 63 = 0 by omega]; rfl
  have ho : Flt.opp h = 2 ^ 63 + h := by unfold Flt.opp Flt.word; rw [sh, rh]; rfl
  have f0 : Flt.Fin 0 := by unfold Flt.Fin; rw [r0, Flt.inf_eq]; omega
  rw [Flt.sub_eq]
  have r1 : Flt.rg (Flt.opp h) = h := by rw [Flt.rg_opp, rh]
  have s1 : Flt.sgn (Flt.opp h) = true := by rw [Flt.sgn_opp, sh]; rfl
  have hv : 0 < Flt.val h := by have := Flt.le_val h; omega
  by_cases hf : h = Flt.inf
  · rw [Flt.add_inf_right f0 (by rw [r1]; exact hf), s1, hf]; rfl
  · have hsv : Flt.sv 0 + Flt.sv (Flt.opp h) = -(Flt.val h : Int) := by
      unfold Flt.sv; rw [s0, s1, r1, r0, Flt.val_zero]; simp
    rw [Flt.add_exact f0 (by unfold Flt.Fin; rw [r1]; omega) (r := h) (by omega) (by rw [hsv]; omega), hsv, if_neg (by omega)]
    rw [decide_eq_true (by omega)]; rfl

theorem sign_and (s : Nat) (h : s < 2 ^ 64) : bits .and .u64 (s : Int) 9223372036854775808 = (((if Flt.sgn s then 2 ^ 63 else 0 : Nat)) : Int) := by
  have := u64_and_nat s 9223372036854775808 (by omega) (by omega)
  rw [show ((9223372036854775808 : Nat) : Int) = 9223372036854775808 from rfl] at this
  rw [this]
  congr 1
  rw [show 9223372036854775808 = 2 ^ 63 from rfl]
  have hb : Flt.sgn s = Nat.testBit s 63 := by
    unfold Flt.sgn; rw [Nat.testBit_eq_decide_div_mod_eq, Bool.eq_iff_iff]; simp
  rw [hb]
  apply Nat.eq_of_testBit_eq
  intro i
  rw [Nat.testBit_and, Nat.testBit_two_pow]
  by_cases hi : 63 = i
  · subst hi
    cases s.testBit 63
    · rfl
    · rw [if_pos rfl, Nat.testBit_two_pow]; simp
  · cases s.testBit 63
    · simp [hi]
    · rw [if_pos rfl, Nat.testBit_two_pow]; simp [hi]
theorem word_or (t r : Nat) (b : Bool) (ht : t = if b then 2 ^ 63 else 0) (hr : r < 2 ^ 63) : bits .or .u64 (r : Int) (t : Int) = ((Flt.word b r : Nat) : Int) := by
  rw [u64_or_nat r t (by omega) (by subst ht; split <;> omega)]
  congr 1
  subst ht
  unfold Flt.word
  cases b
  · simp
  · simp only [if_true]
    have := Nat.two_pow_add_eq_or_of_lt hr 1
    rw [Nat.mul_one] at this
    rw [Nat.or_comm, this]

set_option maxRecDepth 100000 in
theorem copysign_any (x s : Nat) (hx : x < 2 ^ 64) (hs : s < 2 ^ 64) (w : World) : Calls Tryz.prog 168 #[.float .f64 x, .float .f64 s] w fun e w' => e = .returned (.float .f64 (Flt.word (Flt.sgn s) (Flt.rg x))) ∧ w = w' := by
  have e1 : bits .andNot .u64 (x : Int) 9223372036854775808 = ((Flt.rg x : Nat) : Int) := by
    have := u64_andNot_nat x 9223372036854775808 (by omega) (by omega)
    rw [show ((9223372036854775808 : Nat) : Int) = 9223372036854775808 from rfl] at this
    rw [this]
    congr 1
    exact Nat.and_two_pow_sub_one_eq_mod x 63
  have e2 := sign_and s hs
  obtain ⟨t, ht⟩ : ∃ t : Nat, t = if Flt.sgn s then 2 ^ 63 else 0 := ⟨_, rfl⟩
  rw [← ht] at e2
  have e3 := word_or t (Flt.rg x) (Flt.sgn s) ht (by unfold Flt.rg; omega)
  clear ht
  generalize hR : Flt.word (Flt.sgn s) (Flt.rg x) = R at e3 ⊢
  have HR := Lib.hid hR
  clear hR
  go_enter Tryz.func168, Tryz.ntmps168
  go_wp2
  go_ret
  exact ⟨by rfl, rfl⟩

theorem ref_minus_float (x : Nat) (hx : x < 2 ^ 64) (w : World) : Calls Tryz.prog 162 #[.float .f64 x] w fun e w' => e = .returned (.float .f64 (2 ^ 63 + Flt.rg x)) ∧ w = w' := by
  go_enter Tryz.func162, Tryz.ntmps162
  go_wp2_with (go_at_call 168; refine (copysign_any _ _ hx (by decide) _).mono ?_; rintro e w' ⟨rfl, rfl⟩)
  go_ret
  exact ⟨rfl, rfl⟩

theorem ref_above_any (x : Nat) (hx : x < 2 ^ 63) (w : World) : Calls Tryz.prog 161 #[.float .f64 x] w fun e w' => e = .returned (.float .f64 (x + 1)) ∧ w = w' := by
  have e1 : IntKind.u64.wrap ((x : Int) + 1) = (x : Int) + 1 := IntWalk.u64_in _ (by omega)
  go_enter Tryz.func161, Tryz.ntmps161
  go_wp2
  go_ret
  exact ⟨rfl, rfl⟩

theorem ref_sign_of (neg : Bool) (A : Option Addr) (n c : Nat) (z s : Int) (w : World) (h : IsInt w neg A n c z) (hs : Hid (z.sign = s)) :
    Calls Tryz.prog 63 #[.agg #[.bool neg, .slice A n c]] w (RetV w (.int .i64 s)) := by
  have := ref_sign_any neg A n c z w h
  rwa [hs.out] at this

def hiR (num den r : Nat) : Nat := if Flt.val r * den = num then r else r + 1
def RetBeside (W : World) (s : Bool) (num den : Nat) (e : Ending) (w' : World) : Prop :=
  ∃ r, e = .returned (.tuple #[.float .f64 (if s then 2 ^ 63 + hiR num den r else r), .float .f64 (if s then 2 ^ 63 + r else hiR num den r)]) ∧ Flt.Dn num den r ∧ Below W.heap.size W w'

set_option maxHeartbeats 1600000 in
theorem ref_beside_of (neg negq : Bool) (A Aq : Option Addr) (n c nq cq : Nat) (z q e : Int) (num den : Nat) (w : World) (hp : IsInt w neg A n c z) (hq : IsInt w negq Aq nq cq q) (hn : n ≤ 1000000)
    (hU : ∀ (W : World) (neg' : Bool) (A' : Option Addr) (n' c' : Nat), IsInt W neg' A' n' c' (z.natAbs : Nat) → IsInt W negq Aq nq cq q →
      Calls Tryz.prog 159 #[.agg #[.bool neg', .slice A' n' c'], .agg #[.bool negq, .slice Aq nq cq], .int .i64 e] W (RetUnder W num den)) (hnum : z ≠ 0 → 0 < num) :
    Calls Tryz.prog 144 #[.agg #[.bool neg, .slice A n c], .agg #[.bool negq, .slice Aq nq cq], .int .i64 e] w (RetBeside w (decide (z < 0)) num den) := by
  have HU := Lib.hid hU
  clear hU
  have hp2 := (hp.alloc (.cells #[.bool neg, .slice A n c] 27)).alloc (.cells #[.bool negq, .slice Aq nq cq] 27)
  have hq2 := (hq.alloc (.cells #[.bool neg, .slice A n c] 27)).alloc (.cells #[.bool negq, .slice Aq nq cq] 27)
  obtain ⟨s, hs⟩ : ∃ s, z.sign = s := ⟨_, rfl⟩
  have hs0 : s < 0 ↔ z < 0 := by rw [← hs]; exact Int.sign_neg_iff
  have HS := Lib.hid hs
  clear hs
  go_enter Tryz.func144, Tryz.ntmps144
  go_wp2_with fail
  go_region_held3 (fun w' => w'.cell? ⟨w.heap.size, 0, none⟩ = some (.bool neg) ∧ w'.cell? ⟨w.heap.size, 1, none⟩ = some (.slice A n c) ∧ w'.cell? ⟨w.heap.size + 1, 0, none⟩ = some (.bool negq) ∧ w'.cell? ⟨w.heap.size + 1, 1, none⟩ = some (.slice Aq nq cq))
    (go_keep)
    (first | (go_at_call 160; (with_reducible refine (ref_size_any _ A _ _ z _ ?_ ?_).mono ?_); exact hp2.drewN 1; omega; rintro e1 w1 ⟨neg1, A1, n1, c1, rfl, hI1, hb1⟩; obtain ⟨hc1, hf1⟩ := bcell hb1; have a0 := hc1 (w.heap.size) 0 (by simp <;> omega); have a1 := hc1 (w.heap.size) 1 (by simp <;> omega); have a2 := hc1 (w.heap.size + 1) 0 (by simp <;> omega); have a3 := hc1 (w.heap.size + 1) 1 (by simp <;> omega); have hz1 : w.heap.size + 1 < w1.heap.size := (by have := hb1.size; simp at this; omega); have hq3 := (hq2.drewN 1).below hb1; have hp3 := (hp2.drewN 1).below hb1; have hbw1 : Below w.heap.size w w1 := below_box (below_box (below_of_drew hb1))) | (go_at_call 159; refine (HU.out _ _ _ _ _ hI1 hq3).mono ?_; rintro e2 w2 ⟨r, b, rfl, hD, hbD, hb2⟩; obtain ⟨hc2, hf2⟩ := bcell hb2; have b0 := hc2 (w.heap.size) 0 (by omega); have b1 := hc2 (w.heap.size) 1 (by omega); have b2 := hc2 (w.heap.size + 1) 0 (by omega); have b3 := hc2 (w.heap.size + 1) 1 (by omega); have hz2 : w.heap.size + 1 < w2.heap.size := (by have := hb2.size; omega); have hp4 := hp3.below hb2; have hbw2 := below_next hbw1 hb2))
  have y0 : w2.cell? ⟨w.heap.size, 0, none⟩ = some (.bool neg) := b0.trans (a0.trans (by simp [go_sem]))
  have y1 : w2.cell? ⟨w.heap.size, 1, none⟩ = some (.slice A n c) := b1.trans (a1.trans (by simp [go_sem]))
  clear a0 a1 a2 a3 b0 b1 b2 b3 hc1 hf1 hc2 hf2 hb1 hb2
  have hr : r < Flt.inf := hD.1
  have hr63 : r < 2 ^ 63 := by have := Flt.inf_lt; omega
  have hr64 : r < 2 ^ 64 := by omega
  obtain ⟨h, hh⟩ : ∃ h, h = hiR num den r := ⟨_, rfl⟩
  have hsub : z < 0 → Ieee.double.sub 0 h = some (2 ^ 63 + h) := by
    intro hz
    have hn0 := hnum (by omega)
    apply sub_zero_neg
    · rw [hh]; unfold hiR; split
      · rename_i hx
        rcases Nat.eq_zero_or_pos r with rfl | h0
        · rw [Flt.val_zero] at hx; omega
        · exact h0
      · omega
    · rw [hh]; unfold hiR; split <;> omega
  have hrg : Flt.rg r = r := by unfold Flt.rg; omega
  obtain ⟨b, hb⟩ : ∃ b, b = decide (Flt.val r * den = num) := ⟨_, rfl⟩
  rw [← hb]
  have HB := Lib.hid hb
  have HH := Lib.hid hh
  have HD := Lib.hid hD
  have HR := Lib.hid hrg
  clear hb hh hD hrg hr hnum
  by_cases hz : z < 0
  · have hs1 : s < 0 := hs0.2 hz
    have HSUB := hsub hz
    have HZ : Hid (decide (z < 0) = true) := Lib.hid (decide_eq_true hz)
    rw [HZ.out]
    clear hsub hs0 hz
    cases b with
    | true =>
      have hhr : h = r := by rw [HH.out]; unfold hiR; rw [if_pos (of_decide_eq_true HB.out.symm)]
      rw [hhr] at HSUB
      have HHR := Lib.hid hhr
      have hrun : ∀ W : World, (binOp .sub 22 (.float .f64 0) (.float .f64 r)).run Tryz.prog W = .ok (.float .f64 (2 ^ 63 + r)) W := fun W => run_float_arith W .sub _ .f64 0 r _ HSUB
      clear hhr
      go_wp2_with (first | (go_at_call 63; refine (ref_sign_of _ _ _ _ _ s _ hp4 HS).mono ?_; rintro e3 w3 ⟨rfl, hb3⟩) | (go_at_call 162; refine (ref_minus_float _ hr64 _).mono ?_; rintro e4 w4 ⟨rfl, rfl⟩))
      go_ret2
      exact ⟨r, by rw [HZ.out, ← HH.out, HHR.out, HR.out]; rfl, HD.out, below_next hbw2 hb3⟩
    | false =>
      have hhr : h = r + 1 := by rw [HH.out]; unfold hiR; rw [if_neg (of_decide_eq_false HB.out.symm)]
      rw [hhr] at HSUB
      have HHR := Lib.hid hhr
      have hrun : ∀ W : World, (binOp .sub 22 (.float .f64 0) (.float .f64 (r + 1))).run Tryz.prog W = .ok (.float .f64 (2 ^ 63 + (r + 1))) W := fun W => run_float_arith W .sub _ .f64 0 (r + 1) _ HSUB
      clear hhr
      go_wp2_with (first | (go_at_call 161; refine (ref_above_any _ hr63 _).mono ?_; rintro e4 w4 ⟨rfl, rfl⟩) | (go_at_call 63; refine (ref_sign_of _ _ _ _ _ s _ hp4 HS).mono ?_; rintro e3 w3 ⟨rfl, hb3⟩) | (go_at_call 162; refine (ref_minus_float _ hr64 _).mono ?_; rintro e4 w4 ⟨rfl, rfl⟩))
      go_ret2
      exact ⟨r, by rw [HZ.out, ← HH.out, HHR.out, HR.out]; rfl, HD.out, below_next hbw2 hb3⟩
  · have hs1 : ¬ s < 0 := fun h => hz (hs0.1 h)
    have HZ : Hid (decide (z < 0) = false) := Lib.hid (decide_eq_false hz)
    rw [HZ.out]
    clear hsub hs0 hz
    cases b with
    | true =>
      have hhr : h = r := by rw [HH.out]; unfold hiR; rw [if_pos (of_decide_eq_true HB.out.symm)]
      have HHR := Lib.hid hhr
      clear hhr
      go_wp2_with (first | (go_at_call 63; refine (ref_sign_of _ _ _ _ _ s _ hp4 HS).mono ?_; rintro e3 w3 ⟨rfl, hb3⟩) | (go_at_call 162; refine (ref_minus_float _ hr64 _).mono ?_; rintro e4 w4 ⟨rfl, rfl⟩))
      go_ret2
      exact ⟨r, by rw [HZ.out, ← HH.out, HHR.out]; rfl, HD.out, below_next hbw2 hb3⟩
    | false =>
      have hhr : h = r + 1 := by rw [HH.out]; unfold hiR; rw [if_neg (of_decide_eq_false HB.out.symm)]
      have HHR := Lib.hid hhr
      clear hhr
      go_wp2_with (first | (go_at_call 161; refine (ref_above_any _ hr63 _).mono ?_; rintro e4 w4 ⟨rfl, rfl⟩) | (go_at_call 63; refine (ref_sign_of _ _ _ _ _ s _ hp4 HS).mono ?_; rintro e3 w3 ⟨rfl, hb3⟩) | (go_at_call 162; refine (ref_minus_float _ hr64 _).mono ?_; rintro e4 w4 ⟨rfl, rfl⟩))
      go_ret2
      exact ⟨r, by rw [HZ.out, ← HH.out, HHR.out]; rfl, HD.out, below_next hbw2 hb3⟩
end Go.Proofs.YtjcjphgpmpjmbaaGreatDoor

/-! The references' floats (polestarref04): the sum and what it has lost. -/
namespace Go.Proofs.YtjcjphgpmpjmbaaGreatDoor
open Go.RowKit

theorem two_zero {x y s : Nat} (hA : Flt.IsAdd x y s) (h : Flt.Fin s → Flt.sv x + Flt.sv y - Flt.sv s = 0) : Flt.IsTwo x y s 0 := by
  refine ⟨hA, by decide, fun hs => ⟨by unfold Flt.Fin Flt.rg; rw [Flt.inf_eq]; omega, ?_, fun _ => rfl⟩, fun _ => rfl⟩
  rw [h hs]
  unfold Flt.sv Flt.rg
  rw [show 0 % 2 ^ 63 = 0 from rfl, Flt.val_zero]; split <;> rfl

theorem cell_alloc {w : World} (o : Obj) {g : Nat} {k : Nat} (v : Value) (hg : g < w.heap.size) (h : w.cell? ⟨g, k, none⟩ = some v) : (w.alloc o).cell? ⟨g, k, none⟩ = some v := by
  rw [(bcell ((Below.refl w.heap.size w).alloc (Nat.le_refl _) o)).1 g k hg]; exact h
theorem p2 (k : Nat) : (2 : Int) ^ k = ((2 ^ k : Nat) : Int) := by rw [Int.natCast_pow]; rfl
theorem shifted {z g L v S : Int} {E : Nat} (hg : (E : Int) - 1074 = g) (hz : z * ((2 ^ E : Nat) : Int) = S) (h : z = 0 ∨ 0 ≤ g - L) (hL : -1074 ≤ L) (hv : v = z * 2 ^ (g - L).toNat) :
    v * ((2 ^ (L + 1074).toNat : Nat) : Int) = S := by
  rcases h with rfl | h
  · rw [hv, ← hz]; simp
  · rw [hv, ← hz, Int.mul_assoc, p2, ← Int.natCast_mul, ← Nat.pow_add]
    congr 3
    omega
theorem ref_double_int (neg : Bool) (A : Option Addr) (n c : Nat) (x s v : Int) (w : World) (hx : IsInt w neg A n c x) (hn : n ≤ 100000000) (hs : x = 0 ∨ 0 ≤ s) (hs2 : s ≤ 1000000000) (hs3 : -1000000000 ≤ s) (hv : Hid (v = x * 2 ^ s.toNat)) :
    Calls Tryz.prog 120 #[.agg #[.bool neg, .slice A n c], .int .i64 s] w (RetInt w v) := by
  rw [hv.out]
  by_cases h : 0 ≤ s
  · have := ref_double_any neg A n c s.toNat x w hx hn (by omega)
    rwa [Int.toNat_of_nonneg h] at this
  · have hx0 : x = 0 := by omega
    have h0 := (isInt_zero hx).2 hx0
    subst hx0
    rw [Int.zero_mul]
    subst h0
    clear hv h hs
    go_enter Tryz.func120, Tryz.ntmps120
    go_wp2
    exact bodyPost_ret (v := .agg #[.bool false, .slice none 0 0]) (by simp [results, Tryz.results120, go_sem]) rfl
      ⟨false, none, 0, 0, rfl, isInt_nought, ((Below.refl _ _).alloc (Nat.le_refl _) _).alloc (by simp) _⟩

def RetTwo4 (W : World) (x y : Nat) (e : Ending) (w' : World) : Prop :=
  ∃ s l, e = .returned (.tuple #[.float .f64 s, .float .f64 l]) ∧ Flt.IsTwo x y s l ∧ Below W.heap.size W w'

theorem upon_fadd {P : Program} {w : World} {o : Oper} {a : Act} {next : Act → World → Prop} {Q : Exit → Act → World → Prop} {t : TypeId} {x y : Nat}
    (hK : ∀ z n, IsOp Ieee.double.add x y z → next (a.put o.dst (.float .f64 z)) (w.drewN n)) :
    o.upon P a next Q (((binOp .add t (.float .f64 x) (.float .f64 y)).run P w).andThen fun v w' => .ok (.value v) w') := by
  obtain ⟨z, n, hrun, hz⟩ := run_fop (P := P) w .add Ieee.double.add (.inl ⟨rfl, rfl⟩) t x y
  rw [hrun]
  exact hK z n hz

end Go.Proofs.YtjcjphgpmpjmbaaGreatDoor
