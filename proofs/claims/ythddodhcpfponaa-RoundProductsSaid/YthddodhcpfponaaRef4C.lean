/-
  The references' floats (polestarref04): quotients of a number made greater.
-/
import Derived.Test.YthddodhcpfponaaRef4B
namespace Go.Proofs.Ythddodhcpfponaa
open Go.RowKit

set_option maxRecDepth 100000 in
set_option maxHeartbeats 1200000 in
theorem ref_quotient_pos (negq : Bool) (A Aq : Option Addr) (n c nq cq k P Q : Nat) (w : World) (hp : IsInt w false A n c (P : Int)) (hq : IsInt w negq Aq nq cq 1) (hn : n ≤ 10000000) (hk : k ≤ 1000000000)
    (hQ : Hid (Q = P * 2 ^ k)) (hQb : Q ≤ 9223372036854775807) :
    Calls Try.prog 90 #[.agg #[.bool false, .slice A n c], .agg #[.bool negq, .slice Aq nq cq], .int .i64 (k : Int)] w (RetV w (.tuple #[.int .u64 Q, .bool true])) := by
  have hnq : nq ≤ 1 := isInt_len_le hq (by decide)
  have hnq0 : nq ≠ 0 := fun e => by have := (isInt_zero hq).1 e; omega
  obtain rfl : nq = 1 := by omega
  clear hnq0 hnq
  have hp2 := (hp.alloc (.cells #[.bool false, .slice A n c] 32)).alloc (.cells #[.bool negq, .slice Aq 1 cq] 32)
  have hq2 := (hq.alloc (.cells #[.bool false, .slice A n c] 32)).alloc (.cells #[.bool negq, .slice Aq 1 cq] 32)
  have hk0 : decide ((k : Int) < 0) = false := decide_eq_false (by omega)
  go_enter Try.func90, Try.ntmps90
  go_wp2
  go_quiet (fail)
  go_wp2_with fail
  refine (ref_double_any _ _ _ _ _ _ _ (by exact hp2.drewN _) (by omega) hk).mono ?_
  rintro e w1 ⟨neg1, A1, n1, c1, rfl, hI1, hb1⟩
  have hPQ : ((P : Int) * 2 ^ k) = (Q : Int) := by rw [hQ.out, Int.natCast_mul, Int.natCast_pow]; rfl
  rw [hPQ] at hI1
  clear hPQ
  obtain ⟨hc1, hf1⟩ := bcell hb1
  have r1 := hc1 w.heap.size 0 (by simp <;> omega)
  have r2 := hc1 w.heap.size 1 (by simp <;> omega)
  have r3 := hf1 w.heap.size 0 (by simp <;> omega)
  have r4 := hf1 w.heap.size 1 (by simp <;> omega)
  have r5 := hc1 (w.heap.size + 1) 0 (by simp <;> omega)
  have r6 := hc1 (w.heap.size + 1) 1 (by simp <;> omega)
  have hz1 : w.heap.size + 1 < w1.heap.size := by have := hb1.size; simp at this; omega
  have hq3 := (hq2.drewN _).below hb1
  have hn1 : n1 ≤ 2 := isInt_len_le hI1 (by show _ < 4294967296 ^ 2; omega)
  have x1 : ¬ w.heap.size + 1 = w.heap.size := by omega
  have x2 : ¬ w.heap.size = w.heap.size + 1 := by omega
  have c0 : w1.cell? ⟨w.heap.size, 0, none⟩ = some (.bool false) := r1.trans (by simp [go_sem])
  have c1' : w1.cell? ⟨w.heap.size, 1, none⟩ = some (.slice A n c) := r2.trans (by simp [go_sem])
  have hI2 := isInt_result hI1 c0 c1' (.bool neg1) (.slice A1 n1 c1)
  have hq4 := isInt_result hq3 c0 c1' (.bool neg1) (.slice A1 n1 c1)
  have hbw1 : Below w.heap.size w ((w1.setCell ⟨w.heap.size, 0, none⟩ (.bool neg1)).setCell ⟨w.heap.size, 1, none⟩ (.slice A1 n1 c1)) := below_result (below_box (below_box (below_of_drewN hb1))) (Nat.le_refl _) _ _
  obtain ⟨W1, hW1⟩ : ∃ W1, W1 = ((w1.setCell ⟨w.heap.size, 0, none⟩ (.bool neg1)).setCell ⟨w.heap.size, 1, none⟩ (.slice A1 n1 c1)) := ⟨_, rfl⟩
  have hzW : w1.heap.size = W1.heap.size := by rw [hW1]; simp [World.setCell]
  clear hb1 hc1 hf1
  go_wp2_with fail
  rw [← hW1]
  rw [← hW1] at hI2 hq4 hbw1
  refine (ref_Divide_one _ _ _ _ _ _ _ _ _ _ (by exact hI2) (by exact hq4) (by omega)).mono ?_
  rintro e w2 ⟨neg2, A2, n2, c2, neg3, A3, n3, c3, rfl, hI3, hI4, hb2⟩
  rw [Int.tdiv_one] at hI3
  rw [Int.tmod_one] at hI4
  have hz2 : w.heap.size + 1 < w2.heap.size := by have := hb2.size; omega
  have hbw2 := below_next hbw1 hb2
  clear hW1 hzW r1 r2 r3 r4 r5 r6 c0 c1' hb2
  have hI5 := (hI3.alloc (.cells #[.bool neg2, .slice A2 n2 c2] 32)).alloc (.cells #[.bool neg3, .slice A3 n3 c3] 32)
  have hI6 := (hI4.alloc (.cells #[.bool neg2, .slice A2 n2 c2] 32)).alloc (.cells #[.bool neg3, .slice A3 n3 c3] 32)
  go_wp2
  go_region_held3 (fun w' => w'.cell? ⟨w2.heap.size, 0, none⟩ = some (.bool neg2) ∧ w'.cell? ⟨w2.heap.size, 1, none⟩ = some (.slice A2 n2 c2) ∧ w'.cell? ⟨w2.heap.size + 1, 0, none⟩ = some (.bool neg3) ∧ w'.cell? ⟨w2.heap.size + 1, 1, none⟩ = some (.slice A3 n3 c3))
    (go_keep)
    (first | (go_at_call 110; refine (ref_number_any _ _ _ _ _ _ (by exact hI5.drewN 1) (by omega) (by omega)).mono ?_; rintro e w4 ⟨rfl, hb4⟩; obtain ⟨hc4, hf4⟩ := bcell hb4; have a0 := hc4 (w2.heap.size) 0 (by simp <;> omega); have a1 := hc4 (w2.heap.size) 1 (by simp <;> omega); have a2 := hc4 (w2.heap.size + 1) 0 (by simp <;> omega); have a3 := hc4 (w2.heap.size + 1) 1 (by simp <;> omega); have hI7 := (hI6.drewN 1).below hb4; have hz4 : w2.heap.size + 1 < w4.heap.size := (by have := hb4.size; simp at this; omega); have hbw4 : Below w.heap.size w w4 := below_next hbw2 (below_box (below_box (below_of_drew hb4)))) | (go_at_call 43; refine (ref_sign_any _ _ _ _ _ _ (by exact hI7)).mono ?_; rintro e w5 ⟨rfl, hb5⟩; obtain ⟨hc5, hf5⟩ := bcell hb5; have b0 := hc5 (w2.heap.size) 0 (by omega); have b1 := hc5 (w2.heap.size) 1 (by omega); have b2 := hc5 (w2.heap.size + 1) 0 (by omega); have b3 := hc5 (w2.heap.size + 1) 1 (by omega); have hbw5 := below_next hbw4 hb5))
  go_wp2
  go_ret2
  exact ⟨rfl, hbw5⟩

/-- Of any number from 0 on, by one: p times 2^s rounded down, and whether it is that. -/
theorem ref_quotient_one (negq : Bool) (A Aq : Option Addr) (n c nq cq P : Nat) (s : Int) (w : World) (hp : IsInt w false A n c (P : Int)) (hq : IsInt w negq Aq nq cq 1) (hn : n ≤ 10000000) (hs : -1000000000 ≤ s ∧ s ≤ 1000000000)
    (Q : Nat) (b : Bool) (h0 : 0 ≤ s → Q = P * 2 ^ s.toNat ∧ b = true) (h1 : s < 0 → Q = P / 2 ^ (-s).toNat ∧ b = decide (P % 2 ^ (-s).toNat = 0)) (hQb : Q ≤ 9223372036854775807) :
    Calls Try.prog 90 #[.agg #[.bool false, .slice A n c], .agg #[.bool negq, .slice Aq nq cq], .int .i64 s] w (RetV w (.tuple #[.int .u64 Q, .bool b])) := by
  by_cases h : 0 ≤ s
  · obtain ⟨e1, rfl⟩ := h0 h
    obtain ⟨k, rfl⟩ := Int.eq_ofNat_of_zero_le h
    exact ref_quotient_pos _ _ _ _ _ _ _ k P Q w hp hq hn (by omega) (by rw [e1]; rfl) hQb
  · obtain ⟨e1, e2⟩ := h1 (by omega)
    have e : s = -(((-s).toNat : Nat) : Int) := by omega
    rw [e]
    exact ref_quotient_neg _ _ _ _ _ _ _ (-s).toNat P Q b w hp hq hn (by omega) (by omega) e1 hQb e2
end Go.Proofs.Ythddodhcpfponaa
