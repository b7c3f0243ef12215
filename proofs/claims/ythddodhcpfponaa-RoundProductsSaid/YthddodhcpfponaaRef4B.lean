/-
  The references' floats (polestarref04): one; quotients by a power of two.
-/
import Derived.Test.YthddodhcpfponaaRef4A
namespace Go.Proofs.Ythddodhcpfponaa
open Go.RowKit

set_option maxHeartbeats 400000 in
theorem ref_one_any (w : World) : Calls Try.prog 45 #[] w (RetInt w 1) := by
  go_enter Try.func45, Try.ntmps45
  go_wp2_with (go_at_call 76; refine (ref_of_any _ _ (by omega)).mono ?_; rintro e w1 ⟨neg1, A1, n1, c1, rfl, hI1, hb1⟩; obtain ⟨hc1, hf1⟩ := bcell hb1; have r1 := hc1 w.heap.size 0 (by simp <;> omega); have r2 := hc1 w.heap.size 1 (by simp <;> omega); have r3 := hf1 w.heap.size 0 (by simp <;> omega); have r4 := hf1 w.heap.size 1 (by simp <;> omega); have hz1 : w.heap.size < w1.heap.size := (by have := hb1.size; simp at this; omega))
  exact bodyPost_ret (v := .agg #[.bool neg1, .slice A1 n1 c1]) (by simp [results, Try.results45, go_sem, r1, r2]) rfl
    ⟨neg1, A1, n1, c1, rfl, isInt_result (b0 := false) (a0 := none) (n0 := 0) (c0 := 0) hI1 (r1.trans (by simp [go_sem])) (r2.trans (by simp [go_sem])) _ _, below_result (below_box hb1) (by omega) _ _⟩

theorem ref_cmp_same (neg neg' : Bool) (A A' : Option Addr) (n c n' c' : Nat) (x y : Int) (w : World) (hx : IsInt w neg A n c x) (hy : IsInt w neg' A' n' c' y) (hn : n ≤ 1000000000) (hn' : n' ≤ 1000000000) (h : x = y) :
    Calls Try.prog 89 #[.agg #[.bool neg, .slice A n c], .agg #[.bool neg', .slice A' n' c']] w (RetV w (.int .i64 0)) :=
  (ref_cmp_int _ _ _ _ _ _ _ _ _ _ _ hx hy hn hn').mono fun _ _ ⟨he, hb⟩ => ⟨by rw [he]; unfold icmp; rw [if_neg (by omega), if_neg (by omega)], hb⟩
theorem isInt_len_mono {w w' : World} {neg neg' : Bool} {A A' : Option Addr} {n c n' c' : Nat} {x y : Int} (h : IsInt w neg A n c x) (k : IsInt w' neg' A' n' c' y) (e : x.natAbs ≤ y.natAbs) : n ≤ n' := by
  refine isInt_len_le h ?_
  obtain ⟨b, hb, cb, _, rfl⟩ := k
  have h1 : ∀ (s : Bool) (m : Nat), (sgnd s m).natAbs = m := by intro s m; unfold sgnd; split <;> omega
  rw [h1] at e
  have := Lm.lv_lt hb.ok
  rw [hb.len] at this
  omega
theorem icmp_zero (x y : Int) : (icmp x y == 0) = decide (x = y) := by
  unfold icmp
  split
  · simp; omega
  · split
    · simp; omega
    · simp; omega

set_option maxRecDepth 100000 in
set_option maxHeartbeats 1200000 in
theorem ref_quotient_neg (negq : Bool) (A Aq : Option Addr) (n c nq cq k P Q : Nat) (b : Bool) (w : World) (hp : IsInt w false A n c (P : Int)) (hq : IsInt w negq Aq nq cq 1) (hn : n ≤ 10000000) (hk0 : 0 < k) (hk : k ≤ 1000000000)
    (hQ : Hid (Q = P / 2 ^ k)) (hQb : Q ≤ 9223372036854775807) (hb : Hid (b = decide (P % 2 ^ k = 0))) :
    Calls Try.prog 90 #[.agg #[.bool false, .slice A n c], .agg #[.bool negq, .slice Aq nq cq], .int .i64 (-(k : Int))] w (RetV w (.tuple #[.int .u64 Q, .bool b])) := by
  have hnq : nq ≤ 1 := isInt_len_le hq (by decide)
  have hneg : -(k : Int) < 0 := by omega
  have hp2 := (hp.alloc (.cells #[.bool false, .slice A n c] 32)).alloc (.cells #[.bool negq, .slice Aq nq cq] 32)
  have hq2 := (hq.alloc (.cells #[.bool false, .slice A n c] 32)).alloc (.cells #[.bool negq, .slice Aq nq cq] 32)
  go_enter Try.func90, Try.ntmps90
  go_wp2
  go_region_held3 (fun w' => w'.cell? ⟨w.heap.size + 1, 0, none⟩ = some (.bool negq) ∧ w'.cell? ⟨w.heap.size + 1, 1, none⟩ = some (.slice Aq nq cq))
    (go_keep)
    (first | (go_at_call 45; refine (ref_one_any _).mono ?_; rintro e w1 ⟨neg1, A1, n1, c1, rfl, hI1, hb1⟩; obtain ⟨hc1, hf1⟩ := bcell hb1; have k1 := hc1 (w.heap.size + 1) 0 (by simp <;> omega); have k2 := hc1 (w.heap.size + 1) 1 (by simp <;> omega); have k3 := hc1 w.heap.size 0 (by simp <;> omega); have k4 := hc1 w.heap.size 1 (by simp <;> omega); have hq3 := (hq2.drewN 1).below hb1; have hp3 := (hp2.drewN 1).below hb1; have hbw : Below w.heap.size w w1 := below_box (below_box (below_of_drew hb1)); have hz1 : w.heap.size + 1 < w1.heap.size := (by have := hb1.size; simp at this; omega); have hn1 : n1 ≤ 1 := isInt_len_le hI1 (by decide)) | (go_at_call 89; refine (ref_cmp_same _ _ _ _ _ _ _ _ _ _ _ hq3 hI1 (by omega) (by omega) rfl).mono ?_; rintro e w2 ⟨rfl, hb2⟩; obtain ⟨hc2, hf2⟩ := bcell hb2; have j1 := hc2 (w.heap.size + 1) 0 (by omega); have j2 := hc2 (w.heap.size + 1) 1 (by omega); have j3 := hc2 w.heap.size 0 (by omega); have j4 := hc2 w.heap.size 1 (by omega); have hz2 : w.heap.size + 1 < w2.heap.size := (by have := hb2.size; omega)))
  have hp4 := hp3.below hb2
  have hbw2 := below_next hbw hb2
  have y3 : w2.cell? ⟨w.heap.size, 0, none⟩ = some (.bool false) := j3.trans (k3.trans (by simp [go_sem]))
  have y4 : w2.cell? ⟨w.heap.size, 1, none⟩ = some (.slice A n c) := j4.trans (k4.trans (by simp [go_sem]))
  clear k1 k2 k3 k4 j1 j2 j3 j4 hc1 hf1 hc2 hf2
  have hdbl : ∀ {w' : World} {neg' : Bool} {A' : Option Addr} {n' c' : Nat}, IsInt w' neg' A' n' c' ((Q : Int) * 2 ^ k) → n' ≤ 1000000000 := by
    intro w' neg' A' n' c' h
    have hle : ((Q : Int) * 2 ^ k).natAbs ≤ (P : Int).natAbs := by
      have h2 : (Q : Int) * 2 ^ k = ((Q * 2 ^ k : Nat) : Int) := by rw [Int.natCast_mul, Int.natCast_pow]; rfl
      rw [h2, Int.natAbs_natCast, Int.natAbs_natCast, hQ.out]
      exact Nat.div_mul_le_self _ _
    have := isInt_len_mono h hp hle
    omega
  have hkk : IntKind.i64.wrap (-(-(k : Int))) = (k : Int) := by rw [Int.neg_neg]; exact IntWalk.i64_in _ (by omega)
  go_wp2_with fail
  refine (ref_halved_any _ _ _ _ _ _ (by exact hp4) hn hk).mono ?_
  rintro e w3 ⟨neg3, A3, n3, c3, rfl, hI3, hb3⟩
  rw [Int.natAbs_natCast, ← hQ.out] at hI3
  obtain ⟨hc3, hf3⟩ := bcell hb3
  have z3 := hc3 w.heap.size 0 (by omega)
  have z4 := hc3 w.heap.size 1 (by omega)
  have hn3 : n3 ≤ 10000000 := by
    have h1 := isInt_len_mono hI3 hp (by rw [Int.natAbs_natCast, Int.natAbs_natCast, hQ.out]; exact Nat.div_le_self _ _)
    omega
  have hneg3 : neg3 = false := by rw [isInt_neg hI3]; exact decide_eq_false (by omega)
  have hp5 := (hp4.below hb3).alloc (.cells #[.bool neg3, .slice A3 n3 c3] 32)
  have hI4 := hI3.alloc (.cells #[.bool neg3, .slice A3 n3 c3] 32)
  have hz3 : w.heap.size + 1 < w3.heap.size := by have := hb3.size; omega
  have x1 : ¬ w3.heap.size = w.heap.size := by omega
  have x2 : ¬ w.heap.size = w3.heap.size := by omega
  have hbw3 := below_next hbw2 hb3
  clear hneg3
  go_wp2
  have hk2 : IntKind.i64.wrap (k : Int) = (k : Int) := IntWalk.i64_in _ (by omega)
  go_region_held3 (fun w' => w'.cell? ⟨w.heap.size, 0, none⟩ = some (.bool false) ∧ w'.cell? ⟨w.heap.size, 1, none⟩ = some (.slice A n c) ∧ w'.cell? ⟨w3.heap.size, 0, none⟩ = some (.bool neg3) ∧ w'.cell? ⟨w3.heap.size, 1, none⟩ = some (.slice A3 n3 c3))
    (go_keep)
    (first | (go_at_call 110; refine (ref_number_any _ _ _ _ _ _ (by exact hI4.drewN 1) (by omega) (by omega)).mono ?_; rintro e w4 ⟨rfl, hb4⟩; obtain ⟨hc4, hf4⟩ := bcell hb4; have a0 := hc4 (w.heap.size) 0 (by simp <;> omega); have a1 := hc4 (w.heap.size) 1 (by simp <;> omega); have a2 := hc4 (w3.heap.size) 0 (by simp <;> omega); have a3 := hc4 (w3.heap.size) 1 (by simp <;> omega); have hI5 := (hI4.drewN 1).below hb4; have hp6 := (hp5.drewN 1).below hb4; have hz4 : w3.heap.size < w4.heap.size := (by have := hb4.size; simp at this; omega); have hbw4 : Below w.heap.size w w4 := below_next hbw3 (below_box (below_of_drew hb4))) | (go_at_call 42; refine (ref_double_any _ _ _ _ _ _ _ (by exact hI5) (by omega) hk).mono ?_; rintro e w5 ⟨neg5, A5, n5, c5, rfl, hI6, hb5⟩; obtain ⟨hc5, hf5⟩ := bcell hb5; have b0 := hc5 (w.heap.size) 0 (by omega); have b1 := hc5 (w.heap.size) 1 (by omega); have b2 := hc5 (w3.heap.size) 0 (by omega); have b3 := hc5 (w3.heap.size) 1 (by omega); have hp7 := hp6.below hb5; have hz5 : w3.heap.size < w5.heap.size := (by have := hb5.size; omega); have hbw5 := below_next hbw4 hb5; have hn5 : n5 ≤ 1000000000 := hdbl hI6) | (go_at_call 89; refine (ref_cmp_int _ _ _ _ _ _ _ _ _ _ _ hI6 hp7 hn5 (by omega)).mono ?_; rintro e w6 ⟨rfl, hb6⟩; obtain ⟨hc6, hf6⟩ := bcell hb6; have d0 := hc6 (w.heap.size) 0 (by omega); have d1 := hc6 (w.heap.size) 1 (by omega); have d2 := hc6 (w3.heap.size) 0 (by omega); have d3 := hc6 (w3.heap.size) 1 (by omega); have hbw6 := below_next hbw5 hb6))
  go_wp2
  go_ret2
  refine ⟨?_, hbw6⟩
  have hbe : (icmp ((Q : Int) * 2 ^ k) (P : Int) == 0) = b := by
    rw [icmp_zero, hb.out, hQ.out]
    have h1 := Nat.div_add_mod P (2 ^ k)
    have h2 : ((P / 2 ^ k : Nat) : Int) * 2 ^ k = ((P / 2 ^ k * 2 ^ k : Nat) : Int) := by rw [Int.natCast_mul, Int.natCast_pow]; rfl
    rw [h2]
    rw [Nat.mul_comm] at h1
    congr 1
    rw [eq_iff_iff]
    omega
  rw [← hbe]
  rfl
end Go.Proofs.Ythddodhcpfponaa
