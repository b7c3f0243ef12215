/-
  The references' parts of a turn (polestarref17): place.
-/
import Derived.Test.YtpnhjgjojnchaaaGreatDoorRun
namespace Go.Proofs.YtpnhjgjojnchaaaGreatDoor
open Go.RowKit

theorem wrap_small {z : Int} (h0 : 0 ≤ z) (h1 : z < 1000000) : wrap64 z = z := by unfold wrap64; omega
theorem wrap_nat {j : Nat} (h : j < 65536) : wrap64 (j : Int) = (j : Int) := wrap_small (by omega) (by omega)
theorem left_at {j r : Nat} (a : r = j % 16384) : (∀ (_ : 8192 < r), leftF j = 16384 - r ∧ mirF j = true) ∧ (∀ (_ : ¬ 8192 < r), leftF j = r ∧ mirF j = false) := by
  subst a
  exact ⟨fun c => ⟨by unfold leftF; rw [if_pos c], by unfold mirF; exact decide_eq_true c⟩, fun c => ⟨by unfold leftF; rw [if_neg c], by unfold mirF; exact decide_eq_false c⟩⟩
theorem place_plain (k : Int) {n : Nat} {k1 : Int} (h : (k1 = k.tmod ((2 ^ n : Nat) : Int) ∧ 0 ≤ k1) ∨ (k1 = k.tmod ((2 ^ n : Nat) : Int) + ((2 ^ n : Nat) : Int) ∧ k.tmod ((2 ^ n : Nat) : Int) < 0)) :
    0 ≤ k1 ∧ k1 < ((2 ^ n : Nat) : Int) ∧ k1 * ((2 ^ (16 - n) : Nat) : Int) = (jF k n : Int) := by
  have h0 : 0 < (2 : Nat) ^ n := Nat.two_pow_pos _
  have b1 := Int.tmod_lt_of_pos k (b := ((2 ^ n : Nat) : Int)) (by omega)
  have b2 : -((2 ^ n : Nat) : Int) < k.tmod ((2 ^ n : Nat) : Int) := by
    have := Int.lt_tmod_of_pos k (b := ((2 ^ n : Nat) : Int)) (by omega)
    omega
  have hk : 0 ≤ k1 ∧ k1 < ((2 ^ n : Nat) : Int) := by rcases h with h | h <;> omega
  refine ⟨hk.1, hk.2, ?_⟩
  have e : jF k1 n = jF k n := by
    rcases h with ⟨rfl, _⟩ | ⟨rfl, _⟩
    · exact jF_rem k n
    · rw [jF_more]
      exact jF_rem k n
  rw [← e]
  unfold jF
  rw [Int.emod_eq_of_lt hk.1 hk.2, Int.natCast_mul, Int.toNat_of_nonneg hk.1]
set_option maxRecDepth 100000 in
set_option maxHeartbeats 1600000 in
theorem ref17_place (k : Int) (n : Nat) (hn : n ≤ 16) (w : World) : Calls Tryz.prog 112 #[.int .i64 k, .int .i64 (n : Int)] w
    fun e w' => e = .returned (.tuple #[.int .i64 ((jF k n / 16384 : Nat) : Int), .int .i64 (leftF (jF k n) : Int), .bool (mirF (jF k n))]) ∧ w = w' := by
  have h0 : 0 < (2 : Nat) ^ n := Nat.two_pow_pos _
  have h1 : (2 : Nat) ^ n ≤ 2 ^ 16 := Nat.pow_le_pow_right (by decide) hn
  have hST : (2 : Nat) ^ n * 2 ^ (16 - n) = 65536 := by rw [← Nat.pow_add, show n + (16 - n) = 16 by omega]
  have hj := jF_lt k hn
  have HP : Hid (∀ k1 : Int, (k1 = k.tmod ((2 ^ n : Nat) : Int) ∧ 0 ≤ k1) ∨ (k1 = k.tmod ((2 ^ n : Nat) : Int) + ((2 ^ n : Nat) : Int) ∧ k.tmod ((2 ^ n : Nat) : Int) < 0) → 0 ≤ k1 ∧ k1 < ((2 ^ n : Nat) : Int) ∧ k1 * ((2 ^ (16 - n) : Nat) : Int) = (jF k n : Int)) := Lib.hid (fun k1 h => place_plain k h)
  have HS : Hid (wrap64 (2 ^ n) = ((2 ^ n : Nat) : Int)) := Lib.hid (by rw [pow_nat]; unfold wrap64; omega)
  have hdiv : (65536 : Nat) / 2 ^ n = 2 ^ (16 - n) := by rw [← hST]; exact Nat.mul_div_cancel_left _ h0
  have hT0 : 0 < (2 : Nat) ^ (16 - n) := Nat.two_pow_pos _
  have hT1 : (2 : Nat) ^ (16 - n) ≤ 65536 := by rw [← hdiv]; exact Nat.div_le_self _ _
  obtain ⟨S, hS⟩ : ∃ S, (2 : Nat) ^ n = S := ⟨_, rfl⟩
  obtain ⟨T, hT⟩ : ∃ T, (2 : Nat) ^ (16 - n) = T := ⟨_, rfl⟩
  obtain ⟨j, hjj⟩ : ∃ j, jF k n = j := ⟨_, rfl⟩
  rw [hS] at h0 h1 hST HP HS hdiv
  rw [hT] at hST HP hdiv hT0 hT1
  rw [hjj] at hj HP ⊢
  have hSb : (S : Int) ≤ 1000000 := by omega
  obtain ⟨m, hm⟩ : ∃ m, k.tmod (S : Int) = m := ⟨_, rfl⟩
  rw [hm] at HP
  have e2 : wrap64 ((65536 : Int).tdiv (S : Int)) = (T : Int) := by
    rw [show (65536 : Int) = ((65536 : Nat) : Int) from rfl, ← Int.ofNat_tdiv, hdiv]
    unfold wrap64
    omega
  have e2b : (65536 : Int) / (S : Int) = (T : Int) := by
    rw [show (65536 : Int) = ((65536 : Nat) : Int) from rfl, ← Int.natCast_ediv, hdiv]
  have e4 : wrap64 ((j : Int).tdiv 16384) = ((j / 16384 : Nat) : Int) := by
    rw [show (16384 : Int) = ((16384 : Nat) : Int) from rfl, ← Int.ofNat_tdiv]
    unfold wrap64
    omega
  have e4b : wrap64 ((j : Int) / 16384) = ((j / 16384 : Nat) : Int) := by
    rw [show (16384 : Int) = ((16384 : Nat) : Int) from rfl, ← Int.natCast_ediv]
    unfold wrap64
    omega
  have e5 : (j : Int).tmod 16384 = ((j % 16384 : Nat) : Int) := by
    rw [show (16384 : Int) = ((16384 : Nat) : Int) from rfl, ← Int.ofNat_tmod]
  have hl : j % 16384 < 16384 := Nat.mod_lt _ (by decide)
  have hS0 : ¬ (S : Int) = 0 := by omega
  have HJ : Hid (∀ k1 : Int, k1 * (T : Int) = (j : Int) → wrap64 (k1 * (T : Int)) = (j : Int)) := Lib.hid (fun k1 h => by rw [h]; exact wrap_nat hj)
  have HW : Hid (∀ k1 : Int, 0 ≤ k1 → k1 < (S : Int) → wrap64 k1 = k1) := Lib.hid (fun k1 a b => wrap_small a (Int.lt_of_lt_of_le b hSb))
  have HR : Hid (∀ r q : Nat, r = j % 16384 → q = j / 16384 → (∀ (c : 8192 < r), leftF j = 16384 - r ∧ mirF j = true) ∧ (∀ (c : ¬ 8192 < r), leftF j = r ∧ mirF j = false)) := Lib.hid (fun r q a _ => left_at a)
  obtain ⟨r, hr⟩ : ∃ r, j % 16384 = r := ⟨_, rfl⟩
  obtain ⟨q, hq⟩ : ∃ q, j / 16384 = q := ⟨_, rfl⟩
  rw [hr] at e5 hl
  rw [hq] at e4 e4b ⊢
  have HRR := Lib.hid (HR.out r q hr.symm hq.symm)
  have HM := Lib.hid hm
  clear h0 h1 hST hdiv hT0 hT1 hS hT hjj hm hr hq hj HR
  go_enter Tryz.func112, Tryz.ntmps112
  go_upto_region 2 with (fail)
  rw [HS.out]
  go_upto_region 3 with (fail)
  rw [HM.out]
  clear HM HS
  by_cases hm0 : m < 0
  · obtain ⟨p1, p2, p3⟩ := HP.out (m + (S : Int)) (Or.inr ⟨rfl, hm0⟩)
    have e1 := HW.out _ p1 p2
    have e3 := HJ.out _ p3
    clear HP HW HJ p1 p2 p3
    by_cases hc : 8192 < r
    · obtain ⟨l1, l2⟩ := HRR.out.1 hc
      have L1 := Lib.hid l1
      have L2 := Lib.hid l2
      clear HRR l1 l2
      have hc' : (8192 : Int) < (r : Int) := by omega
      go_wp2_with fail
      exact bodyPost_ret (v := .tuple #[.int .i64 (q : Int), .int .i64 ((16384 - r : Nat) : Int), .bool true]) (by simp [results, Tryz.results112, go_sem]; omega) rfl ⟨by rw [L1.out, L2.out], rfl⟩
    · obtain ⟨l1, l2⟩ := HRR.out.2 hc
      have L1 := Lib.hid l1
      have L2 := Lib.hid l2
      clear HRR l1 l2
      have hc' : ¬ (8192 : Int) < (r : Int) := by omega
      go_wp2_with fail
      exact bodyPost_ret (v := .tuple #[.int .i64 (q : Int), .int .i64 (r : Int), .bool false]) (by simp [results, Tryz.results112, go_sem]) rfl ⟨by rw [L1.out, L2.out], rfl⟩
  · obtain ⟨p1, p2, p3⟩ := HP.out m (Or.inl ⟨rfl, by omega⟩)
    have e1 := HW.out _ p1 p2
    have e3 := HJ.out _ p3
    clear HP HW HJ p1 p2 p3
    by_cases hc : 8192 < r
    · obtain ⟨l1, l2⟩ := HRR.out.1 hc
      have L1 := Lib.hid l1
      have L2 := Lib.hid l2
      clear HRR l1 l2
      have hc' : (8192 : Int) < (r : Int) := by omega
      go_wp2_with fail
      exact bodyPost_ret (v := .tuple #[.int .i64 (q : Int), .int .i64 ((16384 - r : Nat) : Int), .bool true]) (by simp [results, Tryz.results112, go_sem]; omega) rfl ⟨by rw [L1.out, L2.out], rfl⟩
    · obtain ⟨l1, l2⟩ := HRR.out.2 hc
      have L1 := Lib.hid l1
      have L2 := Lib.hid l2
      clear HRR l1 l2
      have hc' : ¬ (8192 : Int) < (r : Int) := by omega
      go_wp2_with fail
      exact bodyPost_ret (v := .tuple #[.int .i64 (q : Int), .int .i64 (r : Int), .bool false]) (by simp [results, Tryz.results112, go_sem]) rfl ⟨by rw [L1.out, L2.out], rfl⟩
end Go.Proofs.YtpnhjgjojnchaaaGreatDoor
