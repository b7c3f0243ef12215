/-
  Parts of a turn: places (turn.at), turn.counted, turn.Unit.
-/
import Derived.Test.YtdmdaoginojalaaGreatDoorTurC
namespace Go.Proofs.YtdmdaoginojalaaGreatDoor
open Go.RowKit

theorem pow_nat (n : Nat) : (2 : Int) ^ n = ((2 ^ n : Nat) : Int) := by rw [Int.natCast_pow]; rfl
theorem i64_mask (k : Int) (n : Nat) (hn : n ≤ 16) : bits .and .i64 k (((2 ^ n : Nat) : Int) - 1) = k % ((2 ^ n : Nat) : Int) := by
  have h0 : 0 < (2 : Nat) ^ n := Nat.two_pow_pos _
  have h1 : (2 : Nat) ^ n ≤ 2 ^ 16 := Nat.pow_le_pow_right (by decide) hn
  have e0 : ((2 ^ n : Nat) : Int) - 1 = ((2 ^ n - 1 : Nat) : Int) := by omega
  rw [e0]
  show IntKind.i64.wrap ((BitVec.ofInt 64 k &&& BitVec.ofInt 64 ((2 ^ n - 1 : Nat) : Int)).toNat : Int) = _
  rw [BitVec.toNat_and, ofInt_i64 _ (by omega), BitVec.toNat_ofInt, Nat.and_two_pow_sub_one_eq_mod]
  have hd : ((2 ^ n : Nat) : Int) ∣ ((2 ^ 64 : Nat) : Int) := Int.natCast_dvd_natCast.2 (Nat.pow_dvd_pow 2 (by omega))
  have e1 : k % ((2 ^ 64 : Nat) : Int) % ((2 ^ n : Nat) : Int) = k % ((2 ^ n : Nat) : Int) := Int.emod_emod_of_dvd _ hd
  have p0 : 0 ≤ k % ((2 ^ 64 : Nat) : Int) := Int.emod_nonneg _ (by omega)
  have e2 : (((k % ((2 ^ 64 : Nat) : Int)).toNat % 2 ^ n : Nat) : Int) = k % ((2 ^ n : Nat) : Int) := by
    rw [Int.natCast_emod, Int.toNat_of_nonneg p0]
    exact e1
  rw [e2, IntKind.wrap_i64]
  have p1 : 0 ≤ k % ((2 ^ n : Nat) : Int) := Int.emod_nonneg _ (by omega)
  have p2 : k % ((2 ^ n : Nat) : Int) < ((2 ^ n : Nat) : Int) := Int.emod_lt_of_pos _ (by omega)
  omega
/-- Which of 2^16 parts. -/
def jF (k : Int) (n : Nat) : Nat := (k % ((2 ^ n : Nat) : Int)).toNat * 2 ^ (16 - n)
theorem jF_lt (k : Int) {n : Nat} (hn : n ≤ 16) : jF k n < 65536 := by
  have h0 : 0 < (2 : Nat) ^ n := Nat.two_pow_pos _
  have p2 : k % ((2 ^ n : Nat) : Int) < ((2 ^ n : Nat) : Int) := Int.emod_lt_of_pos _ (by omega)
  have p1 : 0 ≤ k % ((2 ^ n : Nat) : Int) := Int.emod_nonneg _ (by omega)
  have h1 : (k % ((2 ^ n : Nat) : Int)).toNat < 2 ^ n := by omega
  have h2 : (2 : Nat) ^ n * 2 ^ (16 - n) = 65536 := by rw [← Nat.pow_add, show n + (16 - n) = 16 by omega]
  have h3 : 0 < (2 : Nat) ^ (16 - n) := Nat.two_pow_pos _
  unfold jF
  calc _ < 2 ^ n * 2 ^ (16 - n) := Nat.mul_lt_mul_of_pos_right h1 h3
    _ = 65536 := h2
theorem jF_walk (k : Int) {n : Nat} (hn : n ≤ 16) : wrap64 (bits .and .i64 k (wrap64 (wrap64 (2 ^ n) - 1)) * 2 ^ (16 - n)) = (jF k n : Int) := by
  have h0 : 0 < (2 : Nat) ^ n := Nat.two_pow_pos _
  have h1 : (2 : Nat) ^ n ≤ 2 ^ 16 := Nat.pow_le_pow_right (by decide) hn
  have hj := jF_lt k hn
  have w1 : wrap64 (2 ^ n) = ((2 ^ n : Nat) : Int) := by rw [pow_nat]; unfold wrap64; omega
  have w2 : wrap64 (((2 ^ n : Nat) : Int) - 1) = ((2 ^ n : Nat) : Int) - 1 := by unfold wrap64; omega
  rw [w1, w2, i64_mask k n hn, pow_nat]
  have p1 : 0 ≤ k % ((2 ^ n : Nat) : Int) := Int.emod_nonneg _ (by omega)
  have e : k % ((2 ^ n : Nat) : Int) * ((2 ^ (16 - n) : Nat) : Int) = (jF k n : Int) := by
    unfold jF
    rw [Int.natCast_mul, Int.toNat_of_nonneg p1]
  rw [e]
  unfold wrap64
  omega
def mirF (j : Nat) : Bool := decide (8192 < j % 16384)
def leftF (j : Nat) : Nat := if 8192 < j % 16384 then 16384 - j % 16384 else j % 16384
set_option maxHeartbeats 800000 in
theorem at_any (k : Int) (n : Nat) (hn : n ≤ 16) (w : World) : Calls Tryz.prog 51 #[.int .i64 k, .int .i64 (n : Int)] w
    fun e w' => e = .returned (.agg #[.int .i64 ((jF k n / 16384 : Nat) : Int), .int .i64 (leftF (jF k n) : Int), .bool (mirF (jF k n))]) ∧ Below w.heap.size w w' := by
  have hJ := jF_walk k hn
  have hj := jF_lt k hn
  obtain ⟨j, hjj⟩ : ∃ j, jF k n = j := ⟨_, rfl⟩
  rw [hjj] at hJ hj ⊢
  clear hjj
  have e1 : wrap64 ((j : Int).tdiv 16384) = ((j / 16384 : Nat) : Int) := by
    rw [show (16384 : Int) = ((16384 : Nat) : Int) from rfl, ← Int.ofNat_tdiv]
    unfold wrap64
    omega
  have e2 : (j : Int).tmod 16384 = ((j % 16384 : Nat) : Int) := by
    rw [show (16384 : Int) = ((16384 : Nat) : Int) from rfl, ← Int.ofNat_tmod]
  have hl : j % 16384 < 16384 := Nat.mod_lt _ (by decide)
  by_cases hc : 8192 < j % 16384
  · have HL : Hid (leftF j = 16384 - j % 16384) := Lib.hid (by unfold leftF; rw [if_pos hc])
    have HM : Hid (mirF j = true) := Lib.hid (by unfold mirF; exact decide_eq_true hc)
    rw [HL.out, HM.out]
    obtain ⟨l, hll⟩ : ∃ l, j % 16384 = l := ⟨_, rfl⟩
    obtain ⟨q, hqq⟩ : ∃ q, j / 16384 = q := ⟨_, rfl⟩
    rw [hll] at e2 hl hc ⊢
    rw [hqq] at e1 ⊢
    have HLL := Lib.hid hll
    have HQQ := Lib.hid hqq
    clear hll hqq
    go_enter Tryz.func51, Tryz.ntmps51
    go_wp2_with fail
    exact bodyPost_ret (v := .agg #[.int .i64 (q : Int), .int .i64 ((16384 - l : Nat) : Int), .bool true]) (by simp [results, Tryz.results51, go_sem]; have := HQQ.out; have := HLL.out; omega) rfl ⟨rfl, ((Below.refl _ _).alloc (Nat.le_refl _) _).alloc (by simp) _⟩
  · have HL : Hid (leftF j = j % 16384) := Lib.hid (by unfold leftF; rw [if_neg hc])
    have HM : Hid (mirF j = false) := Lib.hid (by unfold mirF; exact decide_eq_false hc)
    rw [HL.out, HM.out]
    obtain ⟨l, hll⟩ : ∃ l, j % 16384 = l := ⟨_, rfl⟩
    obtain ⟨q, hqq⟩ : ∃ q, j / 16384 = q := ⟨_, rfl⟩
    rw [hll] at e2 hl hc ⊢
    rw [hqq] at e1 ⊢
    have HLL := Lib.hid hll
    have HQQ := Lib.hid hqq
    have hc' : l ≤ 8192 := by omega
    clear hll hqq hc
    go_enter Tryz.func51, Tryz.ntmps51
    go_wp2_with fail
    exact bodyPost_ret (v := .agg #[.int .i64 (q : Int), .int .i64 (l : Int), .bool false]) (by simp [results, Tryz.results51, go_sem]; have := HQQ.out; omega) rfl ⟨rfl, ((Below.refl _ _).alloc (Nat.le_refl _) _).alloc (by simp) _⟩

/-- May a turn have 2^n parts? -/
def cntF (n : Int) : Int := if n < 0 then 1 else if 16 < n then 4 else 0
theorem counted_any (n : Int) (w : World) : Calls Tryz.prog 49 #[.int .i64 n] w fun e w' => e = .returned (.int .i64 (cntF n)) ∧ w = w' := by
  by_cases h1 : n < 0
  · have HC : Hid (cntF n = 1) := Lib.hid (by unfold cntF; rw [if_pos h1])
    rw [HC.out]
    go_enter Tryz.func49, Tryz.ntmps49
    go_wp2_with fail
    go_ret
    exact ⟨rfl, rfl⟩
  · have h1' : 0 ≤ n := by omega
    by_cases h2 : 16 < n
    · have HC : Hid (cntF n = 4) := Lib.hid (by unfold cntF; rw [if_neg h1, if_pos h2])
      rw [HC.out]
      clear h1
      go_enter Tryz.func49, Tryz.ntmps49
      go_wp2_with fail
      go_ret
      exact ⟨rfl, rfl⟩
    · have h2' : n ≤ 16 := by omega
      have HC : Hid (cntF n = 0) := Lib.hid (by unfold cntF; rw [if_neg h1, if_neg h2])
      rw [HC.out]
      clear h1 h2
      go_enter Tryz.func49, Tryz.ntmps49
      go_wp2_with fail
      go_ret
      exact ⟨rfl, rfl⟩
/-- The number at one of 2^16 parts. -/
def uF (j : Nat) : Nat × Nat := unitF (j / 16384) (leftF j) (mirF j)
theorem unit_ok (k : Int) (n : Nat) (hn : n ≤ 16) (w : World) : Calls Tryz.prog 9 #[.int .i64 k, .int .i64 (n : Int)] w
    fun e w' => e = .returned (.tuple #[.complex .f64 (uF (jF k n)).1 (uF (jF k n)).2, .int .i64 0]) ∧ Below w.heap.size w w' := by
  have hj := jF_lt k hn
  have hC : cntF (n : Int) = 0 := by unfold cntF; rw [if_neg (by omega), if_neg (by omega)]
  have HC := Lib.hid hC
  have hq : Hid (bits .and .i64 ((jF k n / 16384 : Nat) : Int) 3 = ((jF k n / 16384 : Nat) : Int)) := Lib.hid (by
    rw [show (3 : Int) = ((3 : Nat) : Int) from rfl, i64_and_nat _ _ (by omega) (by decide)]
    have e : (jF k n / 16384) &&& 3 = jF k n / 16384 % 4 := Nat.and_two_pow_sub_one_eq_mod _ 2
    rw [e]
    omega)
  have hl : leftF (jF k n) < 16384 := by
    unfold leftF
    have := Nat.mod_lt (jF k n) (show 0 < 16384 by decide)
    split <;> omega
  have hq4 : jF k n / 16384 < 4 := by omega
  clear hC
  go_enter Tryz.func9, Tryz.ntmps9
  go_wp2_with fail
  refine (counted_any _ _).mono ?_
  rintro e1 w1 ⟨rfl, rfl⟩
  rw [HC.out]
  go_wp2_with fail
  refine (units_any _).mono ?_
  rintro e2 w2 ⟨g, rfl, hg, hP, hb2⟩
  have HP := Lib.hid hP
  clear hP
  go_wp2_with fail
  refine (at_any k n hn _).mono ?_
  rintro e3 w3 ⟨rfl, hb3⟩
  go_wp2_with fail
  refine (units_at g (leftF (jF k n)) (jF k n / 16384) _ (mirF (jF k n)) hl hq hq4 _ (HP.out.below hb3)).mono ?_
  rintro e4 w4 ⟨rfl, hb4⟩
  go_wp2_with fail
  exact bodyPost_ret (v := .tuple #[.complex .f64 (unitF (jF k n / 16384) (leftF (jF k n)) (mirF (jF k n))).1 (unitF (jF k n / 16384) (leftF (jF k n)) (mirF (jF k n))).2, .int .i64 0]) (by simp [results, Tryz.results9, go_sem]) rfl ⟨rfl, below_next (below_next hb2 hb3) hb4⟩
theorem unit_no (k n : Int) (h : cntF n ≠ 0) (w : World) : Calls Tryz.prog 9 #[.int .i64 k, .int .i64 n] w
    fun e w' => e = .returned (.tuple #[.complex .f64 0 0, .int .i64 (cntF n)]) ∧ w = w' := by
  go_enter Tryz.func9, Tryz.ntmps9
  go_wp2_with fail
  refine (counted_any _ _).mono ?_
  rintro e1 w1 ⟨rfl, rfl⟩
  go_wp2_with fail
  exact bodyPost_ret (v := .tuple #[.complex .f64 0 0, .int .i64 (cntF n)]) (by simp [results, Tryz.results9, go_sem]) rfl ⟨rfl, rfl⟩
end Go.Proofs.YtdmdaoginojalaaGreatDoor
