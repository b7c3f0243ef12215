/-
  FftBounds: the walk.
-/
import Derived.Test.YtejlicacndpfpaaFfL
namespace Go.Proofs.Ytejlicacndpfpaa
open Go.RowKit

theorem pow_parts : ∀ a : Nat, a < 65 → ∀ b : Nat, b < 64 → 0 < a * 64 + b → (a * 64 + b) &&& (a * 64 + b - 1) = 0 → ∃ n, n < 14 ∧ a * 64 + b = 2 ^ n := by decide +kernel
theorem pow_of {k : Nat} (hk : k ≤ 4096) (h0 : 0 < k) (h : k &&& (k - 1) = 0) : ∃ n, n ≤ 12 ∧ k = 2 ^ n := by
  have e : k / 64 * 64 + k % 64 = k := by omega
  obtain ⟨n, h1, h2⟩ := pow_parts (k / 64) (by omega) (k % 64) (by omega) (by omega) (by rw [e]; exact h)
  rw [e] at h2
  refine ⟨n, ?_, h2⟩
  rcases Nat.lt_or_ge n 13 with x | x
  · omega
  · have := Nat.pow_le_pow_right (show 0 < 2 by decide) x
    omega
theorem size_no {k m : Nat} (hm : k &&& (k - 1) = m) (h : k = 0 ∨ m ≠ 0) : ffSize k = (0, if 65536 < k then 4 else 1) := by
  unfold ffSize
  split
  · rfl
  · rw [if_neg]
    unfold isP2
    rw [hm]
    simp only [Bool.and_eq_true, decide_eq_true_eq]
    rcases h with h | h
    · exact fun x => by omega
    · exact fun x => h x.2
theorem rem_parts (n : Int) : ∃ k : Nat, k ≤ 65538 ∧ (n.tmod 65539 = (k : Int) ∨ (n.tmod 65539 = -(k : Int) ∧ 0 < k)) := by
  have h1 : (n.tmod 65539).natAbs < 65539 := by rw [Int.natAbs_tmod]; exact Nat.mod_lt _ (by decide)
  refine ⟨(n.tmod 65539).natAbs, by omega, ?_⟩
  omega
/-- What is so of the number of elements. -/
def KindOf (k m : Nat) : Nat → Prop
  | 0 => 65536 < k ∧ m ≠ 0
  | 1 => k = 0
  | 2 => 0 < k ∧ k ≤ 65536 ∧ m ≠ 0
  | 3 => 4096 < k ∧ k ≤ 65536 ∧ m = 0
  | _ => 0 < k ∧ k ≤ 4096 ∧ m = 0
theorem kinds {k m : Nat} (hm : k &&& (k - 1) = m) (hk : k ≤ 65538) : ∃ i, i < 5 ∧ KindOf k m i := by
  by_cases h1 : 65536 < k
  · refine ⟨0, by decide, h1, ?_⟩
    rcases (show k = 65537 ∨ k = 65538 by omega) with rfl | rfl <;> (rintro rfl; exact absurd hm (by decide))
  · by_cases h2 : k = 0
    · exact ⟨1, by decide, h2⟩
    · by_cases h3 : m = 0
      · by_cases h4 : 4096 < k
        · exact ⟨3, by decide, h4, by omega, h3⟩
        · exact ⟨4, by decide, by omega, by omega, h3⟩
      · exact ⟨2, by decide, by omega, by omega, h3⟩
set_option maxRecDepth 100000 in
set_option maxHeartbeats 12800000 in
theorem law_bounds (n : Int) (w : World) :
    Calls Try.prog 6 #[.int .i64 n] w (RetV w (.bool true)) := by
  obtain ⟨i0, hi, hz0, hz1, hz2⟩ := info_parts info_cx
  obtain ⟨k, hk, hs⟩ := rem_parts n
  obtain ⟨m, hm⟩ : ∃ m, k &&& (k - 1) = m := ⟨_, rfl⟩
  have HM := Lib.hid hm
  have HK := Lib.hid (kinds hm hk)
  have hand : 0 < k → bits .and .i64 (k : Int) ((k : Int) - 1) = (m : Int) := fun h => by
    rw [show ((k : Int) - 1) = ((k - 1 : Nat) : Int) by omega, bits_and63 _ _ (by omega) (by omega), hm]
  have HA := Lib.hid hand
  have hw1 : IntKind.i64.wrap ((k : Int) - 1) = (k : Int) - 1 := IntWalk.i64_in _ (by omega)
  clear hm hand
  go_enter Try.func6, Try.ntmps6
  rcases hs with hs | ⟨hs, hs0⟩
  all_goals
    have hneg : IntKind.i64.wrap (k : Int) = (k : Int) := IntWalk.i64_in _ (by omega)
    have hlt0 : (0 : Int) ≤ (k : Int) := by omega
    try have hlt1 : -(k : Int) < 0 := by omega
    go_wp2_with (at_make; refine wpList_make_full _ rfl _ _ 66 rfl w.heap.size 111 i0 (.complex .f64 0 0) 1 Try.underlying66 hi hz0 hz1 _ _ _ _ k rfl rfl (by omega) (by omega) ?c2 ?c3 (Nat.le_refl _) ?_)
    case c2 => first | omega | (rw [hz2]; omega)
    case c3 => unfold maxLen; omega
    intro w1 hown1 hgrow1
    rw [made_cx] at hown1
    have hb1 : Below w.heap.size w w1 := (Below.refl _ _).grown hgrow1 (Nat.le_refl _) (fun k hk => by cases hk)
    have hr1 := Reads.of_own hown1
    clear hgrow1 hown1
    obtain ⟨i, hi5, hki⟩ := HK.out
    match i, hi5, hki with
    | 0, _, hki =>
      obtain ⟨q1, q2⟩ := hki
      have HF : Hid (ffSize k = (0, 4)) := Lib.hid (by rw [size_no HM.out (.inr q2), if_pos q1])
      have y1 : (65536 : Int) < (k : Int) := by omega
      have y2 : ¬ (k : Int) ≤ 65536 := by omega
      have y3 : (0 : Int) < (k : Int) := by omega
      have y4 := HA.out (by omega)
      have y5 : ¬ (m : Int) = 0 := by omega
      have y6 : ((m : Int) == 0) = false := by rw [beq_eq_false_iff_ne]; exact y5
      go_wp2_with fail
      refine (energy_big _ k _ _ q1).mono ?_
      rintro e2 w2 ⟨rfl, hb2⟩
      have hb3 := hb1.trans ((hb2.alloc hb2.size (.cells #[.float .f64 0, .float .f64 0] 69)).mono hb1.size)
      clear hb1 hb2 hr1
      go_upto_region 6 with (fail)
      generalize w2.alloc (.cells #[.float .f64 0, .float .f64 0] 69) = w3 at hb3 ⊢
      go_wp2_with fail
      refine (forward_no _ k _ 4 _ (by omega) HF (by decide)).mono ?_
      rintro e4 w4 ⟨rfl, rfl⟩
      go_wp2_with fail
      refine (back_no _ k _ 4 _ (by omega) HF (by decide)).mono ?_
      rintro e5 w5 ⟨rfl, rfl⟩
      go_wp2_with fail
      refine (alive21 _).mono ?_
      rintro e6 w6 ⟨rfl, hb6⟩
      go_wp2_with fail
      go_ret
      exact ⟨rfl, below_next hb3 hb6⟩
    | 1, _, hki =>
      have q1 : k = 0 := hki
      first
        | exact absurd hs0 (by omega)
        | skip
          have HF : Hid (ffSize k = (0, 1)) := Lib.hid (by rw [size_no HM.out (.inl q1), if_neg (by omega)])
          have y1 : ¬ (65536 : Int) < (k : Int) := by omega
          have y2 : (k : Int) ≤ 65536 := by omega
          have y3 : ¬ (0 : Int) < (k : Int) := by omega
          have q2 := Lib.hid q1
          clear q1 hki
          go_wp2_with fail
          refine (energy_few _ k _ _ _ hr1 (by have := q2.out; omega) (last_nought k)).mono ?_
          rintro e2 w2 ⟨x, rfl, hb2⟩
          have hb3 := hb1.trans ((hb2.alloc hb2.size (.cells #[.float .f64 x, .float .f64 x] 69)).mono hb1.size)
          have hr3 := (hr1.below (hb2.alloc hb2.size (.cells #[.float .f64 x, .float .f64 x] 69))).more (hb2.alloc hb2.size (.cells #[.float .f64 x, .float .f64 x] 69)).size
          clear hb1 hb2 hr1
          go_upto_region 6 with (fail)
          generalize w2.alloc (.cells #[.float .f64 x, .float .f64 x] 69) = w3 at hb3 hr3 ⊢
          go_wp2_with fail
          refine (forward_no _ k _ 1 _ (by have := q2.out; omega) HF (by decide)).mono ?_
          rintro e4 w4 ⟨rfl, rfl⟩
          go_wp2_with fail
          refine (back_no _ k _ 1 _ (by have := q2.out; omega) HF (by decide)).mono ?_
          rintro e5 w5 ⟨rfl, rfl⟩
          go_wp2_with fail
          refine (alive21 _).mono ?_
          rintro e6 w6 ⟨rfl, hb6⟩
          go_wp2_with fail
          go_ret
          exact ⟨rfl, below_next hb3 hb6⟩
    | 2, _, hki =>
      obtain ⟨q0, q1, q2⟩ := hki
      have HF : Hid (ffSize k = (0, 1)) := Lib.hid (by rw [size_no HM.out (.inr q2), if_neg (by omega)])
      have y1 : ¬ (65536 : Int) < (k : Int) := by omega
      have y2 : (k : Int) ≤ 65536 := by omega
      have y3 : (0 : Int) < (k : Int) := by omega
      have y4 := HA.out (by omega)
      have y5 : ¬ (m : Int) = 0 := by omega
      have y6 : ((m : Int) == 0) = false := by rw [beq_eq_false_iff_ne]; exact y5
      go_wp2_with fail
      refine (energy_few _ k _ _ _ hr1 (by omega) (last_nought k)).mono ?_
      rintro e2 w2 ⟨x, rfl, hb2⟩
      have hb3 := hb1.trans ((hb2.alloc hb2.size (.cells #[.float .f64 x, .float .f64 x] 69)).mono hb1.size)
      have hr3 := (hr1.below (hb2.alloc hb2.size (.cells #[.float .f64 x, .float .f64 x] 69))).more (hb2.alloc hb2.size (.cells #[.float .f64 x, .float .f64 x] 69)).size
      clear hb1 hb2 hr1
      go_upto_region 6 with (fail)
      generalize w2.alloc (.cells #[.float .f64 x, .float .f64 x] 69) = w3 at hb3 hr3 ⊢
      go_wp2_with fail
      refine (forward_no _ k _ 1 _ (by omega) HF (by decide)).mono ?_
      rintro e4 w4 ⟨rfl, rfl⟩
      go_wp2_with fail
      refine (back_no _ k _ 1 _ (by omega) HF (by decide)).mono ?_
      rintro e5 w5 ⟨rfl, rfl⟩
      go_wp2_with fail
      refine (alive21 _).mono ?_
      rintro e6 w6 ⟨rfl, hb6⟩
      go_wp2_with fail
      go_ret
      exact ⟨rfl, below_next hb3 hb6⟩
    | 3, _, hki =>
      obtain ⟨q0, q1, rfl⟩ := hki
      have y1 : ¬ (65536 : Int) < (k : Int) := by omega
      have y2 : (k : Int) ≤ 65536 := by omega
      have y3 : (0 : Int) < (k : Int) := by omega
      have y4 := HA.out (by omega)
      have y5 : (4096 : Int) < (k : Int) := by omega
      go_wp2_with fail
      refine (energy_few _ k _ _ _ hr1 (by omega) (last_nought k)).mono ?_
      rintro e2 w2 ⟨x, rfl, hb2⟩
      have hb3 := hb1.trans ((hb2.alloc hb2.size (.cells #[.float .f64 x, .float .f64 x] 69)).mono hb1.size)
      have hr3 := (hr1.below (hb2.alloc hb2.size (.cells #[.float .f64 x, .float .f64 x] 69))).more (hb2.alloc hb2.size (.cells #[.float .f64 x, .float .f64 x] 69)).size
      clear hb1 hb2 hr1
      go_upto_region 6 with (fail)
      generalize w2.alloc (.cells #[.float .f64 x, .float .f64 x] 69) = w3 at hb3 hr3 ⊢
      go_wp2_with fail
      refine (alive21 _).mono ?_
      rintro e6 w6 ⟨rfl, hb6⟩
      go_wp2_with fail
      go_ret
      exact ⟨rfl, below_next hb3 hb6⟩
    | 4, _, hki =>
      obtain ⟨q0, q1, rfl⟩ := hki
      obtain ⟨n2, hn2, hp2⟩ := pow_of q1 q0 HM.out
      have y1 : ¬ (65536 : Int) < (k : Int) := by omega
      have y2 : (k : Int) ≤ 65536 := by omega
      have y3 : (0 : Int) < (k : Int) := by omega
      have y4 := HA.out (by omega)
      have y5 : ¬ (4096 : Int) < (k : Int) := by omega
      have HP := Lib.hid hp2
      clear hp2
      go_wp2_with fail
      refine (energy_few _ k _ _ _ hr1 (by omega) (last_nought k)).mono ?_
      rintro e2 w2 ⟨x, rfl, hb2⟩
      have hb3 := hb1.trans ((hb2.alloc hb2.size (.cells #[.float .f64 x, .float .f64 x] 69)).mono hb1.size)
      have hr3 := (hr1.below (hb2.alloc hb2.size (.cells #[.float .f64 x, .float .f64 x] 69))).more (hb2.alloc hb2.size (.cells #[.float .f64 x, .float .f64 x] 69)).size
      clear hb1 hb2 hr1
      go_upto_region 6 with (fail)
      generalize w2.alloc (.cells #[.float .f64 x, .float .f64 x] 69) = w3 at hb3 hr3 ⊢
      go_wp2_with fail
      have hfw := Lib.hid (fun (W : World) (hR : Reads W W.heap.size (some ⟨w.heap.size, 0, none⟩) k (cxs (List.replicate k (0, 0)))) => forward_ok (some ⟨w.heap.size, 0, none⟩) k n2 (List.replicate k (0, 0)) W (by rw [← HP.out]; exact hR) (fun z hz => by rw [List.eq_of_mem_replicate hz]; exact ⟨by decide, by decide⟩) (Nat.le_of_eq HP.out.symm) hn2)
      have hbk := Lib.hid (fun (W : World) (hR : Reads W W.heap.size (some ⟨w.heap.size, 0, none⟩) k (cxs (List.replicate k (0, 0)))) => back_ok (some ⟨w.heap.size, 0, none⟩) k n2 (List.replicate k (0, 0)) W (by rw [← HP.out]; exact hR) (fun z hz => by rw [List.eq_of_mem_replicate hz]; exact ⟨by decide, by decide⟩) (Nat.le_of_eq HP.out.symm) hn2)
      rw [← HP.out] at hfw hbk
      refine (hfw.out _ hr3).mono ?_
      rintro e4 w4 ⟨g4, o4, rfl, _, _, hb4, _⟩
      have hb5 := below_next hb3 hb4
      have hr5 := (hr3.below hb4).more hb4.size
      clear hb3 hr3 hb4
      go_wp2_with fail
      refine (hbk.out _ hr5).mono ?_
      rintro e6 w6 ⟨g6, rfl, hb6⟩
      have hb7 := below_next hb5 hb6
      clear hb5 hr5 hb6
      go_wp2_with fail
      refine (alive21 _).mono ?_
      rintro e6 w8 ⟨rfl, hb6⟩
      go_wp2_with fail
      go_ret
      exact ⟨rfl, below_next hb7 hb6⟩
    | i + 5, hi5, _ => exact absurd hi5 (by omega)
end Go.Proofs.Ytejlicacndpfpaa
