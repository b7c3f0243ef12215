/-
  TurnTold: the walk.
-/
import Derived.Test.YtgfppockdgmlhaaTurT
namespace Go.Proofs.Ytgfppockdgmlhaa
open Go.RowKit

theorem table_no (n : Int) (h : cntF n ≠ 0) (w : World) : Calls Try.prog 12 #[.int .i64 n] w
    fun e w' => e = .returned (.tuple #[.slice none 0 0, .int .i64 (cntF n)]) ∧ w = w' := by
  go_enter Try.func12, Try.ntmps12
  go_wp2_with fail
  refine (counted_any _ _).mono ?_
  rintro e1 w1 ⟨rfl, rfl⟩
  go_wp2_with fail
  exact bodyPost_ret (v := .tuple #[.slice none 0 0, .int .i64 (cntF n)]) (by simp [results, Try.results12, go_sem]) rfl ⟨rfl, rfl⟩
set_option maxRecDepth 100000 in
theorem told_no (n at' : Int) (hc : cntF n ≠ 0) (w : World) : Calls Try.prog 4 #[.int .i64 n, .int .i64 at'] w (RetV w (.bool true)) := by
  by_cases h1 : n < 0
  · have HC : Hid (cntF n = 1) := Lib.hid (by unfold cntF; rw [if_pos h1])
    clear h1
    go_enter Try.func4, Try.ntmps4
    go_wp2_with fail
    refine (table_no n hc _).mono ?_
    rintro e1 w1 ⟨rfl, rfl⟩
    rw [HC.out]
    go_wp2_with fail
    refine (lives17 _).mono ?_
    rintro e2 w2 ⟨rfl, hb2⟩
    go_wp2_with fail
    go_ret
    exact ⟨rfl, hb2⟩
  · have h2 : 16 < n := by
      rcases Int.lt_or_le 16 n with h | h
      · exact h
      · exact absurd (show cntF n = 0 by unfold cntF; rw [if_neg h1, if_neg (by omega)]) hc
    have HC : Hid (cntF n = 4) := Lib.hid (by unfold cntF; rw [if_neg h1, if_pos h2])
    clear h1 h2
    go_enter Try.func4, Try.ntmps4
    go_wp2_with fail
    refine (table_no n hc _).mono ?_
    rintro e1 w1 ⟨rfl, rfl⟩
    rw [HC.out]
    go_wp2_with fail
    refine (lives17 _).mono ?_
    rintro e2 w2 ⟨rfl, hb2⟩
    go_wp2_with fail
    go_ret
    exact ⟨rfl, hb2⟩
theorem rem_bd (k : Int) {S : Nat} (h : 0 < S) : -(S : Int) < k.tmod (S : Int) ∧ k.tmod (S : Int) < (S : Int) := by
  have e : (k.tmod (S : Int)).natAbs = k.natAbs % S := by rw [Int.natAbs_tmod]; rfl
  have := Nat.mod_lt k.natAbs h
  omega
theorem own_cell {w : World} {base : Nat} {t : TypeId} {g S n k : Nat} {xs : List Value} (h : w.ownsRow base t 1 (.slice (some ⟨g, 0, none⟩) S S) S xs) (hX : Laid n S xs) (hk : k < S) : w.cell? ⟨g, k, none⟩ = some (tabV n k) := by
  rw [h.cellAt k (by omega)]
  exact hX k hk
set_option maxRecDepth 100000 in
set_option maxHeartbeats 3200000 in
theorem told_ok (n : Nat) (at' : Int) (hn : n ≤ 16) (w : World) : Calls Try.prog 4 #[.int .i64 (n : Int), .int .i64 at'] w (RetV w (.bool true)) := by
  obtain ⟨S, hSS⟩ : ∃ S, (2 : Nat) ^ n = S := ⟨_, rfl⟩
  have h0 : 0 < S := by rw [← hSS]; exact Nat.two_pow_pos _
  have h1 : S ≤ 65536 := by rw [← hSS]; exact Nat.pow_le_pow_right (by decide) hn
  have hS : wrap64 (2 ^ n) = (S : Int) := by rw [pow_nat, hSS]; unfold wrap64; omega
  have hS0 : ¬ (S : Int) = 0 := by omega
  obtain ⟨hr1, hr2⟩ := rem_bd at' h0
  have HS2 := Lib.hid hSS
  clear hSS
  go_enter Try.func4, Try.ntmps4
  go_wp2_with fail
  refine (table_ok n hn S HS2.out _).mono ?_
  rintro e1 w1 ⟨g, xs, rfl, hg, hown, HX0, hb1⟩
  have HX := Lib.hid HX0
  clear HX0
  go_upto_if 37 with fail
  rw [hS]
  clear hS
  go_cut [8, 9, 37] from 38 to 49 (fun s8 s9 _ wx => ∃ f T : Nat, s8 = .int .i64 (f : Int) ∧ s9 = .int .i64 (T : Int) ∧ f ≤ T ∧ T ≤ S ∧ wx = w1)
  case first =>
    by_cases hbig : 1024 < S
    · by_cases hneg : at'.tmod (S : Int) < 0
      · go_wp2_with fail
        all_goals go_meet
        all_goals (first
          | exact ⟨(at'.tmod (S : Int) + (S : Int)).toNat, S, congrArg (Value.int .i64) (by omega), rfl, by omega, Nat.le_refl _, rfl⟩
          | exact ⟨(at'.tmod (S : Int) + (S : Int)).toNat, (at'.tmod (S : Int) + (S : Int) + 64).toNat, congrArg (Value.int .i64) (by omega), congrArg (Value.int .i64) (by omega), by omega, by omega, rfl⟩)
      · go_wp2_with fail
        all_goals go_meet
        all_goals (first
          | exact ⟨(at'.tmod (S : Int)).toNat, S, congrArg (Value.int .i64) (by omega), rfl, by omega, Nat.le_refl _, rfl⟩
          | exact ⟨(at'.tmod (S : Int)).toNat, (at'.tmod (S : Int) + 64).toNat, congrArg (Value.int .i64) (by omega), congrArg (Value.int .i64) (by omega), by omega, by omega, rfl⟩)
    · go_wp2_with fail
      go_meet
      exact ⟨0, S, rfl, rfl, by omega, Nat.le_refl _, rfl⟩
  case rest =>
    obtain ⟨f, T, rfl, rfl, hfT, hTS, rfl⟩ := hcut
    clear hr1 hr2
    go_wp2_with fail
    go_loopw [10] (fun i wr => ∃ k : Nat, f ≤ k ∧ k ≤ T ∧ i = .int .i64 (k : Int) ∧ wr.ownsRow w.heap.size 22 1 (.slice (some ⟨g, 0, none⟩) S S) S xs ∧ Below w.heap.size w wr) (fun i _ => T - (intOf i).toNat)
    case atStart => exact ⟨f, Nat.le_refl _, hfT, rfl, hown, hb1⟩
    case round =>
      clear hown hb1
      obtain ⟨k, hfk, hkT, rfl, hown, hnx⟩ := hrel
      by_cases hlt : k < T
      · obtain ⟨z, hz⟩ : ∃ z, uF (jF (k : Int) n) = z := ⟨_, rfl⟩
        obtain ⟨a, b⟩ := z
        have HZ := Lib.hid hz
        clear hz
        have hkS : k < S := by omega
        go_wp2_with fail
        refine (unit_ok (k : Int) n hn _).mono ?_
        rintro e2 w2 ⟨rfl, hb2⟩
        rw [HZ.out]
        have hown2 := below_own hown hb2
        have hnx2 := below_next hnx hb2
        have hc2 := own_cell hown2 HX.out hkS
        rw [tabV_eq, HZ.out] at hc2
        clear hb2 hown hnx
        go_wp2_with fail
        refine (sameComplex_eq a b _).mono ?_
        rintro e3 w3 ⟨rfl, rfl⟩
        go_wp2_with fail
        go_roundw
        case rel => exact ⟨k + 1, by omega, by omega, by go_num, hown2, hnx2⟩
        case measure => simp [intOf]; omega
      · obtain rfl : k = T := by omega
        clear hlt
        by_cases hn0 : n = 0
        · have hz : ((n : Int) == 0) = true := by rw [hn0]; rfl
          clear hn0
          go_wp2_with fail
          refine (lives17 _).mono ?_
          rintro e4 w4 ⟨rfl, hb4⟩
          go_wp2_with fail
          go_ret
          exact ⟨rfl, below_next hnx hb4⟩
        · have hz : ((n : Int) == 0) = false := by rw [beq_eq_false_iff_ne]; omega
          obtain ⟨m, hm⟩ : ∃ m, n = m + 1 := ⟨n - 1, by omega⟩
          obtain ⟨S2, hS2⟩ : ∃ S2, (2 : Nat) ^ m = S2 := ⟨_, rfl⟩
          have hSS : S = 2 * S2 := by rw [← HS2.out, hm, Nat.pow_succ, hS2]; omega
          have hs1 : S ≤ 2 * S2 := by omega
          have hs2 : 2 * S2 ≤ S := by omega
          have hne : ((S2 : Int) != (S : Int) / 2) = false := by rw [show (S : Int) / 2 = (S2 : Int) by omega]; exact bne_self_eq_false _
          have HM : Hid ((n : Int) - 1 = (m : Int)) := Lib.hid (by omega)
          have HJ : Hid (∀ i : Nat, jF (2 * (i : Int)) n = jF (i : Int) m) := Lib.hid (fun i => by rw [hm]; exact jF_finer _ (by omega))
          have hn1 : 1 ≤ n := by omega
          have hm16 : m ≤ 16 := by omega
          have HM2 := Lib.hid hS2
          clear hn0 hm hS2 hSS
          go_wp2_with fail
          rw [HM.out]
          refine (table_ok m hm16 S2 HM2.out _).mono ?_
          rintro e4 w4 ⟨g2, xs2, rfl, hg2, hownm, HX2, hb4⟩
          have HXm := Lib.hid HX2
          have hown4 := below_own hown hb4
          have hnx4 := below_next hnx hb4
          have hownm4 := own_base hownm (base' := 0) (Nat.zero_le _)
          clear HX2 hown hnx hb4 hownm hg2
          go_wp2_with fail
          go_loopw [14] (fun i wr => ∃ q : Nat, f / 2 ≤ q ∧ (q : Int) ≤ (k : Int) / 2 ∧ i = .int .i64 (q : Int) ∧ wr.ownsRow w.heap.size 22 1 (.slice (some ⟨g, 0, none⟩) S S) S xs ∧
              wr.ownsRow 0 22 1 (.slice (some ⟨g2, 0, none⟩) S2 S2) S2 xs2 ∧ Below w.heap.size w wr) (fun i _ => k - (intOf i).toNat)
          case atStart => exact ⟨f / 2, Nat.le_refl _, by omega, rfl, hown4, hownm4, hnx4⟩
          case round =>
            clear hown4 hownm4 hnx4
            obtain ⟨q, hfq, hqT, rfl, hown, hownm, hnx⟩ := hrel
            by_cases hlt : (q : Int) < (k : Int) / 2
            · obtain ⟨z, hz2⟩ : ∃ z, uF (jF (q : Int) m) = z := ⟨_, rfl⟩
              obtain ⟨a, b⟩ := z
              have hq1 : q < S2 := by omega
              have hq2 : 2 * q < S := by omega
              have c1 := own_cell hownm HXm.out hq1
              have c2 := own_cell hown HX.out hq2
              rw [tabV_eq, hz2] at c1
              rw [tabV_eq, Int.natCast_mul, show ((2 : Nat) : Int) = 2 from rfl, HJ.out, hz2] at c2
              have s1 : IntKind.i64.wrap (2 * (q : Int)) = 2 * (q : Int) := IntWalk.i64_in _ (by omega)
              have s2 : 0 ≤ 2 * (q : Int) := by omega
              have s3 : (2 * (q : Int)).toNat = 2 * q := by omega
              have s4 : 2 * (q : Int) < (S : Int) := by omega
              clear hz2
              go_wp2_with fail
              go_quiet ((go_at_call 8; exact Calls.quiet_of_same ((sameComplex_eq a b _).mono (fun _ _ h => ⟨h.1, h.2.symm⟩))))
              clear s1 s2 s3 s4
              go_wp2_with fail
              go_roundw
              case rel => exact ⟨q + 1, by omega, by omega, by go_num, hown, hownm, below_drewN hnx _⟩
              case measure => simp [intOf]; omega
            · go_wp2_with fail
              refine (lives17 _).mono ?_
              rintro e5 w5 ⟨rfl, hb5⟩
              go_wp2_with fail
              go_ret
              exact ⟨rfl, below_next hnx hb5⟩
theorem law_turnTold (n at' : Int) (w : World) : Calls Try.prog 4 #[.int .i64 n, .int .i64 at'] w (RetV w (.bool true)) := by
  by_cases hc : cntF n = 0
  · have h1 : ¬ n < 0 := fun h => by unfold cntF at hc; rw [if_pos h] at hc; exact absurd hc (by decide)
    have h2 : ¬ 16 < n := fun h => by unfold cntF at hc; rw [if_neg h1, if_pos h] at hc; exact absurd hc (by decide)
    obtain ⟨N, rfl⟩ : ∃ N : Nat, n = (N : Int) := ⟨n.toNat, by omega⟩
    exact told_ok N at' (by omega) w
  · exact told_no n at' hc w
end Go.Proofs.Ytgfppockdgmlhaa
