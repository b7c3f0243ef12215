/-
  The references' parts of a turn (polestarref17): Unit.
-/
import Derived.Test.YtpnhjgjojnchaaaGreatDoorRup
namespace Go.Proofs.YtpnhjgjojnchaaaGreatDoor
open Go.RowKit

theorem bit_test (r t : Nat) : ((((r : Int) / 2 ^ t).tmod 2 == 1) : Bool) = r.testBit t := by
  rw [pow_nat, ← Int.natCast_ediv, show (2 : Int) = ((2 : Nat) : Int) from rfl, ← Int.ofNat_tmod, Nat.testBit_eq_decide_div_mod_eq]
  by_cases h : r / 2 ^ t % 2 = 1
  · rw [h, decide_eq_true rfl]; rfl
  · rw [decide_eq_false h, beq_eq_false_iff_ne]
    omega
theorem left_lt17 (j : Nat) : leftF j < 16384 := by
  have := Nat.mod_lt j (show 16384 > 0 by decide)
  unfold leftF
  split <;> omega
set_option maxRecDepth 100000 in
set_option maxHeartbeats 3200000 in
theorem ref17_unit (k : Int) (n : Nat) (hn : n ≤ 16) (w : World) : Calls Tryz.prog 18 #[.int .i64 k, .int .i64 (n : Int)] w
    fun e w' => e = .returned (.complex .f64 (uF (jF k n)).1 (uF (jF k n)).2) ∧ ∃ d, w' = w.drewN d := by
  have hj := jF_lt k hn
  have hl := left_lt17 (jF k n)
  obtain ⟨j0, hj0⟩ : ∃ j, jF k n = j := ⟨_, rfl⟩
  have hq : j0 / 16384 < 4 := by omega
  obtain ⟨r, hr⟩ : ∃ r, leftF j0 = r := ⟨_, rfl⟩
  obtain ⟨q, hqq⟩ : ∃ q, j0 / 16384 = q := ⟨_, rfl⟩
  obtain ⟨mir, hm⟩ : ∃ m, mirF j0 = m := ⟨_, rfl⟩
  rw [hj0, hr] at hl
  rw [hqq] at hq
  have HU : Hid (uF (jF k n) = laidF mir q (zF r 14).1) := Lib.hid (by rw [hj0]; unfold uF unitF; rw [hr, hqq, hm])
  have HPL : Hid ((jF k n / 16384 : Nat) = q ∧ leftF (jF k n) = r ∧ mirF (jF k n) = mir) := Lib.hid (by rw [hj0]; exact ⟨hqq, hr, hm⟩)
  clear hj hj0 hr hqq hm
  go_enter Tryz.func18, Tryz.ntmps18
  go_wp2_with fail
  refine (ref17_place k n hn _).mono ?_
  rintro e1 w1 ⟨rfl, rfl⟩
  rw [HPL.out.1, HPL.out.2.1, HPL.out.2.2]
  go_wp2_with fail
  go_loopw [8, 9, 10] (fun z first b wr => ∃ j d : Nat, j ≤ 14 ∧ z = .complex .f64 (zF r j).1.1 (zF r j).1.2 ∧ first = .bool (zF r j).2 ∧ b = .int .i64 (13 - (j : Int)) ∧ wr = w.drewN d) (fun _ _ b _ => (intOf b + 1).toNat)
  case atStart => exact ⟨0, 0, Nat.zero_le _, rfl, rfl, rfl, rfl⟩
  case round =>
    obtain ⟨j, d, hj, rfl, rfl, rfl, rfl⟩ := hrel
    by_cases hj14 : j = 14
    · subst hj14
      obtain ⟨k1, k2⟩ := zF_bd r 14 (Nat.le_refl _)
      obtain ⟨a, ha⟩ : ∃ a, (zF r 14).1.1 = a := ⟨_, rfl⟩
      obtain ⟨b, hb⟩ : ∃ b, (zF r 14).1.2 = b := ⟨_, rfl⟩
      obtain ⟨f, hf⟩ : ∃ f, (zF r 14).2 = f := ⟨_, rfl⟩
      have HU2 : Hid (uF (jF k n) = laidF mir q (a, b)) := Lib.hid (by rw [HU.out, ← ha, ← hb])
      rw [ha] at k1
      rw [hb] at k2
      rw [ha, hb, hf]
      have A1 := k1.1
      have A2 := k2.1
      have F1 := Lib.hid k1.2.1
      have F2 := Lib.hid k2.2.1
      clear ha hb hf k1 k2 HU
      go_wp2_with fail
      refine (ref17_laid q mir a b A1 A2 F1.out F2.out hq _).mono ?_
      rintro e2 w2 ⟨rfl, d2, rfl⟩
      go_wp2_with fail
      go_ret
      exact ⟨by rw [HU2.out]; rfl, _, rfl⟩
    · have hlt : j < 14 := by omega
      have hz : (0 : Int) ≤ 13 - (j : Int) := by omega
      obtain ⟨k1, k2⟩ := zF_bd r j hj
      obtain ⟨p1, p2⟩ := part_bd hlt
      obtain ⟨c, hc⟩ : ∃ c, cT (j + 1) = c := ⟨_, rfl⟩
      obtain ⟨s, hs⟩ : ∃ s, sT (j + 1) = s := ⟨_, rfl⟩
      obtain ⟨a, ha⟩ : ∃ a, (zF r j).1.1 = a := ⟨_, rfl⟩
      obtain ⟨b, hb⟩ : ∃ b, (zF r j).1.2 = b := ⟨_, rfl⟩
      obtain ⟨f, hf⟩ : ∃ f, (zF r j).2 = f := ⟨_, rfl⟩
      have HZ : Hid (zF r (j + 1) = if r.testBit (13 - j) then (if f then ((c, s), false) else (cmulF (a, b) (c, s), false)) else ((a, b), f)) := Lib.hid (by
        rw [zF, hf, ← hc, ← hs, ← ha, ← hb, ← hf])
      have HD : Hid (∀ x y, MulR (a, b) (c, s) x y → (x, y) = cmulF (a, b) (c, s)) := Lib.hid (fun x y h => by
        have hm : (2 : Nat) ^ j ≤ 2 ^ 14 := Nat.pow_le_pow_right (by decide) hj
        exact (cmul_det (m := 2 ^ j) (by omega) (by rw [← ha]; exact k1) (by rw [← hb]; exact k2) (by rw [← hc]; exact p1) (by rw [← hs]; exact p2) h).1)
      have HC := Lib.hid hc
      have HSS := Lib.hid hs
      rw [ha, hb, hf]
      clear k1 k2 p1 p2 hc hs ha hb hf HU HPL
      cases hbit : r.testBit (13 - j) with
      | false =>
        have hB := bit_test r (13 - j)
        rw [hbit] at HZ hB
        have HZ2 : Hid (zF r (j + 1) = ((a, b), f)) := Lib.hid (by rw [HZ.out]; rfl)
        clear hbit HZ HD
        go_wp2_with fail
        refine ⟨⟨j + 1, d, hlt, by rw [HZ2.out], by rw [HZ2.out], congrArg (Value.int .i64) (by omega), rfl⟩, ?_⟩
        simp [intOf]
        omega
      | true =>
        have hB := bit_test r (13 - j)
        rw [hbit] at HZ hB
        have hA : (16 : Int) - (13 - (j : Int)) = (j : Int) + 3 := by omega
        clear hbit
        cases f with
        | true =>
          have HZ2 : Hid (zF r (j + 1) = ((c, s), false)) := Lib.hid (by rw [HZ.out]; rfl)
          clear HZ HD
          go_wp2_with fail
          refine (ref17_part j hlt _).mono ?_
          rintro e2 w2 ⟨rfl, d2, rfl⟩
          rw [HC.out, HSS.out]
          go_wp2_with fail
          refine ⟨⟨j + 1, _, hlt, by rw [HZ2.out], by rw [HZ2.out], congrArg (Value.int .i64) (by omega), rfl⟩, ?_⟩
          simp [intOf]
          omega
        | false =>
          have HZ2 : Hid (zF r (j + 1) = (cmulF (a, b) (c, s), false)) := Lib.hid (by rw [HZ.out]; rfl)
          clear HZ
          go_wp2_with fail
          refine (ref17_part j hlt _).mono ?_
          rintro e2 w2 ⟨rfl, d2, rfl⟩
          rw [HC.out, HSS.out]
          go_wp2_with fail
          refine (ref6_mul_any a b c s _).mono ?_
          rintro e3 w3 ⟨x, y, rfl, hm, d3, rfl⟩
          have HZ3 : Hid (zF r (j + 1) = ((x, y), false)) := Lib.hid (by rw [HZ2.out, HD.out x y hm])
          clear hm HD HZ2
          go_wp2_with fail
          refine ⟨⟨j + 1, _, hlt, by rw [HZ3.out], by rw [HZ3.out], congrArg (Value.int .i64) (by omega), rfl⟩, ?_⟩
          simp [intOf]
          omega
end Go.Proofs.YtpnhjgjojnchaaaGreatDoor
