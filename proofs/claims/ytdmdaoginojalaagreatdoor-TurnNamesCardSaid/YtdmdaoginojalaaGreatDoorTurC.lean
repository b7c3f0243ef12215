/-
  Parts of a turn: the function over the parts (turn.units$1).
-/
import Derived.Test.YtdmdaoginojalaaGreatDoorTurV
import Derived.Test.YtdmdaoginojalaaGreatDoorEdgU
namespace Go.Proofs.YtdmdaoginojalaaGreatDoor
open Go.RowKit

/-- The answer at a place. -/
def unitF (q : Nat) (r : Nat) (mir : Bool) : Nat × Nat := laidF mir q (zF r 14).1
theorem and_bit {r t : Nat} (hr : r < 16384) (ht : t ≤ 13) : bits .and .i64 (r : Int) ((2 ^ t : Nat) : Int) = if r.testBit t then ((2 ^ t : Nat) : Int) else 0 := by
  have hb : (2 : Nat) ^ t ≤ 2 ^ 13 := Nat.pow_le_pow_right (by decide) ht
  have e : r &&& 2 ^ t = if r.testBit t then 2 ^ t else 0 := by
    apply Nat.eq_of_testBit_eq
    intro i
    rw [Nat.testBit_and, Nat.testBit_two_pow]
    by_cases h : t = i
    · subst h
      cases r.testBit t <;> simp
    · cases r.testBit t <;> simp [h]
  rw [i64_and_nat r (2 ^ t) (by omega) (by omega), e]
  cases r.testBit t <;> rfl
set_option maxRecDepth 100000 in
set_option maxHeartbeats 3200000 in
theorem units_at (g r n : Nat) (q : Int) (mir : Bool) (hr : r < 16384) (hq : Hid (bits .and .i64 q 3 = (n : Int))) (hn : n < 4) (w : World) (hP : Parts 14 g w) :
    Calls Tryz.prog 153 #[.agg #[.int .i64 q, .int .i64 (r : Int), .bool mir], .pointer (some ⟨g, 0, none⟩)] w fun e w' => e = .returned (.complex .f64 (unitF n r mir).1 (unitF n r mir).2) ∧ Below w.heap.size w w' := by
  have HP := Lib.hid hP
  have hg := hP.1
  clear hP
  go_enter Tryz.func153, Tryz.ntmps153
  go_wp2_with fail
  go_quiet (fail)
  go_wp2_with fail
  go_loopw [4, 5, 6] (fun z first b wr => ∃ (j d : Nat), j ≤ 14 ∧ z = .complex .f64 (zF r j).1.1 (zF r j).1.2 ∧ first = .bool (zF r j).2 ∧ b = .int .i64 ((8192 / 2 ^ j : Nat) : Int) ∧
      wr = (w.alloc (.cells #[.int .i64 q, .int .i64 (r : Int), .bool mir] 103)).drewN d) (fun _ _ b _ => (intOf b).toNat)
  case atStart => exact ⟨0, nq, Nat.zero_le _, rfl, rfl, rfl, rfl⟩
  case round =>
    obtain ⟨j, d, hj, rfl, rfl, rfl, rfl⟩ := hrel
    by_cases hj14 : j = 14
    · subst hj14
      have e0 : ((8192 / 2 ^ 14 : Nat) : Int) = 0 := rfl
      rw [e0]
      obtain ⟨k1, k2⟩ := zF_bd r 14 (Nat.le_refl _)
      obtain ⟨a, ha⟩ : ∃ a, (zF r 14).1.1 = a := ⟨_, rfl⟩
      obtain ⟨b, hb⟩ : ∃ b, (zF r 14).1.2 = b := ⟨_, rfl⟩
      obtain ⟨f, hf⟩ : ∃ f, (zF r 14).2 = f := ⟨_, rfl⟩
      rw [ha] at k1
      rw [hb] at k2
      rw [ha, hb, hf]
      have HU : Hid (unitF n r mir = laidF mir n (a, b)) := Lib.hid (by unfold unitF; rw [← ha, ← hb])
      clear ha hb hf
      go_wp2_with fail
      refine (laid_any q (r : Int) mir a b n k1.1 k2.1 k1.2.1 k2.2.1 hq hn _).mono ?_
      rintro e1 w1 ⟨rfl, hb1⟩
      go_wp2_with fail
      go_ret
      exact ⟨by rw [HU.out]; rfl, below_box (below_of_drewN hb1)⟩
    · have hlt : j < 14 := by omega
      obtain ⟨B, hB⟩ : ∃ B, 8192 / 2 ^ j = B := ⟨_, rfl⟩
      have hB2 : B = 2 ^ (13 - j) := by
        rw [← hB, show 8192 = 2 ^ (13 - j) * 2 ^ j by rw [← Nat.pow_add, show 13 - j + j = 13 by omega]]
        exact Nat.mul_div_cancel _ (Nat.two_pow_pos _)
      have hBB := and_bit (r := r) (t := 13 - j) hr (by omega)
      rw [← hB2] at hBB
      have hB0 : 0 < B := by rw [hB2]; exact Nat.two_pow_pos _
      have hB13 : B ≤ 8192 := by rw [← hB]; exact Nat.div_le_self _ _
      rw [hB]
      have HB := Lib.hid hB
      have HB2 := Lib.hid hB2
      have HNX : Hid (8192 / 2 ^ (j + 1) = B / 2) := Lib.hid (by rw [← hB, Nat.pow_succ, Nat.div_div_eq_div_mul])
      clear hB hB2
      cases hbit : r.testBit (13 - j) with
      | false =>
        rw [hbit, if_neg (by simp)] at hBB
        have HZ : Hid (zF r (j + 1) = zF r j) := Lib.hid (by rw [zF, hbit]; rfl)
        clear hbit
        go_wp2_with fail
        refine ⟨⟨j + 1, d, hlt, by rw [HZ.out], by rw [HZ.out], by rw [HNX.out]; exact congrArg (Value.int .i64) (by omega), rfl⟩, ?_⟩
        simp [intOf]
        omega
      | true =>
        rw [hbit, if_pos rfl] at hBB
        have hBn : ((B : Int) == 0) = false := by rw [beq_eq_false_iff_ne]; omega
        obtain ⟨k1, k2⟩ := zF_bd r j hj
        obtain ⟨p1, p2⟩ := part_bd hlt
        obtain ⟨c, hc⟩ : ∃ c, cT (j + 1) = c := ⟨_, rfl⟩
        obtain ⟨s, hs⟩ : ∃ s, sT (j + 1) = s := ⟨_, rfl⟩
        obtain ⟨a, ha⟩ : ∃ a, (zF r j).1.1 = a := ⟨_, rfl⟩
        obtain ⟨b, hb⟩ : ∃ b, (zF r j).1.2 = b := ⟨_, rfl⟩
        obtain ⟨f, hf⟩ : ∃ f, (zF r j).2 = f := ⟨_, rfl⟩
        have HZ : Hid (zF r (j + 1) = if f then ((c, s), false) else (cmulF (a, b) (c, s), false)) := Lib.hid (by
          rw [zF, hbit, hf, ← hc, ← hs, ← ha, ← hb]; rfl)
        have HD : Hid (∀ x y, MulR (a, b) (c, s) x y → (x, y) = cmulF (a, b) (c, s)) := Lib.hid (fun x y h => by
          have hm : (2 : Nat) ^ j ≤ 2 ^ 14 := Nat.pow_le_pow_right (by decide) hj
          exact (cmul_det (m := 2 ^ j) (by omega) (by rw [← ha]; exact k1) (by rw [← hb]; exact k2) (by rw [← hc]; exact p1) (by rw [← hs]; exact p2) h).1)
        have hcell : ((w.alloc (.cells #[.int .i64 q, .int .i64 (r : Int), .bool mir] 103)).drewN d).cell? ⟨g, j + 3, none⟩ = some (.complex .f64 c s) := by
          have e := (HP.out.2 (j + 3) (by omega)).1
          have ep : PartV 14 (j + 3) = .complex .f64 c s := by unfold PartV; rw [if_pos (by omega), show j + 3 - 2 = j + 1 by omega, hc, hs]
          rw [ep] at e
          show (w.alloc (.cells #[.int .i64 q, .int .i64 (r : Int), .bool mir] 103)).cell? ⟨g, j + 3, none⟩ = _
          rw [World.cell?_alloc_lt w (a := ⟨g, j + 3, none⟩) (h := hg)]
          exact e
        have HCELL := Lib.hid hcell
        rw [ha, hb, hf]
        clear hbit k1 k2 p1 p2 hc hs ha hb hf hcell
        go_wp2_with fail
        go_loopw [8, 9] (fun i k wr => ∃ t : Nat, t ≤ 13 - j ∧ i = .int .i64 (16 - (t : Int)) ∧ k = .int .i64 ((2 ^ (13 - j - t) : Nat) : Int) ∧ wr = (w.alloc (.cells #[.int .i64 q, .int .i64 (r : Int), .bool mir] 103)).drewN d) (fun _ k _ => (intOf k).toNat)
        case atStart => exact ⟨0, Nat.zero_le _, rfl, by rw [HB2.out]; rfl, rfl⟩
        case round =>
          obtain ⟨t, ht, rfl, rfl, rfl⟩ := hrel
          by_cases htj : t = 13 - j
          · have e1 : ((2 ^ (13 - j - t) : Nat) : Int) = 1 := by rw [htj, Nat.sub_self]; rfl
            have e2 : (16 : Int) - (t : Int) = ((j + 3 : Nat) : Int) := by omega
            rw [e1, e2]
            clear e1 e2
            have hcell := HCELL.out
            cases f with
            | true =>
              have HZ2 : Hid (zF r (j + 1) = ((c, s), false)) := Lib.hid (by rw [HZ.out]; rfl)
              go_wp2_with fail
              refine ⟨⟨j + 1, d, hlt, by rw [HZ2.out], by rw [HZ2.out], by rw [HNX.out]; exact congrArg (Value.int .i64) (by omega), rfl⟩, ?_⟩
              simp [intOf]
              omega
            | false =>
              go_wp2_with fail
              refine (cmul_any a b c s _).mono ?_
              rintro e2 w2 ⟨x, y, rfl, hm, d2, rfl⟩
              have HZ2 : Hid (zF r (j + 1) = ((x, y), false)) := Lib.hid (by rw [HZ.out, HD.out x y hm]; rfl)
              clear hm
              go_wp2_with fail
              refine ⟨⟨j + 1, d + d2, hlt, by rw [HZ2.out], by rw [HZ2.out], by rw [HNX.out]; exact congrArg (Value.int .i64) (by omega), rfl⟩, ?_⟩
              simp [intOf]
              omega
          · obtain ⟨K, hK⟩ : ∃ K, 2 ^ (13 - j - t) = K := ⟨_, rfl⟩
            have hK2 : K = 2 * 2 ^ (13 - j - (t + 1)) := by
              rw [← hK, show 13 - j - t = (13 - j - (t + 1)) + 1 by omega, Nat.pow_succ]
              omega
            have hK1 : 1 < K := by have := Nat.two_pow_pos (13 - j - (t + 1)); omega
            have hK3 : K ≤ 8192 := by rw [← hK]; exact Nat.le_trans (Nat.pow_le_pow_right (by decide) (show 13 - j - t ≤ 13 by omega)) (by decide)
            have HK2 := Lib.hid hK2
            rw [hK]
            clear hK hK2
            go_wp2_with fail
            refine ⟨⟨t + 1, by omega, congrArg (Value.int .i64) (by omega), congrArg (Value.int .i64) (by have := HK2.out; omega), trivial⟩, ?_⟩
            simp [intOf]
            omega
end Go.Proofs.YtdmdaoginojalaaGreatDoor
