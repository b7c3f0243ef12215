/-
  The references' parts of a turn (polestarref17): place, part, laid, Unit.
-/
import Derived.Test.YtpnhjgjojnchaaaGreatDoorRu6
import Derived.Test.YtpnhjgjojnchaaaGreatDoorTurP
namespace Go.Proofs.YtpnhjgjojnchaaaGreatDoor
open Go.RowKit

set_option maxRecDepth 100000 in
set_option maxHeartbeats 1600000 in
theorem ref17_part (t : Nat) (ht : t < 14) (w : World) : Calls Tryz.prog 113 #[.int .i64 ((t : Int) + 3)] w fun e w' => e = .returned (.complex .f64 (cT (t + 1)) (sT (t + 1))) ∧ ∃ d, w' = w.drewN d := by
  go_enter Tryz.func113, Tryz.ntmps113
  go_wp2_with fail
  go_loopw [3, 4, 5] (fun c s i wr => ∃ k d : Nat, k ≤ t + 1 ∧ c = .float .f64 (cT k) ∧ s = .float .f64 (sT k) ∧ i = .int .i64 ((k : Int) + 3) ∧ wr = w.drewN d) (fun _ _ i _ => 18 - (intOf i).toNat)
  case atStart => exact ⟨0, 0, Nat.zero_le _, rfl, rfl, rfl, rfl⟩
  case round =>
    obtain ⟨k, d, hk, rfl, rfl, rfl, rfl⟩ := hrel
    by_cases hkt : k = t + 1
    · subst hkt
      obtain ⟨C, hC⟩ : ∃ C, cT (t + 1) = C := ⟨_, rfl⟩
      obtain ⟨Q, hQ⟩ : ∃ Q, sT (t + 1) = Q := ⟨_, rfl⟩
      rw [hC, hQ]
      have HC := Lib.hid hC
      have HQ := Lib.hid hQ
      clear hC hQ
      have hx : ¬ (t : Int) + 1 ≤ (t : Int) := by omega
      go_wp2_with fail
      go_ret
      exact ⟨by rw [HC.out, HQ.out]; rfl, _, rfl⟩
    · have hlt : k < 14 := by omega
      have hle : (k : Int) ≤ (t : Int) := by omega
      obtain ⟨o1, o2, o3, o4, o5, _, _⟩ := okT_parts hlt
      have HC : Hid (cT (k + 1) = fsq (fop Ieee.double.div (fop Ieee.double.add one (cT k)) two)) := Lib.hid rfl
      have HS : Hid (sT (k + 1) = if k = 0 then cT 1 else fop Ieee.double.div (sT k) (fop Ieee.double.mul two (cT (k + 1)))) := Lib.hid rfl
      obtain ⟨c, hc⟩ : ∃ c, cT k = c := ⟨_, rfl⟩
      obtain ⟨s, hs⟩ : ∃ s, sT k = s := ⟨_, rfl⟩
      obtain ⟨C, hC⟩ : ∃ C, cT (k + 1) = C := ⟨_, rfl⟩
      rw [hc] at o1 o2 o3 HC ⊢
      rw [hs] at o5 HS ⊢
      rw [hC] at o4 o5 HC HS
      obtain ⟨A, hA⟩ : ∃ A, fop Ieee.double.add one c = A := ⟨_, rfl⟩
      rw [hA] at o2 o3 HC
      obtain ⟨D, hD⟩ : ∃ D, fop Ieee.double.div A two = D := ⟨_, rfl⟩
      rw [hD] at o3 HC
      obtain ⟨M, hM⟩ : ∃ M, fop Ieee.double.mul two C = M := ⟨_, rfl⟩
      rw [hM] at o5 HS
      obtain ⟨Q, hQ⟩ : ∃ Q, fop Ieee.double.div s M = Q := ⟨_, rfl⟩
      rw [hQ] at HS
      have K1 : Hid (∀ t, IsOp Ieee.double.add 4607182418800017408 c t → t = A) := Lib.hid (fun t h => (isOp_det (x := one) o1 h).trans hA)
      have K2 : Hid (∀ t, IsOp Ieee.double.div A 4611686018427387904 t → t = D) := Lib.hid (fun t h => (isOp_det (y := two) o2 h).trans hD)
      have K3 : Hid (∀ t, IsSq D t → t = C) := Lib.hid (fun t h => (isSq_det o3 h).trans HC.out.symm)
      have K4 : Hid (∀ t, IsOp Ieee.double.mul 4611686018427387904 C t → t = M) := Lib.hid (fun t h => (isOp_det (x := two) o4 h).trans hM)
      have K5 : Hid (∀ t, IsOp Ieee.double.div s M t → t = Q) := Lib.hid (fun t h => (isOp_det o5 h).trans hQ)
      have HCC := Lib.hid hC
      clear o1 o2 o3 o4 o5 hA hD hM hQ hc hs hC HC
      go_wp2_with (first
        | (refine wpList_fadd _ rfl rfl ?_; intro t1 d1 h1; have e1 := K1.out _ h1; subst e1; clear h1 K1)
        | (refine wpList_fquo _ rfl rfl ?_; intro t2 d2 h2; have e2 := K2.out _ h2; subst e2; clear h2 K2))
      refine (sqrt_any t2 _).mono ?_
      rintro e3 w3 ⟨z, d3, rfl, hz, rfl⟩
      have ez := K3.out _ hz
      subst ez
      clear hz K3
      by_cases h0 : k = 0
      · subst h0
        rw [if_pos rfl] at HS
        have HT : Hid (sT (0 + 1) = z) := Lib.hid (by rw [HS.out]; exact HCC.out)
        go_wp2_with fail
        refine ⟨⟨1, _, by omega, by rw [show cT 1 = z from HCC.out], by rw [show sT 1 = z from HT.out], rfl, rfl⟩, ?_⟩
        simp [intOf]
      · rw [if_neg h0] at HS
        have hk3 : ¬ (k : Int) + 3 = 3 := by omega
        clear h0 hkt
        go_wp2_with (first
          | (refine wpList_fmul _ rfl rfl ?_; intro t4 d4 h4; have e4 := K4.out _ h4; subst e4; clear h4 K4)
          | (refine wpList_fquo _ rfl rfl ?_; intro t5 d5 h5; have e5 := K5.out _ h5; subst e5; clear h5 K5))
        refine ⟨⟨k + 1, _, by omega, by rw [HCC.out], by rw [HS.out], congrArg (Value.int .i64) (by omega), rfl⟩, ?_⟩
        simp [intOf]
        omega
theorem ref17_plain (a b : Nat) (K1 : Hid (∀ x, IsOp Ieee.double.add a 0 x → x = pz a)) (K2 : Hid (∀ x, IsOp Ieee.double.add b 0 x → x = pz b)) (w : World) :
    Calls Tryz.prog 205 #[.complex .f64 a b] w fun e w' => e = .returned (.complex .f64 (pz a) (pz b)) ∧ ∃ d, w' = w.drewN d := by
  go_enter Tryz.func205, Tryz.ntmps205
  go_wp2_with (first
    | (refine wpList_fadd _ rfl rfl ?_; intro x1 d1 h1; have e1 := K1.out _ h1; subst e1; clear h1 K1)
    | (refine wpList_fadd _ rfl rfl ?_; intro x2 d2 h2; have e2 := K2.out _ h2; subst e2; clear h2 K2))
  go_ret
  exact ⟨rfl, _, rfl⟩
set_option maxHeartbeats 800000 in
theorem ref17_laid (q : Nat) (mir : Bool) (a b : Nat) (ha : a < 2 ^ 64) (hb : b < 2 ^ 64) (fa : Flt.Fin a) (fb : Flt.Fin b) (hq : q < 4) (w : World) :
    Calls Tryz.prog 115 #[.complex .f64 a b, .int .i64 (q : Int), .bool mir] w fun e w' => e = .returned (.complex .f64 (laidF mir q (a, b)).1 (laidF mir q (a, b)).2) ∧ ∃ d, w' = w.drewN d := by
  obtain ⟨z, hz⟩ : ∃ z, swF mir (a, b) = z := ⟨_, rfl⟩
  obtain ⟨t, ht⟩ : ∃ t, turnF z q = t := ⟨_, rfl⟩
  have zl : z.1 < 2 ^ 64 ∧ z.2 < 2 ^ 64 ∧ Flt.Fin z.1 ∧ Flt.Fin z.2 := by
    rw [← hz]
    cases mir
    · exact ⟨ha, hb, fa, fb⟩
    · exact ⟨hb, ha, fb, fa⟩
  have l1 := turnF_lt (z := z) zl.1 zl.2.1 q
  have f1 := turnF_fin (z := z) zl.2.2.1 zl.2.2.2 q
  rw [ht] at l1 f1
  have HL : Hid (laidF mir q (a, b) = (pz t.1, pz t.2)) := Lib.hid (by unfold laidF; rw [hz, ht])
  have HT := Lib.hid ht
  have K1 : Hid (∀ x, IsOp Ieee.double.add t.1 0 x → x = pz t.1) := Lib.hid (fun x => isOp_nought l1.1 f1.1)
  have K2 : Hid (∀ x, IsOp Ieee.double.add t.2 0 x → x = pz t.2) := Lib.hid (fun x => isOp_nought l1.2 f1.2)
  have z1 := zl.1
  have z2 := zl.2.1
  have HZ := Lib.hid hz
  clear ht l1 f1 fa fb zl hz
  rw [HL.out]
  obtain ⟨t1, t2⟩ := t
  obtain ⟨x, y⟩ := z
  cases mir with
  | true =>
    obtain ⟨rfl, rfl⟩ : b = x ∧ a = y := by have := HZ.out; unfold swF at this; simpa using this
    go_enter Tryz.func115, Tryz.ntmps115
    go_wp2_with fail
    refine (ref6_turn_any b a q z1 z2 hq _).mono ?_
    rintro e1 w1 ⟨rfl, rfl⟩
    rw [HT.out]
    go_wp2_with fail
    refine (ref17_plain t1 t2 K1 K2 _).mono ?_
    rintro e2 w2 ⟨rfl, d2, rfl⟩
    go_wp2_with fail
    go_ret
    exact ⟨rfl, _, rfl⟩
  | false =>
    obtain ⟨rfl, rfl⟩ : a = x ∧ b = y := by have := HZ.out; unfold swF at this; simpa using this
    go_enter Tryz.func115, Tryz.ntmps115
    go_wp2_with fail
    refine (ref6_turn_any a b q z1 z2 hq _).mono ?_
    rintro e1 w1 ⟨rfl, rfl⟩
    rw [HT.out]
    go_wp2_with fail
    refine (ref17_plain t1 t2 K1 K2 _).mono ?_
    rintro e2 w2 ⟨rfl, d2, rfl⟩
    go_wp2_with fail
    go_ret
    exact ⟨rfl, _, rfl⟩
end Go.Proofs.YtpnhjgjojnchaaaGreatDoor
