/-
  The references' fractions (polestarref02): what a float is worth.
-/
import Derived.Test.YtjcjphgpmpjmbaaGreatDoorFrT
import Derived.Test.YtjcjphgpmpjmbaaGreatDoorFrf
import Derived.Test.YtjcjphgpmpjmbaaGreatDoorRefX
namespace Go.Proofs.YtjcjphgpmpjmbaaGreatDoor
open Go.RowKit

set_option maxRecDepth 100000 in
set_option maxHeartbeats 800000 in
theorem ref2_whole_any (neg : Bool) (A : Option Addr) (n c : Nat) (z : Int) (r : Rat) (w : World) (hx : IsInt w neg A n c z) (hr : Hid (r.num = z ∧ r.den = 1)) :
    Calls Tryz.prog 119 #[.agg #[.bool neg, .slice A n c]] w (RetFr w r) := by
  have K0 := ((((Mm.nil w).int hx).var (g := w.heap.size) rfl [.bool neg, .slice A n c] 27).var (g := w.heap.size + 1) (by simp) [.bool false, .slice none 0 0, .bool false, .slice none 0 0] 29)
  clear hx
  go_enter Tryz.func119, Tryz.ntmps119
  go_wp2_with fail
  generalize (w.alloc (.cells #[.bool neg, .slice A n c] 27)).alloc (.cells #[.bool false, .slice none 0 0, .bool false, .slice none 0 0] 29) = w0 at K0 ⊢
  obtain ⟨qa0x, qb0x, qc0x, qd0x, qe0x⟩ := (K0.blk (g := w.heap.size) (vs := [.bool neg, .slice A n c]) (by simp)).two
  have e0a : ¬ w.heap.size + 1 = w.heap.size := by omega
  have e0b : ¬ w.heap.size = w.heap.size + 1 := by omega
  go_region_held3 (fun w' => w'.cell? ⟨w.heap.size, 0, none⟩ = some (.bool neg) ∧ w'.cell? ⟨w.heap.size, 1, none⟩ = some (.slice A n c))
    (go_keep)
    (first
      | (go_at_call 66; (with_reducible refine (ref_of_any 1 _ (by decide)).mono ?_); rintro e1 w1 ⟨neg1, A1, n1, c1, rfl, I1, hb1⟩; (first | (with_reducible have K1 := (K0.next hb1).int I1) | (with_reducible have K1 := (K0.drew.next hb1).int I1) | (with_reducible have K1 := ((K0.drewN _).next hb1).int I1)); have Q1x := (K1.blk (g := w.heap.size) (vs := [.bool neg, .slice A n c]) (by simp)).two; obtain ⟨qa1x, qb1x, qc1x, qd1x, qe1x⟩ := Q1x; have Q1r := (K1.blk (g := w.heap.size + 1) (vs := [.bool false, .slice none 0 0, .bool false, .slice none 0 0]) (by simp)).four; obtain ⟨⟨qa1r, qb1r, qc1r, qd1r⟩, ⟨qe1r, qf1r, qg1r, qh1r⟩, qi1r⟩ := Q1r; clear I1 hb1))
  have e1 : z = r.num := hr.out.1.symm
  have e2 : (1 : Int) = (r.den : Int) := by rw [hr.out.2]; rfl
  rw [e1, e2] at K1
  clear e1 e2
  go_wp2_with fail
  have KE := (K1.pick (L' := [(w.heap.size + 1, [.bool false, .slice none 0 0, .bool false, .slice none 0 0])]) (l' := [(neg, A, n, c, r.num), (neg1, A1, n1, c1, (r.den : Int))]) (by simp) (by simp)).set4 (by simp <;> omega) neg A n c neg1 A1 n1 c1
  exact bodyPost_ret (v := .agg #[.bool neg, .slice A n c, .bool neg1, .slice A1 n1 c1]) (by simp [results, Tryz.results119, go_sem, qa1r, qb1r, qc1r, qd1r]) rfl ⟨_, _, _, _, _, _, _, _, rfl, KE.at_ (by simp), KE.at_ (by simp), KE.1⟩

set_option maxRecDepth 100000 in
set_option maxHeartbeats 3200000 in
theorem ref2_float_any (x : Nat) (hx : x < 2 ^ 64) (w : World) : Calls Tryz.prog 77 #[.float .f64 x] w (RetFr w (fr x)) := by
  have fb := frac_bits x hx
  have eb := expo_bits x hx
  obtain ⟨s, hs⟩ : ∃ s, Flt.sgn x = s := ⟨_, rfl⟩
  have sb : ((x : Int) / 9223372036854775808 == 1) = s := by
    cases s with
    | true => have : x / 2 ^ 63 = 1 := by unfold Flt.sgn at hs; rw [beq_iff_eq] at hs; omega
              rw [beq_iff_eq]; omega
    | false => have : ¬ x / 2 ^ 63 = 1 := by unfold Flt.sgn at hs; rw [beq_eq_false_iff_ne] at hs; omega
               rw [beq_eq_false_iff_ne]; omega
  obtain ⟨m, hm⟩ : ∃ m, x % 2 ^ 52 = m := ⟨_, rfl⟩
  obtain ⟨q, hq⟩ : ∃ q, x / 2 ^ 52 % 2048 = q := ⟨_, rfl⟩
  have hmb : m < 4503599627370496 := by omega
  have hqb : q < 2048 := by omega
  have hW := worth_sv hm.symm hq.symm s hs.symm (z := sgnd s (if q = 0 then m else 4503599627370496 + m)) (by unfold sgnd; by_cases h0 : q = 0 <;> simp only [h0, if_true, if_false] <;> cases s <;> simp <;> omega)
  rw [hm] at fb
  rw [hq] at eb
  have HW0 : Hid (q = 0 → sgnd s m * ((2 ^ 0 : Nat) : Int) = Flt.sv x) := Lib.hid (fun h => by have h2 := hW.1; rw [if_pos h, h] at h2; exact h2)
  have HW1 : Hid (q ≠ 0 → sgnd s (4503599627370496 + m) * ((2 ^ (q - 1) : Nat) : Int) = Flt.sv x) := Lib.hid (fun h => by have h2 := hW.1; rw [if_neg h] at h2; exact h2)
  have SB := Lib.hid sb
  have K0 := (Mm.nil w).var (g := w.heap.size) rfl [.bool false, .slice none 0 0, .bool false, .slice none 0 0] 29
  clear hm hq hs hW sb
  go_enter Tryz.func77, Tryz.ntmps77
  go_upto_if 17 with (fail)
  go_cut [4, 5, 17] from 18 to 21 (fun s4 s5 _ wx => ∃ Z E : Nat, s4 = .int .i64 (Z : Int) ∧ s5 = .int .i64 (E : Int) ∧ Z < 9007199254740992 ∧ E ≤ 2046 ∧ wx = w.alloc (.cells #[.bool false, .slice none 0 0, .bool false, .slice none 0 0] 29) ∧ Hid (sgnd s Z * ((2 ^ E : Nat) : Int) = Flt.sv x))
  case first =>
    by_cases hq0 : q = 0
    · have HQ0 := Lib.hid hq0
      have hq2 : ¬ (0 : Int) < (q : Int) := by omega
      clear hq0
      go_wp2_with fail
      go_meet
      exact ⟨m, 0, rfl, congrArg (Value.int .i64) (by have := HQ0.out; omega), by omega, by omega, rfl, Lib.hid (HW0.out HQ0.out)⟩
    · have hq1 : (0 : Int) < (q : Int) := by omega
      go_wp2_with fail
      go_meet
      exact ⟨4503599627370496 + m, q - 1, congrArg (Value.int .i64) (by omega), congrArg (Value.int .i64) (by omega), by omega, by omega, rfl, Lib.hid (HW1.out hq0)⟩
  case rest =>
    obtain ⟨Z0, E0, rfl, rfl, hZ0, hE0, rfl, HZ0⟩ := hcut
    clear fb eb hmb hqb HW0 HW1
    go_wp2_with fail
    go_loopw [4, 5] (fun a e wr => ∃ Z E : Nat, a = .int .i64 (Z : Int) ∧ e = .int .i64 (E : Int) ∧ Z < 9007199254740992 ∧ E ≤ 2046 ∧ wr = w.alloc (.cells #[.bool false, .slice none 0 0, .bool false, .slice none 0 0] 29) ∧ Hid (sgnd s Z * ((2 ^ E : Nat) : Int) = Flt.sv x)) (fun a _ _ => (intOf a).toNat)
    case atStart => exact ⟨Z0, E0, rfl, rfl, hZ0, hE0, rfl, HZ0⟩
    case round =>
      obtain ⟨Z, E, rfl, rfl, hZ, hE, rfl, HZ⟩ := hrel
      clear HZ0 hZ0 hE0
      by_cases hz : Z = 0
      · subst hz
        have HR0 : Hid (Flt.sv x = 0) := Lib.hid (by rw [← HZ.out]; unfold sgnd; cases s <;> simp)
        have HVV : Hid ((fr x).num = sgnd s 0 * 2 ^ (max ((E : Int) - 1074) 0).toNat) := Lib.hid (by rw [(fr_nought HR0.out).1]; unfold sgnd; cases s <;> simp)
        have HR : Hid ((fr x).den = 1) := Lib.hid (fr_nought HR0.out).2
        by_cases h1 : (E : Int) < 1074
        · skip
          go_wp2_with fail
          refine (ref_of_any ((0 : Nat) : Int) _ (by omega)).mono ?_
          rintro e1 w1 ⟨neg1, A1, n1, c1, rfl, I1, hb1⟩
          have hn1 : n1 ≤ 2 := int_len I1 (by rw [Int.natAbs_natCast]; omega)
          have K1 := ((K0.next hb1).int I1).var (g := w1.heap.size) rfl [.bool neg1, .slice A1 n1 c1] 27
          have hg := (K0.next hb1).blk (g := w.heap.size) (vs := [.bool false, .slice none 0 0, .bool false, .slice none 0 0]) (by simp)
          have hg1 := hg.1
          clear K0 hb1 I1 hg
          go_upto_if 41 with (fail)
          go_cut [41] from 42 to 43 (fun _ wx => ∃ (neg2 : Bool) (A2 : Option Addr) (n2 c2 : Nat), Mm w [(w1.heap.size, [.bool neg2, .slice A2 n2 c2]), (w.heap.size, [.bool false, .slice none 0 0, .bool false, .slice none 0 0])] [(neg2, A2, n2, c2, sgnd s 0)] wx ∧ n2 ≤ 2)
          case first =>
            have sb := SB.out
            cases s with
            | true =>
              go_wp2_with fail
              refine (ref2_turned_any neg1 A1 n1 c1 ((0 : Nat) : Int) (-((0 : Nat) : Int)) _ (K1.at_ (by simp)) (by omega) (Lib.hid rfl)).mono ?_
              rintro e2 w2 ⟨neg2, A2, n2, c2, rfl, I2, hb2⟩
              have hn2 : n2 ≤ 2 := int_len I2 (by rw [Int.natAbs_neg, Int.natAbs_natCast]; omega)
              have K2 := (K1.next hb2).int I2
              obtain ⟨qa2, qb2, qc2, qd2, qe2⟩ := (K2.blk (g := w1.heap.size) (vs := [.bool neg1, .slice A1 n1 c1]) (by simp)).two
              clear hb2 I2 K1
              go_wp2_with fail
              go_meet
              exact ⟨neg2, A2, n2, c2, (K2.pick (L' := [(w1.heap.size, [.bool neg1, .slice A1 n1 c1]), (w.heap.size, [.bool false, .slice none 0 0, .bool false, .slice none 0 0])]) (l' := [(neg2, A2, n2, c2, sgnd true 0)]) (by simp) (by simp [sgnd])).set2 (by simp <;> omega) neg2 A2 n2 c2, hn2⟩
            | false =>
              go_wp2_with fail
              go_meet
              exact ⟨neg1, A1, n1, c1, K1.pick (by simp) (by simp [sgnd]), hn1⟩
          case rest =>
            obtain ⟨neg2, A2, n2, c2, KC, hn2⟩ := hcut
            clear SB K1 hn1
            obtain ⟨qac, qbc, qcc, qdc, qec⟩ := (KC.blk (g := w1.heap.size) (vs := [.bool neg2, .slice A2 n2 c2]) (by simp)).two
            have f1 : ¬ w.heap.size = w1.heap.size := by omega
            have f2 : ¬ w1.heap.size = w.heap.size := by omega
            go_wp2_with fail
            refine (ref_double_int neg2 A2 n2 c2 (sgnd s 0) (max ((E : Int) - 1074) 0) (fr x).num _ (KC.at_ (by simp)) (by omega) (.inr (by omega)) (by omega) (by omega) HVV).mono ?_
            rintro e3 w3 ⟨neg3, A3, n3, c3, rfl, I3, hb3⟩
            have K3 := (KC.next hb3).int I3
            clear hb3 I3 KC
            go_wp2_with fail
            refine (ref2_whole_any neg3 A3 n3 c3 (fr x).num (fr x) _ (K3.at_ (by simp)) (Lib.hid ⟨rfl, HR.out⟩)).mono ?_
            rintro e4 w4 ⟨neg4, A4, n4, c4, ne4, B4, m4, d4, rfl, I4, J4, hb4⟩
            have K4 := ((K3.next hb4).int J4).int I4
            clear hb4 I4 J4 K3
            obtain ⟨⟨qa4r, qb4r, qc4r, qd4r⟩, ⟨qe4, qf4, qg4, qh4⟩, qi4⟩ := (K4.blk (g := w.heap.size) (vs := [.bool false, .slice none 0 0, .bool false, .slice none 0 0]) (by simp)).four
            go_wp2_with fail
            have KE := (K4.pick (L' := [(w.heap.size, [.bool false, .slice none 0 0, .bool false, .slice none 0 0])]) (l' := [(neg4, A4, n4, c4, (fr x).num), (ne4, B4, m4, d4, ((fr x).den : Int))]) (by simp) (by simp)).set4 (by simp) neg4 A4 n4 c4 ne4 B4 m4 d4
            exact bodyPost_ret (v := .agg #[.bool neg4, .slice A4 n4 c4, .bool ne4, .slice B4 m4 d4]) (by simp [results, Tryz.results77, go_sem, qa4r, qb4r, qc4r, qd4r]) rfl ⟨_, _, _, _, _, _, _, _, rfl, KE.at_ (by simp), KE.at_ (by simp), KE.1⟩

        · skip
          go_wp2_with fail
          refine (ref_of_any ((0 : Nat) : Int) _ (by omega)).mono ?_
          rintro e1 w1 ⟨neg1, A1, n1, c1, rfl, I1, hb1⟩
          have hn1 : n1 ≤ 2 := int_len I1 (by rw [Int.natAbs_natCast]; omega)
          have K1 := ((K0.next hb1).int I1).var (g := w1.heap.size) rfl [.bool neg1, .slice A1 n1 c1] 27
          have hg := (K0.next hb1).blk (g := w.heap.size) (vs := [.bool false, .slice none 0 0, .bool false, .slice none 0 0]) (by simp)
          have hg1 := hg.1
          clear K0 hb1 I1 hg
          go_upto_if 41 with (fail)
          go_cut [41] from 42 to 43 (fun _ wx => ∃ (neg2 : Bool) (A2 : Option Addr) (n2 c2 : Nat), Mm w [(w1.heap.size, [.bool neg2, .slice A2 n2 c2]), (w.heap.size, [.bool false, .slice none 0 0, .bool false, .slice none 0 0])] [(neg2, A2, n2, c2, sgnd s 0)] wx ∧ n2 ≤ 2)
          case first =>
            have sb := SB.out
            cases s with
            | true =>
              go_wp2_with fail
              refine (ref2_turned_any neg1 A1 n1 c1 ((0 : Nat) : Int) (-((0 : Nat) : Int)) _ (K1.at_ (by simp)) (by omega) (Lib.hid rfl)).mono ?_
              rintro e2 w2 ⟨neg2, A2, n2, c2, rfl, I2, hb2⟩
              have hn2 : n2 ≤ 2 := int_len I2 (by rw [Int.natAbs_neg, Int.natAbs_natCast]; omega)
              have K2 := (K1.next hb2).int I2
              obtain ⟨qa2, qb2, qc2, qd2, qe2⟩ := (K2.blk (g := w1.heap.size) (vs := [.bool neg1, .slice A1 n1 c1]) (by simp)).two
              clear hb2 I2 K1
              go_wp2_with fail
              go_meet
              exact ⟨neg2, A2, n2, c2, (K2.pick (L' := [(w1.heap.size, [.bool neg1, .slice A1 n1 c1]), (w.heap.size, [.bool false, .slice none 0 0, .bool false, .slice none 0 0])]) (l' := [(neg2, A2, n2, c2, sgnd true 0)]) (by simp) (by simp [sgnd])).set2 (by simp <;> omega) neg2 A2 n2 c2, hn2⟩
            | false =>
              go_wp2_with fail
              go_meet
              exact ⟨neg1, A1, n1, c1, K1.pick (by simp) (by simp [sgnd]), hn1⟩
          case rest =>
            obtain ⟨neg2, A2, n2, c2, KC, hn2⟩ := hcut
            clear SB K1 hn1
            obtain ⟨qac, qbc, qcc, qdc, qec⟩ := (KC.blk (g := w1.heap.size) (vs := [.bool neg2, .slice A2 n2 c2]) (by simp)).two
            have f1 : ¬ w.heap.size = w1.heap.size := by omega
            have f2 : ¬ w1.heap.size = w.heap.size := by omega
            go_wp2_with fail
            refine (ref_double_int neg2 A2 n2 c2 (sgnd s 0) (max ((E : Int) - 1074) 0) (fr x).num _ (KC.at_ (by simp)) (by omega) (.inr (by omega)) (by omega) (by omega) HVV).mono ?_
            rintro e3 w3 ⟨neg3, A3, n3, c3, rfl, I3, hb3⟩
            have K3 := (KC.next hb3).int I3
            clear hb3 I3 KC
            go_wp2_with fail
            refine (ref2_whole_any neg3 A3 n3 c3 (fr x).num (fr x) _ (K3.at_ (by simp)) (Lib.hid ⟨rfl, HR.out⟩)).mono ?_
            rintro e4 w4 ⟨neg4, A4, n4, c4, ne4, B4, m4, d4, rfl, I4, J4, hb4⟩
            have K4 := ((K3.next hb4).int J4).int I4
            clear hb4 I4 J4 K3
            obtain ⟨⟨qa4r, qb4r, qc4r, qd4r⟩, ⟨qe4, qf4, qg4, qh4⟩, qi4⟩ := (K4.blk (g := w.heap.size) (vs := [.bool false, .slice none 0 0, .bool false, .slice none 0 0]) (by simp)).four
            go_wp2_with fail
            have KE := (K4.pick (L' := [(w.heap.size, [.bool false, .slice none 0 0, .bool false, .slice none 0 0])]) (l' := [(neg4, A4, n4, c4, (fr x).num), (ne4, B4, m4, d4, ((fr x).den : Int))]) (by simp) (by simp)).set4 (by simp) neg4 A4 n4 c4 ne4 B4 m4 d4
            exact bodyPost_ret (v := .agg #[.bool neg4, .slice A4 n4 c4, .bool ne4, .slice B4 m4 d4]) (by simp [results, Tryz.results77, go_sem, qa4r, qb4r, qc4r, qd4r]) rfl ⟨_, _, _, _, _, _, _, _, rfl, KE.at_ (by simp), KE.at_ (by simp), KE.1⟩

      · have hz0 : 0 < (Z : Int) := by omega
        by_cases h1 : (E : Int) < 1074
        · by_cases h3 : Z % 2 = 0
          · have h3' : ((Z : Int) % 2 == 0) = true := by rw [beq_iff_eq]; omega
            have HN : Hid (sgnd s (Z / 2) * ((2 ^ (E + 1) : Nat) : Int) = Flt.sv x) := Lib.hid (halve_worth HZ.out (by unfold sgnd; cases s <;> simp <;> omega))
            go_wp2_with fail
            refine ⟨⟨Z / 2, E + 1, congrArg (Value.int .i64) (by omega), by go_num, by omega, by omega, trivial, HN⟩, ?_⟩
            simp [intOf]
            omega
          · have h3' : ((Z : Int) % 2 == 0) = false := by rw [beq_eq_false_iff_ne]; omega
            have hzz : ((Z : Int) == 0) = false := by rw [beq_eq_false_iff_ne]; omega
            have HR : Hid ((fr x).num = sgnd s Z ∧ ((fr x).den : Int) = 1 * 2 ^ (1074 - E)) := Lib.hid (by
              have h := fr_odd HZ.out (show E < 1074 by omega) (by unfold sgnd; cases s <;> simp <;> omega)
              refine ⟨h.1, ?_⟩
              rw [h.2, Int.one_mul, Int.natCast_pow]
              rfl)
            clear h3
            go_wp2_with fail
            refine (ref_of_any (Z : Int) _ (by omega)).mono ?_
            rintro e1 w1 ⟨neg1, A1, n1, c1, rfl, I1, hb1⟩
            have hn1 : n1 ≤ 2 := int_len I1 (by rw [Int.natAbs_natCast]; omega)
            have K1 := ((K0.next hb1).int I1).var (g := w1.heap.size) rfl [.bool neg1, .slice A1 n1 c1] 27
            have hg := (K0.next hb1).blk (g := w.heap.size) (vs := [.bool false, .slice none 0 0, .bool false, .slice none 0 0]) (by simp)
            have hg1 := hg.1
            clear K0 hb1 I1 hg
            go_upto_if 41 with (fail)
            go_cut [41] from 42 to 43 (fun _ wx => ∃ (neg2 : Bool) (A2 : Option Addr) (n2 c2 : Nat), Mm w [(w1.heap.size, [.bool neg2, .slice A2 n2 c2]), (w.heap.size, [.bool false, .slice none 0 0, .bool false, .slice none 0 0])] [(neg2, A2, n2, c2, sgnd s Z)] wx ∧ n2 ≤ 2)
            case first =>
              have sb := SB.out
              cases s with
              | true =>
                go_wp2_with fail
                refine (ref2_turned_any neg1 A1 n1 c1 (Z : Int) (-(Z : Int)) _ (K1.at_ (by simp)) (by omega) (Lib.hid rfl)).mono ?_
                rintro e2 w2 ⟨neg2, A2, n2, c2, rfl, I2, hb2⟩
                have hn2 : n2 ≤ 2 := int_len I2 (by rw [Int.natAbs_neg, Int.natAbs_natCast]; omega)
                have K2 := (K1.next hb2).int I2
                obtain ⟨qa2, qb2, qc2, qd2, qe2⟩ := (K2.blk (g := w1.heap.size) (vs := [.bool neg1, .slice A1 n1 c1]) (by simp)).two
                clear hb2 I2 K1
                go_wp2_with fail
                go_meet
                exact ⟨neg2, A2, n2, c2, (K2.pick (L' := [(w1.heap.size, [.bool neg1, .slice A1 n1 c1]), (w.heap.size, [.bool false, .slice none 0 0, .bool false, .slice none 0 0])]) (l' := [(neg2, A2, n2, c2, sgnd true Z)]) (by simp) (by simp [sgnd])).set2 (by simp <;> omega) neg2 A2 n2 c2, hn2⟩
              | false =>
                go_wp2_with fail
                go_meet
                exact ⟨neg1, A1, n1, c1, K1.pick (by simp) (by simp [sgnd]), hn1⟩
            case rest =>
              obtain ⟨neg2, A2, n2, c2, KC, hn2⟩ := hcut
              clear SB K1 hn1
              obtain ⟨qac, qbc, qcc, qdc, qec⟩ := (KC.blk (g := w1.heap.size) (vs := [.bool neg2, .slice A2 n2 c2]) (by simp)).two
              have f1 : ¬ w.heap.size = w1.heap.size := by omega
              have f2 : ¬ w1.heap.size = w.heap.size := by omega
              go_wp2_with fail
              have s1 : IntKind.i64.wrap (1074 - (E : Int)) = ((1074 - E : Nat) : Int) := (IntWalk.i64_in _ (by omega)).trans (by omega)
              go_region_held3 (fun w' => w'.cell? ⟨w1.heap.size, 0, none⟩ = some (.bool neg2) ∧ w'.cell? ⟨w1.heap.size, 1, none⟩ = some (.slice A2 n2 c2))
                (go_keep)
                (first
                  | (go_at_call 66; (with_reducible refine (ref_of_any 1 _ (by decide)).mono ?_); rintro e3 w3 ⟨neg3, A3, n3, c3, rfl, I3, hb3⟩; (first | (with_reducible have K3 := (KC.next hb3).int I3) | (with_reducible have K3 := (KC.drew.next hb3).int I3) | (with_reducible have K3 := ((KC.drewN _).next hb3).int I3)); have hn3 : n3 ≤ 1 := int_len I3 (by decide); have Q3g := (K3.blk (g := w1.heap.size) (vs := [.bool neg2, .slice A2 n2 c2]) (by simp)).two; obtain ⟨qa3g, qb3g, qc3g, qd3g, qe3g⟩ := Q3g; have Q3r := (K3.blk (g := w.heap.size) (vs := [.bool false, .slice none 0 0, .bool false, .slice none 0 0]) (by simp)).four; obtain ⟨⟨qa3r, qb3r, qc3r, qd3r⟩, ⟨qe3r, qf3r, qg3r, qh3r⟩, qi3r⟩ := Q3r; clear I3 hb3)
                  | (go_at_call 120; (with_reducible refine (ref_double_any neg3 A3 n3 c3 (1074 - E) 1 _ ?_ (by omega) (by omega)).mono ?_); (first | (with_reducible exact K3.at_ (by simp)) | (with_reducible exact K3.drew.at_ (by simp)) | (with_reducible exact (K3.drewN _).at_ (by simp))); rintro e4 w4 ⟨neg4, A4, n4, c4, rfl, I4, hb4⟩; (first | (with_reducible have K4 := (K3.next hb4).int I4) | (with_reducible have K4 := (K3.drew.next hb4).int I4) | (with_reducible have K4 := ((K3.drewN _).next hb4).int I4)); have Q4g := (K4.blk (g := w1.heap.size) (vs := [.bool neg2, .slice A2 n2 c2]) (by simp)).two; obtain ⟨qa4g, qb4g, qc4g, qd4g, qe4g⟩ := Q4g; have Q4r := (K4.blk (g := w.heap.size) (vs := [.bool false, .slice none 0 0, .bool false, .slice none 0 0]) (by simp)).four; obtain ⟨⟨qa4r, qb4r, qc4r, qd4r⟩, ⟨qe4r, qf4r, qg4r, qh4r⟩, qi4r⟩ := Q4r; clear I4 hb4))
              have e1 : sgnd s Z = (fr x).num := HR.out.1.symm
              have e2 : (1 : Int) * 2 ^ (1074 - E) = ((fr x).den : Int) := HR.out.2.symm
              rw [e1, e2] at K4
              clear s1 e1 e2
              go_wp2_with fail
              have KE := (K4.pick (L' := [(w.heap.size, [.bool false, .slice none 0 0, .bool false, .slice none 0 0])]) (l' := [(neg2, A2, n2, c2, (fr x).num), (neg4, A4, n4, c4, ((fr x).den : Int))]) (by simp) (by simp)).set4 (by simp) neg2 A2 n2 c2 neg4 A4 n4 c4
              exact bodyPost_ret (v := .agg #[.bool neg2, .slice A2 n2 c2, .bool neg4, .slice A4 n4 c4]) (by simp [results, Tryz.results77, go_sem, qa4r, qb4r, qc4r, qd4r]) rfl ⟨_, _, _, _, _, _, _, _, rfl, KE.at_ (by simp), KE.at_ (by simp), KE.1⟩

        · have h1' : (1074 : Int) ≤ (E : Int) := by omega
          have hzz : ((Z : Int) == 0) = false := by rw [beq_eq_false_iff_ne]; omega
          have HVV : Hid ((fr x).num = sgnd s Z * 2 ^ (max ((E : Int) - 1074) 0).toNat) := Lib.hid (by
            have h := fr_whole HZ.out (show 1074 ≤ E by omega)
            rw [h.1, show (max ((E : Int) - 1074) 0).toNat = E - 1074 by omega, Int.natCast_pow]
            rfl)
          have HR : Hid ((fr x).den = 1) := Lib.hid (fr_whole HZ.out (show 1074 ≤ E by omega)).2
          go_wp2_with fail
          refine (ref_of_any (Z : Int) _ (by omega)).mono ?_
          rintro e1 w1 ⟨neg1, A1, n1, c1, rfl, I1, hb1⟩
          have hn1 : n1 ≤ 2 := int_len I1 (by rw [Int.natAbs_natCast]; omega)
          have K1 := ((K0.next hb1).int I1).var (g := w1.heap.size) rfl [.bool neg1, .slice A1 n1 c1] 27
          have hg := (K0.next hb1).blk (g := w.heap.size) (vs := [.bool false, .slice none 0 0, .bool false, .slice none 0 0]) (by simp)
          have hg1 := hg.1
          clear K0 hb1 I1 hg
          go_upto_if 41 with (fail)
          go_cut [41] from 42 to 43 (fun _ wx => ∃ (neg2 : Bool) (A2 : Option Addr) (n2 c2 : Nat), Mm w [(w1.heap.size, [.bool neg2, .slice A2 n2 c2]), (w.heap.size, [.bool false, .slice none 0 0, .bool false, .slice none 0 0])] [(neg2, A2, n2, c2, sgnd s Z)] wx ∧ n2 ≤ 2)
          case first =>
            have sb := SB.out
            cases s with
            | true =>
              go_wp2_with fail
              refine (ref2_turned_any neg1 A1 n1 c1 (Z : Int) (-(Z : Int)) _ (K1.at_ (by simp)) (by omega) (Lib.hid rfl)).mono ?_
              rintro e2 w2 ⟨neg2, A2, n2, c2, rfl, I2, hb2⟩
              have hn2 : n2 ≤ 2 := int_len I2 (by rw [Int.natAbs_neg, Int.natAbs_natCast]; omega)
              have K2 := (K1.next hb2).int I2
              obtain ⟨qa2, qb2, qc2, qd2, qe2⟩ := (K2.blk (g := w1.heap.size) (vs := [.bool neg1, .slice A1 n1 c1]) (by simp)).two
              clear hb2 I2 K1
              go_wp2_with fail
              go_meet
              exact ⟨neg2, A2, n2, c2, (K2.pick (L' := [(w1.heap.size, [.bool neg1, .slice A1 n1 c1]), (w.heap.size, [.bool false, .slice none 0 0, .bool false, .slice none 0 0])]) (l' := [(neg2, A2, n2, c2, sgnd true Z)]) (by simp) (by simp [sgnd])).set2 (by simp <;> omega) neg2 A2 n2 c2, hn2⟩
            | false =>
              go_wp2_with fail
              go_meet
              exact ⟨neg1, A1, n1, c1, K1.pick (by simp) (by simp [sgnd]), hn1⟩
          case rest =>
            obtain ⟨neg2, A2, n2, c2, KC, hn2⟩ := hcut
            clear SB K1 hn1
            obtain ⟨qac, qbc, qcc, qdc, qec⟩ := (KC.blk (g := w1.heap.size) (vs := [.bool neg2, .slice A2 n2 c2]) (by simp)).two
            have f1 : ¬ w.heap.size = w1.heap.size := by omega
            have f2 : ¬ w1.heap.size = w.heap.size := by omega
            go_wp2_with fail
            refine (ref_double_int neg2 A2 n2 c2 (sgnd s Z) (max ((E : Int) - 1074) 0) (fr x).num _ (KC.at_ (by simp)) (by omega) (.inr (by omega)) (by omega) (by omega) HVV).mono ?_
            rintro e3 w3 ⟨neg3, A3, n3, c3, rfl, I3, hb3⟩
            have K3 := (KC.next hb3).int I3
            clear hb3 I3 KC
            go_wp2_with fail
            refine (ref2_whole_any neg3 A3 n3 c3 (fr x).num (fr x) _ (K3.at_ (by simp)) (Lib.hid ⟨rfl, HR.out⟩)).mono ?_
            rintro e4 w4 ⟨neg4, A4, n4, c4, ne4, B4, m4, d4, rfl, I4, J4, hb4⟩
            have K4 := ((K3.next hb4).int J4).int I4
            clear hb4 I4 J4 K3
            obtain ⟨⟨qa4r, qb4r, qc4r, qd4r⟩, ⟨qe4, qf4, qg4, qh4⟩, qi4⟩ := (K4.blk (g := w.heap.size) (vs := [.bool false, .slice none 0 0, .bool false, .slice none 0 0]) (by simp)).four
            go_wp2_with fail
            have KE := (K4.pick (L' := [(w.heap.size, [.bool false, .slice none 0 0, .bool false, .slice none 0 0])]) (l' := [(neg4, A4, n4, c4, (fr x).num), (ne4, B4, m4, d4, ((fr x).den : Int))]) (by simp) (by simp)).set4 (by simp) neg4 A4 n4 c4 ne4 B4 m4 d4
            exact bodyPost_ret (v := .agg #[.bool neg4, .slice A4 n4 c4, .bool ne4, .slice B4 m4 d4]) (by simp [results, Tryz.results77, go_sem, qa4r, qb4r, qc4r, qd4r]) rfl ⟨_, _, _, _, _, _, _, _, rfl, KE.at_ (by simp), KE.at_ (by simp), KE.1⟩

end Go.Proofs.YtjcjphgpmpjmbaaGreatDoor
