/-
  TurnRound: the walk.
-/
import Derived.Test.YtgfppockdgmlhaaTurL
namespace Go.Proofs.Ytgfppockdgmlhaa
open Go.RowKit

set_option maxRecDepth 100000 in
set_option maxHeartbeats 1600000 in
theorem round_no (k n : Int) (hc : cntF n ≠ 0) (w : World) : Calls Try.prog 3 #[.int .i64 k, .int .i64 n] w (RetV w (.bool true)) := by
  have E1 : (Ieee.double.order 0 0 == some .eq) = true := by decide +kernel
  by_cases h1 : n < 0
  · have HC : Hid (cntF n = 1) := Lib.hid (by unfold cntF; rw [if_pos h1])
    have h2 : n ≤ 16 := by omega
    go_enter Try.func3, Try.ntmps3
    go_wp2_with fail
    refine (unit_no k n hc _).mono ?_
    rintro e1 w1 ⟨rfl, rfl⟩
    rw [HC.out]
    go_wp2_with fail
    refine (lives17 _).mono ?_
    rintro e2 w2 ⟨rfl, hb2⟩
    go_wp2_with fail
    go_ret
    exact ⟨by show Ending.returned (.bool (!decide (16 < n))) = _; rw [decide_eq_false (by omega)]; rfl, hb2⟩
  · have h1' : 0 ≤ n := by omega
    have h2 : 16 < n := by
      rcases Int.lt_or_le 16 n with h | h
      · exact h
      · exact absurd (show cntF n = 0 by unfold cntF; rw [if_neg h1, if_neg (by omega)]) hc
    have HC : Hid (cntF n = 4) := Lib.hid (by unfold cntF; rw [if_neg h1, if_pos h2])
    clear h1
    go_enter Try.func3, Try.ntmps3
    go_wp2_with fail
    refine (unit_no k n hc _).mono ?_
    rintro e1 w1 ⟨rfl, rfl⟩
    rw [HC.out]
    go_wp2_with fail
    refine (lives17 _).mono ?_
    rintro e2 w2 ⟨rfl, hb2⟩
    go_wp2_with fail
    go_ret
    exact ⟨by show Ending.returned (.bool (!decide (n < 0))) = _; rw [decide_eq_false (by omega)]; rfl, hb2⟩

theorem uF_fin (j : Nat) : ((uF j).1 < 2 ^ 64 ∧ (uF j).2 < 2 ^ 64) ∧ Flt.Fin (uF j).1 ∧ Flt.Fin (uF j).2 ∧ Bare (uF j).1 ∧ Bare (uF j).2 := by
  obtain ⟨h1, h2⟩ := zF_bd (leftF j) 14 (Nat.le_refl _)
  have hs : (swF (mirF j) (zF (leftF j) 14).1).1 < 2 ^ 64 ∧ (swF (mirF j) (zF (leftF j) 14).1).2 < 2 ^ 64 ∧ Flt.Fin (swF (mirF j) (zF (leftF j) 14).1).1 ∧ Flt.Fin (swF (mirF j) (zF (leftF j) 14).1).2 := by
    unfold swF
    split
    · exact ⟨h2.1, h1.1, h2.2.1, h1.2.1⟩
    · exact ⟨h1.1, h2.1, h1.2.1, h2.2.1⟩
  obtain ⟨a, b⟩ := turnF_lt hs.1 hs.2.1 (j / 16384)
  obtain ⟨c, d⟩ := turnF_fin hs.2.2.1 hs.2.2.2 (j / 16384)
  exact ⟨⟨pz_lt a, pz_lt b⟩, fin_pz c, fin_pz d, bare_pz c, bare_pz d⟩
theorem size_nz {S : Nat} (h : 0 < S) : ¬ (S : Int) = 0 := by omega
theorem size_le {S : Nat} (h : S ≤ 2 ^ 16) : S ≤ 65536 := by omega
theorem add_in {k1 : Int} {S : Nat} (h1 : -65536 < k1) (h2 : k1 < 65536) (h3 : S ≤ 65536) : wrap64 (k1 + (S : Int)) = k1 + (S : Int) := by unfold wrap64; omega
theorem sub_in {k1 : Int} {S : Nat} (h1 : -65536 < k1) (h2 : k1 < 65536) (h3 : S ≤ 65536) : wrap64 (k1 - (S : Int)) = k1 - (S : Int) := by unfold wrap64; omega
theorem eq_of_sv {a b : Nat} (ha : Flt.Fin a) (hb : Flt.Fin b) (h : Flt.sv a = Flt.sv b) : (Ieee.double.order a b == some .eq) = true := by
  rw [Flt.eq_spec (fun k => Flt.not_fin_nan k ha) (fun k => Flt.not_fin_nan k hb)]
  exact decide_eq_true h
set_option maxRecDepth 100000 in
set_option maxHeartbeats 8000000 in
theorem round_ok (k : Int) (n : Nat) (hn : n ≤ 16) (w : World) : Calls Try.prog 3 #[.int .i64 k, .int .i64 (n : Int)] w (RetV w (.bool true)) := by
  obtain ⟨j, hj⟩ : ∃ j, jF k n = j := ⟨_, rfl⟩
  have hjl : j < 65536 := by rw [← hj]; exact jF_lt k hn
  have h0 : 0 < (2 : Nat) ^ n := Nat.two_pow_pos _
  have h1 : (2 : Nat) ^ n ≤ 2 ^ 16 := Nat.pow_le_pow_right (by decide) hn
  have hS : wrap64 (2 ^ n) = ((2 ^ n : Nat) : Int) := by rw [pow_nat]; unfold wrap64; omega
  have jr : jF (k.tmod ((2 ^ n : Nat) : Int)) n = j := (jF_rem k n).trans hj
  have hab : (k.tmod ((2 ^ n : Nat) : Int)).natAbs = k.natAbs % 2 ^ n := by rw [Int.natAbs_tmod]; rfl
  have hml : k.natAbs % 2 ^ n < 2 ^ n := Nat.mod_lt _ h0
  obtain ⟨k1, hk1⟩ : ∃ k1, k.tmod ((2 ^ n : Nat) : Int) = k1 := ⟨_, rfl⟩
  rw [hk1] at jr hab
  have hk2 : -65536 < k1 := by clear hS jr hk1; omega
  have hk3 : k1 < 65536 := by clear hS jr hk1; omega
  have J1 := Lib.hid ((jF_more k1 n).trans jr)
  have J2 := Lib.hid ((jF_less k1 n).trans jr)
  have J3 : Hid (n < 16 → jF (2 * k1) (n + 1) = j) := Lib.hid (fun h => (jF_finer k1 h).trans jr)
  obtain ⟨j1, hj1⟩ : ∃ j1, (65536 - j) % 65536 = j1 := ⟨_, rfl⟩
  obtain ⟨j2, hj2⟩ : ∃ j2, (j + 16384) % 65536 = j2 := ⟨_, rfl⟩
  obtain ⟨j3, hj3⟩ : ∃ j3, (j1 + 16384) % 65536 = j3 := ⟨_, rfl⟩
  have hjl1 : j1 < 65536 := by omega
  have m1 : plV j1 = ((plV j).1, -(plV j).2) := by rw [← hj1]; exact plV_mirror hjl
  have m2 : plV j2 = (-(plV j).2, (plV j).1) := by rw [← hj2]; exact plV_quarter hjl
  have m3 : plV j3 = (-(plV j1).2, (plV j1).1) := by rw [← hj3]; exact plV_quarter hjl1
  have q4 : jF (-k1) n = j1 := by rw [jF_mirror k1 hn, jr]; exact hj1
  have J4 : Hid (jF (-k1) n = j1) := Lib.hid q4
  have J5 : Hid (2 ≤ n → jF (k1 + ((2 ^ n : Nat) : Int) / 4) n = j2) := Lib.hid (fun h => by rw [show ((2 ^ n : Nat) : Int) / 4 = ((2 ^ n / 4 : Nat) : Int) from rfl, jF_quarter k1 hn h, jr]; exact hj2)
  have J6 : Hid (2 ≤ n → jF (((2 ^ n : Nat) : Int) / 4 - k1) n = j3) := Lib.hid (fun h => by
    rw [show ((2 ^ n : Nat) : Int) / 4 = ((2 ^ n / 4 : Nat) : Int) from rfl, show ((2 ^ n / 4 : Nat) : Int) - k1 = -k1 + ((2 ^ n / 4 : Nat) : Int) by omega, jF_quarter (-k1) hn h, q4]
    exact hj3)
  clear hj1 hj2 hj3 hjl1 q4
  rw [m1] at m3
  rw [← uF_worth, ← uF_worth] at m1 m2
  rw [← uF_worth, ← uF_worth j] at m3
  obtain ⟨⟨lx, ly⟩, fx, fy, bx, by'⟩ := uF_fin j
  obtain ⟨⟨lmx, lmy⟩, fmx, fmy, _, _⟩ := uF_fin j1
  obtain ⟨_, fqx, fqy, _, _⟩ := uF_fin j2
  obtain ⟨_, ftx, fty, _, _⟩ := uF_fin j3
  obtain ⟨m, hm⟩ : ∃ m, uF j1 = m := ⟨_, rfl⟩
  obtain ⟨q, hq⟩ : ∃ q, uF j2 = q := ⟨_, rfl⟩
  obtain ⟨t, ht⟩ : ∃ t, uF j3 = t := ⟨_, rfl⟩
  obtain ⟨z, hz⟩ : ∃ z, uF j = z := ⟨_, rfl⟩
  rw [hm] at m1 lmx lmy fmx fmy
  rw [hq] at m2 fqx fqy
  rw [ht] at m3 ftx fty
  rw [hz] at m1 m2 m3 lx ly fx fy bx by'
  obtain ⟨x, y⟩ := z
  obtain ⟨mx', my⟩ := m
  obtain ⟨qx, qy⟩ := q
  obtain ⟨tx, ty⟩ := t
  have a1 : Flt.sv mx' = Flt.sv x := congrArg Prod.fst m1
  have a2 : Flt.sv my = -Flt.sv y := congrArg Prod.snd m1
  have a3 : Flt.sv qx = -Flt.sv y := congrArg Prod.fst m2
  have a4 : Flt.sv qy = Flt.sv x := congrArg Prod.snd m2
  have a5 : Flt.sv tx = - -Flt.sv y := congrArg Prod.fst m3
  have a6 : Flt.sv ty = Flt.sv x := congrArg Prod.snd m3
  have F1 := eq_of_sv fmx fx a1
  have F2 := eq_of_sv (Flt.fin_opp.2 fmy) fy (by rw [Flt.sv_opp, a2, Int.neg_neg])
  have F3 := eq_of_sv (Flt.fin_opp.2 fy) fqx (by rw [Flt.sv_opp, a3])
  have F4 := eq_of_sv fx fqy a4.symm
  have F5 := eq_of_sv ftx fy (by rw [a5, Int.neg_neg])
  have F6 := eq_of_sv fty fx a6
  have HM := Lib.hid hm
  have HQ := Lib.hid hq
  have HT := Lib.hid ht
  have HZ := Lib.hid hz
  have HJ := Lib.hid hj
  have BX := Lib.hid bx
  have BY := Lib.hid by'
  have HT1 : Hid (bits .and .i64 1 3 = ((1 : Nat) : Int)) := Lib.hid (by
    have h := i64_and_nat 1 3 (by decide) (by decide)
    simpa using h)
  obtain ⟨S, hSS⟩ : ∃ S, (2 : Nat) ^ n = S := ⟨_, rfl⟩
  rw [hSS] at hS hk1 hab hml h0 h1 J1 J2 J5 J6
  have hS0 : ¬ wrap64 (2 ^ n) = 0 := by rw [hS]; exact size_nz h0
  have hS1 : S ≤ 65536 := size_le h1
  have HS := Lib.hid hS
  have HK1 := Lib.hid hk1
  have HW1 : Hid (wrap64 (k1 + (S : Int)) = k1 + (S : Int)) := Lib.hid (add_in hk2 hk3 hS1)
  have HW2 : Hid (wrap64 (k1 - (S : Int)) = k1 - (S : Int)) := Lib.hid (sub_in hk2 hk3 hS1)
  clear hj hab hml jr m1 m2 m3 a1 a2 a3 a4 a5 a6 fx fy fmx fmy fqx fqy ftx fty bx by' hm hq ht hz hSS hjl h1 hS hk1
  go_enter Try.func3, Try.ntmps3
  go_wp2_with fail
  refine (unit_ok k n hn _).mono ?_
  rintro e1 w1 ⟨rfl, hb1⟩
  rw [HJ.out, HZ.out]
  go_wp2_with fail
  rw [HS.out, HK1.out, HW1.out]
  refine (unit_ok _ n hn _).mono ?_
  rintro e2 w2 ⟨rfl, hb2⟩
  rw [J1.out, HZ.out]
  go_wp2_with fail
  refine (unit_ok _ n hn _).mono ?_
  rintro e3 w3 ⟨rfl, hb3⟩
  rw [J2.out, HZ.out]
  go_wp2_with fail
  refine (sameComplex_eq x y _).mono ?_
  rintro e4 w4 ⟨rfl, rfl⟩
  go_wp2_with fail
  refine (sameComplex_eq x y _).mono ?_
  rintro e5 w5 ⟨rfl, rfl⟩
  go_wp2_with fail
  refine (plain_any x y BX.out BY.out _).mono ?_
  rintro e6 w6 ⟨rfl, rfl⟩
  have hbw3 := below_next (below_next hb1 hb2) hb3
  clear hb1 hb2 hb3
  by_cases h16 : n < 16
  · by_cases h2 : 2 ≤ n
    · go_wp2_with fail
      refine (unit_ok _ (n + 1) (by omega) _).mono ?_
      rintro e7 w7 ⟨rfl, hb7⟩
      rw [J3.out h16, HZ.out]
      go_wp2_with fail
      refine (sameComplex_eq x y _).mono ?_
      rintro e8 w8 ⟨rfl, rfl⟩
      have hbw7 := below_next hbw3 hb7
      go_wp2_with fail
      refine (unit_ok _ n hn _).mono ?_
      rintro e9 w9 ⟨rfl, hb9⟩
      rw [J4.out, HM.out]
      go_wp2_with fail
      refine (conj_any mx' my lmy _).mono ?_
      rintro e10 w10 ⟨rfl, rfl⟩
      have hbw9 := below_next hbw7 hb9
      go_wp2_with fail
      refine (unit_ok _ n hn _).mono ?_
      rintro e11 w11 ⟨rfl, hb11⟩
      rw [J5.out h2, HQ.out]
      go_wp2_with fail
      refine (unit_ok _ n hn _).mono ?_
      rintro e12 w12 ⟨rfl, hb12⟩
      rw [J6.out h2, HT.out]
      go_wp2_with fail
      refine (cturn_any x y 1 1 lx ly HT1 (by decide) _).mono ?_
      rintro e13 w13 ⟨rfl, rfl⟩
      rw [show turnF (x, y) 1 = (Flt.opp y, x) from rfl]
      have hbw12 := below_next (below_next hbw9 hb11) hb12
      go_wp2_with fail
      refine (lives17 _).mono ?_
      rintro e14 w14 ⟨rfl, hb14⟩
      go_wp2_with fail
      go_ret
      exact ⟨rfl, below_next hbw12 hb14⟩
    · have h2n : n < 2 := by omega
      clear h2
      go_wp2_with fail
      refine (unit_ok _ (n + 1) (by omega) _).mono ?_
      rintro e7 w7 ⟨rfl, hb7⟩
      rw [J3.out h16, HZ.out]
      go_wp2_with fail
      refine (sameComplex_eq x y _).mono ?_
      rintro e8 w8 ⟨rfl, rfl⟩
      have hbw7 := below_next hbw3 hb7
      go_wp2_with fail
      refine (unit_ok _ n hn _).mono ?_
      rintro e9 w9 ⟨rfl, hb9⟩
      rw [J4.out, HM.out]
      go_wp2_with fail
      refine (conj_any mx' my lmy _).mono ?_
      rintro e10 w10 ⟨rfl, rfl⟩
      have hbw9 := below_next hbw7 hb9
      go_wp2_with fail
      refine (lives17 _).mono ?_
      rintro e14 w14 ⟨rfl, hb14⟩
      go_wp2_with fail
      go_ret
      exact ⟨rfl, below_next hbw9 hb14⟩
  · have hn16 : n = 16 := by omega
    have h2 : 2 ≤ n := by omega
    have h16n : 16 ≤ n := by omega
    clear h16 hn16
    go_wp2_with fail
    refine (unit_ok _ n hn _).mono ?_
    rintro e9 w9 ⟨rfl, hb9⟩
    rw [J4.out, HM.out]
    go_wp2_with fail
    refine (conj_any mx' my lmy _).mono ?_
    rintro e10 w10 ⟨rfl, rfl⟩
    have hbw9 := below_next hbw3 hb9
    go_wp2_with fail
    refine (unit_ok _ n hn _).mono ?_
    rintro e11 w11 ⟨rfl, hb11⟩
    rw [J5.out h2, HQ.out]
    go_wp2_with fail
    refine (unit_ok _ n hn _).mono ?_
    rintro e12 w12 ⟨rfl, hb12⟩
    rw [J6.out h2, HT.out]
    go_wp2_with fail
    refine (cturn_any x y 1 1 lx ly HT1 (by decide) _).mono ?_
    rintro e13 w13 ⟨rfl, rfl⟩
    rw [show turnF (x, y) 1 = (Flt.opp y, x) from rfl]
    have hbw12 := below_next (below_next hbw9 hb11) hb12
    go_wp2_with fail
    refine (lives17 _).mono ?_
    rintro e14 w14 ⟨rfl, hb14⟩
    go_wp2_with fail
    go_ret
    exact ⟨rfl, below_next hbw12 hb14⟩
theorem law_turnRound (k n : Int) (w : World) : Calls Try.prog 3 #[.int .i64 k, .int .i64 n] w (RetV w (.bool true)) := by
  by_cases hc : cntF n = 0
  · have h1 : ¬ n < 0 := fun h => by unfold cntF at hc; rw [if_pos h] at hc; exact absurd hc (by decide)
    have h2 : ¬ 16 < n := fun h => by unfold cntF at hc; rw [if_neg h1, if_pos h] at hc; exact absurd hc (by decide)
    obtain ⟨N, rfl⟩ : ∃ N : Nat, n = (N : Int) := ⟨n.toNat, by omega⟩
    exact round_ok k N (by omega) w
  · exact round_no k n hc w
end Go.Proofs.Ytgfppockdgmlhaa
