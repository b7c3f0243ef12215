/-
  Fractions in memory of their own: turned, lowest terms.
-/
import Derived.Test.YtgekmbfmfiikkaaGreatDoorOwC
import Derived.Test.YtgekmbfmfiikkaaGreatDoorExD
import Derived.Test.YtgekmbfmfiikkaaGreatDoorOwF
import Derived.Test.YtgekmbfmfiikkaaGreatDoorRaL
set_option maxHeartbeats 3200000
set_option maxRecDepth 100000
namespace Go.Proofs.YtgekmbfmfiikkaaGreatDoor
open Go.RowKit
theorem Mo.fresh {B : Nat} {w wr w' : World} {L : List (Nat × List Value)} {l : List IntAt} {o o' : List OwnAt} (h : Mo B w L l o wr) (hO : Owns wr.heap.size w' o') : ∀ q ∈ o', ∀ g, q.v.ownBlock = some g → w.heap.size ≤ g :=
 fun q hq _ hg => Nat.le_trans h.1.size ((hO.1 q hq).lt hg).1
theorem oneOf_same (n0 : Nat) (o : List OwnAt) : OneOf n0 o o := fun q hq _ hg => .inl ⟨q, hq, hg⟩
theorem oneOf_new {n0 : Nat} {o : List OwnAt} {q q' : OwnAt} (h : ∀ g, q.v.ownBlock = some g → n0 ≤ g) (h' : ∀ g, q'.v.ownBlock = some g → n0 ≤ g) : OneOf n0 o [q, q'] := fun p hp g hg => by
 simp only [List.mem_cons, List.not_mem_nil, or_false] at hp
 rcases hp with rfl | rfl
 ·exact .inr (h g hg)
 ·exact .inr (h' g hg)
theorem owr_turned_any (neg : Bool) (A : Option Addr) (n c : Nat) (z v : Int) (w : World) (hx : IsInt w neg A n c z) (hn : n ≤ 1000000000) (hv : Hid (-z = v)) :
  Calls Tryz.prog 307 #[.agg #[.bool neg, .slice A n c]] w (RetIntO w v) := by
 have K0 := (((Mo.nil w).int hx).var (g := w.heap.size) rfl [.bool neg, .slice A n c] 24).var (g := w.heap.size + 1) (by simp) [.bool false, .slice none 0 0] 24
 go_enter Tryz.func307, Tryz.ntmps307
 go_wp2_with fail
 generalize (w.alloc (.cells #[.bool neg, .slice A n c] 24)).alloc (.cells #[.bool false, .slice none 0 0] 24) = w0 at K0 ⊢
 obtain ⟨_, _, _, _, _⟩ := (K0.blk (g := w.heap.size) (by repeat constructor)).two
 clear hx
 go_region_held3 (fun w' => w'.cell? ⟨w.heap.size, 0, none⟩ = some (.bool neg) ∧ w'.cell? ⟨w.heap.size, 1, none⟩ = some (.slice A n c))
  (go_keep)
  (first
   | (go_at_call 215; apply Calls.withMo (w0 := w); (case K => with_reducible repeat (first | exact K0 | apply Mo.drew | apply Mo.drewN)); intro KX; (with_reducible refine (ex_of_any 0 _ (by decide)).mono ?_); rintro e1 w1 ⟨neg1, A1, n1, c1, rfl, I1, hb1⟩; (with_reducible have K1 := (KX.next hb1).int I1); have hn1 : n1 ≤ 1 := int_len I1 (by decide); have Q1x := (K1.blk (g := w.heap.size) (by repeat constructor)).two; obtain ⟨qa1x, qb1x, qc1x, qd1x, qe1x⟩ := Q1x; have Q1r := (K1.blk (g := w.heap.size + 1) (by repeat constructor)).two; obtain ⟨qa1r, qb1r, qc1r, qd1r, qe1r⟩ := Q1r; clear KX I1 hb1)
   | (go_at_call 251; apply Calls.withMo (w0 := w); (case K => with_reducible repeat (first | exact K1 | apply Mo.drew | apply Mo.drewN)); intro KX; (with_reducible refine (ow_minus_any neg1 neg A1 A n1 c1 n c 0 z _ ?_ ?_ (by omega) hn).mono ?_); (with_reducible exact KX.at_ (by simp)); (with_reducible exact KX.at_ (by simp)); rintro e2 w2 ⟨neg2, A2, n2, c2, rfl, I2, O2, hb2⟩; (with_reducible have K2 := (KX.call1 hb2 O2).int I2); have Q2x := (K2.blk (g := w.heap.size) (by repeat constructor)).two; obtain ⟨qa2x, qb2x, qc2x, qd2x, qe2x⟩ := Q2x; have Q2r := (K2.blk (g := w.heap.size + 1) (by repeat constructor)).two; obtain ⟨qa2r, qb2r, qc2r, qd2r, qe2r⟩ := Q2r; clear KX I2 O2 hb2))
 go_wp2_with fail
 have HE : (0 : Int) - z = v := by rw [Int.zero_sub]; exact hv.out
 rw [HE] at K2
 have KE := (K2.pick (L' := [(w.heap.size + 1, [.bool false, .slice none 0 0])]) (l' := [(neg2, A2, n2, c2, v)]) (by simp) (by simp)).set2 (by simp <;> omega) neg2 A2 n2 c2
 exact bodyPost_ret (v := .agg #[.bool neg2, .slice A2 n2 c2]) (by simp [results, Tryz.results307, go_sem, qa2r, qb2r]) rfl ⟨neg2, A2, n2, c2, rfl, KE.at_ (by simp), KE.own1 0 rfl, KE.1⟩
theorem owr_low_pos (neg neg' : Bool) (A A' : Option Addr) (n c n' c' : Nat) (x y : Int) (r : Rat) (w : World) (hx : IsInt w neg A n c x) (hy : IsInt w neg' A' n' c' y) (hn : n ≤ 1000000) (hn' : n' ≤ 1000000) (hs : 0 < y) (hr : Hid (Rat.divInt x y = r)) (B : Nat) (hB : B ≤ w.heap.size) (hO : Owns B w [(A, n, c), (A', n', c')]) :
  Calls Tryz.prog 250 #[.agg #[.bool neg, .slice A n c], .agg #[.bool neg', .slice A' n' c']] w (RetLow B w (A, n, c) (A', n', c') r) := by
 have K0 := ((((Mo.args hB hO).int hx).int hy).var (g := w.heap.size) rfl [.bool neg, .slice A n c] 24).var (g := w.heap.size + 1) (by simp) [.bool neg', .slice A' n' c'] 24 |>.var (g := w.heap.size + 1 + 1) (by simp) [.bool false, .slice none 0 0, .bool false, .slice none 0 0] 26
 obtain ⟨G, hG⟩ : ∃ G, Nat.gcd x.natAbs y.natAbs = G := ⟨_, rfl⟩
 have hy0 : y ≠ 0 := by omega
 have hG0 : 0 < G := by rw [← hG]; exact Nat.gcd_pos_of_pos_right _ (by omega)
 have hGy : G ≤ y.natAbs := by rw [← hG]; exact Nat.le_of_dvd (by omega) (Nat.gcd_dvd_right _ _)
 obtain ⟨u, hu⟩ : ∃ u, x.tdiv (G : Int) = u := ⟨_, rfl⟩
 obtain ⟨v, hv⟩ : ∃ v, y.tdiv (G : Int) = v := ⟨_, rfl⟩
 have e1 := low_num (p := x) hy0 hG.symm
 have e2 := low_den (p := x) hy0 hG.symm
 rw [hu, hr.out] at e1
 rw [hv, hr.out] at e2
 unfold tn at e1 e2
 rw [if_neg (by omega)] at e1 e2
 have hrd : 0 < r.den := r.den_pos
 have hux : u.natAbs ≤ x.natAbs := by rw [← hu]; exact tdiv_small x G
 have hvy : v.natAbs ≤ y.natAbs := by rw [← hv]; exact tdiv_small y G
 have HS : Hid (v.sign = 1) := Lib.hid (Int.sign_eq_one_of_pos (by omega))
 have HG := Lib.hid hG
 have HU := Lib.hid hu
 have HV := Lib.hid hv
 have HE1 := Lib.hid e1
 have HE2 := Lib.hid e2
 have HY : Hid ((G : Int) ≠ 0) := Lib.hid (by omega)
 have HGY := Lib.hid hGy
 have HUX := Lib.hid hux
 have HVY := Lib.hid hvy
 clear hG hu hv e1 e2 hr hG0 hy0 hs hrd hGy hux hvy
 have e0a : ¬ w.heap.size + 1 + 1 = w.heap.size := by omega
 have e0b : ¬ w.heap.size = w.heap.size + 1 + 1 := by omega
 go_enter Tryz.func250, Tryz.ntmps250
 go_wp2_with fail
 generalize ((w.alloc (.cells #[.bool neg, .slice A n c] 24)).alloc (.cells #[.bool neg', .slice A' n' c'] 24)).alloc (.cells #[.bool false, .slice none 0 0, .bool false, .slice none 0 0] 26) = w0 at K0 ⊢
 obtain ⟨_, _, _, _, _⟩ := (K0.blk (g := w.heap.size) (by repeat constructor)).two
 obtain ⟨_, _, _, _, _⟩ := (K0.blk (g := w.heap.size + 1) (by repeat constructor)).two
 go_wp2_with fail
 refine (ex_Common_any neg neg' A A' n c n' c' x y G _ (K0.at_ (by simp)) (K0.at_ (by simp)) hn hn' HG).mono ?_
 rintro e1 w1 ⟨neg1, A1, n1, c1, rfl, I1, hb1⟩
 have hn1 : n1 ≤ 1000000 := Nat.le_trans (isInt_len_mono I1 hy (by rw [Int.natAbs_natCast]; exact HGY.out)) hn'
 have K1 := (K0.next hb1).int I1
 have zr : w.heap.size + 1 + 1 < w1.heap.size := (K1.blk (g := w.heap.size + 1 + 1) (vs := [.bool false, .slice none 0 0, .bool false, .slice none 0 0]) (by simp)).1
 have y1 : ¬ w.heap.size = w1.heap.size := by omega
 have y2 : ¬ w1.heap.size = w.heap.size := by omega
 have y3 : ¬ w.heap.size + 1 = w1.heap.size := by omega
 have y4 : ¬ w1.heap.size = w.heap.size + 1 := by omega
 have y5 : ¬ w.heap.size + 1 + 1 = w1.heap.size := by omega
 have y6 : ¬ w1.heap.size = w.heap.size + 1 + 1 := by omega
 have K2 := K1.var (g := w1.heap.size) rfl [.bool neg1, .slice A1 n1 c1] 24
 clear hb1 I1 K0 K1
 go_wp2_with fail
 generalize hgg : w1.heap.size = gg at K2 zr y1 y2 y3 y4 y5 y6
 generalize w1.alloc (.cells #[.bool neg1, .slice A1 n1 c1] 24) = w2 at K2 ⊢
 clear hgg
 obtain ⟨_, _, _, _, _⟩ := (K2.blk (g := w.heap.size) (by repeat constructor)).two
 obtain ⟨_, _, _, _, _⟩ := (K2.blk (g := w.heap.size + 1) (by repeat constructor)).two
 obtain ⟨_, _, _, _, _⟩ := (K2.blk (g := gg) (by repeat constructor)).two
 by_cases hG1 : G = 1
 ·have HC : Hid (icmp (G : Int) 1 = 0) := Lib.hid ((icmp_facts _ _).2.2 (by omega))
  have HUX1 : Hid (x = u) := Lib.hid (by rw [← HU.out, hG1]; exact (Int.tdiv_one x).symm)
  have HVY1 : Hid (y = v) := Lib.hid (by rw [← HV.out, hG1]; exact (Int.tdiv_one y).symm)
  clear hG1
  go_region_held3 (fun w' => w'.cell? ⟨w.heap.size, 0, none⟩ = some (.bool neg) ∧ w'.cell? ⟨w.heap.size, 1, none⟩ = some (.slice A n c) ∧ w'.cell? ⟨w.heap.size + 1, 0, none⟩ = some (.bool neg') ∧ w'.cell? ⟨w.heap.size + 1, 1, none⟩ = some (.slice A' n' c') ∧ w'.cell? ⟨gg, 0, none⟩ = some (.bool neg1) ∧ w'.cell? ⟨gg, 1, none⟩ = some (.slice A1 n1 c1))
   (go_keep)
   (first
    | (go_at_call 215; apply Calls.withMo (w0 := w); (case K => with_reducible repeat (first | exact K2 | apply Mo.drew | apply Mo.drewN)); intro KX; (with_reducible refine (ex_of_any 1 _ (by decide)).mono ?_); rintro e3 w3 ⟨neg3, A3, n3, c3, rfl, I3, hb3⟩; (with_reducible have K3 := (KX.next hb3).int I3); have hn3 : n3 ≤ 1 := int_len I3 (by decide); have Q3x := (K3.blk (g := w.heap.size) (by repeat constructor)).two; obtain ⟨qa3x, qb3x, qc3x, qd3x, qe3x⟩ := Q3x; have Q3y := (K3.blk (g := w.heap.size + 1) (by repeat constructor)).two; obtain ⟨qa3y, qb3y, qc3y, qd3y, qe3y⟩ := Q3y; have Q3g := (K3.blk (g := gg) (by repeat constructor)).two; obtain ⟨qa3g, qb3g, qc3g, qd3g, qe3g⟩ := Q3g; have Q3r := (K3.blk (g := w.heap.size + 1 + 1) (by repeat constructor)).four; obtain ⟨⟨qa3r, qb3r, qc3r, qd3r⟩, ⟨qe3r, qf3r, qg3r, qh3r⟩, qi3r⟩ := Q3r; clear KX I3 hb3)
    | (go_at_call 220; apply Calls.withMo (w0 := w); (case K => with_reducible repeat (first | exact K3 | apply Mo.drew | apply Mo.drewN)); intro KX; (with_reducible refine (ex_cmp_of neg1 neg3 A1 A3 n1 c1 n3 c3 (G : Int) 1 0 _ ?_ ?_ (by omega) (by omega) HC).mono ?_); (with_reducible exact KX.at_ (by simp)); (with_reducible exact KX.at_ (by simp)); rintro e4 w4 ⟨rfl, hb4⟩; (with_reducible have K4 := (KX.next hb4)); have Q4x := (K4.blk (g := w.heap.size) (by repeat constructor)).two; obtain ⟨qa4x, qb4x, qc4x, qd4x, qe4x⟩ := Q4x; have Q4y := (K4.blk (g := w.heap.size + 1) (by repeat constructor)).two; obtain ⟨qa4y, qb4y, qc4y, qd4y, qe4y⟩ := Q4y; have Q4g := (K4.blk (g := gg) (by repeat constructor)).two; obtain ⟨qa4g, qb4g, qc4g, qd4g, qe4g⟩ := Q4g; have Q4r := (K4.blk (g := w.heap.size + 1 + 1) (by repeat constructor)).four; obtain ⟨⟨qa4r, qb4r, qc4r, qd4r⟩, ⟨qe4r, qf4r, qg4r, qh4r⟩, qi4r⟩ := Q4r; clear KX hb4))
  rw [HUX1.out, HVY1.out] at K4
  go_wp2_with fail
  refine (ex_sign_of neg' A' n' c' v (1) _ (K4.at_ (by simp)) HS).mono ?_
  rintro e7 w7 ⟨rfl, hb7⟩
  have K7 := (K4.pick (L' := [(w.heap.size, [.bool neg, .slice A n c]), (w.heap.size + 1, [.bool neg', .slice A' n' c']), (w.heap.size + 1 + 1, [.bool false, .slice none 0 0, .bool false, .slice none 0 0])]) (l' := [(neg, A, n, c, u), (neg', A', n', c', v)]) (by simp) (by simp)).next hb7
  clear hb7 K4
  obtain ⟨qa7x, qb7x, qc7x, qd7x, qe7x⟩ := (K7.blk (g := w.heap.size) (by repeat constructor)).two
  obtain ⟨qa7y, qb7y, qc7y, qd7y, qe7y⟩ := (K7.blk (g := w.heap.size + 1) (by repeat constructor)).two
  obtain ⟨⟨qa7r, qb7r, qc7r, qd7r⟩, ⟨qe7r, qf7r, qg7r, qh7r⟩, qi7r⟩ := (K7.blk (g := w.heap.size + 1 + 1) (by repeat constructor)).four
  rw [HE1.out, HE2.out] at K7
  go_wp2_with fail
  have KE := (K7.pick (L' := [(w.heap.size + 1 + 1, [.bool false, .slice none 0 0, .bool false, .slice none 0 0])]) (l' := [(neg, A, n, c, r.num), (neg', A', n', c', (r.den : Int))]) (by simp) (by simp)).set4 (by simp <;> omega) neg A n c neg' A' n' c'
  exact bodyPost_ret (v := .agg #[.bool neg, .slice A n c, .bool neg', .slice A' n' c']) (by simp [results, Tryz.results250, go_sem, qa7r, qb7r, qc7r, qd7r]) rfl ⟨_, _, _, _, _, _, _, _, rfl, KE.at_ (by simp), KE.at_ (by simp), KE.own2 0 1 rfl rfl (by decide), oneOf_same _ _, KE.1⟩
 ·obtain ⟨cv, hcv⟩ : ∃ cv, icmp (G : Int) 1 = cv := ⟨_, rfl⟩
  have hcv0 : cv ≠ 0 := by
   rw [← hcv]
   unfold icmp
   split
   ·decide
   ·split
    ·decide
    ·omega
  have HC := Lib.hid hcv
  have hcv1 : (cv == 0) = false := by rw [beq_eq_false_iff_ne]; exact hcv0
  clear hcv hG1
  go_region_held3 (fun w' => w'.cell? ⟨w.heap.size, 0, none⟩ = some (.bool neg) ∧ w'.cell? ⟨w.heap.size, 1, none⟩ = some (.slice A n c) ∧ w'.cell? ⟨w.heap.size + 1, 0, none⟩ = some (.bool neg') ∧ w'.cell? ⟨w.heap.size + 1, 1, none⟩ = some (.slice A' n' c') ∧ w'.cell? ⟨gg, 0, none⟩ = some (.bool neg1) ∧ w'.cell? ⟨gg, 1, none⟩ = some (.slice A1 n1 c1))
   (go_keep)
   (first
    | (go_at_call 215; apply Calls.withMo (w0 := w); (case K => with_reducible repeat (first | exact K2 | apply Mo.drew | apply Mo.drewN)); intro KX; (with_reducible refine (ex_of_any 1 _ (by decide)).mono ?_); rintro e3 w3 ⟨neg3, A3, n3, c3, rfl, I3, hb3⟩; (with_reducible have K3 := (KX.next hb3).int I3); have hn3 : n3 ≤ 1 := int_len I3 (by decide); have Q3x := (K3.blk (g := w.heap.size) (by repeat constructor)).two; obtain ⟨qa3x, qb3x, qc3x, qd3x, qe3x⟩ := Q3x; have Q3y := (K3.blk (g := w.heap.size + 1) (by repeat constructor)).two; obtain ⟨qa3y, qb3y, qc3y, qd3y, qe3y⟩ := Q3y; have Q3g := (K3.blk (g := gg) (by repeat constructor)).two; obtain ⟨qa3g, qb3g, qc3g, qd3g, qe3g⟩ := Q3g; have Q3r := (K3.blk (g := w.heap.size + 1 + 1) (by repeat constructor)).four; obtain ⟨⟨qa3r, qb3r, qc3r, qd3r⟩, ⟨qe3r, qf3r, qg3r, qh3r⟩, qi3r⟩ := Q3r; clear KX I3 hb3)
    | (go_at_call 220; apply Calls.withMo (w0 := w); (case K => with_reducible repeat (first | exact K3 | apply Mo.drew | apply Mo.drewN)); intro KX; (with_reducible refine (ex_cmp_of neg1 neg3 A1 A3 n1 c1 n3 c3 (G : Int) 1 cv _ ?_ ?_ (by omega) (by omega) HC).mono ?_); (with_reducible exact KX.at_ (by simp)); (with_reducible exact KX.at_ (by simp)); rintro e4 w4 ⟨rfl, hb4⟩; (with_reducible have K4 := (KX.next hb4)); have Q4x := (K4.blk (g := w.heap.size) (by repeat constructor)).two; obtain ⟨qa4x, qb4x, qc4x, qd4x, qe4x⟩ := Q4x; have Q4y := (K4.blk (g := w.heap.size + 1) (by repeat constructor)).two; obtain ⟨qa4y, qb4y, qc4y, qd4y, qe4y⟩ := Q4y; have Q4g := (K4.blk (g := gg) (by repeat constructor)).two; obtain ⟨qa4g, qb4g, qc4g, qd4g, qe4g⟩ := Q4g; have Q4r := (K4.blk (g := w.heap.size + 1 + 1) (by repeat constructor)).four; obtain ⟨⟨qa4r, qb4r, qc4r, qd4r⟩, ⟨qe4r, qf4r, qg4r, qh4r⟩, qi4r⟩ := Q4r; clear KX hb4))
  go_wp2_with fail
  refine (ow_Divide_any neg neg1 A A1 n c n1 c1 x (G : Int) _ (K4.at_ (by simp)) (K4.at_ (by simp)) (by omega) (by omega) HY.out).mono ?_
  rintro e5 w5 ⟨neg5, A5, n5, c5, nfg5, B5, m5, d5, rfl, I5, _, O5, hb5⟩
  have F5 := K4.fresh O5
  rw [HU.out] at I5
  have hn5 : n5 ≤ 1000000 := Nat.le_trans (isInt_len_mono I5 hx HUX.out) hn
  have K5 := ((K4.pick (L' := [(w.heap.size, [.bool neg, .slice A n c]), (w.heap.size + 1, [.bool neg', .slice A' n' c']), (gg, [.bool neg1, .slice A1 n1 c1]), (w.heap.size + 1 + 1, [.bool false, .slice none 0 0, .bool false, .slice none 0 0])]) (l' := [(neg', A', n', c', y), (neg1, A1, n1, c1, (G : Int))]) (by simp) (by simp)).call2 hb5 O5).int I5
  obtain ⟨_, _, _, _, _⟩ := (K5.blk (g := w.heap.size) (by repeat constructor)).two
  obtain ⟨_, _, _, _, _⟩ := (K5.blk (g := w.heap.size + 1) (by repeat constructor)).two
  obtain ⟨_, _, _, _, _⟩ := (K5.blk (g := gg) (by repeat constructor)).two
  have K6 := K5.set2 (by simp <;> omega) neg5 A5 n5 c5
  clear hb5 I5 O5 K4 K5
  go_wp2_with fail
  refine (ow_Divide_any neg' neg1 A' A1 n' c' n1 c1 y (G : Int) _ (K6.at_ (by simp)) (K6.at_ (by simp)) (by omega) (by omega) HY.out).mono ?_
  rintro e6 w6 ⟨neg6, A6, n6, c6, nfg6, B6, m6, d6, rfl, I6, _, O6, hb6⟩
  have F6 := K6.fresh O6
  rw [HV.out] at I6
  have hn6 : n6 ≤ 1000000 := Nat.le_trans (isInt_len_mono I6 hy HVY.out) hn'
  have K8 := ((K6.pick (L' := [(w.heap.size + 1, [.bool neg', .slice A' n' c']), (w.heap.size, [.bool neg5, .slice A5 n5 c5]), (w.heap.size + 1 + 1, [.bool false, .slice none 0 0, .bool false, .slice none 0 0])]) (l' := [(neg5, A5, n5, c5, u)]) (by simp) (by simp)).call2 hb6 O6).int I6
  obtain ⟨_, _, _, _, _⟩ := (K8.blk (g := w.heap.size) (by repeat constructor)).two
  obtain ⟨_, _, _, _, _⟩ := (K8.blk (g := w.heap.size + 1) (by repeat constructor)).two
  have K9 := K8.set2 (by simp <;> omega) neg6 A6 n6 c6
  clear hb6 I6 O6 K6 K8
  go_wp2_with fail
  refine (ex_sign_of neg6 A6 n6 c6 v (1) _ (K9.at_ (by simp)) HS).mono ?_
  rintro e7 w7 ⟨rfl, hb7⟩
  have K7 := (K9.pick (L' := [(w.heap.size, [.bool neg5, .slice A5 n5 c5]), (w.heap.size + 1, [.bool neg6, .slice A6 n6 c6]), (w.heap.size + 1 + 1, [.bool false, .slice none 0 0, .bool false, .slice none 0 0])]) (l' := [(neg5, A5, n5, c5, u), (neg6, A6, n6, c6, v)]) (by simp) (by simp)).next hb7
  clear hb7 K9
  obtain ⟨qa7x, qb7x, qc7x, qd7x, qe7x⟩ := (K7.blk (g := w.heap.size) (by repeat constructor)).two
  obtain ⟨qa7y, qb7y, qc7y, qd7y, qe7y⟩ := (K7.blk (g := w.heap.size + 1) (by repeat constructor)).two
  obtain ⟨⟨qa7r, qb7r, qc7r, qd7r⟩, ⟨qe7r, qf7r, qg7r, qh7r⟩, qi7r⟩ := (K7.blk (g := w.heap.size + 1 + 1) (by repeat constructor)).four
  rw [HE1.out, HE2.out] at K7
  go_wp2_with fail
  have KE := (K7.pick (L' := [(w.heap.size + 1 + 1, [.bool false, .slice none 0 0, .bool false, .slice none 0 0])]) (l' := [(neg5, A5, n5, c5, r.num), (neg6, A6, n6, c6, (r.den : Int))]) (by simp) (by simp)).set4 (by simp <;> omega) neg5 A5 n5 c5 neg6 A6 n6 c6
  exact bodyPost_ret (v := .agg #[.bool neg5, .slice A5 n5 c5, .bool neg6, .slice A6 n6 c6]) (by simp [results, Tryz.results250, go_sem, qa7r, qb7r, qc7r, qd7r]) rfl ⟨_, _, _, _, _, _, _, _, rfl, KE.at_ (by simp), KE.at_ (by simp), KE.own2 2 0 rfl rfl (by decide), oneOf_new (F5 _ (by simp)) (F6 _ (by simp)), KE.1⟩
theorem owr_low_neg (neg neg' : Bool) (A A' : Option Addr) (n c n' c' : Nat) (x y : Int) (r : Rat) (w : World) (hx : IsInt w neg A n c x) (hy : IsInt w neg' A' n' c' y) (hn : n ≤ 1000000) (hn' : n' ≤ 1000000) (hs : y < 0) (hr : Hid (Rat.divInt x y = r)) (B : Nat) (hB : B ≤ w.heap.size) (hO : Owns B w [(A, n, c), (A', n', c')]) :
    Calls Tryz.prog 250 #[.agg #[.bool neg, .slice A n c], .agg #[.bool neg', .slice A' n' c']] w (RetLow B w (A, n, c) (A', n', c') r) := by
  have K0 := ((((Mo.args hB hO).int hx).int hy).var (g := w.heap.size) rfl [.bool neg, .slice A n c] 24).var (g := w.heap.size + 1) (by simp) [.bool neg', .slice A' n' c'] 24 |>.var (g := w.heap.size + 1 + 1) (by simp) [.bool false, .slice none 0 0, .bool false, .slice none 0 0] 26
  obtain ⟨G, hG⟩ : ∃ G, Nat.gcd x.natAbs y.natAbs = G := ⟨_, rfl⟩
  have hy0 : y ≠ 0 := by omega
  have hG0 : 0 < G := by rw [← hG]; exact Nat.gcd_pos_of_pos_right _ (by omega)
  have hGy : G ≤ y.natAbs := by rw [← hG]; exact Nat.le_of_dvd (by omega) (Nat.gcd_dvd_right _ _)
  obtain ⟨u, hu⟩ : ∃ u, x.tdiv (G : Int) = u := ⟨_, rfl⟩
  obtain ⟨v, hv⟩ : ∃ v, y.tdiv (G : Int) = v := ⟨_, rfl⟩
  have e1 := low_num (p := x) hy0 hG.symm
  have e2 := low_den (p := x) hy0 hG.symm
  rw [hu, hr.out] at e1
  rw [hv, hr.out] at e2
  unfold tn at e1 e2
  rw [if_pos hs] at e1 e2
  have hrd : 0 < r.den := r.den_pos
  have hux : u.natAbs ≤ x.natAbs := by rw [← hu]; exact tdiv_small x G
  have hvy : v.natAbs ≤ y.natAbs := by rw [← hv]; exact tdiv_small y G
  have HS : Hid (v.sign = -1) := Lib.hid (Int.sign_eq_neg_one_of_neg (by omega))
  have HG := Lib.hid hG
  have HU := Lib.hid hu
  have HV := Lib.hid hv
  have HE1 := Lib.hid e1
  have HE2 := Lib.hid e2
  have HY : Hid ((G : Int) ≠ 0) := Lib.hid (by omega)
  have HGY := Lib.hid hGy
  have HUX := Lib.hid hux
  have HVY := Lib.hid hvy
  clear hG hu hv e1 e2 hr hG0 hy0 hs hrd hGy hux hvy
  have e0a : ¬ w.heap.size + 1 + 1 = w.heap.size := by omega
  have e0b : ¬ w.heap.size = w.heap.size + 1 + 1 := by omega
  go_enter Tryz.func250, Tryz.ntmps250
  go_wp2_with fail
  generalize ((w.alloc (.cells #[.bool neg, .slice A n c] 24)).alloc (.cells #[.bool neg', .slice A' n' c'] 24)).alloc (.cells #[.bool false, .slice none 0 0, .bool false, .slice none 0 0] 26) = w0 at K0 ⊢
  obtain ⟨_, _, _, _, _⟩ := (K0.blk (g := w.heap.size) (by repeat constructor)).two
  obtain ⟨_, _, _, _, _⟩ := (K0.blk (g := w.heap.size + 1) (by repeat constructor)).two
  go_wp2_with fail
  refine (ex_Common_any neg neg' A A' n c n' c' x y G _ (K0.at_ (by simp)) (K0.at_ (by simp)) hn hn' HG).mono ?_
  rintro e1 w1 ⟨neg1, A1, n1, c1, rfl, I1, hb1⟩
  have hn1 : n1 ≤ 1000000 := Nat.le_trans (isInt_len_mono I1 hy (by rw [Int.natAbs_natCast]; exact HGY.out)) hn'
  have K1 := (K0.next hb1).int I1
  have zr : w.heap.size + 1 + 1 < w1.heap.size := (K1.blk (g := w.heap.size + 1 + 1) (vs := [.bool false, .slice none 0 0, .bool false, .slice none 0 0]) (by simp)).1
  have y1 : ¬ w.heap.size = w1.heap.size := by omega
  have y2 : ¬ w1.heap.size = w.heap.size := by omega
  have y3 : ¬ w.heap.size + 1 = w1.heap.size := by omega
  have y4 : ¬ w1.heap.size = w.heap.size + 1 := by omega
  have y5 : ¬ w.heap.size + 1 + 1 = w1.heap.size := by omega
  have y6 : ¬ w1.heap.size = w.heap.size + 1 + 1 := by omega
  have K2 := K1.var (g := w1.heap.size) rfl [.bool neg1, .slice A1 n1 c1] 24
  clear hb1 I1 K0 K1
  go_wp2_with fail
  generalize hgg : w1.heap.size = gg at K2 zr y1 y2 y3 y4 y5 y6
  generalize w1.alloc (.cells #[.bool neg1, .slice A1 n1 c1] 24) = w2 at K2 ⊢
  clear hgg
  obtain ⟨_, _, _, _, _⟩ := (K2.blk (g := w.heap.size) (by repeat constructor)).two
  obtain ⟨_, _, _, _, _⟩ := (K2.blk (g := w.heap.size + 1) (by repeat constructor)).two
  obtain ⟨_, _, _, _, _⟩ := (K2.blk (g := gg) (by repeat constructor)).two
  by_cases hG1 : G = 1
  · have HC : Hid (icmp (G : Int) 1 = 0) := Lib.hid ((icmp_facts _ _).2.2 (by omega))
    have HUX1 : Hid (x = u) := Lib.hid (by rw [← HU.out, hG1]; exact (Int.tdiv_one x).symm)
    have HVY1 : Hid (y = v) := Lib.hid (by rw [← HV.out, hG1]; exact (Int.tdiv_one y).symm)
    clear hG1
    go_region_held3 (fun w' => w'.cell? ⟨w.heap.size, 0, none⟩ = some (.bool neg) ∧ w'.cell? ⟨w.heap.size, 1, none⟩ = some (.slice A n c) ∧ w'.cell? ⟨w.heap.size + 1, 0, none⟩ = some (.bool neg') ∧ w'.cell? ⟨w.heap.size + 1, 1, none⟩ = some (.slice A' n' c') ∧ w'.cell? ⟨gg, 0, none⟩ = some (.bool neg1) ∧ w'.cell? ⟨gg, 1, none⟩ = some (.slice A1 n1 c1))
      (go_keep)
      (first
        | (go_at_call 215; apply Calls.withMo (w0 := w); (case K => with_reducible repeat (first | exact K2 | apply Mo.drew | apply Mo.drewN)); intro KX; (with_reducible refine (ex_of_any 1 _ (by decide)).mono ?_); rintro e3 w3 ⟨neg3, A3, n3, c3, rfl, I3, hb3⟩; (with_reducible have K3 := (KX.next hb3).int I3); have hn3 : n3 ≤ 1 := int_len I3 (by decide); have Q3x := (K3.blk (g := w.heap.size) (by repeat constructor)).two; obtain ⟨qa3x, qb3x, qc3x, qd3x, qe3x⟩ := Q3x; have Q3y := (K3.blk (g := w.heap.size + 1) (by repeat constructor)).two; obtain ⟨qa3y, qb3y, qc3y, qd3y, qe3y⟩ := Q3y; have Q3g := (K3.blk (g := gg) (by repeat constructor)).two; obtain ⟨qa3g, qb3g, qc3g, qd3g, qe3g⟩ := Q3g; have Q3r := (K3.blk (g := w.heap.size + 1 + 1) (by repeat constructor)).four; obtain ⟨⟨qa3r, qb3r, qc3r, qd3r⟩, ⟨qe3r, qf3r, qg3r, qh3r⟩, qi3r⟩ := Q3r; clear KX I3 hb3)
        | (go_at_call 220; apply Calls.withMo (w0 := w); (case K => with_reducible repeat (first | exact K3 | apply Mo.drew | apply Mo.drewN)); intro KX; (with_reducible refine (ex_cmp_of neg1 neg3 A1 A3 n1 c1 n3 c3 (G : Int) 1 0 _ ?_ ?_ (by omega) (by omega) HC).mono ?_); (with_reducible exact KX.at_ (by simp)); (with_reducible exact KX.at_ (by simp)); rintro e4 w4 ⟨rfl, hb4⟩; (with_reducible have K4 := (KX.next hb4)); have Q4x := (K4.blk (g := w.heap.size) (by repeat constructor)).two; obtain ⟨qa4x, qb4x, qc4x, qd4x, qe4x⟩ := Q4x; have Q4y := (K4.blk (g := w.heap.size + 1) (by repeat constructor)).two; obtain ⟨qa4y, qb4y, qc4y, qd4y, qe4y⟩ := Q4y; have Q4g := (K4.blk (g := gg) (by repeat constructor)).two; obtain ⟨qa4g, qb4g, qc4g, qd4g, qe4g⟩ := Q4g; have Q4r := (K4.blk (g := w.heap.size + 1 + 1) (by repeat constructor)).four; obtain ⟨⟨qa4r, qb4r, qc4r, qd4r⟩, ⟨qe4r, qf4r, qg4r, qh4r⟩, qi4r⟩ := Q4r; clear KX hb4))
    rw [HUX1.out, HVY1.out] at K4
    go_wp2_with fail
    refine (ex_sign_of neg' A' n' c' v (-1) _ (K4.at_ (by simp)) HS).mono ?_
    rintro e7 w7 ⟨rfl, hb7⟩
    have K7 := (K4.pick (L' := [(w.heap.size, [.bool neg, .slice A n c]), (w.heap.size + 1, [.bool neg', .slice A' n' c']), (w.heap.size + 1 + 1, [.bool false, .slice none 0 0, .bool false, .slice none 0 0])]) (l' := [(neg, A, n, c, u), (neg', A', n', c', v)]) (by simp) (by simp)).next hb7
    clear hb7 K4
    obtain ⟨qa7x, qb7x, qc7x, qd7x, qe7x⟩ := (K7.blk (g := w.heap.size) (by repeat constructor)).two
    obtain ⟨qa7y, qb7y, qc7y, qd7y, qe7y⟩ := (K7.blk (g := w.heap.size + 1) (by repeat constructor)).two
    obtain ⟨⟨qa7r, qb7r, qc7r, qd7r⟩, ⟨qe7r, qf7r, qg7r, qh7r⟩, qi7r⟩ := (K7.blk (g := w.heap.size + 1 + 1) (by repeat constructor)).four
    go_wp2_with fail
    go_region_with (first
        | (go_at_call 307; apply Calls.withMo (w0 := w); (case K => with_reducible repeat (first | exact K7 | apply Mo.drew | apply Mo.drewN)); intro KX; (with_reducible refine (owr_turned_any neg A n c u r.num _ ?_ (by omega) HE1).mono ?_); (with_reducible exact KX.at_ (by simp)); rintro e8 w8 ⟨neg8, A8, n8, c8, rfl, I8, O8, hb8⟩; have F8 := K7.fresh O8; (with_reducible have K8 := (KX.call1 hb8 O8).int I8); have Q8x := (K8.blk (g := w.heap.size) (by repeat constructor)).two; obtain ⟨qa8x, qb8x, qc8x, qd8x, qe8x⟩ := Q8x; have Q8y := (K8.blk (g := w.heap.size + 1) (by repeat constructor)).two; obtain ⟨qa8y, qb8y, qc8y, qd8y, qe8y⟩ := Q8y; have Q8r := (K8.blk (g := w.heap.size + 1 + 1) (by repeat constructor)).four; obtain ⟨⟨qa8r, qb8r, qc8r, qd8r⟩, ⟨qe8r, qf8r, qg8r, qh8r⟩, qi8r⟩ := Q8r; clear KX I8 O8 hb8)
        | (go_at_call 307; apply Calls.withMo (w0 := w); (case K => with_reducible repeat (first | exact K8 | apply Mo.drew | apply Mo.drewN)); intro KX; (with_reducible refine (owr_turned_any neg' A' n' c' v (r.den : Int) _ ?_ (by omega) HE2).mono ?_); (with_reducible exact KX.at_ (by simp)); rintro e9 w9 ⟨neg9, A9, n9, c9, rfl, I9, O9, hb9⟩; have F9 := K8.fresh O9; (with_reducible have K9 := (KX.call1 hb9 O9).int I9); have Q9x := (K9.blk (g := w.heap.size) (by repeat constructor)).two; obtain ⟨qa9x, qb9x, qc9x, qd9x, qe9x⟩ := Q9x; have Q9y := (K9.blk (g := w.heap.size + 1) (by repeat constructor)).two; obtain ⟨qa9y, qb9y, qc9y, qd9y, qe9y⟩ := Q9y; have Q9r := (K9.blk (g := w.heap.size + 1 + 1) (by repeat constructor)).four; obtain ⟨⟨qa9r, qb9r, qc9r, qd9r⟩, ⟨qe9r, qf9r, qg9r, qh9r⟩, qi9r⟩ := Q9r; clear KX I9 O9 hb9))
    all_goals
     have KX := (K9.pick (L' := [(w.heap.size, [.bool neg, .slice A n c]), (w.heap.size + 1, [.bool neg', .slice A' n' c']), (w.heap.size + 1 + 1, [.bool false, .slice none 0 0, .bool false, .slice none 0 0])]) (l' := [(neg8, A8, n8, c8, r.num), (neg9, A9, n9, c9, (r.den : Int))]) (by simp) (by simp)).set2 (by simp <;> omega) neg8 A8 n8 c8
     have KY := (KX.pick (L' := [(w.heap.size + 1, [.bool neg', .slice A' n' c']), (w.heap.size + 1 + 1, [.bool false, .slice none 0 0, .bool false, .slice none 0 0])]) (l' := [(neg8, A8, n8, c8, r.num), (neg9, A9, n9, c9, (r.den : Int))]) (by simp) (by simp)).set2 (by simp <;> omega) neg9 A9 n9 c9
     go_wp2_with fail
     have KE := (KY.pick (L' := [(w.heap.size + 1 + 1, [.bool false, .slice none 0 0, .bool false, .slice none 0 0])]) (l' := [(neg8, A8, n8, c8, r.num), (neg9, A9, n9, c9, (r.den : Int))]) (by simp) (by simp)).set4 (by simp <;> omega) neg8 A8 n8 c8 neg9 A9 n9 c9
     exact bodyPost_ret (v := .agg #[.bool neg8, .slice A8 n8 c8, .bool neg9, .slice A9 n9 c9]) (by simp [results, Tryz.results250, go_sem, qa9r, qb9r, qc9r, qd9r]) rfl ⟨_, _, _, _, _, _, _, _, rfl, KE.at_ (by simp), KE.at_ (by simp), KE.own2 1 0 rfl rfl (by decide), oneOf_new (F8 _ (by simp)) (F9 _ (by simp)), KE.1⟩
  · obtain ⟨cv, hcv⟩ : ∃ cv, icmp (G : Int) 1 = cv := ⟨_, rfl⟩
    have hcv0 : cv ≠ 0 := by
      rw [← hcv]
      unfold icmp
      split
      · decide
      · split
        · decide
        · omega
    have HC := Lib.hid hcv
    have hcv1 : (cv == 0) = false := by rw [beq_eq_false_iff_ne]; exact hcv0
    clear hcv hG1
    go_region_held3 (fun w' => w'.cell? ⟨w.heap.size, 0, none⟩ = some (.bool neg) ∧ w'.cell? ⟨w.heap.size, 1, none⟩ = some (.slice A n c) ∧ w'.cell? ⟨w.heap.size + 1, 0, none⟩ = some (.bool neg') ∧ w'.cell? ⟨w.heap.size + 1, 1, none⟩ = some (.slice A' n' c') ∧ w'.cell? ⟨gg, 0, none⟩ = some (.bool neg1) ∧ w'.cell? ⟨gg, 1, none⟩ = some (.slice A1 n1 c1))
      (go_keep)
      (first
        | (go_at_call 215; apply Calls.withMo (w0 := w); (case K => with_reducible repeat (first | exact K2 | apply Mo.drew | apply Mo.drewN)); intro KX; (with_reducible refine (ex_of_any 1 _ (by decide)).mono ?_); rintro e3 w3 ⟨neg3, A3, n3, c3, rfl, I3, hb3⟩; (with_reducible have K3 := (KX.next hb3).int I3); have hn3 : n3 ≤ 1 := int_len I3 (by decide); have Q3x := (K3.blk (g := w.heap.size) (by repeat constructor)).two; obtain ⟨qa3x, qb3x, qc3x, qd3x, qe3x⟩ := Q3x; have Q3y := (K3.blk (g := w.heap.size + 1) (by repeat constructor)).two; obtain ⟨qa3y, qb3y, qc3y, qd3y, qe3y⟩ := Q3y; have Q3g := (K3.blk (g := gg) (by repeat constructor)).two; obtain ⟨qa3g, qb3g, qc3g, qd3g, qe3g⟩ := Q3g; have Q3r := (K3.blk (g := w.heap.size + 1 + 1) (by repeat constructor)).four; obtain ⟨⟨qa3r, qb3r, qc3r, qd3r⟩, ⟨qe3r, qf3r, qg3r, qh3r⟩, qi3r⟩ := Q3r; clear KX I3 hb3)
        | (go_at_call 220; apply Calls.withMo (w0 := w); (case K => with_reducible repeat (first | exact K3 | apply Mo.drew | apply Mo.drewN)); intro KX; (with_reducible refine (ex_cmp_of neg1 neg3 A1 A3 n1 c1 n3 c3 (G : Int) 1 cv _ ?_ ?_ (by omega) (by omega) HC).mono ?_); (with_reducible exact KX.at_ (by simp)); (with_reducible exact KX.at_ (by simp)); rintro e4 w4 ⟨rfl, hb4⟩; (with_reducible have K4 := (KX.next hb4)); have Q4x := (K4.blk (g := w.heap.size) (by repeat constructor)).two; obtain ⟨qa4x, qb4x, qc4x, qd4x, qe4x⟩ := Q4x; have Q4y := (K4.blk (g := w.heap.size + 1) (by repeat constructor)).two; obtain ⟨qa4y, qb4y, qc4y, qd4y, qe4y⟩ := Q4y; have Q4g := (K4.blk (g := gg) (by repeat constructor)).two; obtain ⟨qa4g, qb4g, qc4g, qd4g, qe4g⟩ := Q4g; have Q4r := (K4.blk (g := w.heap.size + 1 + 1) (by repeat constructor)).four; obtain ⟨⟨qa4r, qb4r, qc4r, qd4r⟩, ⟨qe4r, qf4r, qg4r, qh4r⟩, qi4r⟩ := Q4r; clear KX hb4))
    go_wp2_with fail
    refine (ow_Divide_any neg neg1 A A1 n c n1 c1 x (G : Int) _ (K4.at_ (by simp)) (K4.at_ (by simp)) (by omega) (by omega) HY.out).mono ?_
    rintro e5 w5 ⟨neg5, A5, n5, c5, nfg5, B5, m5, d5, rfl, I5, _, O5, hb5⟩
    have F5 := K4.fresh O5
    rw [HU.out] at I5
    have hn5 : n5 ≤ 1000000 := Nat.le_trans (isInt_len_mono I5 hx HUX.out) hn
    have K5 := ((K4.pick (L' := [(w.heap.size, [.bool neg, .slice A n c]), (w.heap.size + 1, [.bool neg', .slice A' n' c']), (gg, [.bool neg1, .slice A1 n1 c1]), (w.heap.size + 1 + 1, [.bool false, .slice none 0 0, .bool false, .slice none 0 0])]) (l' := [(neg', A', n', c', y), (neg1, A1, n1, c1, (G : Int))]) (by simp) (by simp)).call2 hb5 O5).int I5
    obtain ⟨_, _, _, _, _⟩ := (K5.blk (g := w.heap.size) (by repeat constructor)).two
    obtain ⟨_, _, _, _, _⟩ := (K5.blk (g := w.heap.size + 1) (by repeat constructor)).two
    obtain ⟨_, _, _, _, _⟩ := (K5.blk (g := gg) (by repeat constructor)).two
    have K6 := K5.set2 (by simp <;> omega) neg5 A5 n5 c5
    clear hb5 I5 O5 K4 K5
    go_wp2_with fail
    refine (ow_Divide_any neg' neg1 A' A1 n' c' n1 c1 y (G : Int) _ (K6.at_ (by simp)) (K6.at_ (by simp)) (by omega) (by omega) HY.out).mono ?_
    rintro e6 w6 ⟨neg6, A6, n6, c6, nfg6, B6, m6, d6, rfl, I6, _, O6, hb6⟩
    have F6 := K6.fresh O6
    rw [HV.out] at I6
    have hn6 : n6 ≤ 1000000 := Nat.le_trans (isInt_len_mono I6 hy HVY.out) hn'
    have K8 := ((K6.pick (L' := [(w.heap.size + 1, [.bool neg', .slice A' n' c']), (w.heap.size, [.bool neg5, .slice A5 n5 c5]), (w.heap.size + 1 + 1, [.bool false, .slice none 0 0, .bool false, .slice none 0 0])]) (l' := [(neg5, A5, n5, c5, u)]) (by simp) (by simp)).call2 hb6 O6).int I6
    obtain ⟨qa8x, qb8x, qc8x, qd8x, qe8x⟩ := (K8.blk (g := w.heap.size) (by repeat constructor)).two
    obtain ⟨qa8y, qb8y, qc8y, qd8y, qe8y⟩ := (K8.blk (g := w.heap.size + 1) (by repeat constructor)).two
    have K9 := K8.set2 (by simp <;> omega) neg6 A6 n6 c6
    clear hb6 I6 O6 K6 K8
    go_wp2_with fail
    refine (ex_sign_of neg6 A6 n6 c6 v (-1) _ (K9.at_ (by simp)) HS).mono ?_
    rintro e7 w7 ⟨rfl, hb7⟩
    have K7 := (K9.pick (L' := [(w.heap.size, [.bool neg5, .slice A5 n5 c5]), (w.heap.size + 1, [.bool neg6, .slice A6 n6 c6]), (w.heap.size + 1 + 1, [.bool false, .slice none 0 0, .bool false, .slice none 0 0])]) (l' := [(neg5, A5, n5, c5, u), (neg6, A6, n6, c6, v)]) (by simp) (by simp)).next hb7
    clear hb7 K9
    obtain ⟨qa7x, qb7x, qc7x, qd7x, qe7x⟩ := (K7.blk (g := w.heap.size) (by repeat constructor)).two
    obtain ⟨qa7y, qb7y, qc7y, qd7y, qe7y⟩ := (K7.blk (g := w.heap.size + 1) (by repeat constructor)).two
    obtain ⟨⟨qa7r, qb7r, qc7r, qd7r⟩, ⟨qe7r, qf7r, qg7r, qh7r⟩, qi7r⟩ := (K7.blk (g := w.heap.size + 1 + 1) (by repeat constructor)).four
    go_wp2_with fail
    go_region_with (first
        | (go_at_call 307; apply Calls.withMo (w0 := w); (case K => with_reducible repeat (first | exact K7 | apply Mo.drew | apply Mo.drewN)); intro KX; (with_reducible refine (owr_turned_any neg5 A5 n5 c5 u r.num _ ?_ (by omega) HE1).mono ?_); (with_reducible exact KX.at_ (by simp)); rintro e8 w8 ⟨neg8, A8, n8, c8, rfl, I8, O8, hb8⟩; have F8 := K7.fresh O8; (with_reducible have K8 := (KX.call1 hb8 O8).int I8); have Q8x := (K8.blk (g := w.heap.size) (by repeat constructor)).two; obtain ⟨qa8x, qb8x, qc8x, qd8x, qe8x⟩ := Q8x; have Q8y := (K8.blk (g := w.heap.size + 1) (by repeat constructor)).two; obtain ⟨qa8y, qb8y, qc8y, qd8y, qe8y⟩ := Q8y; have Q8r := (K8.blk (g := w.heap.size + 1 + 1) (by repeat constructor)).four; obtain ⟨⟨qa8r, qb8r, qc8r, qd8r⟩, ⟨qe8r, qf8r, qg8r, qh8r⟩, qi8r⟩ := Q8r; clear KX I8 O8 hb8)
        | (go_at_call 307; apply Calls.withMo (w0 := w); (case K => with_reducible repeat (first | exact K8 | apply Mo.drew | apply Mo.drewN)); intro KX; (with_reducible refine (owr_turned_any neg6 A6 n6 c6 v (r.den : Int) _ ?_ (by omega) HE2).mono ?_); (with_reducible exact KX.at_ (by simp)); rintro e9 w9 ⟨neg9, A9, n9, c9, rfl, I9, O9, hb9⟩; have F9 := K8.fresh O9; (with_reducible have K9 := (KX.call1 hb9 O9).int I9); have Q9x := (K9.blk (g := w.heap.size) (by repeat constructor)).two; obtain ⟨qa9x, qb9x, qc9x, qd9x, qe9x⟩ := Q9x; have Q9y := (K9.blk (g := w.heap.size + 1) (by repeat constructor)).two; obtain ⟨qa9y, qb9y, qc9y, qd9y, qe9y⟩ := Q9y; have Q9r := (K9.blk (g := w.heap.size + 1 + 1) (by repeat constructor)).four; obtain ⟨⟨qa9r, qb9r, qc9r, qd9r⟩, ⟨qe9r, qf9r, qg9r, qh9r⟩, qi9r⟩ := Q9r; clear KX I9 O9 hb9))
    all_goals
     have KX := (K9.pick (L' := [(w.heap.size, [.bool neg5, .slice A5 n5 c5]), (w.heap.size + 1, [.bool neg6, .slice A6 n6 c6]), (w.heap.size + 1 + 1, [.bool false, .slice none 0 0, .bool false, .slice none 0 0])]) (l' := [(neg8, A8, n8, c8, r.num), (neg9, A9, n9, c9, (r.den : Int))]) (by simp) (by simp)).set2 (by simp <;> omega) neg8 A8 n8 c8
     have KY := (KX.pick (L' := [(w.heap.size + 1, [.bool neg6, .slice A6 n6 c6]), (w.heap.size + 1 + 1, [.bool false, .slice none 0 0, .bool false, .slice none 0 0])]) (l' := [(neg8, A8, n8, c8, r.num), (neg9, A9, n9, c9, (r.den : Int))]) (by simp) (by simp)).set2 (by simp <;> omega) neg9 A9 n9 c9
     go_wp2_with fail
     have KE := (KY.pick (L' := [(w.heap.size + 1 + 1, [.bool false, .slice none 0 0, .bool false, .slice none 0 0])]) (l' := [(neg8, A8, n8, c8, r.num), (neg9, A9, n9, c9, (r.den : Int))]) (by simp) (by simp)).set4 (by simp <;> omega) neg8 A8 n8 c8 neg9 A9 n9 c9
     exact bodyPost_ret (v := .agg #[.bool neg8, .slice A8 n8 c8, .bool neg9, .slice A9 n9 c9]) (by simp [results, Tryz.results250, go_sem, qa9r, qb9r, qc9r, qd9r]) rfl ⟨_, _, _, _, _, _, _, _, rfl, KE.at_ (by simp), KE.at_ (by simp), KE.own2 1 0 rfl rfl (by decide), oneOf_new (F8 _ (by simp)) (F9 _ (by simp)), KE.1⟩
theorem owr_low_any (neg neg' : Bool) (A A' : Option Addr) (n c n' c' : Nat) (x y : Int) (r : Rat) (w : World) (hx : IsInt w neg A n c x) (hy : IsInt w neg' A' n' c' y) (hn : n ≤ 1000000) (hn' : n' ≤ 1000000) (h0 : y ≠ 0) (hr : Hid (Rat.divInt x y = r)) (B : Nat) (hB : B ≤ w.heap.size) (hO : Owns B w [(A, n, c), (A', n', c')]) :
  Calls Tryz.prog 250 #[.agg #[.bool neg, .slice A n c], .agg #[.bool neg', .slice A' n' c']] w (RetLow B w (A, n, c) (A', n', c') r) := by
 rcases Int.lt_or_gt_of_ne h0 with h | h
 ·exact owr_low_neg neg neg' A A' n c n' c' x y r w hx hy hn hn' h hr B hB hO
 ·exact owr_low_pos neg neg' A A' n c n' c' x y r w hx hy hn hn' h hr B hB hO
end Go.Proofs.YtgekmbfmfiikkaaGreatDoor
