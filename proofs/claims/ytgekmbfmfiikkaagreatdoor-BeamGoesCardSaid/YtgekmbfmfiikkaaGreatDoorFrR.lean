/-
  The references' fractions (polestarref02): with the other sign, lowest terms, the four operations, held against one another.
-/
import Derived.Test.YtgekmbfmfiikkaaGreatDoorCom
set_option maxHeartbeats 3200000
set_option maxRecDepth 100000
namespace Go.Proofs.YtgekmbfmfiikkaaGreatDoor
open Go.RowKit
def RetFr (W : World) (x : Rat) (e : Ending) (w' : World) : Prop :=
 ∃ (neg : Bool) (A : Option Addr) (n c : Nat) (neg' : Bool) (A' : Option Addr) (n' c' : Nat), e = .returned (.agg #[.bool neg, .slice A n c, .bool neg', .slice A' n' c']) ∧ IsInt w' neg A n c x.num ∧ IsInt w' neg' A' n' c' (x.den : Int) ∧ Below W.heap.size W w'
theorem bitLen_le {w : World} {neg : Bool} {A : Option Addr} {n c : Nat} {z : Int} (h : IsInt w neg A n c z) {l : Nat} (hl : bitLen z.natAbs = l) : l ≤ 32 * n := by
 have h1 := isInt_lt h
 rw [show Lm.B ^ n = 2 ^ (32 * n) by rw [Nat.pow_mul]] at h1
 rw [← hl]
 unfold bitLen
 split
 ·omega
 ·rename_i h0
  have := (Nat.log2_lt h0).2 h1
  omega
theorem int_len {w : World} {neg : Bool} {A : Option Addr} {n c : Nat} {z : Int} (h : IsInt w neg A n c z) {m : Nat} (hz : z.natAbs < 2 ^ (32 * m)) : n ≤ m := isInt_len_le h (by rw [show Lm.B ^ m = 2 ^ (32 * m) by rw [Nat.pow_mul]]; exact hz)
theorem ref2_turned_any (neg : Bool) (A : Option Addr) (n c : Nat) (z v : Int) (w : World) (hx : IsInt w neg A n c z) (hn : n ≤ 1000000000) (hv : Hid (-z = v)) :
  Calls Tryz.prog 350 #[.agg #[.bool neg, .slice A n c]] w (RetInt w v) := by
 have K0 := (((Mm.nil w).int hx).var (g := w.heap.size) rfl [.bool neg, .slice A n c] 24).var (g := w.heap.size + 1) (by simp) [.bool false, .slice none 0 0] 24
 go_enter Tryz.func350, Tryz.ntmps350
 go_wp2_with fail
 generalize (w.alloc (.cells #[.bool neg, .slice A n c] 24)).alloc (.cells #[.bool false, .slice none 0 0] 24) = w0 at K0 ⊢
 obtain ⟨_, _, _, _, _⟩ := (K0.blk (g := w.heap.size) (by repeat constructor)).two
 clear hx
 go_region_held3 (fun w' => w'.cell? ⟨w.heap.size, 0, none⟩ = some (.bool neg) ∧ w'.cell? ⟨w.heap.size, 1, none⟩ = some (.slice A n c))
  (go_keep)
  (first
   | (go_at_call 284; apply Calls.withMm (w0 := w); (case K => with_reducible repeat (first | exact K0 | apply Mm.drew | apply Mm.drewN)); intro KX; (with_reducible refine (ref_of_any 0 _ (by decide)).mono ?_); rintro e1 w1 ⟨neg1, A1, n1, c1, rfl, I1, hb1⟩; (with_reducible have K1 := (KX.next hb1).int I1); have hn1 : n1 ≤ 1 := int_len I1 (by decide); have Q1x := (K1.blk (g := w.heap.size) (by repeat constructor)).two; obtain ⟨qa1x, qb1x, qc1x, qd1x, qe1x⟩ := Q1x; have Q1r := (K1.blk (g := w.heap.size + 1) (by repeat constructor)).two; obtain ⟨qa1r, qb1r, qc1r, qd1r, qe1r⟩ := Q1r; clear KX I1 hb1)
   | (go_at_call 334; apply Calls.withMm (w0 := w); (case K => with_reducible repeat (first | exact K1 | apply Mm.drew | apply Mm.drewN)); intro KX; (with_reducible refine (ref_minus_any neg1 neg A1 A n1 c1 n c 0 z _ ?_ ?_ (by omega) hn).mono ?_); (with_reducible exact KX.at_ (by simp)); (with_reducible exact KX.at_ (by simp)); rintro e2 w2 ⟨neg2, A2, n2, c2, rfl, I2, hb2⟩; (with_reducible have K2 := (KX.next hb2).int I2); have Q2x := (K2.blk (g := w.heap.size) (by repeat constructor)).two; obtain ⟨qa2x, qb2x, qc2x, qd2x, qe2x⟩ := Q2x; have Q2r := (K2.blk (g := w.heap.size + 1) (by repeat constructor)).two; obtain ⟨qa2r, qb2r, qc2r, qd2r, qe2r⟩ := Q2r; clear KX I2 hb2))
 go_wp2_with fail
 have HE : (0 : Int) - z = v := by rw [Int.zero_sub]; exact hv.out
 rw [HE] at K2
 have KE := (K2.pick (L' := [(w.heap.size + 1, [.bool false, .slice none 0 0])]) (l' := [(neg2, A2, n2, c2, v)]) (by simp) (by simp)).set2 (by simp <;> omega) neg2 A2 n2 c2
 exact bodyPost_ret (v := .agg #[.bool neg2, .slice A2 n2 c2]) (by simp [results, Tryz.results350, go_sem, qa2r, qb2r]) rfl ⟨neg2, A2, n2, c2, rfl, KE.at_ (by simp), KE.1⟩
theorem ref2_common_any (neg neg' : Bool) (A A' : Option Addr) (n c n' c' : Nat) (x y : Int) (G : Nat) (w : World) (hx : IsInt w neg A n c x) (hy : IsInt w neg' A' n' c' y) (hn : n ≤ 1000000) (hn' : n' ≤ 1000000) (hG : Hid (Nat.gcd x.natAbs y.natAbs = G)) :
  Calls Tryz.prog 332 #[.agg #[.bool neg, .slice A n c], .agg #[.bool neg', .slice A' n' c']] w (RetInt w (G : Int)) := by
 have K0 := ((((Mm.nil w).int hx).int hy).var (g := w.heap.size) rfl [.bool neg, .slice A n c] 24).var (g := w.heap.size + 1) (by simp) [.bool neg', .slice A' n' c'] 24 |>.var (g := w.heap.size + 1 + 1) (by simp) [.bool false, .slice none 0 0] 24
 obtain ⟨lx, hlx⟩ : ∃ l, bitLen x.natAbs = l := ⟨_, rfl⟩
 obtain ⟨ly, hly⟩ : ∃ l, bitLen y.natAbs = l := ⟨_, rfl⟩
 have HLX := Lib.hid hlx
 have HLY := Lib.hid hly
 have hlxb := bitLen_le hx hlx
 have hlyb := bitLen_le hy hly
 clear hlx hly
 go_enter Tryz.func332, Tryz.ntmps332
 go_wp2_with fail
 generalize ((w.alloc (.cells #[.bool neg, .slice A n c] 24)).alloc (.cells #[.bool neg', .slice A' n' c'] 24)).alloc (.cells #[.bool false, .slice none 0 0] 24) = w0 at K0 ⊢
 obtain ⟨qa0x, qb0x, qc0x, qd0x, qe0x⟩ := (K0.blk (g := w.heap.size) (by repeat constructor)).two
 obtain ⟨qa0y, qb0y, qc0y, qd0y, qe0y⟩ := (K0.blk (g := w.heap.size + 1) (by repeat constructor)).two
 clear hx hy
 go_region_held3 (fun w' => w'.cell? ⟨w.heap.size, 0, none⟩ = some (.bool neg) ∧ w'.cell? ⟨w.heap.size, 1, none⟩ = some (.slice A n c) ∧ w'.cell? ⟨w.heap.size + 1, 0, none⟩ = some (.bool neg') ∧ w'.cell? ⟨w.heap.size + 1, 1, none⟩ = some (.slice A' n' c'))
  (go_keep)
  (first
   | (go_at_call 285; apply Calls.withMm (w0 := w); (case K => with_reducible repeat (first | exact K0 | apply Mm.drew | apply Mm.drewN)); intro KX; (with_reducible refine (ref_bits_of neg A n c x lx _ ?_ (by omega) HLX).mono ?_); (with_reducible exact KX.at_ (by simp)); rintro e1 w1 ⟨rfl, hb1⟩; (with_reducible have K1 := (KX.next hb1)); have Q1x := (K1.blk (g := w.heap.size) (by repeat constructor)).two; obtain ⟨qa1x, qb1x, qc1x, qd1x, qe1x⟩ := Q1x; have Q1y := (K1.blk (g := w.heap.size + 1) (by repeat constructor)).two; obtain ⟨qa1y, qb1y, qc1y, qd1y, qe1y⟩ := Q1y; clear KX hb1)
   | (go_at_call 285; apply Calls.withMm (w0 := w); (case K => with_reducible repeat (first | exact K1 | apply Mm.drew | apply Mm.drewN)); intro KX; (with_reducible refine (ref_bits_of neg' A' n' c' y ly _ ?_ (by omega) HLY).mono ?_); (with_reducible exact KX.at_ (by simp)); rintro e2 w2 ⟨rfl, hb2⟩; (with_reducible have K2 := (KX.next hb2)); have Q2x := (K2.blk (g := w.heap.size) (by repeat constructor)).two; obtain ⟨qa2x, qb2x, qc2x, qd2x, qe2x⟩ := Q2x; have Q2y := (K2.blk (g := w.heap.size + 1) (by repeat constructor)).two; obtain ⟨qa2y, qb2y, qc2y, qd2y, qe2y⟩ := Q2y; clear KX hb2))
 clear HLX HLY hlxb hlyb K0 K1
 go_upto_if 11 with (fail)
 go_cut [11] from 12 to 13 (fun _ wx => ∃ (x0 y0 : Bool) (X Y : Option Addr) (n1 c1 n2 c2 : Nat) (x1 y1 : Int), Mm w [(w.heap.size, [.bool x0, .slice X n1 c1]), (w.heap.size + 1, [.bool y0, .slice Y n2 c2]), (w.heap.size + 1 + 1, [.bool false, .slice none 0 0])] [(x0, X, n1, c1, x1), (y0, Y, n2, c2, y1)] wx ∧ n1 ≤ 1000000 ∧ n2 ≤ 1000000 ∧ Hid (Nat.gcd x1.natAbs y1.natAbs = G))
 case first =>
  by_cases hlt : lx < ly
  ·go_wp2_with fail
   go_meet
   have KA := (K2.pick (L' := [(w.heap.size, [.bool neg, .slice A n c]), (w.heap.size + 1, [.bool neg', .slice A' n' c']), (w.heap.size + 1 + 1, [.bool false, .slice none 0 0])]) (l' := [(neg', A', n', c', y), (neg, A, n, c, x)]) (by simp) (by simp)).set2 (by simp <;> omega) neg' A' n' c'
   have KB := (KA.pick (L' := [(w.heap.size + 1, [.bool neg', .slice A' n' c']), (w.heap.size, [.bool neg', .slice A' n' c']), (w.heap.size + 1 + 1, [.bool false, .slice none 0 0])]) (l' := [(neg', A', n', c', y), (neg, A, n, c, x)]) (by simp) (by simp)).set2 (by simp <;> omega) neg A n c
   exact ⟨neg', neg, A', A, n', c', n, c, y, x, KB.pick (by simp) (by simp), hn', hn, Lib.hid (by rw [Nat.gcd_comm]; exact hG.out)⟩
  ·go_wp2_with fail
   go_meet
   exact ⟨neg, neg', A, A', n, c, n', c', x, y, K2.pick (by simp) (by simp), hn, hn', hG⟩
 case rest =>
  obtain ⟨x0, y0, X, Y, n1, c1, n2, c2, x1, y1, KC, h1, h2, HGC⟩ := hcut
  clear K2 hG hn hn' qa0x qb0x qc0x qd0x qe0x qa0y qb0y qc0y qd0y qe0y qa1x qb1x qc1x qd1x qe1x qa1y qb1y qc1y qd1y qe1y qa2x qb2x qc2x qd2x qe2x qa2y qb2y qc2y qd2y qe2y
  obtain ⟨_, _, _, _, _⟩ := (KC.blk (g := w.heap.size) (by repeat constructor)).two
  obtain ⟨_, _, _, _, _⟩ := (KC.blk (g := w.heap.size + 1) (by repeat constructor)).two
  by_cases hy0 : y1 = 0
  ·have HS : Hid (y1.sign = 0) := Lib.hid (by rw [hy0]; rfl)
   clear hy0
   go_wp2_with fail
   refine (ref_sign_of y0 Y n2 c2 y1 0 _ (KC.at_ (by simp)) HS).mono ?_
   rintro e3 w3 ⟨rfl, hb3⟩
   have K3 := KC.next hb3
   clear hb3 KC
   obtain ⟨qa4x, qb4x, qc4x, qd4x, qe4x⟩ := (K3.blk (g := w.heap.size) (by repeat constructor)).two
   obtain ⟨qa4y, qb4y, qc4y, qd4y, qe4y⟩ := (K3.blk (g := w.heap.size + 1) (by repeat constructor)).two
   go_wp2_with fail
   refine (ref_Common_any x0 y0 X Y n1 c1 n2 c2 x1 y1 G _ (K3.at_ (by simp)) (K3.at_ (by simp)) h1 h2 HGC).mono ?_
   rintro e4 w4 ⟨neg4, A4, n4, c4, rfl, I4, hb4⟩
   have K4 := (K3.next hb4).int I4
   clear hb4 I4 K3
   obtain ⟨qa5r, qb5r, _, _, _⟩ := (K4.blk (g := w.heap.size + 1 + 1) (by repeat constructor)).two
   go_wp2_with fail
   have KE := (K4.pick (L' := [(w.heap.size + 1 + 1, [.bool false, .slice none 0 0])]) (l' := [(neg4, A4, n4, c4, (G : Int))]) (by simp) (by simp)).set2 (by simp <;> omega) neg4 A4 n4 c4
   exact bodyPost_ret (v := .agg #[.bool neg4, .slice A4 n4 c4]) (by simp [results, Tryz.results332, go_sem, qa5r, qb5r]) rfl ⟨neg4, A4, n4, c4, rfl, KE.at_ (by simp), KE.1⟩
  ·obtain ⟨s, hs⟩ : ∃ s, y1.sign = s := ⟨_, rfl⟩
   have hs0 : (s == 0) = false := by
    rw [beq_eq_false_iff_ne, ← hs]
    exact fun h => hy0 (Int.sign_eq_zero_iff_zero.1 h)
   have HS := Lib.hid hs
   have HY := Lib.hid hy0
   obtain ⟨l2, hl2⟩ : ∃ l, bitLen y1.natAbs = l := ⟨_, rfl⟩
   have HL2 := Lib.hid hl2
   have HG2 : Hid (Nat.gcd y1.natAbs (x1.tmod y1).natAbs = G) := Lib.hid (by rw [Int.natAbs_tmod, Nat.gcd_comm, ← Nat.gcd_rec, Nat.gcd_comm]; exact HGC.out)
   have hl2b := bitLen_le (KC.at_ (neg := y0) (A := Y) (n := n2) (c := c2) (z := y1) (by simp)) hl2
   have HR : Hid ((x1.tmod y1).natAbs ≤ y1.natAbs) := Lib.hid (by rw [Int.natAbs_tmod]; exact Nat.le_of_lt (Nat.mod_lt _ (by omega)))
   clear hs hy0 hl2
   go_wp2_with fail
   refine (ref_sign_of y0 Y n2 c2 y1 s _ (KC.at_ (by simp)) HS).mono ?_
   rintro e3 w3 ⟨rfl, hb3⟩
   have K3 := KC.next hb3
   clear hb3 KC
   obtain ⟨qa4x, qb4x, qc4x, qd4x, qe4x⟩ := (K3.blk (g := w.heap.size) (by repeat constructor)).two
   obtain ⟨qa4y, qb4y, qc4y, qd4y, qe4y⟩ := (K3.blk (g := w.heap.size + 1) (by repeat constructor)).two
   go_wp2_with fail
   refine (ref_Divide_any x0 y0 X Y n1 c1 n2 c2 x1 y1 _ (K3.at_ (by simp)) (K3.at_ (by simp)) (by omega) h2 HY.out).mono ?_
   rintro e4 w4 ⟨negq, Aq, nq, cq, negr, Ar, nr, cr, rfl, Iq, Ir, hb4⟩
   have hnr : nr ≤ 1000000 := Nat.le_trans (isInt_len_mono Ir (K3.at_ (neg := y0) (A := Y) (n := n2) (c := c2) (z := y1) (by simp)) HR.out) h2
   have K4 := (K3.next hb4).int Ir
   obtain ⟨_, _, _, _, _⟩ := (K4.blk (g := w.heap.size) (by repeat constructor)).two
   obtain ⟨_, _, _, _, _⟩ := (K4.blk (g := w.heap.size + 1) (by repeat constructor)).two
   have K5 := (K4.var (g := w4.heap.size) rfl [.bool negq, .slice Aq nq cq] 24).var (g := w4.heap.size + 1) (by simp) [.bool negr, .slice Ar nr cr] 24
   clear hb4 Iq Ir K3 K4
   go_wp2_with fail
   refine (ref_bits_of y0 Y n2 c2 y1 l2 _ (K5.at_ (by simp)) (by omega) HL2).mono ?_
   rintro e6 w6 ⟨rfl, hb6⟩
   have K6 := K5.next hb6
   clear hb6 K5
   obtain ⟨_, _, _, _, _⟩ := (K6.blk (g := w.heap.size) (by repeat constructor)).two
   obtain ⟨_, _, _, _, _⟩ := (K6.blk (g := w.heap.size + 1) (by repeat constructor)).two
   obtain ⟨_, _, _, _, _⟩ := (K6.blk (g := w4.heap.size + 1) (by repeat constructor)).two
   by_cases h1b : l2 = 1
   ·have HG1 : Hid (G = 1) := Lib.hid (by
     have hb := HL2.out
     rw [h1b] at hb
     have h0 : y1.natAbs ≠ 0 := by have := HY.out; omega
     obtain ⟨_, q1, q2⟩ := bitLen_spec h0
     rw [hb] at q1 q2
     have h3 : y1.natAbs = 1 := by omega
     rw [← HG2.out, h3, Nat.gcd_one_left])
    subst h1b
    go_wp2_with fail
    refine (ref_of_any 1 _ (by decide)).mono ?_
    rintro e7 w7 ⟨neg7, A7, n7, c7, rfl, I7, hb7⟩
    have K7 := (K6.next hb7).int I7
    clear hb7 I7 K6
    obtain ⟨qa7r, qb7r, qc7r, qd7r, qe7r⟩ := (K7.blk (g := w.heap.size + 1 + 1) (by repeat constructor)).two
    go_wp2_with fail
    have KE := (K7.pick (L' := [(w.heap.size + 1 + 1, [.bool false, .slice none 0 0])]) (l' := [(neg7, A7, n7, c7, 1)]) (by simp) (by simp)).set2 (by simp) neg7 A7 n7 c7
    exact bodyPost_ret (v := .agg #[.bool neg7, .slice A7 n7 c7]) (by simp [results, Tryz.results332, go_sem, qa7r, qb7r]) rfl ⟨neg7, A7, n7, c7, rfl, by rw [HG1.out]; exact KE.at_ (by simp), KE.1⟩
   ·have hbb : ((l2 : Int) == 1) = false := by rw [beq_eq_false_iff_ne]; omega
    clear h1b
    go_wp2_with fail
    refine (ref_Common_any y0 negr Y Ar n2 c2 nr cr y1 (x1.tmod y1) G _ (K6.at_ (by simp)) (K6.at_ (by simp)) h2 hnr HG2).mono ?_
    rintro e7 w7 ⟨neg7, A7, n7, c7, rfl, I7, hb7⟩
    have K7 := (K6.next hb7).int I7
    clear hb7 I7 K6
    obtain ⟨qa7r, qb7r, qc7r, qd7r, qe7r⟩ := (K7.blk (g := w.heap.size + 1 + 1) (by repeat constructor)).two
    go_wp2_with fail
    have KE := (K7.pick (L' := [(w.heap.size + 1 + 1, [.bool false, .slice none 0 0])]) (l' := [(neg7, A7, n7, c7, (G : Int))]) (by simp) (by simp)).set2 (by simp) neg7 A7 n7 c7
    exact bodyPost_ret (v := .agg #[.bool neg7, .slice A7 n7 c7]) (by simp [results, Tryz.results332, go_sem, qa7r, qb7r]) rfl ⟨neg7, A7, n7, c7, rfl, KE.at_ (by simp), KE.1⟩
theorem ref2_low_neg (neg neg' : Bool) (A A' : Option Addr) (n c n' c' : Nat) (x y : Int) (r : Rat) (w : World) (hx : IsInt w neg A n c x) (hy : IsInt w neg' A' n' c' y) (hn : n ≤ 1000000) (hn' : n' ≤ 1000000) (hs : y < 0) (hr : Hid (Rat.divInt x y = r)) :
  Calls Tryz.prog 292 #[.agg #[.bool neg, .slice A n c], .agg #[.bool neg', .slice A' n' c']] w (RetFr w r) := by
 have K0 := ((((Mm.nil w).int hx).int hy).var (g := w.heap.size) rfl [.bool neg, .slice A n c] 24).var (g := w.heap.size + 1) (by simp) [.bool neg', .slice A' n' c'] 24 |>.var (g := w.heap.size + 1 + 1) (by simp) [.bool false, .slice none 0 0, .bool false, .slice none 0 0] 26
 obtain ⟨G, hG⟩ : ∃ G, Nat.gcd x.natAbs y.natAbs = G := ⟨_, rfl⟩
 have hy0 : y ≠ 0 := by omega
 have hG0 : 0 < G := by rw [← hG]; exact Nat.gcd_pos_of_pos_right _ (by omega)
 have hGy : G ≤ y.natAbs := by rw [← hG]; exact Nat.le_of_dvd (by omega) (Nat.gcd_dvd_right _ _)
 obtain ⟨u, hu⟩ : ∃ u, x.tdiv (G : Int) = u := ⟨_, rfl⟩
 obtain ⟨v, hv⟩ : ∃ v, y.tdiv (G : Int) = v := ⟨_, rfl⟩
 have e1 := low_num (p := x) hy0 hG.symm
 have e2 := low_den (p := x) hy0 hG.symm
 rw [hu, hr.out] at e1
 rw [hv, hr.out] at e2
 unfold tn at e1 e2
 rw [if_pos hs] at e1 e2
 have hrd : 0 < r.den := r.den_pos
 have hux : u.natAbs ≤ x.natAbs := by rw [← hu]; exact tdiv_small x G
 have hvy : v.natAbs ≤ y.natAbs := by rw [← hv]; exact tdiv_small y G
 have HS : Hid (v.sign = -1) := Lib.hid (Int.sign_eq_neg_one_of_neg (by omega))
 have HG := Lib.hid hG
 have HU := Lib.hid hu
 have HV := Lib.hid hv
 have HE1 := Lib.hid e1
 have HE2 := Lib.hid e2
 have HY : Hid ((G : Int) ≠ 0) := Lib.hid (by omega)
 have HGY := Lib.hid hGy
 have HUX := Lib.hid hux
 have HVY := Lib.hid hvy
 clear hG hu hv e1 e2 hr hG0 hy0 hs hrd hGy hux hvy
 go_enter Tryz.func292, Tryz.ntmps292
 go_wp2_with fail
 generalize ((w.alloc (.cells #[.bool neg, .slice A n c] 24)).alloc (.cells #[.bool neg', .slice A' n' c'] 24)).alloc (.cells #[.bool false, .slice none 0 0, .bool false, .slice none 0 0] 26) = w0 at K0 ⊢
 obtain ⟨_, _, _, _, _⟩ := (K0.blk (g := w.heap.size) (by repeat constructor)).two
 obtain ⟨_, _, _, _, _⟩ := (K0.blk (g := w.heap.size + 1) (by repeat constructor)).two
 go_wp2_with fail
 refine (ref2_common_any neg neg' A A' n c n' c' x y G _ (K0.at_ (by simp)) (K0.at_ (by simp)) hn hn' HG).mono ?_
 rintro e1 w1 ⟨neg1, A1, n1, c1, rfl, I1, hb1⟩
 have hn1 : n1 ≤ 1000000 := Nat.le_trans (isInt_len_mono I1 hy (by rw [Int.natAbs_natCast]; exact HGY.out)) hn'
 have K1 := (K0.next hb1).int I1
 obtain ⟨_, _, _, _, _⟩ := (K1.blk (g := w.heap.size) (by repeat constructor)).two
 obtain ⟨_, _, _, _, _⟩ := (K1.blk (g := w.heap.size + 1) (by repeat constructor)).two
 have K2 := K1.var (g := w1.heap.size) rfl [.bool neg1, .slice A1 n1 c1] 24
 clear hb1 I1 K0 K1
 go_wp2_with fail
 refine (ref_Divide_any neg neg1 A A1 n c n1 c1 x (G : Int) _ (K2.at_ (by simp)) (K2.at_ (by simp)) (by omega) hn1 HY.out).mono ?_
 rintro e2 w2 ⟨neg2, A2, n2, c2, neg3, A3, n3, c3, rfl, I2, I3, hb2⟩
 rw [HU.out] at I2
 have hn2 : n2 ≤ 1000000 := Nat.le_trans (isInt_len_mono I2 hx HUX.out) hn
 have K3 := (K2.next hb2).int I2
 obtain ⟨_, _, _, _, _⟩ := (K3.blk (g := w.heap.size + 1) (by repeat constructor)).two
 obtain ⟨_, _, _, _, _⟩ := (K3.blk (g := w1.heap.size) (by repeat constructor)).two
 have zr : w.heap.size + 1 + 1 < w2.heap.size := (K3.blk (g := w.heap.size + 1 + 1) (vs := [.bool false, .slice none 0 0, .bool false, .slice none 0 0]) (by simp)).1
 have z1 : w.heap.size < w2.heap.size := by omega
 have z2 : w1.heap.size < w2.heap.size + 1 := by omega
 have z3 : w1.heap.size ≤ w2.heap.size := by omega
 have K4 := (K3.var (g := w2.heap.size) rfl [.bool neg2, .slice A2 n2 c2] 24).box (.cells #[.bool neg3, .slice A3 n3 c3] 24)
 clear hb2 I2 I3 K2 K3
 go_wp2_with fail
 refine (ref_Divide_any neg' neg1 A' A1 n' c' n1 c1 y (G : Int) _ (K4.at_ (by simp)) (K4.at_ (by simp)) (by omega) hn1 HY.out).mono ?_
 rintro e3 w3 ⟨neg4, A4, n4, c4, neg5, A5, n5, c5, rfl, I4, I5, hb3⟩
 rw [HV.out] at I4
 have hn4 : n4 ≤ 1000000 := Nat.le_trans (isInt_len_mono I4 hy HVY.out) hn'
 have K5 := (K4.next hb3).int I4
 have zn : w2.heap.size < w3.heap.size := (K5.blk (g := w2.heap.size) (vs := [.bool neg2, .slice A2 n2 c2]) (by simp)).1
 have y1 : ¬ w.heap.size + 1 + 1 = w2.heap.size := by omega
 have y2 : ¬ w2.heap.size = w.heap.size + 1 + 1 := by omega
 have y3 : ¬ w.heap.size + 1 + 1 = w3.heap.size := by omega
 have y4 : ¬ w3.heap.size = w.heap.size + 1 + 1 := by omega
 have K6 := (K5.var (g := w3.heap.size) rfl [.bool neg4, .slice A4 n4 c4] 24).box (.cells #[.bool neg5, .slice A5 n5 c5] 24)
 clear hb3 I4 I5 K4 K5 hx hy
 go_wp2_with fail
 refine (ref_sign_of neg4 A4 n4 c4 v (-1) _ (K6.at_ (by simp)) HS).mono ?_
 rintro e6 w6 ⟨rfl, hb6⟩
 have K7 := (K6.pick (L' := [(w2.heap.size, [.bool neg2, .slice A2 n2 c2]), (w3.heap.size, [.bool neg4, .slice A4 n4 c4]), (w.heap.size + 1 + 1, [.bool false, .slice none 0 0, .bool false, .slice none 0 0])]) (l' := [(neg2, A2, n2, c2, u), (neg4, A4, n4, c4, v)]) (by simp) (by simp)).next hb6
 clear hb6 K6
 obtain ⟨_, _, _, _, _⟩ := (K7.blk (g := w2.heap.size) (by repeat constructor)).two
 obtain ⟨_, _, _, _, _⟩ := (K7.blk (g := w3.heap.size) (by repeat constructor)).two
 obtain ⟨⟨_, _, _, _⟩, ⟨_, _, _, _⟩, _⟩ := (K7.blk (g := w.heap.size + 1 + 1) (by repeat constructor)).four
 go_wp2_with fail
 go_region_held3 (fun w' => w'.cell? ⟨w2.heap.size, 0, none⟩ = some (.bool neg2) ∧ w'.cell? ⟨w2.heap.size, 1, none⟩ = some (.slice A2 n2 c2) ∧ w'.cell? ⟨w3.heap.size, 0, none⟩ = some (.bool neg4) ∧ w'.cell? ⟨w3.heap.size, 1, none⟩ = some (.slice A4 n4 c4))
  (go_keep)
  (first
   | (go_at_call 350; apply Calls.withMm (w0 := w); (case K => with_reducible repeat (first | exact K7 | apply Mm.drew | apply Mm.drewN)); intro KX; (with_reducible refine (ref2_turned_any neg2 A2 n2 c2 u r.num _ ?_ (by omega) HE1).mono ?_); (with_reducible exact KX.at_ (by simp)); rintro e8 w8 ⟨neg8, A8, n8, c8, rfl, I8, hb8⟩; (with_reducible have K8 := (KX.next hb8).int I8); have Q8n := (K8.blk (g := w2.heap.size) (by repeat constructor)).two; obtain ⟨qa8n, qb8n, qc8n, qd8n, qe8n⟩ := Q8n; have Q8d := (K8.blk (g := w3.heap.size) (by repeat constructor)).two; obtain ⟨qa8d, qb8d, qc8d, qd8d, qe8d⟩ := Q8d; have Q8r := (K8.blk (g := w.heap.size + 1 + 1) (by repeat constructor)).four; obtain ⟨⟨qa8r, qb8r, qc8r, qd8r⟩, ⟨qe8r, qf8r, qg8r, qh8r⟩, qi8r⟩ := Q8r; clear KX I8 hb8)
   | (go_at_call 350; apply Calls.withMm (w0 := w); (case K => with_reducible repeat (first | exact K8 | apply Mm.drew | apply Mm.drewN)); intro KX; (with_reducible refine (ref2_turned_any neg4 A4 n4 c4 v (r.den : Int) _ ?_ (by omega) HE2).mono ?_); (with_reducible exact KX.at_ (by simp)); rintro e9 w9 ⟨neg9, A9, n9, c9, rfl, I9, hb9⟩; (with_reducible have K9 := (KX.next hb9).int I9); have Q9n := (K9.blk (g := w2.heap.size) (by repeat constructor)).two; obtain ⟨qa9n, qb9n, qc9n, qd9n, qe9n⟩ := Q9n; have Q9d := (K9.blk (g := w3.heap.size) (by repeat constructor)).two; obtain ⟨qa9d, qb9d, qc9d, qd9d, qe9d⟩ := Q9d; have Q9r := (K9.blk (g := w.heap.size + 1 + 1) (by repeat constructor)).four; obtain ⟨⟨qa9r, qb9r, qc9r, qd9r⟩, ⟨qe9r, qf9r, qg9r, qh9r⟩, qi9r⟩ := Q9r; clear KX I9 hb9))
 go_wp2_with fail
 have KE := (K9.pick (L' := [(w.heap.size + 1 + 1, [.bool false, .slice none 0 0, .bool false, .slice none 0 0])]) (l' := [(neg8, A8, n8, c8, r.num), (neg9, A9, n9, c9, (r.den : Int))]) (by simp) (by simp)).set4 (by simp <;> omega) neg8 A8 n8 c8 neg9 A9 n9 c9
 exact bodyPost_ret (v := .agg #[.bool neg8, .slice A8 n8 c8, .bool neg9, .slice A9 n9 c9]) (by simp [results, Tryz.results292, go_sem, qa9r, qb9r, qc9r, qd9r]) rfl ⟨_, _, _, _, _, _, _, _, rfl, KE.at_ (by simp), KE.at_ (by simp), KE.1⟩
theorem ref2_low_pos (neg neg' : Bool) (A A' : Option Addr) (n c n' c' : Nat) (x y : Int) (r : Rat) (w : World) (hx : IsInt w neg A n c x) (hy : IsInt w neg' A' n' c' y) (hn : n ≤ 1000000) (hn' : n' ≤ 1000000) (hs : 0 < y) (hr : Hid (Rat.divInt x y = r)) :
  Calls Tryz.prog 292 #[.agg #[.bool neg, .slice A n c], .agg #[.bool neg', .slice A' n' c']] w (RetFr w r) := by
 have K0 := ((((Mm.nil w).int hx).int hy).var (g := w.heap.size) rfl [.bool neg, .slice A n c] 24).var (g := w.heap.size + 1) (by simp) [.bool neg', .slice A' n' c'] 24 |>.var (g := w.heap.size + 1 + 1) (by simp) [.bool false, .slice none 0 0, .bool false, .slice none 0 0] 26
 obtain ⟨G, hG⟩ : ∃ G, Nat.gcd x.natAbs y.natAbs = G := ⟨_, rfl⟩
 have hy0 : y ≠ 0 := by omega
 have hG0 : 0 < G := by rw [← hG]; exact Nat.gcd_pos_of_pos_right _ (by omega)
 have hGy : G ≤ y.natAbs := by rw [← hG]; exact Nat.le_of_dvd (by omega) (Nat.gcd_dvd_right _ _)
 obtain ⟨u, hu⟩ : ∃ u, x.tdiv (G : Int) = u := ⟨_, rfl⟩
 obtain ⟨v, hv⟩ : ∃ v, y.tdiv (G : Int) = v := ⟨_, rfl⟩
 have e1 := low_num (p := x) hy0 hG.symm
 have e2 := low_den (p := x) hy0 hG.symm
 rw [hu, hr.out] at e1
 rw [hv, hr.out] at e2
 unfold tn at e1 e2
 rw [if_neg (by omega)] at e1 e2
 have hrd : 0 < r.den := r.den_pos
 have hux : u.natAbs ≤ x.natAbs := by rw [← hu]; exact tdiv_small x G
 have hvy : v.natAbs ≤ y.natAbs := by rw [← hv]; exact tdiv_small y G
 have HS : Hid (v.sign = 1) := Lib.hid (Int.sign_eq_one_of_pos (by omega))
 have HG := Lib.hid hG
 have HU := Lib.hid hu
 have HV := Lib.hid hv
 have HE1 := Lib.hid e1
 have HE2 := Lib.hid e2
 have HY : Hid ((G : Int) ≠ 0) := Lib.hid (by omega)
 have HGY := Lib.hid hGy
 have HUX := Lib.hid hux
 have HVY := Lib.hid hvy
 clear hG hu hv e1 e2 hr hG0 hy0 hs hrd hGy hux hvy
 go_enter Tryz.func292, Tryz.ntmps292
 go_wp2_with fail
 generalize ((w.alloc (.cells #[.bool neg, .slice A n c] 24)).alloc (.cells #[.bool neg', .slice A' n' c'] 24)).alloc (.cells #[.bool false, .slice none 0 0, .bool false, .slice none 0 0] 26) = w0 at K0 ⊢
 obtain ⟨_, _, _, _, _⟩ := (K0.blk (g := w.heap.size) (by repeat constructor)).two
 obtain ⟨_, _, _, _, _⟩ := (K0.blk (g := w.heap.size + 1) (by repeat constructor)).two
 go_wp2_with fail
 refine (ref2_common_any neg neg' A A' n c n' c' x y G _ (K0.at_ (by simp)) (K0.at_ (by simp)) hn hn' HG).mono ?_
 rintro e1 w1 ⟨neg1, A1, n1, c1, rfl, I1, hb1⟩
 have hn1 : n1 ≤ 1000000 := Nat.le_trans (isInt_len_mono I1 hy (by rw [Int.natAbs_natCast]; exact HGY.out)) hn'
 have K1 := (K0.next hb1).int I1
 obtain ⟨_, _, _, _, _⟩ := (K1.blk (g := w.heap.size) (by repeat constructor)).two
 obtain ⟨_, _, _, _, _⟩ := (K1.blk (g := w.heap.size + 1) (by repeat constructor)).two
 have K2 := K1.var (g := w1.heap.size) rfl [.bool neg1, .slice A1 n1 c1] 24
 clear hb1 I1 K0 K1
 go_wp2_with fail
 refine (ref_Divide_any neg neg1 A A1 n c n1 c1 x (G : Int) _ (K2.at_ (by simp)) (K2.at_ (by simp)) (by omega) hn1 HY.out).mono ?_
 rintro e2 w2 ⟨neg2, A2, n2, c2, neg3, A3, n3, c3, rfl, I2, I3, hb2⟩
 rw [HU.out] at I2
 have hn2 : n2 ≤ 1000000 := Nat.le_trans (isInt_len_mono I2 hx HUX.out) hn
 have K3 := (K2.next hb2).int I2
 obtain ⟨_, _, _, _, _⟩ := (K3.blk (g := w.heap.size + 1) (by repeat constructor)).two
 obtain ⟨_, _, _, _, _⟩ := (K3.blk (g := w1.heap.size) (by repeat constructor)).two
 have zr : w.heap.size + 1 + 1 < w2.heap.size := (K3.blk (g := w.heap.size + 1 + 1) (vs := [.bool false, .slice none 0 0, .bool false, .slice none 0 0]) (by simp)).1
 have z1 : w.heap.size < w2.heap.size := by omega
 have z2 : w1.heap.size < w2.heap.size + 1 := by omega
 have z3 : w1.heap.size ≤ w2.heap.size := by omega
 have K4 := (K3.var (g := w2.heap.size) rfl [.bool neg2, .slice A2 n2 c2] 24).box (.cells #[.bool neg3, .slice A3 n3 c3] 24)
 clear hb2 I2 I3 K2 K3
 go_wp2_with fail
 refine (ref_Divide_any neg' neg1 A' A1 n' c' n1 c1 y (G : Int) _ (K4.at_ (by simp)) (K4.at_ (by simp)) (by omega) hn1 HY.out).mono ?_
 rintro e3 w3 ⟨neg4, A4, n4, c4, neg5, A5, n5, c5, rfl, I4, I5, hb3⟩
 rw [HV.out] at I4
 have hn4 : n4 ≤ 1000000 := Nat.le_trans (isInt_len_mono I4 hy HVY.out) hn'
 have K5 := (K4.next hb3).int I4
 have zn : w2.heap.size < w3.heap.size := (K5.blk (g := w2.heap.size) (vs := [.bool neg2, .slice A2 n2 c2]) (by simp)).1
 have y1 : ¬ w.heap.size + 1 + 1 = w2.heap.size := by omega
 have y2 : ¬ w2.heap.size = w.heap.size + 1 + 1 := by omega
 have y3 : ¬ w.heap.size + 1 + 1 = w3.heap.size := by omega
 have y4 : ¬ w3.heap.size = w.heap.size + 1 + 1 := by omega
 have K6 := (K5.var (g := w3.heap.size) rfl [.bool neg4, .slice A4 n4 c4] 24).box (.cells #[.bool neg5, .slice A5 n5 c5] 24)
 clear hb3 I4 I5 K4 K5 hx hy
 go_wp2_with fail
 refine (ref_sign_of neg4 A4 n4 c4 v (1) _ (K6.at_ (by simp)) HS).mono ?_
 rintro e6 w6 ⟨rfl, hb6⟩
 have K7 := (K6.pick (L' := [(w2.heap.size, [.bool neg2, .slice A2 n2 c2]), (w3.heap.size, [.bool neg4, .slice A4 n4 c4]), (w.heap.size + 1 + 1, [.bool false, .slice none 0 0, .bool false, .slice none 0 0])]) (l' := [(neg2, A2, n2, c2, u), (neg4, A4, n4, c4, v)]) (by simp) (by simp)).next hb6
 clear hb6 K6
 obtain ⟨_, _, _, _, _⟩ := (K7.blk (g := w2.heap.size) (by repeat constructor)).two
 obtain ⟨_, _, _, _, _⟩ := (K7.blk (g := w3.heap.size) (by repeat constructor)).two
 obtain ⟨⟨qa7r, qb7r, qc7r, qd7r⟩, ⟨_, _, _, _⟩, _⟩ := (K7.blk (g := w.heap.size + 1 + 1) (by repeat constructor)).four
 rw [HE1.out, HE2.out] at K7
 go_wp2_with fail
 have KE := (K7.pick (L' := [(w.heap.size + 1 + 1, [.bool false, .slice none 0 0, .bool false, .slice none 0 0])]) (l' := [(neg2, A2, n2, c2, r.num), (neg4, A4, n4, c4, (r.den : Int))]) (by simp) (by simp)).set4 (by simp <;> omega) neg2 A2 n2 c2 neg4 A4 n4 c4
 exact bodyPost_ret (v := .agg #[.bool neg2, .slice A2 n2 c2, .bool neg4, .slice A4 n4 c4]) (by simp [results, Tryz.results292, go_sem, qa7r, qb7r, qc7r, qd7r]) rfl ⟨_, _, _, _, _, _, _, _, rfl, KE.at_ (by simp), KE.at_ (by simp), KE.1⟩
theorem ref2_low_any (neg neg' : Bool) (A A' : Option Addr) (n c n' c' : Nat) (x y : Int) (r : Rat) (w : World) (hx : IsInt w neg A n c x) (hy : IsInt w neg' A' n' c' y) (hn : n ≤ 1000000) (hn' : n' ≤ 1000000) (h0 : y ≠ 0) (hr : Hid (Rat.divInt x y = r)) :
  Calls Tryz.prog 292 #[.agg #[.bool neg, .slice A n c], .agg #[.bool neg', .slice A' n' c']] w (RetFr w r) := by
 rcases Int.lt_or_gt_of_ne h0 with h | h
 ·exact ref2_low_neg neg neg' A A' n c n' c' x y r w hx hy hn hn' h hr
 ·exact ref2_low_pos neg neg' A A' n c n' c' x y r w hx hy hn hn' h hr
end Go.Proofs.YtgekmbfmfiikkaaGreatDoor
