/-
  The references' fractions (polestarref02): differences; held against one another; numbers as fractions.
  The references' fractions (polestarref02): nought, small ones, one; are two of one worth.
  The row's last step where no more is known of the world left than that it is the old one below (a kit's small lemma, copied as its page bids).
  Arguments in memory read as they did where no more is known of the world left than that it is the old one below.
-/
import Derived.Test.YtgekmbfmfiikkaaGreatDoorFrS
import Derived.Below
import Derived.ChangeSame
import Derived.Carry
import Derived.Deep.Slices
import Derived.Deep.Strs
namespace Go.Proofs.YtgekmbfmfiikkaaGreatDoor
open Go.RowKit

set_option maxRecDepth 100000 in
set_option maxHeartbeats 3200000 in
theorem ref2_minus_any (neg neg' : Bool) (A A' : Option Addr) (n c n' c' : Nat) (nfg nfg' : Bool) (C C' : Option Addr) (p q p' q' : Nat) (x y : Rat) (r : Rat) (m k : Nat) (w : World) (hx : IsInt w neg A n c x.num) (hx' : IsInt w neg' A' n' c' (x.den : Int)) (hy : IsInt w nfg C p q y.num) (hy' : IsInt w nfg' C' p' q' (y.den : Int)) (sx : Sz x m) (sy : Sz y k) (hm : m + k < 1000000) (hr : Hid (x - y = r)) :
  Calls Tryz.prog 229 #[.agg #[.bool neg, .slice A n c, .bool neg', .slice A' n' c'], .agg #[.bool nfg, .slice C p q, .bool nfg', .slice C' p' q']] w (RetFr w r) := by
 have K0 := ((((((Mm.nil w).int hx).int hx').int hy).int hy').var (g := w.heap.size) rfl [.bool neg, .slice A n c, .bool neg', .slice A' n' c'] 26).var (g := w.heap.size + 1) (by simp) [.bool nfg, .slice C p q, .bool nfg', .slice C' p' q'] 26 |>.var (g := w.heap.size + 1 + 1) (by simp) [.bool false, .slice none 0 0, .bool false, .slice none 0 0] 26
 have hn := int_len hx sx.1
 have hn' := int_len hx' sx.2
 have hp := int_len hy sy.1
 have hp' := int_len hy' sy.2
 have HR : Hid (x + -y = r) := Lib.hid (by rw [← Rat.sub_eq_add_neg]; exact hr.out)
 have SX := Lib.hid sx
 have SY : Hid (Sz (-y) k) := Lib.hid sy.neg
 clear hr
 clear hx hx' hy hy' sx sy
 go_enter Tryz.func229, Tryz.ntmps229
 go_wp2_with fail
 generalize ((w.alloc (.cells #[.bool neg, .slice A n c, .bool neg', .slice A' n' c'] 26)).alloc (.cells #[.bool nfg, .slice C p q, .bool nfg', .slice C' p' q'] 26)).alloc (.cells #[.bool false, .slice none 0 0, .bool false, .slice none 0 0] 26) = w0 at K0 ⊢
 obtain ⟨⟨_, _, _, _⟩, ⟨_, _, _, _⟩, _⟩ := (K0.blk (g := w.heap.size) (by repeat constructor)).four
 obtain ⟨⟨_, _, _, _⟩, ⟨_, _, _, _⟩, _⟩ := (K0.blk (g := w.heap.size + 1) (by repeat constructor)).four
 have e0a : ¬ w.heap.size + 1 + 1 = w.heap.size := by omega
 have e0b : ¬ w.heap.size = w.heap.size + 1 + 1 := by omega
 have e1a : ¬ w.heap.size + 1 + 1 = w.heap.size + 1 := by omega
 have e1b : ¬ w.heap.size + 1 = w.heap.size + 1 + 1 := by omega
 go_region_held3 (fun w' => w'.cell? ⟨w.heap.size, 0, none⟩ = some (.bool neg) ∧ w'.cell? ⟨w.heap.size, 1, none⟩ = some (.slice A n c) ∧ w'.cell? ⟨w.heap.size, 2, none⟩ = some (.bool neg') ∧ w'.cell? ⟨w.heap.size, 3, none⟩ = some (.slice A' n' c') ∧ w'.cell? ⟨w.heap.size + 1, 0, none⟩ = some (.bool nfg) ∧ w'.cell? ⟨w.heap.size + 1, 1, none⟩ = some (.slice C p q) ∧ w'.cell? ⟨w.heap.size + 1, 2, none⟩ = some (.bool nfg') ∧ w'.cell? ⟨w.heap.size + 1, 3, none⟩ = some (.slice C' p' q'))
  (go_keep)
  (first
   | (go_at_call 293; apply Calls.withMm (w0 := w); (case K => with_reducible repeat (first | exact K0 | apply Mm.drew | apply Mm.drewN)); intro KX; (with_reducible refine (ref2_neg_any nfg nfg' C C' p q p' q' y (-y) _ ?_ ?_ (by omega) (Lib.hid rfl)).mono ?_); (with_reducible exact KX.at_ (by simp)); (with_reducible exact KX.at_ (by simp)); rintro e1 w1 ⟨neg1, A1, n1, c1, ne1, B1, m1, d1, rfl, I1, J1, hb1⟩; (with_reducible have K1 := ((KX.next hb1).int J1).int I1); have Q1x := (K1.blk (g := w.heap.size) (by repeat constructor)).four; obtain ⟨⟨qa1x, qb1x, qc1x, qd1x⟩, ⟨qe1x, qf1x, qg1x, qh1x⟩, qi1x⟩ := Q1x; have Q1y := (K1.blk (g := w.heap.size + 1) (by repeat constructor)).four; obtain ⟨⟨qa1y, qb1y, qc1y, qd1y⟩, ⟨qe1y, qf1y, qg1y, qh1y⟩, qi1y⟩ := Q1y; have Q1r := (K1.blk (g := w.heap.size + 1 + 1) (by repeat constructor)).four; obtain ⟨⟨qa1r, qb1r, qc1r, qd1r⟩, ⟨qe1r, qf1r, qg1r, qh1r⟩, qi1r⟩ := Q1r; clear KX I1 J1 hb1)
   | (go_at_call 226; apply Calls.withMm (w0 := w); (case K => with_reducible repeat (first | exact K1 | apply Mm.drew | apply Mm.drewN)); intro KX; (with_reducible refine (ref2_plus_any neg neg' A A' n c n' c' neg1 ne1 A1 B1 n1 c1 m1 d1 x (-y) r m k _ ?_ ?_ ?_ ?_ SX.out SY.out hm HR).mono ?_); (with_reducible exact KX.at_ (by simp)); (with_reducible exact KX.at_ (by simp)); (with_reducible exact KX.at_ (by simp)); (with_reducible exact KX.at_ (by simp)); rintro e2 w2 ⟨neg2, A2, n2, c2, ne2, B2, m2, d2, rfl, I2, J2, hb2⟩; (with_reducible have K2 := ((KX.next hb2).int J2).int I2); have Q2x := (K2.blk (g := w.heap.size) (by repeat constructor)).four; obtain ⟨⟨qa2x, qb2x, qc2x, qd2x⟩, ⟨qe2x, qf2x, qg2x, qh2x⟩, qi2x⟩ := Q2x; have Q2y := (K2.blk (g := w.heap.size + 1) (by repeat constructor)).four; obtain ⟨⟨qa2y, qb2y, qc2y, qd2y⟩, ⟨qe2y, qf2y, qg2y, qh2y⟩, qi2y⟩ := Q2y; have Q2r := (K2.blk (g := w.heap.size + 1 + 1) (by repeat constructor)).four; obtain ⟨⟨qa2r, qb2r, qc2r, qd2r⟩, ⟨qe2r, qf2r, qg2r, qh2r⟩, qi2r⟩ := Q2r; clear KX I2 J2 hb2))
 go_wp2_with fail
 have KE := (K2.pick (L' := [(w.heap.size + 1 + 1, [.bool false, .slice none 0 0, .bool false, .slice none 0 0])]) (l' := [(neg2, A2, n2, c2, r.num), (ne2, B2, m2, d2, (r.den : Int))]) (by simp) (by simp)).set4 (by simp <;> omega) neg2 A2 n2 c2 ne2 B2 m2 d2
 exact bodyPost_ret (v := .agg #[.bool neg2, .slice A2 n2 c2, .bool ne2, .slice B2 m2 d2]) (by simp [results, Tryz.results229, go_sem, qa2r, qb2r, qc2r, qd2r]) rfl ⟨_, _, _, _, _, _, _, _, rfl, KE.at_ (by simp), KE.at_ (by simp), KE.1⟩

set_option maxRecDepth 100000 in
set_option maxHeartbeats 3200000 in
theorem ref2_cmp_any (neg neg' : Bool) (A A' : Option Addr) (n c n' c' : Nat) (nfg nfg' : Bool) (C C' : Option Addr) (p q p' q' : Nat) (x y : Rat) (v : Int) (m k : Nat) (w : World) (hx : IsInt w neg A n c x.num) (hx' : IsInt w neg' A' n' c' (x.den : Int)) (hy : IsInt w nfg C p q y.num) (hy' : IsInt w nfg' C' p' q' (y.den : Int)) (sx : Sz x m) (sy : Sz y k) (hm : m + k < 1000000) (hv : Hid (rcmp x y = v)) :
  Calls Tryz.prog 259 #[.agg #[.bool neg, .slice A n c, .bool neg', .slice A' n' c'], .agg #[.bool nfg, .slice C p q, .bool nfg', .slice C' p' q']] w (RetV w (.int .i64 v)) := by
 have K0 := ((((((Mm.nil w).int hx).int hx').int hy).int hy').var (g := w.heap.size) rfl [.bool neg, .slice A n c, .bool neg', .slice A' n' c'] 26).var (g := w.heap.size + 1) (by simp) [.bool nfg, .slice C p q, .bool nfg', .slice C' p' q'] 26
 have hn := int_len hx sx.1
 have hn' := int_len hx' sx.2
 have hp := int_len hy sy.1
 have hp' := int_len hy' sy.2
 have HP1 : Hid ((x.num * (y.den : Int)).natAbs < 2 ^ (32 * (m + k))) := Lib.hid (by rw [Int.natAbs_mul]; exact mul_lt_pow sx.1 sy.2)
 have HP2 : Hid ((y.num * (x.den : Int)).natAbs < 2 ^ (32 * (m + k))) := Lib.hid (by rw [Int.natAbs_mul, Nat.add_comm m k]; exact mul_lt_pow sy.1 sx.2)
 have HP3 : Hid ((x.num * (y.den : Int) - y.num * (x.den : Int)).natAbs < 2 ^ (32 * (m + k + 1))) := Lib.hid (by
  have h3 := add_lt_pow HP1.out HP2.out
  have h4 : (x.num * (y.den : Int) - y.num * (x.den : Int)).natAbs ≤ (x.num * (y.den : Int)).natAbs + (y.num * (x.den : Int)).natAbs := by omega
  omega)
 have HS : Hid ((x.num * (y.den : Int) - y.num * (x.den : Int)).sign = v) := Lib.hid (by rw [rcmp_sign]; exact hv.out)
 clear hv
 clear hx hx' hy hy' sx sy
 go_enter Tryz.func259, Tryz.ntmps259
 go_wp2_with fail
 generalize ((w.alloc (.cells #[.bool neg, .slice A n c, .bool neg', .slice A' n' c'] 26)).alloc (.cells #[.bool nfg, .slice C p q, .bool nfg', .slice C' p' q'] 26)) = w0 at K0 ⊢
 obtain ⟨⟨_, _, _, _⟩, ⟨_, _, _, _⟩, _⟩ := (K0.blk (g := w.heap.size) (by repeat constructor)).four
 obtain ⟨⟨_, _, _, _⟩, ⟨_, _, _, _⟩, _⟩ := (K0.blk (g := w.heap.size + 1) (by repeat constructor)).four
 go_upto_region 1 with (fail)
 go_cut [5] from 6 to 16 (fun s5 wx => ∃ (g : Nat) (ng : Bool) (Ag : Option Addr) (n9 c9 : Nat), s5 = .pointer (some ⟨g, 0, none⟩) ∧ w.heap.size + 1 < g ∧ n9 ≤ 1000000 ∧
  Mm w [(g, [.bool ng, .slice Ag n9 c9])] [(ng, Ag, n9, c9, x.num * (y.den : Int) - y.num * (x.den : Int))] wx)
 case first =>
  go_region_held3 (fun w' => w'.cell? ⟨w.heap.size, 0, none⟩ = some (.bool neg) ∧ w'.cell? ⟨w.heap.size, 1, none⟩ = some (.slice A n c) ∧ w'.cell? ⟨w.heap.size, 2, none⟩ = some (.bool neg') ∧ w'.cell? ⟨w.heap.size, 3, none⟩ = some (.slice A' n' c') ∧ w'.cell? ⟨w.heap.size + 1, 0, none⟩ = some (.bool nfg) ∧ w'.cell? ⟨w.heap.size + 1, 1, none⟩ = some (.slice C p q) ∧ w'.cell? ⟨w.heap.size + 1, 2, none⟩ = some (.bool nfg') ∧ w'.cell? ⟨w.heap.size + 1, 3, none⟩ = some (.slice C' p' q'))
   (go_keep)
   (first
    | (go_at_call 291; apply Calls.withMm (w0 := w); (case K => with_reducible repeat (first | exact K0 | apply Mm.drew | apply Mm.drewN | apply Mm.varz)); intro KX; (try simp only [hszA] at KX); (with_reducible refine (ref_times_int neg nfg' A C' n c p' q' x.num (y.den : Int) _ ?_ ?_ (by omega) (by omega)).mono ?_); (with_reducible exact KX.at_ (by simp)); (with_reducible exact KX.at_ (by simp)); rintro e1 w1 ⟨neg1, A1, n1, c1, rfl, I1, hb1⟩; (with_reducible have K1 := (KX.next hb1).int I1); have hn1 : n1 ≤ 1000000 := Nat.le_trans (int_len I1 HP1.out) (by omega); have Q1x := (K1.blk (g := w.heap.size) (by repeat constructor)).four; obtain ⟨⟨qa1x, qb1x, qc1x, qd1x⟩, ⟨qe1x, qf1x, qg1x, qh1x⟩, qi1x⟩ := Q1x; have Q1y := (K1.blk (g := w.heap.size + 1) (by repeat constructor)).four; obtain ⟨⟨qa1y, qb1y, qc1y, qd1y⟩, ⟨qe1y, qf1y, qg1y, qh1y⟩, qi1y⟩ := Q1y; (try (have V01 := K1.blk (g := w0.heap.size) (vs := [.bool false, .slice none 0 0]) ?_; rotate_left; (focus (simp; done)); obtain ⟨_, _, _, _, _⟩ := V01.two; obtain ⟨fa010, fb010⟩ := nq (a := w.heap.size) (b := w0.heap.size) (by omega); obtain ⟨fa011, fb011⟩ := nq (a := w.heap.size + 1) (b := w0.heap.size) (by omega))); clear KX I1 hb1)
    | (go_at_call 291; apply Calls.withMm (w0 := w); (case K => with_reducible repeat (first | exact K1 | apply Mm.drew | apply Mm.drewN | apply Mm.varz)); intro KX; (try simp only [hszA] at KX); (with_reducible refine (ref_times_int nfg neg' C A' p q n' c' y.num (x.den : Int) _ ?_ ?_ (by omega) (by omega)).mono ?_); (with_reducible exact KX.at_ (by simp)); (with_reducible exact KX.at_ (by simp)); rintro e2 w2 ⟨neg2, A2, n2, c2, rfl, I2, hb2⟩; (with_reducible have K2 := (KX.next hb2).int I2); have hn2 : n2 ≤ 1000000 := Nat.le_trans (int_len I2 HP2.out) (by omega); have Q2x := (K2.blk (g := w.heap.size) (by repeat constructor)).four; obtain ⟨⟨qa2x, qb2x, qc2x, qd2x⟩, ⟨qe2x, qf2x, qg2x, qh2x⟩, qi2x⟩ := Q2x; have Q2y := (K2.blk (g := w.heap.size + 1) (by repeat constructor)).four; obtain ⟨⟨qa2y, qb2y, qc2y, qd2y⟩, ⟨qe2y, qf2y, qg2y, qh2y⟩, qi2y⟩ := Q2y; (try (have V02 := K2.blk (g := w0.heap.size) (vs := [.bool false, .slice none 0 0]) ?_; rotate_left; (focus (simp; done)); obtain ⟨_, _, _, _, _⟩ := V02.two; obtain ⟨fa020, fb020⟩ := nq (a := w.heap.size) (b := w0.heap.size) (by omega); obtain ⟨fa021, fb021⟩ := nq (a := w.heap.size + 1) (b := w0.heap.size) (by omega))); (try (have V12 := K2.blk (g := w1.heap.size) (vs := [.bool false, .slice none 0 0]) ?_; rotate_left; (focus (simp; done)); obtain ⟨_, _, _, _, _⟩ := V12.two; obtain ⟨fa120, fb120⟩ := nq (a := w.heap.size) (b := w1.heap.size) (by omega); obtain ⟨fa121, fb121⟩ := nq (a := w.heap.size + 1) (b := w1.heap.size) (by omega))); clear KX I2 hb2)
    | (go_at_call 334; apply Calls.withMm (w0 := w); (case K => with_reducible repeat (first | exact K2 | apply Mm.drew | apply Mm.drewN | apply Mm.varz)); intro KX; (try simp only [hszA] at KX); (with_reducible refine (ref_minus_any neg1 neg2 A1 A2 n1 c1 n2 c2 (x.num * (y.den : Int)) (y.num * (x.den : Int)) _ ?_ ?_ (by omega) (by omega)).mono ?_); (with_reducible exact KX.at_ (by simp)); (with_reducible exact KX.at_ (by simp)); rintro e3 w3 ⟨neg3, A3, n3, c3, rfl, I3, hb3⟩; (with_reducible have K3 := (KX.next hb3).int I3); have hn3 : n3 ≤ 1000000 := Nat.le_trans (int_len I3 HP3.out) (by omega); have Q3x := (K3.blk (g := w.heap.size) (by repeat constructor)).four; obtain ⟨⟨qa3x, qb3x, qc3x, qd3x⟩, ⟨qe3x, qf3x, qg3x, qh3x⟩, qi3x⟩ := Q3x; have Q3y := (K3.blk (g := w.heap.size + 1) (by repeat constructor)).four; obtain ⟨⟨qa3y, qb3y, qc3y, qd3y⟩, ⟨qe3y, qf3y, qg3y, qh3y⟩, qi3y⟩ := Q3y; (try (have V03 := K3.blk (g := w0.heap.size) (vs := [.bool false, .slice none 0 0]) ?_; rotate_left; (focus (simp; done)); obtain ⟨_, _, _, _, _⟩ := V03.two; obtain ⟨fa030, fb030⟩ := nq (a := w.heap.size) (b := w0.heap.size) (by omega); obtain ⟨fa031, fb031⟩ := nq (a := w.heap.size + 1) (b := w0.heap.size) (by omega))); (try (have V13 := K3.blk (g := w1.heap.size) (vs := [.bool false, .slice none 0 0]) ?_; rotate_left; (focus (simp; done)); obtain ⟨_, _, _, _, _⟩ := V13.two; obtain ⟨fa130, fb130⟩ := nq (a := w.heap.size) (b := w1.heap.size) (by omega); obtain ⟨fa131, fb131⟩ := nq (a := w.heap.size + 1) (b := w1.heap.size) (by omega))); (try (have V23 := K3.blk (g := w2.heap.size) (vs := [.bool false, .slice none 0 0]) ?_; rotate_left; (focus (simp; done)); obtain ⟨_, _, _, _, _⟩ := V23.two; obtain ⟨fa230, fb230⟩ := nq (a := w.heap.size) (b := w2.heap.size) (by omega); obtain ⟨fa231, fb231⟩ := nq (a := w.heap.size + 1) (b := w2.heap.size) (by omega))); clear KX I3 hb3))
  all_goals (go_wp2_with fail)
  all_goals go_meet
  all_goals (first
   | exact ⟨w3.heap.size, neg3, A3, n3, c3, rfl, by assumption, hn3, (K3.var (g := w3.heap.size) rfl [.bool neg3, .slice A3 n3 c3] 24).pick (by simp) (by simp)⟩
   | exact ⟨w2.heap.size, neg3, A3, n3, c3, rfl, by assumption, hn3, ((K3.pick (L' := [(w2.heap.size, [.bool false, .slice none 0 0])]) (by simp) (fun p h => h)).set2 (by simp) neg3 A3 n3 c3).pick (by simp) (by simp)⟩
   | exact ⟨w1.heap.size, neg3, A3, n3, c3, rfl, by assumption, hn3, ((K3.pick (L' := [(w1.heap.size, [.bool false, .slice none 0 0])]) (by simp) (fun p h => h)).set2 (by simp) neg3 A3 n3 c3).pick (by simp) (by simp)⟩
   | exact ⟨w0.heap.size, neg3, A3, n3, c3, rfl, by assumption, hn3, ((K3.pick (L' := [(w0.heap.size, [.bool false, .slice none 0 0])]) (by simp) (fun p h => h)).set2 (by simp) neg3 A3 n3 c3).pick (by simp) (by simp)⟩)
 case rest =>
  obtain ⟨g, ng, Ag, n9, c9, rfl, hg, hn9, KC⟩ := hcut
  clear K0 HP1 HP2 HP3
  obtain ⟨_, _, _, _, _⟩ := (KC.blk (g := g) (by repeat constructor)).two
  go_wp2_with fail
  refine (ref_sign_of ng Ag n9 c9 (x.num * (y.den : Int) - y.num * (x.den : Int)) v _ (KC.at_ (by simp)) HS).mono ?_
  rintro e4 w4 ⟨rfl, hb4⟩
  have K4 := KC.next hb4
  go_wp2_with fail
  go_ret
  exact ⟨rfl, K4.1⟩

end Go.Proofs.YtgekmbfmfiikkaaGreatDoor

namespace Go.Proofs.YtgekmbfmfiikkaaGreatDoor
open Go.RowKit

set_option maxRecDepth 100000 in
set_option maxHeartbeats 3200000 in
theorem ref2_nou_any (w : World) : Calls Tryz.prog 260 #[] w (RetFr w 0) := by
 have K0 := (Mm.nil w).var (g := w.heap.size) rfl [.bool false, .slice none 0 0, .bool false, .slice none 0 0] 26
 go_enter Tryz.func260, Tryz.ntmps260
 go_wp2_with fail
 refine (ref_of_any 1 _ (by decide)).mono ?_
 rintro e1 w1 ⟨neg1, A1, n1, c1, rfl, I1, hb1⟩
 have K1 := (K0.next hb1).int I1
 obtain ⟨⟨qa1r, qb1r, qc1r, qd1r⟩, ⟨_, _, _, _⟩, _⟩ := (K1.blk (g := w.heap.size) (by repeat constructor)).four
 clear I1 hb1
 go_wp2_with fail
 have KE := K1.set4 (by simp) false none 0 0 neg1 A1 n1 c1
 exact bodyPost_ret (v := .agg #[.bool false, .slice none 0 0, .bool neg1, .slice A1 n1 c1]) (by simp [results, Tryz.results260, go_sem, qa1r, qb1r, qc1r, qd1r]) rfl ⟨false, none, 0, 0, neg1, A1, n1, c1, rfl, isInt_nought, KE.at_ (by simp), KE.1⟩

set_option maxRecDepth 100000 in
set_option maxHeartbeats 3200000 in
theorem ref2_small_any (a b : Int) (r : Rat) (w : World) (ha : -9223372036854775808 ≤ a ∧ a ≤ 9223372036854775807) (hb : -9223372036854775808 ≤ b ∧ b ≤ 9223372036854775807) (h0 : b ≠ 0) (hr : Hid (Rat.divInt a b = r)) :
  Calls Tryz.prog 227 #[.int .i64 a, .int .i64 b] w (RetFr w r) := by
 have K0 := (Mm.nil w).var (g := w.heap.size) rfl [.bool false, .slice none 0 0, .bool false, .slice none 0 0] 26
 have HA : Hid (a.natAbs < 2 ^ (32 * 2)) := Lib.hid (by omega)
 have HB : Hid (b.natAbs < 2 ^ (32 * 2)) := Lib.hid (by omega)
 have H0 := Lib.hid h0
 clear h0
 go_enter Tryz.func227, Tryz.ntmps227
 go_wp2_with fail
 refine (ref_of_any a _ ha).mono ?_
 rintro e1 w1 ⟨neg1, A1, n1, c1, rfl, I1, hb1⟩
 have hn1 : n1 ≤ 2 := int_len I1 HA.out
 have K1 := (K0.next hb1).int I1
 clear I1 hb1 K0 ha
 go_wp2_with fail
 refine (ref_of_any b _ hb).mono ?_
 rintro e2 w2 ⟨neg2, A2, n2, c2, rfl, I2, hb2⟩
 have hn2 : n2 ≤ 2 := int_len I2 HB.out
 have K2 := (K1.next hb2).int I2
 clear I2 hb2 K1 hb
 go_wp2_with fail
 refine (ref2_low_any neg1 neg2 A1 A2 n1 c1 n2 c2 a b r _ (K2.at_ (by simp)) (K2.at_ (by simp)) (by omega) (by omega) H0.out hr).mono ?_
 rintro e3 w3 ⟨neg3, A3, n3, c3, ne3, B3, m3, d3, rfl, I3, J3, hb3⟩
 have K3 := ((K2.next hb3).int J3).int I3
 obtain ⟨⟨qa3r, qb3r, qc3r, qd3r⟩, ⟨_, _, _, _⟩, _⟩ := (K3.blk (g := w.heap.size) (by repeat constructor)).four
 clear I3 J3 hb3
 go_wp2_with fail
 have KE := (K3.pick (L' := [(w.heap.size, [.bool false, .slice none 0 0, .bool false, .slice none 0 0])]) (l' := [(neg3, A3, n3, c3, r.num), (ne3, B3, m3, d3, (r.den : Int))]) (by simp) (by simp)).set4 (by simp <;> omega) neg3 A3 n3 c3 ne3 B3 m3 d3
 exact bodyPost_ret (v := .agg #[.bool neg3, .slice A3 n3 c3, .bool ne3, .slice B3 m3 d3]) (by simp [results, Tryz.results227, go_sem, qa3r, qb3r, qc3r, qd3r]) rfl ⟨_, _, _, _, _, _, _, _, rfl, KE.at_ (by simp), KE.at_ (by simp), KE.1⟩

set_option maxRecDepth 100000 in
set_option maxHeartbeats 3200000 in
theorem ref2_one_any (w : World) : Calls Tryz.prog 168 #[] w (RetFr w 1) := by
 have K0 := (Mm.nil w).var (g := w.heap.size) rfl [.bool false, .slice none 0 0, .bool false, .slice none 0 0] 26
 have HR : Hid (Rat.divInt 1 1 = 1) := Lib.hid (by decide +kernel)
 go_enter Tryz.func168, Tryz.ntmps168
 go_wp2_with fail
 refine (ref2_small_any 1 1 1 _ (by decide) (by decide) (by decide) HR).mono ?_
 rintro e3 w3 ⟨neg3, A3, n3, c3, ne3, B3, m3, d3, rfl, I3, J3, hb3⟩
 have K3 := ((K0.next hb3).int J3).int I3
 obtain ⟨⟨qa3r, qb3r, qc3r, qd3r⟩, ⟨_, _, _, _⟩, _⟩ := (K3.blk (g := w.heap.size) (by repeat constructor)).four
 clear I3 J3 hb3
 go_wp2_with fail
 have KE := (K3.pick (L' := [(w.heap.size, [.bool false, .slice none 0 0, .bool false, .slice none 0 0])]) (l' := [(neg3, A3, n3, c3, (1 : Rat).num), (ne3, B3, m3, d3, ((1 : Rat).den : Int))]) (by simp) (by simp)).set4 (by simp <;> omega) neg3 A3 n3 c3 ne3 B3 m3 d3
 exact bodyPost_ret (v := .agg #[.bool neg3, .slice A3 n3 c3, .bool ne3, .slice B3 m3 d3]) (by simp [results, Tryz.results168, go_sem, qa3r, qb3r, qc3r, qd3r]) rfl ⟨_, _, _, _, _, _, _, _, rfl, KE.at_ (by simp), KE.at_ (by simp), KE.1⟩

set_option maxRecDepth 100000 in
set_option maxHeartbeats 3200000 in
theorem ref2_same_any (neg neg' : Bool) (A A' : Option Addr) (n c n' c' : Nat) (nfg nfg' : Bool) (C C' : Option Addr) (p q p' q' : Nat) (x y : Rat) (b : Bool) (m k : Nat) (w : World) (hx : IsInt w neg A n c x.num) (hx' : IsInt w neg' A' n' c' (x.den : Int)) (hy : IsInt w nfg C p q y.num) (hy' : IsInt w nfg' C' p' q' (y.den : Int)) (sx : Sz x m) (sy : Sz y k) (hm : m + k < 1000000) (hb : Hid (decide (x = y) = b)) :
  Calls Tryz.prog 166 #[.agg #[.bool neg, .slice A n c, .bool neg', .slice A' n' c'], .agg #[.bool nfg, .slice C p q, .bool nfg', .slice C' p' q']] w (RetV w (.bool b)) := by
 have K0 := ((((((Mm.nil w).int hx).int hx').int hy).int hy').var (g := w.heap.size) rfl [.bool neg, .slice A n c, .bool neg', .slice A' n' c'] 26).var (g := w.heap.size + 1) (by simp) [.bool nfg, .slice C p q, .bool nfg', .slice C' p' q'] 26
 have SX := Lib.hid sx
 have SY := Lib.hid sy
 obtain ⟨v, hv⟩ : ∃ v, rcmp x y = v := ⟨_, rfl⟩
 have HV := Lib.hid hv
 have hvb : (v == 0) = b := by
  rw [← hb.out, ← hv]
  unfold rcmp
  by_cases h1 : x < y
  ·rw [if_pos h1, decide_eq_false (fun e => by rw [e] at h1; exact Rat.lt_irrefl h1)]; rfl
  ·rw [if_neg h1]
   by_cases h2 : y < x
   ·rw [if_pos h2, decide_eq_false (fun e => by rw [e] at h2; exact Rat.lt_irrefl h2)]; rfl
   ·rw [if_neg h2, decide_eq_true (Rat.le_antisymm (Rat.not_lt.1 h2) (Rat.not_lt.1 h1))]; rfl
 clear hx hx' hy hy' sx sy hv hb
 go_enter Tryz.func166, Tryz.ntmps166
 go_wp2_with fail
 refine (ref2_cmp_any neg neg' A A' n c n' c' nfg nfg' C C' p q p' q' x y v m k _ (K0.at_ (by simp)) (K0.at_ (by simp)) (K0.at_ (by simp)) (K0.at_ (by simp)) SX.out SY.out hm HV).mono ?_
 rintro e1 w1 ⟨rfl, hb1⟩
 have K1 := K0.next hb1
 go_wp2_with fail
 go_ret
 exact ⟨by rw [← hvb]; rfl, K1.1⟩
end Go.Proofs.YtgekmbfmfiikkaaGreatDoor

namespace Go.Proofs.YtgekmbfmfiikkaaGreatDoor
open Go.RowKit Go.WideShapes Go.ChangeShapes
section
variable {H : Type} {enc : TypeId × Value → H} {P : Program}
theorem post_of_below {f : Func} {s : ChangeSpec} {apart fresh handsOn again : Bool} {W W' : World} {args : Array Value} {v : Value} {ds gs : List (DataW H)} {before pa pv : List MemPlace}
  (hW : DataW.Whole enc P f.params.toList s.vars apart W args.toList ds gs before)
  (hres : ∀ (b : Nat) (sp : Nat → Bool) (hd : Bool), DataW.TrodAll enc P W' b sp hd f.resultTypes.toList (v.resultList f.resultTypes.size) (s.fn H (ds ++ gs)).results [])
  (hargs : ∀ sp : Nat → Bool, (∀ p ∈ before, sp p.block = true) → DataW.TrodAll enc P W' 0 sp true f.params.toList args.toList (s.fn H (ds ++ gs)).args pa)
  (hvars : ∀ sp : Nat → Bool, (∀ p ∈ before, sp p.block = true) → DataW.TrodVars enc P W' sp s.vars (s.fn H (ds ++ gs)).vars pv)
  (hps : before = pa ++ pv) (hb : Below W.heap.size W W')
  (hok : ∀ (j : Nat) (t : TypeId) (r : Value), f.resultTypes[j]? = some t → (v.resultList f.resultTypes.size)[j]? = some r → Value.okWide P W' .any 0 t r) :
  s.post enc P f apart fresh handsOn again W args v W' := by
 have hlt : ∀ p ∈ before, p.block < W.heap.size := fun p hp => hW.lt p hp
 have hold : ∀ p ∈ before, (fun b => decide (b < W.heap.size)) p.block = true := fun p hp => by simpa using hlt p hp
 refine ⟨ds, gs, before, [], pa, pv, hW, hres _ _ _, hargs _ hold, hvars _ hold, World.keptBut_mono (fun p hp => ⟨hp, ?_⟩) (hb.frame (· ∈ before)), fun _ => ?_⟩
 ·rw [hps, List.mem_append] at hp
  exact Or.inr hp
 ·obtain ⟨_, _, _, _, _, hz, hn⟩ := hW
  refine ⟨hok, _, _, ([] ++ pa) ++ pv, ⟨[] ++ pa, pv, trodAll_append (hargs _ (fun _ _ => rfl)) (hres _ _ _), hvars _ (fun _ _ => rfl), rfl, ?_, ?_⟩, ?_⟩
  ·intro b off hp
   have hin : MemPlace.cell b off ∈ before := by rw [hps]; simpa using hp
   rw [hb.frozen (hlt _ hin)]
   exact hz b off hin
  ·intro ha
   have := hn ha
   rw [hps] at this
   simpa using this
  ·intro p hp _
   rw [hps]
   simpa using hp
end
section
variable {H : Type} {enc : TypeId × Value → H} {P : Program} {w : World} {base : Nat} {spare : Nat → Bool} {held : Bool}
end
end Go.Proofs.YtgekmbfmfiikkaaGreatDoor

namespace Go.Proofs.YtgekmbfmfiikkaaGreatDoor
open Go.RowKit Go.WideShapes Go.ChangeShapes
section
variable {H : Type} {enc : TypeId × Value → H} {P : Program}
theorem trodAll_later (hl : laidOutB P = true) {W W' : World} (hb : Below W.heap.size W W') {sp : Nat → Bool} : ∀ (ts : List TypeId) (vs : List Value) (ds : List (DataW H)) (ps : List MemPlace),
  (∀ t ∈ ts, P.readableRec t = true ∧ t < P.types.size) → DataW.TrodAll enc P W 0 (fun _ => true) true ts vs ds ps → (∀ p ∈ ps, p.block < W.heap.size) → (∀ p ∈ ps, sp p.block = true) →
  DataW.TrodAll enc P W' 0 sp true ts vs ds ps
 | [], vs, ds, ps, _, h, _, _ => by
  obtain ⟨rfl, rfl, rfl⟩ := trodAll_nil h
  exact trodAll_mk0
 | t :: ts, vs, ds, ps, ht, h, h1, h2 => by
  obtain ⟨v, vs', d, ds', p, q, rfl, rfl, rfl, hd, hr⟩ := trodAll_cons h
  obtain ⟨a, b⟩ := ht t List.mem_cons_self
  refine ⟨p, q, WideElems.Trod_stays hl a b hd (fun x hx => hb.same (h1 x (List.mem_append_left _ hx))) (fun x hx => h2 x (List.mem_append_left _ hx)), ?_, rfl⟩
  exact trodAll_later hl hb ts vs' ds' q (fun t' h' => ht t' (List.mem_cons_of_mem _ h')) hr (fun x hx => h1 x (List.mem_append_right _ hx)) (fun x hx => h2 x (List.mem_append_right _ hx))
end
end Go.Proofs.YtgekmbfmfiikkaaGreatDoor
