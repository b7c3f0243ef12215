/-
  The program's fractions (package ratio): products, quotients, sums, differences; held against one another.
-/
import Derived.Test.YtjcjphgpmpjmbaaDoorRaL
namespace Go.Proofs.YtjcjphgpmpjmbaaDoor
open Go.RowKit

set_option maxRecDepth 100000 in
set_option maxHeartbeats 3200000 in
theorem rat_plus_any (neg neg' : Bool) (A A' : Option Addr) (n c n' c' : Nat) (nfg nfg' : Bool) (C C' : Option Addr) (p q p' q' : Nat) (x y : Rat) (r : Rat) (m k : Nat) (w : World) (hx : IsInt w neg A n c x.num) (hx' : IsInt w neg' A' n' c' (x.den : Int)) (hy : IsInt w nfg C p q y.num) (hy' : IsInt w nfg' C' p' q' (y.den : Int)) (sx : Sz x m) (sy : Sz y k) (hm : m + k < 1000000) (hr : Hid (x + y = r)) :
    Calls Tryd.prog 40 #[.agg #[.bool neg, .slice A n c, .bool neg', .slice A' n' c'], .agg #[.bool nfg, .slice C p q, .bool nfg', .slice C' p' q']] w (RetFr w r) := by
  have K0 := ((((((Mm.nil w).int hx).int hx').int hy).int hy').var (g := w.heap.size) rfl [.bool neg, .slice A n c, .bool neg', .slice A' n' c'] 26).var (g := w.heap.size + 1) (by simp) [.bool nfg, .slice C p q, .bool nfg', .slice C' p' q'] 26 |>.var (g := w.heap.size + 1 + 1) (by simp) [.bool false, .slice none 0 0, .bool false, .slice none 0 0] 26
  have hn := int_len hx sx.1
  have hn' := int_len hx' sx.2
  have hp := int_len hy sy.1
  have hp' := int_len hy' sy.2
  have HP1 : Hid ((x.num * (y.den : Int)).natAbs < 2 ^ (32 * (m + k))) := Lib.hid (by rw [Int.natAbs_mul]; exact mul_lt_pow sx.1 sy.2)
  have HP2 : Hid ((y.num * (x.den : Int)).natAbs < 2 ^ (32 * (m + k))) := Lib.hid (by rw [Int.natAbs_mul, Nat.add_comm m k]; exact mul_lt_pow sy.1 sx.2)
  have HP3 : Hid ((x.num * (y.den : Int) + y.num * (x.den : Int)).natAbs < 2 ^ (32 * (m + k + 1))) := Lib.hid (by
    have h3 := add_lt_pow HP1.out HP2.out
    have h4 : (x.num * (y.den : Int) + y.num * (x.den : Int)).natAbs ≤ (x.num * (y.den : Int)).natAbs + (y.num * (x.den : Int)).natAbs := by omega
    omega)
  have HP4 : Hid (((x.den : Int) * (y.den : Int)).natAbs < 2 ^ (32 * (m + k))) := Lib.hid (by rw [Int.natAbs_mul]; exact mul_lt_pow sx.2 sy.2)
  have HD : Hid ((x.den : Int) * (y.den : Int) ≠ 0) := Lib.hid (den_mul_ne x y)
  have HR : Hid (Rat.divInt (x.num * (y.den : Int) + y.num * (x.den : Int)) ((x.den : Int) * (y.den : Int)) = r) := Lib.hid (by rw [add_frac]; exact hr.out)
  clear hr
  clear hx hx' hy hy' sx sy
  go_enter Tryd.func40, Tryd.ntmps40
  go_wp2_with fail
  generalize ((w.alloc (.cells #[.bool neg, .slice A n c, .bool neg', .slice A' n' c'] 26)).alloc (.cells #[.bool nfg, .slice C p q, .bool nfg', .slice C' p' q'] 26)).alloc (.cells #[.bool false, .slice none 0 0, .bool false, .slice none 0 0] 26) = w0 at K0 ⊢
  obtain ⟨⟨qa0x, qb0x, qc0x, qd0x⟩, ⟨qe0x, qf0x, qg0x, qh0x⟩, qi0x⟩ := (K0.blk (g := w.heap.size) (vs := [.bool neg, .slice A n c, .bool neg', .slice A' n' c']) (by simp)).four
  obtain ⟨⟨qa0y, qb0y, qc0y, qd0y⟩, ⟨qe0y, qf0y, qg0y, qh0y⟩, qi0y⟩ := (K0.blk (g := w.heap.size + 1) (vs := [.bool nfg, .slice C p q, .bool nfg', .slice C' p' q']) (by simp)).four
  have e0a : ¬ w.heap.size + 1 + 1 = w.heap.size := by omega
  have e0b : ¬ w.heap.size = w.heap.size + 1 + 1 := by omega
  have e1a : ¬ w.heap.size + 1 + 1 = w.heap.size + 1 := by omega
  have e1b : ¬ w.heap.size + 1 = w.heap.size + 1 + 1 := by omega
  go_region_held3 (fun w' => w'.cell? ⟨w.heap.size, 0, none⟩ = some (.bool neg) ∧ w'.cell? ⟨w.heap.size, 1, none⟩ = some (.slice A n c) ∧ w'.cell? ⟨w.heap.size, 2, none⟩ = some (.bool neg') ∧ w'.cell? ⟨w.heap.size, 3, none⟩ = some (.slice A' n' c') ∧ w'.cell? ⟨w.heap.size + 1, 0, none⟩ = some (.bool nfg) ∧ w'.cell? ⟨w.heap.size + 1, 1, none⟩ = some (.slice C p q) ∧ w'.cell? ⟨w.heap.size + 1, 2, none⟩ = some (.bool nfg') ∧ w'.cell? ⟨w.heap.size + 1, 3, none⟩ = some (.slice C' p' q'))
    (go_keep)
    (first
      | (go_at_call 71; (with_reducible refine (ex_times_any neg nfg' A C' n c p' q' x.num (y.den : Int) _ ?_ ?_ (by omega) (by omega)).mono ?_); (first | (with_reducible exact K0.at_ (by simp)) | (with_reducible exact K0.drew.at_ (by simp)) | (with_reducible exact (K0.drewN _).at_ (by simp))); (first | (with_reducible exact K0.at_ (by simp)) | (with_reducible exact K0.drew.at_ (by simp)) | (with_reducible exact (K0.drewN _).at_ (by simp))); rintro e1 w1 ⟨neg1, A1, n1, c1, rfl, I1, hb1⟩; (first | (with_reducible have K1 := (K0.next hb1).int I1) | (with_reducible have K1 := (K0.drew.next hb1).int I1) | (with_reducible have K1 := ((K0.drewN _).next hb1).int I1)); have hn1 : n1 ≤ 1000000 := Nat.le_trans (int_len I1 HP1.out) (by omega); have Q1x := (K1.blk (g := w.heap.size) (vs := [.bool neg, .slice A n c, .bool neg', .slice A' n' c']) (by simp)).four; obtain ⟨⟨qa1x, qb1x, qc1x, qd1x⟩, ⟨qe1x, qf1x, qg1x, qh1x⟩, qi1x⟩ := Q1x; have Q1y := (K1.blk (g := w.heap.size + 1) (vs := [.bool nfg, .slice C p q, .bool nfg', .slice C' p' q']) (by simp)).four; obtain ⟨⟨qa1y, qb1y, qc1y, qd1y⟩, ⟨qe1y, qf1y, qg1y, qh1y⟩, qi1y⟩ := Q1y; have Q1r := (K1.blk (g := w.heap.size + 1 + 1) (vs := [.bool false, .slice none 0 0, .bool false, .slice none 0 0]) (by simp)).four; obtain ⟨⟨qa1r, qb1r, qc1r, qd1r⟩, ⟨qe1r, qf1r, qg1r, qh1r⟩, qi1r⟩ := Q1r; clear I1 hb1)
      | (go_at_call 71; (with_reducible refine (ex_times_any nfg neg' C A' p q n' c' y.num (x.den : Int) _ ?_ ?_ (by omega) (by omega)).mono ?_); (first | (with_reducible exact K1.at_ (by simp)) | (with_reducible exact K1.drew.at_ (by simp)) | (with_reducible exact (K1.drewN _).at_ (by simp))); (first | (with_reducible exact K1.at_ (by simp)) | (with_reducible exact K1.drew.at_ (by simp)) | (with_reducible exact (K1.drewN _).at_ (by simp))); rintro e2 w2 ⟨neg2, A2, n2, c2, rfl, I2, hb2⟩; (first | (with_reducible have K2 := (K1.next hb2).int I2) | (with_reducible have K2 := (K1.drew.next hb2).int I2) | (with_reducible have K2 := ((K1.drewN _).next hb2).int I2)); have hn2 : n2 ≤ 1000000 := Nat.le_trans (int_len I2 HP2.out) (by omega); have Q2x := (K2.blk (g := w.heap.size) (vs := [.bool neg, .slice A n c, .bool neg', .slice A' n' c']) (by simp)).four; obtain ⟨⟨qa2x, qb2x, qc2x, qd2x⟩, ⟨qe2x, qf2x, qg2x, qh2x⟩, qi2x⟩ := Q2x; have Q2y := (K2.blk (g := w.heap.size + 1) (vs := [.bool nfg, .slice C p q, .bool nfg', .slice C' p' q']) (by simp)).four; obtain ⟨⟨qa2y, qb2y, qc2y, qd2y⟩, ⟨qe2y, qf2y, qg2y, qh2y⟩, qi2y⟩ := Q2y; have Q2r := (K2.blk (g := w.heap.size + 1 + 1) (vs := [.bool false, .slice none 0 0, .bool false, .slice none 0 0]) (by simp)).four; obtain ⟨⟨qa2r, qb2r, qc2r, qd2r⟩, ⟨qe2r, qf2r, qg2r, qh2r⟩, qi2r⟩ := Q2r; clear I2 hb2)
      | (go_at_call 70; (with_reducible refine (ex_plus_any neg1 neg2 A1 A2 n1 c1 n2 c2 (x.num * (y.den : Int)) (y.num * (x.den : Int)) _ ?_ ?_ (by omega) (by omega)).mono ?_); (first | (with_reducible exact K2.at_ (by simp)) | (with_reducible exact K2.drew.at_ (by simp)) | (with_reducible exact (K2.drewN _).at_ (by simp))); (first | (with_reducible exact K2.at_ (by simp)) | (with_reducible exact K2.drew.at_ (by simp)) | (with_reducible exact (K2.drewN _).at_ (by simp))); rintro e3 w3 ⟨neg3, A3, n3, c3, rfl, I3, hb3⟩; (first | (with_reducible have K3 := (K2.next hb3).int I3) | (with_reducible have K3 := (K2.drew.next hb3).int I3) | (with_reducible have K3 := ((K2.drewN _).next hb3).int I3)); have hn3 : n3 ≤ 1000000 := Nat.le_trans (int_len I3 HP3.out) (by omega); have Q3x := (K3.blk (g := w.heap.size) (vs := [.bool neg, .slice A n c, .bool neg', .slice A' n' c']) (by simp)).four; obtain ⟨⟨qa3x, qb3x, qc3x, qd3x⟩, ⟨qe3x, qf3x, qg3x, qh3x⟩, qi3x⟩ := Q3x; have Q3y := (K3.blk (g := w.heap.size + 1) (vs := [.bool nfg, .slice C p q, .bool nfg', .slice C' p' q']) (by simp)).four; obtain ⟨⟨qa3y, qb3y, qc3y, qd3y⟩, ⟨qe3y, qf3y, qg3y, qh3y⟩, qi3y⟩ := Q3y; have Q3r := (K3.blk (g := w.heap.size + 1 + 1) (vs := [.bool false, .slice none 0 0, .bool false, .slice none 0 0]) (by simp)).four; obtain ⟨⟨qa3r, qb3r, qc3r, qd3r⟩, ⟨qe3r, qf3r, qg3r, qh3r⟩, qi3r⟩ := Q3r; clear I3 hb3)
      | (go_at_call 71; (with_reducible refine (ex_times_any neg' nfg' A' C' n' c' p' q' (x.den : Int) (y.den : Int) _ ?_ ?_ (by omega) (by omega)).mono ?_); (first | (with_reducible exact K3.at_ (by simp)) | (with_reducible exact K3.drew.at_ (by simp)) | (with_reducible exact (K3.drewN _).at_ (by simp))); (first | (with_reducible exact K3.at_ (by simp)) | (with_reducible exact K3.drew.at_ (by simp)) | (with_reducible exact (K3.drewN _).at_ (by simp))); rintro e4 w4 ⟨neg4, A4, n4, c4, rfl, I4, hb4⟩; (first | (with_reducible have K4 := (K3.next hb4).int I4) | (with_reducible have K4 := (K3.drew.next hb4).int I4) | (with_reducible have K4 := ((K3.drewN _).next hb4).int I4)); have hn4 : n4 ≤ 1000000 := Nat.le_trans (int_len I4 HP4.out) (by omega); have Q4x := (K4.blk (g := w.heap.size) (vs := [.bool neg, .slice A n c, .bool neg', .slice A' n' c']) (by simp)).four; obtain ⟨⟨qa4x, qb4x, qc4x, qd4x⟩, ⟨qe4x, qf4x, qg4x, qh4x⟩, qi4x⟩ := Q4x; have Q4y := (K4.blk (g := w.heap.size + 1) (vs := [.bool nfg, .slice C p q, .bool nfg', .slice C' p' q']) (by simp)).four; obtain ⟨⟨qa4y, qb4y, qc4y, qd4y⟩, ⟨qe4y, qf4y, qg4y, qh4y⟩, qi4y⟩ := Q4y; have Q4r := (K4.blk (g := w.heap.size + 1 + 1) (vs := [.bool false, .slice none 0 0, .bool false, .slice none 0 0]) (by simp)).four; obtain ⟨⟨qa4r, qb4r, qc4r, qd4r⟩, ⟨qe4r, qf4r, qg4r, qh4r⟩, qi4r⟩ := Q4r; clear I4 hb4)
      | (go_at_call 69; (with_reducible refine (rat_low_any neg3 neg4 A3 A4 n3 c3 n4 c4 (x.num * (y.den : Int) + y.num * (x.den : Int)) ((x.den : Int) * (y.den : Int)) r _ ?_ ?_ hn3 hn4 HD.out HR).mono ?_); (first | (with_reducible exact K4.at_ (by simp)) | (with_reducible exact K4.drew.at_ (by simp)) | (with_reducible exact (K4.drewN _).at_ (by simp))); (first | (with_reducible exact K4.at_ (by simp)) | (with_reducible exact K4.drew.at_ (by simp)) | (with_reducible exact (K4.drewN _).at_ (by simp))); rintro e5 w5 ⟨neg5, A5, n5, c5, ne5, B5, m5, d5, rfl, I5, J5, hb5⟩; (first | (with_reducible have K5 := ((K4.next hb5).int J5).int I5) | (with_reducible have K5 := ((K4.drew.next hb5).int J5).int I5) | (with_reducible have K5 := (((K4.drewN _).next hb5).int J5).int I5)); have Q5x := (K5.blk (g := w.heap.size) (vs := [.bool neg, .slice A n c, .bool neg', .slice A' n' c']) (by simp)).four; obtain ⟨⟨qa5x, qb5x, qc5x, qd5x⟩, ⟨qe5x, qf5x, qg5x, qh5x⟩, qi5x⟩ := Q5x; have Q5y := (K5.blk (g := w.heap.size + 1) (vs := [.bool nfg, .slice C p q, .bool nfg', .slice C' p' q']) (by simp)).four; obtain ⟨⟨qa5y, qb5y, qc5y, qd5y⟩, ⟨qe5y, qf5y, qg5y, qh5y⟩, qi5y⟩ := Q5y; have Q5r := (K5.blk (g := w.heap.size + 1 + 1) (vs := [.bool false, .slice none 0 0, .bool false, .slice none 0 0]) (by simp)).four; obtain ⟨⟨qa5r, qb5r, qc5r, qd5r⟩, ⟨qe5r, qf5r, qg5r, qh5r⟩, qi5r⟩ := Q5r; clear I5 J5 hb5))
  go_wp2_with fail
  have KE := (K5.pick (L' := [(w.heap.size + 1 + 1, [.bool false, .slice none 0 0, .bool false, .slice none 0 0])]) (l' := [(neg5, A5, n5, c5, r.num), (ne5, B5, m5, d5, (r.den : Int))]) (by simp) (by simp)).set4 (by simp <;> omega) neg5 A5 n5 c5 ne5 B5 m5 d5
  exact bodyPost_ret (v := .agg #[.bool neg5, .slice A5 n5 c5, .bool ne5, .slice B5 m5 d5]) (by simp [results, Tryd.results40, go_sem, qa5r, qb5r, qc5r, qd5r]) rfl ⟨_, _, _, _, _, _, _, _, rfl, KE.at_ (by simp), KE.at_ (by simp), KE.1⟩

theorem icmp_rcmp (x y : Rat) : icmp (x.num * (y.den : Int)) (y.num * (x.den : Int)) = rcmp x y := by
  rw [← rcmp_sign]
  obtain ⟨h1, h2, h3⟩ := icmp_facts (x.num * (y.den : Int)) (y.num * (x.den : Int))
  rcases Int.lt_trichotomy (x.num * (y.den : Int)) (y.num * (x.den : Int)) with h | h | h
  · rw [h1 h, Int.sign_eq_neg_one_of_neg (by omega)]
  · rw [h3 h, h, Int.sub_self]; rfl
  · rw [h2 h, Int.sign_eq_one_of_pos (by omega)]

set_option maxRecDepth 100000 in
set_option maxHeartbeats 3200000 in
theorem rat_cmp_any (neg neg' : Bool) (A A' : Option Addr) (n c n' c' : Nat) (nfg nfg' : Bool) (C C' : Option Addr) (p q p' q' : Nat) (x y : Rat) (v : Int) (m k : Nat) (w : World) (hx : IsInt w neg A n c x.num) (hx' : IsInt w neg' A' n' c' (x.den : Int)) (hy : IsInt w nfg C p q y.num) (hy' : IsInt w nfg' C' p' q' (y.den : Int)) (sx : Sz x m) (sy : Sz y k) (hm : m + k < 1000000) (hv : Hid (rcmp x y = v)) :
    Calls Tryd.prog 43 #[.agg #[.bool neg, .slice A n c, .bool neg', .slice A' n' c'], .agg #[.bool nfg, .slice C p q, .bool nfg', .slice C' p' q']] w (RetV w (.int .i64 v)) := by
  have K0 := ((((((Mm.nil w).int hx).int hx').int hy).int hy').var (g := w.heap.size) rfl [.bool neg, .slice A n c, .bool neg', .slice A' n' c'] 26).var (g := w.heap.size + 1) (by simp) [.bool nfg, .slice C p q, .bool nfg', .slice C' p' q'] 26
  have hn := int_len hx sx.1
  have hn' := int_len hx' sx.2
  have hp := int_len hy sy.1
  have hp' := int_len hy' sy.2
  have HP1 : Hid ((x.num * (y.den : Int)).natAbs < 2 ^ (32 * (m + k))) := Lib.hid (by rw [Int.natAbs_mul]; exact mul_lt_pow sx.1 sy.2)
  have HP2 : Hid ((y.num * (x.den : Int)).natAbs < 2 ^ (32 * (m + k))) := Lib.hid (by rw [Int.natAbs_mul, Nat.add_comm m k]; exact mul_lt_pow sy.1 sx.2)
  have HP3 : Hid ((x.num * (y.den : Int) - y.num * (x.den : Int)).natAbs < 2 ^ (32 * (m + k + 1))) := Lib.hid (by
    have h3 := add_lt_pow HP1.out HP2.out
    have h4 : (x.num * (y.den : Int) - y.num * (x.den : Int)).natAbs ≤ (x.num * (y.den : Int)).natAbs + (y.num * (x.den : Int)).natAbs := by omega
    omega)
  have HS : Hid (icmp (x.num * (y.den : Int)) (y.num * (x.den : Int)) = v) := Lib.hid (by rw [icmp_rcmp]; exact hv.out)
  clear hv HP3
  clear hx hx' hy hy' sx sy
  go_enter Tryd.func43, Tryd.ntmps43
  go_wp2_with fail
  generalize ((w.alloc (.cells #[.bool neg, .slice A n c, .bool neg', .slice A' n' c'] 26)).alloc (.cells #[.bool nfg, .slice C p q, .bool nfg', .slice C' p' q'] 26)) = w0 at K0 ⊢
  obtain ⟨⟨qa0x, qb0x, qc0x, qd0x⟩, ⟨qe0x, qf0x, qg0x, qh0x⟩, qi0x⟩ := (K0.blk (g := w.heap.size) (vs := [.bool neg, .slice A n c, .bool neg', .slice A' n' c']) (by simp)).four
  obtain ⟨⟨qa0y, qb0y, qc0y, qd0y⟩, ⟨qe0y, qf0y, qg0y, qh0y⟩, qi0y⟩ := (K0.blk (g := w.heap.size + 1) (vs := [.bool nfg, .slice C p q, .bool nfg', .slice C' p' q']) (by simp)).four
  go_region_held3 (fun w' => w'.cell? ⟨w.heap.size, 0, none⟩ = some (.bool neg) ∧ w'.cell? ⟨w.heap.size, 1, none⟩ = some (.slice A n c) ∧ w'.cell? ⟨w.heap.size, 2, none⟩ = some (.bool neg') ∧ w'.cell? ⟨w.heap.size, 3, none⟩ = some (.slice A' n' c') ∧ w'.cell? ⟨w.heap.size + 1, 0, none⟩ = some (.bool nfg) ∧ w'.cell? ⟨w.heap.size + 1, 1, none⟩ = some (.slice C p q) ∧ w'.cell? ⟨w.heap.size + 1, 2, none⟩ = some (.bool nfg') ∧ w'.cell? ⟨w.heap.size + 1, 3, none⟩ = some (.slice C' p' q'))
    (go_keep)
    (first
      | (go_at_call 71; (with_reducible refine (ex_times_any neg nfg' A C' n c p' q' x.num (y.den : Int) _ ?_ ?_ (by omega) (by omega)).mono ?_); (first | (with_reducible exact K0.at_ (by simp)) | (with_reducible exact K0.drew.at_ (by simp)) | (with_reducible exact (K0.drewN _).at_ (by simp))); (first | (with_reducible exact K0.at_ (by simp)) | (with_reducible exact K0.drew.at_ (by simp)) | (with_reducible exact (K0.drewN _).at_ (by simp))); rintro e1 w1 ⟨neg1, A1, n1, c1, rfl, I1, hb1⟩; (first | (with_reducible have K1 := (K0.next hb1).int I1) | (with_reducible have K1 := (K0.drew.next hb1).int I1) | (with_reducible have K1 := ((K0.drewN _).next hb1).int I1)); have hn1 : n1 ≤ 1000000 := Nat.le_trans (int_len I1 HP1.out) (by omega); have Q1x := (K1.blk (g := w.heap.size) (vs := [.bool neg, .slice A n c, .bool neg', .slice A' n' c']) (by simp)).four; obtain ⟨⟨qa1x, qb1x, qc1x, qd1x⟩, ⟨qe1x, qf1x, qg1x, qh1x⟩, qi1x⟩ := Q1x; have Q1y := (K1.blk (g := w.heap.size + 1) (vs := [.bool nfg, .slice C p q, .bool nfg', .slice C' p' q']) (by simp)).four; obtain ⟨⟨qa1y, qb1y, qc1y, qd1y⟩, ⟨qe1y, qf1y, qg1y, qh1y⟩, qi1y⟩ := Q1y; clear I1 hb1)
      | (go_at_call 71; (with_reducible refine (ex_times_any nfg neg' C A' p q n' c' y.num (x.den : Int) _ ?_ ?_ (by omega) (by omega)).mono ?_); (first | (with_reducible exact K1.at_ (by simp)) | (with_reducible exact K1.drew.at_ (by simp)) | (with_reducible exact (K1.drewN _).at_ (by simp))); (first | (with_reducible exact K1.at_ (by simp)) | (with_reducible exact K1.drew.at_ (by simp)) | (with_reducible exact (K1.drewN _).at_ (by simp))); rintro e2 w2 ⟨neg2, A2, n2, c2, rfl, I2, hb2⟩; (first | (with_reducible have K2 := (K1.next hb2).int I2) | (with_reducible have K2 := (K1.drew.next hb2).int I2) | (with_reducible have K2 := ((K1.drewN _).next hb2).int I2)); have hn2 : n2 ≤ 1000000 := Nat.le_trans (int_len I2 HP2.out) (by omega); have Q2x := (K2.blk (g := w.heap.size) (vs := [.bool neg, .slice A n c, .bool neg', .slice A' n' c']) (by simp)).four; obtain ⟨⟨qa2x, qb2x, qc2x, qd2x⟩, ⟨qe2x, qf2x, qg2x, qh2x⟩, qi2x⟩ := Q2x; have Q2y := (K2.blk (g := w.heap.size + 1) (vs := [.bool nfg, .slice C p q, .bool nfg', .slice C' p' q']) (by simp)).four; obtain ⟨⟨qa2y, qb2y, qc2y, qd2y⟩, ⟨qe2y, qf2y, qg2y, qh2y⟩, qi2y⟩ := Q2y; clear I2 hb2)
      | (go_at_call 61; (with_reducible refine (ex_cmp_of neg1 neg2 A1 A2 n1 c1 n2 c2 (x.num * (y.den : Int)) (y.num * (x.den : Int)) v _ ?_ ?_ (by omega) (by omega) HS).mono ?_); (first | (with_reducible exact K2.at_ (by simp)) | (with_reducible exact K2.drew.at_ (by simp)) | (with_reducible exact (K2.drewN _).at_ (by simp))); (first | (with_reducible exact K2.at_ (by simp)) | (with_reducible exact K2.drew.at_ (by simp)) | (with_reducible exact (K2.drewN _).at_ (by simp))); rintro e3 w3 ⟨rfl, hb3⟩; (first | (with_reducible have K3 := (K2.next hb3)) | (with_reducible have K3 := (K2.drew.next hb3)) | (with_reducible have K3 := ((K2.drewN _).next hb3))); have Q3x := (K3.blk (g := w.heap.size) (vs := [.bool neg, .slice A n c, .bool neg', .slice A' n' c']) (by simp)).four; obtain ⟨⟨qa3x, qb3x, qc3x, qd3x⟩, ⟨qe3x, qf3x, qg3x, qh3x⟩, qi3x⟩ := Q3x; have Q3y := (K3.blk (g := w.heap.size + 1) (vs := [.bool nfg, .slice C p q, .bool nfg', .slice C' p' q']) (by simp)).four; obtain ⟨⟨qa3y, qb3y, qc3y, qd3y⟩, ⟨qe3y, qf3y, qg3y, qh3y⟩, qi3y⟩ := Q3y; clear hb3))
  all_goals (go_wp2_with fail)
  all_goals go_ret
  all_goals exact ⟨rfl, K3.1⟩

end Go.Proofs.YtjcjphgpmpjmbaaDoor
