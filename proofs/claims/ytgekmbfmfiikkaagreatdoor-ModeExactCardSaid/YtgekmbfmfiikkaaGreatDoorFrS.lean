/-
  The references' fractions (polestarref02): products, quotients, sums, differences; held against one another.
-/
import Derived.Test.YtgekmbfmfiikkaaGreatDoorFrR
namespace Go.Proofs.YtgekmbfmfiikkaaGreatDoor
open Go.RowKit

set_option maxRecDepth 100000 in
set_option maxHeartbeats 3200000 in
theorem ref2_times_any (neg neg' : Bool) (A A' : Option Addr) (n c n' c' : Nat) (nfg nfg' : Bool) (C C' : Option Addr) (p q p' q' : Nat) (x y : Rat) (r : Rat) (m k : Nat) (w : World) (hx : IsInt w neg A n c x.num) (hx' : IsInt w neg' A' n' c' (x.den : Int)) (hy : IsInt w nfg C p q y.num) (hy' : IsInt w nfg' C' p' q' (y.den : Int)) (sx : Sz x m) (sy : Sz y k) (hm : m + k < 1000000) (hr : Hid (x * y = r)) :
  Calls Tryz.prog 230 #[.agg #[.bool neg, .slice A n c, .bool neg', .slice A' n' c'], .agg #[.bool nfg, .slice C p q, .bool nfg', .slice C' p' q']] w (RetFr w r) := by
 have K0 := ((((((Mm.nil w).int hx).int hx').int hy).int hy').var (g := w.heap.size) rfl [.bool neg, .slice A n c, .bool neg', .slice A' n' c'] 26).var (g := w.heap.size + 1) (by simp) [.bool nfg, .slice C p q, .bool nfg', .slice C' p' q'] 26 |>.var (g := w.heap.size + 1 + 1) (by simp) [.bool false, .slice none 0 0, .bool false, .slice none 0 0] 26
 have hn := int_len hx sx.1
 have hn' := int_len hx' sx.2
 have hp := int_len hy sy.1
 have hp' := int_len hy' sy.2
 have HP1 : Hid ((x.num * y.num).natAbs < 2 ^ (32 * (m + k))) := Lib.hid (by rw [Int.natAbs_mul]; exact mul_lt_pow sx.1 sy.1)
 have HP2 : Hid (((x.den : Int) * (y.den : Int)).natAbs < 2 ^ (32 * (m + k))) := Lib.hid (by rw [Int.natAbs_mul]; exact mul_lt_pow sx.2 sy.2)
 have HD : Hid ((x.den : Int) * (y.den : Int) ≠ 0) := Lib.hid (den_mul_ne x y)
 have HR : Hid (Rat.divInt (x.num * y.num) ((x.den : Int) * (y.den : Int)) = r) := Lib.hid (by rw [mul_frac]; exact hr.out)
 clear hr
 clear hx hx' hy hy' sx sy
 go_enter Tryz.func230, Tryz.ntmps230
 go_wp2_with fail
 generalize ((w.alloc (.cells #[.bool neg, .slice A n c, .bool neg', .slice A' n' c'] 26)).alloc (.cells #[.bool nfg, .slice C p q, .bool nfg', .slice C' p' q'] 26)).alloc (.cells #[.bool false, .slice none 0 0, .bool false, .slice none 0 0] 26) = w0 at K0 ⊢
 obtain ⟨⟨_, _, _, _⟩, ⟨_, _, _, _⟩, _⟩ := (K0.blk (g := w.heap.size) (by repeat constructor)).four
 obtain ⟨⟨_, _, _, _⟩, ⟨_, _, _, _⟩, _⟩ := (K0.blk (g := w.heap.size + 1) (by repeat constructor)).four
 have e0a : ¬ w.heap.size + 1 + 1 = w.heap.size := by omega
 have e0b : ¬ w.heap.size = w.heap.size + 1 + 1 := by omega
 have e1a : ¬ w.heap.size + 1 + 1 = w.heap.size + 1 := by omega
 have e1b : ¬ w.heap.size + 1 = w.heap.size + 1 + 1 := by omega
 go_region_held3 (fun w' => w'.cell? ⟨w.heap.size, 0, none⟩ = some (.bool neg) ∧ w'.cell? ⟨w.heap.size, 1, none⟩ = some (.slice A n c) ∧ w'.cell? ⟨w.heap.size, 2, none⟩ = some (.bool neg') ∧ w'.cell? ⟨w.heap.size, 3, none⟩ = some (.slice A' n' c') ∧ w'.cell? ⟨w.heap.size + 1, 0, none⟩ = some (.bool nfg) ∧ w'.cell? ⟨w.heap.size + 1, 1, none⟩ = some (.slice C p q) ∧ w'.cell? ⟨w.heap.size + 1, 2, none⟩ = some (.bool nfg') ∧ w'.cell? ⟨w.heap.size + 1, 3, none⟩ = some (.slice C' p' q'))
  (go_keep)
  (first
   | (go_at_call 291; apply Calls.withMm (w0 := w); (case K => with_reducible repeat (first | exact K0 | apply Mm.drew | apply Mm.drewN)); intro KX; (with_reducible refine (ref_times_int neg nfg A C n c p q x.num y.num _ ?_ ?_ (by omega) (by omega)).mono ?_); (with_reducible exact KX.at_ (by simp)); (with_reducible exact KX.at_ (by simp)); rintro e1 w1 ⟨neg1, A1, n1, c1, rfl, I1, hb1⟩; (with_reducible have K1 := (KX.next hb1).int I1); have hn1 : n1 ≤ 1000000 := Nat.le_trans (int_len I1 HP1.out) (by omega); have Q1x := (K1.blk (g := w.heap.size) (by repeat constructor)).four; obtain ⟨⟨qa1x, qb1x, qc1x, qd1x⟩, ⟨qe1x, qf1x, qg1x, qh1x⟩, qi1x⟩ := Q1x; have Q1y := (K1.blk (g := w.heap.size + 1) (by repeat constructor)).four; obtain ⟨⟨qa1y, qb1y, qc1y, qd1y⟩, ⟨qe1y, qf1y, qg1y, qh1y⟩, qi1y⟩ := Q1y; have Q1r := (K1.blk (g := w.heap.size + 1 + 1) (by repeat constructor)).four; obtain ⟨⟨qa1r, qb1r, qc1r, qd1r⟩, ⟨qe1r, qf1r, qg1r, qh1r⟩, qi1r⟩ := Q1r; clear KX I1 hb1)
   | (go_at_call 291; apply Calls.withMm (w0 := w); (case K => with_reducible repeat (first | exact K1 | apply Mm.drew | apply Mm.drewN)); intro KX; (with_reducible refine (ref_times_int neg' nfg' A' C' n' c' p' q' (x.den : Int) (y.den : Int) _ ?_ ?_ (by omega) (by omega)).mono ?_); (with_reducible exact KX.at_ (by simp)); (with_reducible exact KX.at_ (by simp)); rintro e2 w2 ⟨neg2, A2, n2, c2, rfl, I2, hb2⟩; (with_reducible have K2 := (KX.next hb2).int I2); have hn2 : n2 ≤ 1000000 := Nat.le_trans (int_len I2 HP2.out) (by omega); have Q2x := (K2.blk (g := w.heap.size) (by repeat constructor)).four; obtain ⟨⟨qa2x, qb2x, qc2x, qd2x⟩, ⟨qe2x, qf2x, qg2x, qh2x⟩, qi2x⟩ := Q2x; have Q2y := (K2.blk (g := w.heap.size + 1) (by repeat constructor)).four; obtain ⟨⟨qa2y, qb2y, qc2y, qd2y⟩, ⟨qe2y, qf2y, qg2y, qh2y⟩, qi2y⟩ := Q2y; have Q2r := (K2.blk (g := w.heap.size + 1 + 1) (by repeat constructor)).four; obtain ⟨⟨qa2r, qb2r, qc2r, qd2r⟩, ⟨qe2r, qf2r, qg2r, qh2r⟩, qi2r⟩ := Q2r; clear KX I2 hb2)
   | (go_at_call 292; apply Calls.withMm (w0 := w); (case K => with_reducible repeat (first | exact K2 | apply Mm.drew | apply Mm.drewN)); intro KX; (with_reducible refine (ref2_low_any neg1 neg2 A1 A2 n1 c1 n2 c2 (x.num * y.num) ((x.den : Int) * (y.den : Int)) r _ ?_ ?_ hn1 hn2 HD.out HR).mono ?_); (with_reducible exact KX.at_ (by simp)); (with_reducible exact KX.at_ (by simp)); rintro e3 w3 ⟨neg3, A3, n3, c3, ne3, B3, m3, d3, rfl, I3, J3, hb3⟩; (with_reducible have K3 := ((KX.next hb3).int J3).int I3); have Q3x := (K3.blk (g := w.heap.size) (by repeat constructor)).four; obtain ⟨⟨qa3x, qb3x, qc3x, qd3x⟩, ⟨qe3x, qf3x, qg3x, qh3x⟩, qi3x⟩ := Q3x; have Q3y := (K3.blk (g := w.heap.size + 1) (by repeat constructor)).four; obtain ⟨⟨qa3y, qb3y, qc3y, qd3y⟩, ⟨qe3y, qf3y, qg3y, qh3y⟩, qi3y⟩ := Q3y; have Q3r := (K3.blk (g := w.heap.size + 1 + 1) (by repeat constructor)).four; obtain ⟨⟨qa3r, qb3r, qc3r, qd3r⟩, ⟨qe3r, qf3r, qg3r, qh3r⟩, qi3r⟩ := Q3r; clear KX I3 J3 hb3))
 go_wp2_with fail
 have KE := (K3.pick (L' := [(w.heap.size + 1 + 1, [.bool false, .slice none 0 0, .bool false, .slice none 0 0])]) (l' := [(neg3, A3, n3, c3, r.num), (ne3, B3, m3, d3, (r.den : Int))]) (by simp) (by simp)).set4 (by simp <;> omega) neg3 A3 n3 c3 ne3 B3 m3 d3
 exact bodyPost_ret (v := .agg #[.bool neg3, .slice A3 n3 c3, .bool ne3, .slice B3 m3 d3]) (by simp [results, Tryz.results230, go_sem, qa3r, qb3r, qc3r, qd3r]) rfl ⟨_, _, _, _, _, _, _, _, rfl, KE.at_ (by simp), KE.at_ (by simp), KE.1⟩

set_option maxRecDepth 100000 in
set_option maxHeartbeats 3200000 in
theorem ref2_over_any (neg neg' : Bool) (A A' : Option Addr) (n c n' c' : Nat) (nfg nfg' : Bool) (C C' : Option Addr) (p q p' q' : Nat) (x y : Rat) (r : Rat) (m k : Nat) (w : World) (hx : IsInt w neg A n c x.num) (hx' : IsInt w neg' A' n' c' (x.den : Int)) (hy : IsInt w nfg C p q y.num) (hy' : IsInt w nfg' C' p' q' (y.den : Int)) (sx : Sz x m) (sy : Sz y k) (hm : m + k < 1000000) (h0 : y ≠ 0) (hr : Hid (x / y = r)) :
  Calls Tryz.prog 228 #[.agg #[.bool neg, .slice A n c, .bool neg', .slice A' n' c'], .agg #[.bool nfg, .slice C p q, .bool nfg', .slice C' p' q']] w (RetFr w r) := by
 have K0 := ((((((Mm.nil w).int hx).int hx').int hy).int hy').var (g := w.heap.size) rfl [.bool neg, .slice A n c, .bool neg', .slice A' n' c'] 26).var (g := w.heap.size + 1) (by simp) [.bool nfg, .slice C p q, .bool nfg', .slice C' p' q'] 26 |>.var (g := w.heap.size + 1 + 1) (by simp) [.bool false, .slice none 0 0, .bool false, .slice none 0 0] 26
 have hn := int_len hx sx.1
 have hn' := int_len hx' sx.2
 have hp := int_len hy sy.1
 have hp' := int_len hy' sy.2
 have HP1 : Hid ((x.num * (y.den : Int)).natAbs < 2 ^ (32 * (m + k))) := Lib.hid (by rw [Int.natAbs_mul]; exact mul_lt_pow sx.1 sy.2)
 have HP2 : Hid (((x.den : Int) * y.num).natAbs < 2 ^ (32 * (m + k))) := Lib.hid (by rw [Int.natAbs_mul]; exact mul_lt_pow sx.2 sy.1)
 have HD : Hid ((x.den : Int) * y.num ≠ 0) := Lib.hid (Int.mul_ne_zero (den_ne x) (fun h => h0 (Rat.num_eq_zero.1 h)))
 have HR : Hid (Rat.divInt (x.num * (y.den : Int)) ((x.den : Int) * y.num) = r) := Lib.hid (by rw [div_frac x y h0]; exact hr.out)
 clear hr h0
 clear hx hx' hy hy' sx sy
 go_enter Tryz.func228, Tryz.ntmps228
 go_wp2_with fail
 generalize ((w.alloc (.cells #[.bool neg, .slice A n c, .bool neg', .slice A' n' c'] 26)).alloc (.cells #[.bool nfg, .slice C p q, .bool nfg', .slice C' p' q'] 26)).alloc (.cells #[.bool false, .slice none 0 0, .bool false, .slice none 0 0] 26) = w0 at K0 ⊢
 obtain ⟨⟨_, _, _, _⟩, ⟨_, _, _, _⟩, _⟩ := (K0.blk (g := w.heap.size) (by repeat constructor)).four
 obtain ⟨⟨_, _, _, _⟩, ⟨_, _, _, _⟩, _⟩ := (K0.blk (g := w.heap.size + 1) (by repeat constructor)).four
 have e0a : ¬ w.heap.size + 1 + 1 = w.heap.size := by omega
 have e0b : ¬ w.heap.size = w.heap.size + 1 + 1 := by omega
 have e1a : ¬ w.heap.size + 1 + 1 = w.heap.size + 1 := by omega
 have e1b : ¬ w.heap.size + 1 = w.heap.size + 1 + 1 := by omega
 go_region_held3 (fun w' => w'.cell? ⟨w.heap.size, 0, none⟩ = some (.bool neg) ∧ w'.cell? ⟨w.heap.size, 1, none⟩ = some (.slice A n c) ∧ w'.cell? ⟨w.heap.size, 2, none⟩ = some (.bool neg') ∧ w'.cell? ⟨w.heap.size, 3, none⟩ = some (.slice A' n' c') ∧ w'.cell? ⟨w.heap.size + 1, 0, none⟩ = some (.bool nfg) ∧ w'.cell? ⟨w.heap.size + 1, 1, none⟩ = some (.slice C p q) ∧ w'.cell? ⟨w.heap.size + 1, 2, none⟩ = some (.bool nfg') ∧ w'.cell? ⟨w.heap.size + 1, 3, none⟩ = some (.slice C' p' q'))
  (go_keep)
  (first
   | (go_at_call 291; apply Calls.withMm (w0 := w); (case K => with_reducible repeat (first | exact K0 | apply Mm.drew | apply Mm.drewN)); intro KX; (with_reducible refine (ref_times_int neg nfg' A C' n c p' q' x.num (y.den : Int) _ ?_ ?_ (by omega) (by omega)).mono ?_); (with_reducible exact KX.at_ (by simp)); (with_reducible exact KX.at_ (by simp)); rintro e1 w1 ⟨neg1, A1, n1, c1, rfl, I1, hb1⟩; (with_reducible have K1 := (KX.next hb1).int I1); have hn1 : n1 ≤ 1000000 := Nat.le_trans (int_len I1 HP1.out) (by omega); have Q1x := (K1.blk (g := w.heap.size) (by repeat constructor)).four; obtain ⟨⟨qa1x, qb1x, qc1x, qd1x⟩, ⟨qe1x, qf1x, qg1x, qh1x⟩, qi1x⟩ := Q1x; have Q1y := (K1.blk (g := w.heap.size + 1) (by repeat constructor)).four; obtain ⟨⟨qa1y, qb1y, qc1y, qd1y⟩, ⟨qe1y, qf1y, qg1y, qh1y⟩, qi1y⟩ := Q1y; have Q1r := (K1.blk (g := w.heap.size + 1 + 1) (by repeat constructor)).four; obtain ⟨⟨qa1r, qb1r, qc1r, qd1r⟩, ⟨qe1r, qf1r, qg1r, qh1r⟩, qi1r⟩ := Q1r; clear KX I1 hb1)
   | (go_at_call 291; apply Calls.withMm (w0 := w); (case K => with_reducible repeat (first | exact K1 | apply Mm.drew | apply Mm.drewN)); intro KX; (with_reducible refine (ref_times_int neg' nfg A' C n' c' p q (x.den : Int) y.num _ ?_ ?_ (by omega) (by omega)).mono ?_); (with_reducible exact KX.at_ (by simp)); (with_reducible exact KX.at_ (by simp)); rintro e2 w2 ⟨neg2, A2, n2, c2, rfl, I2, hb2⟩; (with_reducible have K2 := (KX.next hb2).int I2); have hn2 : n2 ≤ 1000000 := Nat.le_trans (int_len I2 HP2.out) (by omega); have Q2x := (K2.blk (g := w.heap.size) (by repeat constructor)).four; obtain ⟨⟨qa2x, qb2x, qc2x, qd2x⟩, ⟨qe2x, qf2x, qg2x, qh2x⟩, qi2x⟩ := Q2x; have Q2y := (K2.blk (g := w.heap.size + 1) (by repeat constructor)).four; obtain ⟨⟨qa2y, qb2y, qc2y, qd2y⟩, ⟨qe2y, qf2y, qg2y, qh2y⟩, qi2y⟩ := Q2y; have Q2r := (K2.blk (g := w.heap.size + 1 + 1) (by repeat constructor)).four; obtain ⟨⟨qa2r, qb2r, qc2r, qd2r⟩, ⟨qe2r, qf2r, qg2r, qh2r⟩, qi2r⟩ := Q2r; clear KX I2 hb2)
   | (go_at_call 292; apply Calls.withMm (w0 := w); (case K => with_reducible repeat (first | exact K2 | apply Mm.drew | apply Mm.drewN)); intro KX; (with_reducible refine (ref2_low_any neg1 neg2 A1 A2 n1 c1 n2 c2 (x.num * (y.den : Int)) ((x.den : Int) * y.num) r _ ?_ ?_ hn1 hn2 HD.out HR).mono ?_); (with_reducible exact KX.at_ (by simp)); (with_reducible exact KX.at_ (by simp)); rintro e3 w3 ⟨neg3, A3, n3, c3, ne3, B3, m3, d3, rfl, I3, J3, hb3⟩; (with_reducible have K3 := ((KX.next hb3).int J3).int I3); have Q3x := (K3.blk (g := w.heap.size) (by repeat constructor)).four; obtain ⟨⟨qa3x, qb3x, qc3x, qd3x⟩, ⟨qe3x, qf3x, qg3x, qh3x⟩, qi3x⟩ := Q3x; have Q3y := (K3.blk (g := w.heap.size + 1) (by repeat constructor)).four; obtain ⟨⟨qa3y, qb3y, qc3y, qd3y⟩, ⟨qe3y, qf3y, qg3y, qh3y⟩, qi3y⟩ := Q3y; have Q3r := (K3.blk (g := w.heap.size + 1 + 1) (by repeat constructor)).four; obtain ⟨⟨qa3r, qb3r, qc3r, qd3r⟩, ⟨qe3r, qf3r, qg3r, qh3r⟩, qi3r⟩ := Q3r; clear KX I3 J3 hb3))
 go_wp2_with fail
 have KE := (K3.pick (L' := [(w.heap.size + 1 + 1, [.bool false, .slice none 0 0, .bool false, .slice none 0 0])]) (l' := [(neg3, A3, n3, c3, r.num), (ne3, B3, m3, d3, (r.den : Int))]) (by simp) (by simp)).set4 (by simp <;> omega) neg3 A3 n3 c3 ne3 B3 m3 d3
 exact bodyPost_ret (v := .agg #[.bool neg3, .slice A3 n3 c3, .bool ne3, .slice B3 m3 d3]) (by simp [results, Tryz.results228, go_sem, qa3r, qb3r, qc3r, qd3r]) rfl ⟨_, _, _, _, _, _, _, _, rfl, KE.at_ (by simp), KE.at_ (by simp), KE.1⟩

set_option maxRecDepth 100000 in
set_option maxHeartbeats 1600000 in
theorem ref2_neg_any (neg neg' : Bool) (A A' : Option Addr) (n c n' c' : Nat) (x r : Rat) (w : World) (hx : IsInt w neg A n c x.num) (hx' : IsInt w neg' A' n' c' (x.den : Int)) (hn : n ≤ 1000000000) (hr : Hid (-x = r)) :
  Calls Tryz.prog 293 #[.agg #[.bool neg, .slice A n c, .bool neg', .slice A' n' c']] w (RetFr w r) := by
 have K0 := (((((Mm.nil w).int hx).int hx').var (g := w.heap.size) rfl [.bool neg, .slice A n c, .bool neg', .slice A' n' c'] 26).var (g := w.heap.size + 1) (by simp) [.bool false, .slice none 0 0, .bool false, .slice none 0 0] 26)
 have HV : Hid (-x.num = r.num) := Lib.hid (by rw [← hr.out]; rfl)
 have HW : Hid ((x.den : Int) = (r.den : Int)) := Lib.hid (by rw [← hr.out]; rfl)
 clear hx hx' hr
 go_enter Tryz.func293, Tryz.ntmps293
 go_wp2_with fail
 generalize (w.alloc (.cells #[.bool neg, .slice A n c, .bool neg', .slice A' n' c'] 26)).alloc (.cells #[.bool false, .slice none 0 0, .bool false, .slice none 0 0] 26) = w0 at K0 ⊢
 obtain ⟨⟨_, _, _, _⟩, ⟨_, _, _, _⟩, _⟩ := (K0.blk (g := w.heap.size) (by repeat constructor)).four
 have e0a : ¬ w.heap.size + 1 = w.heap.size := by omega
 have e0b : ¬ w.heap.size = w.heap.size + 1 := by omega
 go_region_held3 (fun w' => w'.cell? ⟨w.heap.size, 0, none⟩ = some (.bool neg) ∧ w'.cell? ⟨w.heap.size, 1, none⟩ = some (.slice A n c) ∧ w'.cell? ⟨w.heap.size, 2, none⟩ = some (.bool neg') ∧ w'.cell? ⟨w.heap.size, 3, none⟩ = some (.slice A' n' c'))
  (go_keep)
  (first
   | (go_at_call 350; apply Calls.withMm (w0 := w); (case K => with_reducible repeat (first | exact K0 | apply Mm.drew | apply Mm.drewN)); intro KX; (with_reducible refine (ref2_turned_any neg A n c x.num r.num _ ?_ hn HV).mono ?_); (with_reducible exact KX.at_ (by simp)); rintro e1 w1 ⟨neg1, A1, n1, c1, rfl, I1, hb1⟩; (with_reducible have K1 := (KX.next hb1).int I1); have Q1x := (K1.blk (g := w.heap.size) (by repeat constructor)).four; obtain ⟨⟨qa1x, qb1x, qc1x, qd1x⟩, ⟨qe1x, qf1x, qg1x, qh1x⟩, qi1x⟩ := Q1x; have Q1r := (K1.blk (g := w.heap.size + 1) (by repeat constructor)).four; obtain ⟨⟨qa1r, qb1r, qc1r, qd1r⟩, ⟨qe1r, qf1r, qg1r, qh1r⟩, qi1r⟩ := Q1r; clear KX I1 hb1))
 rw [HW.out] at K1
 go_wp2_with fail
 have KE := (K1.pick (L' := [(w.heap.size + 1, [.bool false, .slice none 0 0, .bool false, .slice none 0 0])]) (l' := [(neg1, A1, n1, c1, r.num), (neg', A', n', c', (r.den : Int))]) (by simp) (by simp)).set4 (by simp <;> omega) neg1 A1 n1 c1 neg' A' n' c'
 exact bodyPost_ret (v := .agg #[.bool neg1, .slice A1 n1 c1, .bool neg', .slice A' n' c']) (by simp [results, Tryz.results293, go_sem, qa1r, qb1r, qc1r, qd1r]) rfl ⟨_, _, _, _, _, _, _, _, rfl, KE.at_ (by simp), KE.at_ (by simp), KE.1⟩

set_option maxRecDepth 100000 in
set_option maxHeartbeats 3200000 in
theorem ref2_plus_any (neg neg' : Bool) (A A' : Option Addr) (n c n' c' : Nat) (nfg nfg' : Bool) (C C' : Option Addr) (p q p' q' : Nat) (x y : Rat) (r : Rat) (m k : Nat) (w : World) (hx : IsInt w neg A n c x.num) (hx' : IsInt w neg' A' n' c' (x.den : Int)) (hy : IsInt w nfg C p q y.num) (hy' : IsInt w nfg' C' p' q' (y.den : Int)) (sx : Sz x m) (sy : Sz y k) (hm : m + k < 1000000) (hr : Hid (x + y = r)) :
  Calls Tryz.prog 226 #[.agg #[.bool neg, .slice A n c, .bool neg', .slice A' n' c'], .agg #[.bool nfg, .slice C p q, .bool nfg', .slice C' p' q']] w (RetFr w r) := by
 have K0 := ((((((Mm.nil w).int hx).int hx').int hy).int hy').var (g := w.heap.size) rfl [.bool neg, .slice A n c, .bool neg', .slice A' n' c'] 26).var (g := w.heap.size + 1) (by simp) [.bool nfg, .slice C p q, .bool nfg', .slice C' p' q'] 26 |>.var (g := w.heap.size + 1 + 1) (by simp) [.bool false, .slice none 0 0, .bool false, .slice none 0 0] 26
 have hn := int_len hx sx.1
 have hn' := int_len hx' sx.2
 have hp := int_len hy sy.1
 have hp' := int_len hy' sy.2
 have HP1 : Hid ((x.num * (y.den : Int)).natAbs < 2 ^ (32 * (m + k))) := Lib.hid (by rw [Int.natAbs_mul]; exact mul_lt_pow sx.1 sy.2)
 have HP2 : Hid ((y.num * (x.den : Int)).natAbs < 2 ^ (32 * (m + k))) := Lib.hid (by rw [Int.natAbs_mul, Nat.add_comm m k]; exact mul_lt_pow sy.1 sx.2)
 have HP3 : Hid ((x.num * (y.den : Int) + y.num * (x.den : Int)).natAbs < 2 ^ (32 * (m + k + 1))) := Lib.hid (by
  have h3 := add_lt_pow HP1.out HP2.out
  have h4 : (x.num * (y.den : Int) + y.num * (x.den : Int)).natAbs ≤ (x.num * (y.den : Int)).natAbs + (y.num * (x.den : Int)).natAbs := by omega
  omega)
 have HP4 : Hid (((x.den : Int) * (y.den : Int)).natAbs < 2 ^ (32 * (m + k))) := Lib.hid (by rw [Int.natAbs_mul]; exact mul_lt_pow sx.2 sy.2)
 have HD : Hid ((x.den : Int) * (y.den : Int) ≠ 0) := Lib.hid (den_mul_ne x y)
 have HR : Hid (Rat.divInt (x.num * (y.den : Int) + y.num * (x.den : Int)) ((x.den : Int) * (y.den : Int)) = r) := Lib.hid (by rw [add_frac]; exact hr.out)
 clear hr
 clear hx hx' hy hy' sx sy
 go_enter Tryz.func226, Tryz.ntmps226
 go_wp2_with fail
 generalize ((w.alloc (.cells #[.bool neg, .slice A n c, .bool neg', .slice A' n' c'] 26)).alloc (.cells #[.bool nfg, .slice C p q, .bool nfg', .slice C' p' q'] 26)).alloc (.cells #[.bool false, .slice none 0 0, .bool false, .slice none 0 0] 26) = w0 at K0 ⊢
 obtain ⟨⟨_, _, _, _⟩, ⟨_, _, _, _⟩, _⟩ := (K0.blk (g := w.heap.size) (by repeat constructor)).four
 obtain ⟨⟨_, _, _, _⟩, ⟨_, _, _, _⟩, _⟩ := (K0.blk (g := w.heap.size + 1) (by repeat constructor)).four
 have e0a : ¬ w.heap.size + 1 + 1 = w.heap.size := by omega
 have e0b : ¬ w.heap.size = w.heap.size + 1 + 1 := by omega
 have e1a : ¬ w.heap.size + 1 + 1 = w.heap.size + 1 := by omega
 have e1b : ¬ w.heap.size + 1 = w.heap.size + 1 + 1 := by omega
 obtain ⟨⟨_, _, _, _⟩, ⟨_, _, _, _⟩, _⟩ := (K0.blk (g := w.heap.size + 1 + 1) (by repeat constructor)).four
 go_upto_region 1 with (fail)
 go_cut [5] from 6 to 16 (fun s5 wx => ∃ (g : Nat) (ng : Bool) (Ag : Option Addr) (n9 c9 : Nat), s5 = .pointer (some ⟨g, 0, none⟩) ∧ w.heap.size + 1 + 1 < g ∧ n9 ≤ 1000000 ∧
  Mm w [(g, [.bool ng, .slice Ag n9 c9]), (w.heap.size, [.bool neg, .slice A n c, .bool neg', .slice A' n' c']), (w.heap.size + 1, [.bool nfg, .slice C p q, .bool nfg', .slice C' p' q']), (w.heap.size + 1 + 1, [.bool false, .slice none 0 0, .bool false, .slice none 0 0])] [(ng, Ag, n9, c9, x.num * (y.den : Int) + y.num * (x.den : Int)), (neg', A', n', c', (x.den : Int)), (nfg', C', p', q', (y.den : Int))] wx)
 case first =>
  go_region_held3 (fun w' => w'.cell? ⟨w.heap.size, 0, none⟩ = some (.bool neg) ∧ w'.cell? ⟨w.heap.size, 1, none⟩ = some (.slice A n c) ∧ w'.cell? ⟨w.heap.size, 2, none⟩ = some (.bool neg') ∧ w'.cell? ⟨w.heap.size, 3, none⟩ = some (.slice A' n' c') ∧ w'.cell? ⟨w.heap.size + 1, 0, none⟩ = some (.bool nfg) ∧ w'.cell? ⟨w.heap.size + 1, 1, none⟩ = some (.slice C p q) ∧ w'.cell? ⟨w.heap.size + 1, 2, none⟩ = some (.bool nfg') ∧ w'.cell? ⟨w.heap.size + 1, 3, none⟩ = some (.slice C' p' q'))
   (go_keep)
   (first
    | (go_at_call 291; apply Calls.withMm (w0 := w); (case K => with_reducible repeat (first | exact K0 | apply Mm.drew | apply Mm.drewN | apply Mm.varz)); intro KX; (try simp only [hszA] at KX); (with_reducible refine (ref_times_int neg nfg' A C' n c p' q' x.num (y.den : Int) _ ?_ ?_ (by omega) (by omega)).mono ?_); (with_reducible exact KX.at_ (by simp)); (with_reducible exact KX.at_ (by simp)); rintro e1 w1 ⟨neg1, A1, n1, c1, rfl, I1, hb1⟩; (with_reducible have K1 := (KX.next hb1).int I1); have hn1 : n1 ≤ 1000000 := Nat.le_trans (int_len I1 HP1.out) (by omega); have Q1x := (K1.blk (g := w.heap.size) (by repeat constructor)).four; obtain ⟨⟨qa1x, qb1x, qc1x, qd1x⟩, ⟨qe1x, qf1x, qg1x, qh1x⟩, qi1x⟩ := Q1x; have Q1y := (K1.blk (g := w.heap.size + 1) (by repeat constructor)).four; obtain ⟨⟨qa1y, qb1y, qc1y, qd1y⟩, ⟨qe1y, qf1y, qg1y, qh1y⟩, qi1y⟩ := Q1y; have Q1r := (K1.blk (g := w.heap.size + 1 + 1) (by repeat constructor)).four; obtain ⟨⟨qa1r, qb1r, qc1r, qd1r⟩, ⟨qe1r, qf1r, qg1r, qh1r⟩, qi1r⟩ := Q1r; (try (have V01 := K1.blk (g := w0.heap.size) (vs := [.bool false, .slice none 0 0]) ?_; rotate_left; (focus (simp; done)); obtain ⟨_, _, _, _, _⟩ := V01.two; obtain ⟨fa010, fb010⟩ := nq (a := w.heap.size) (b := w0.heap.size) (by omega); obtain ⟨fa011, fb011⟩ := nq (a := w.heap.size + 1) (b := w0.heap.size) (by omega); obtain ⟨fa012, fb012⟩ := nq (a := w.heap.size + 1 + 1) (b := w0.heap.size) (by omega))); clear KX I1 hb1)
    | (go_at_call 291; apply Calls.withMm (w0 := w); (case K => with_reducible repeat (first | exact K1 | apply Mm.drew | apply Mm.drewN | apply Mm.varz)); intro KX; (try simp only [hszA] at KX); (with_reducible refine (ref_times_int nfg neg' C A' p q n' c' y.num (x.den : Int) _ ?_ ?_ (by omega) (by omega)).mono ?_); (with_reducible exact KX.at_ (by simp)); (with_reducible exact KX.at_ (by simp)); rintro e2 w2 ⟨neg2, A2, n2, c2, rfl, I2, hb2⟩; (with_reducible have K2 := (KX.next hb2).int I2); have hn2 : n2 ≤ 1000000 := Nat.le_trans (int_len I2 HP2.out) (by omega); have Q2x := (K2.blk (g := w.heap.size) (by repeat constructor)).four; obtain ⟨⟨qa2x, qb2x, qc2x, qd2x⟩, ⟨qe2x, qf2x, qg2x, qh2x⟩, qi2x⟩ := Q2x; have Q2y := (K2.blk (g := w.heap.size + 1) (by repeat constructor)).four; obtain ⟨⟨qa2y, qb2y, qc2y, qd2y⟩, ⟨qe2y, qf2y, qg2y, qh2y⟩, qi2y⟩ := Q2y; have Q2r := (K2.blk (g := w.heap.size + 1 + 1) (by repeat constructor)).four; obtain ⟨⟨qa2r, qb2r, qc2r, qd2r⟩, ⟨qe2r, qf2r, qg2r, qh2r⟩, qi2r⟩ := Q2r; (try (have V02 := K2.blk (g := w0.heap.size) (vs := [.bool false, .slice none 0 0]) ?_; rotate_left; (focus (simp; done)); obtain ⟨_, _, _, _, _⟩ := V02.two; obtain ⟨fa020, fb020⟩ := nq (a := w.heap.size) (b := w0.heap.size) (by omega); obtain ⟨fa021, fb021⟩ := nq (a := w.heap.size + 1) (b := w0.heap.size) (by omega); obtain ⟨fa022, fb022⟩ := nq (a := w.heap.size + 1 + 1) (b := w0.heap.size) (by omega))); (try (have V12 := K2.blk (g := w1.heap.size) (vs := [.bool false, .slice none 0 0]) ?_; rotate_left; (focus (simp; done)); obtain ⟨_, _, _, _, _⟩ := V12.two; obtain ⟨fa120, fb120⟩ := nq (a := w.heap.size) (b := w1.heap.size) (by omega); obtain ⟨fa121, fb121⟩ := nq (a := w.heap.size + 1) (b := w1.heap.size) (by omega); obtain ⟨fa122, fb122⟩ := nq (a := w.heap.size + 1 + 1) (b := w1.heap.size) (by omega))); clear KX I2 hb2)
    | (go_at_call 289; apply Calls.withMm (w0 := w); (case K => with_reducible repeat (first | exact K2 | apply Mm.drew | apply Mm.drewN | apply Mm.varz)); intro KX; (try simp only [hszA] at KX); (with_reducible refine (ref_plus_any neg1 neg2 A1 A2 n1 c1 n2 c2 (x.num * (y.den : Int)) (y.num * (x.den : Int)) _ ?_ ?_ (by omega) (by omega)).mono ?_); (with_reducible exact KX.at_ (by simp)); (with_reducible exact KX.at_ (by simp)); rintro e3 w3 ⟨neg3, A3, n3, c3, rfl, I3, hb3⟩; (with_reducible have K3 := (KX.next hb3).int I3); have hn3 : n3 ≤ 1000000 := Nat.le_trans (int_len I3 HP3.out) (by omega); have Q3x := (K3.blk (g := w.heap.size) (by repeat constructor)).four; obtain ⟨⟨qa3x, qb3x, qc3x, qd3x⟩, ⟨qe3x, qf3x, qg3x, qh3x⟩, qi3x⟩ := Q3x; have Q3y := (K3.blk (g := w.heap.size + 1) (by repeat constructor)).four; obtain ⟨⟨qa3y, qb3y, qc3y, qd3y⟩, ⟨qe3y, qf3y, qg3y, qh3y⟩, qi3y⟩ := Q3y; have Q3r := (K3.blk (g := w.heap.size + 1 + 1) (by repeat constructor)).four; obtain ⟨⟨qa3r, qb3r, qc3r, qd3r⟩, ⟨qe3r, qf3r, qg3r, qh3r⟩, qi3r⟩ := Q3r; (try (have V03 := K3.blk (g := w0.heap.size) (vs := [.bool false, .slice none 0 0]) ?_; rotate_left; (focus (simp; done)); obtain ⟨_, _, _, _, _⟩ := V03.two; obtain ⟨fa030, fb030⟩ := nq (a := w.heap.size) (b := w0.heap.size) (by omega); obtain ⟨fa031, fb031⟩ := nq (a := w.heap.size + 1) (b := w0.heap.size) (by omega); obtain ⟨fa032, fb032⟩ := nq (a := w.heap.size + 1 + 1) (b := w0.heap.size) (by omega))); (try (have V13 := K3.blk (g := w1.heap.size) (vs := [.bool false, .slice none 0 0]) ?_; rotate_left; (focus (simp; done)); obtain ⟨_, _, _, _, _⟩ := V13.two; obtain ⟨fa130, fb130⟩ := nq (a := w.heap.size) (b := w1.heap.size) (by omega); obtain ⟨fa131, fb131⟩ := nq (a := w.heap.size + 1) (b := w1.heap.size) (by omega); obtain ⟨fa132, fb132⟩ := nq (a := w.heap.size + 1 + 1) (b := w1.heap.size) (by omega))); (try (have V23 := K3.blk (g := w2.heap.size) (vs := [.bool false, .slice none 0 0]) ?_; rotate_left; (focus (simp; done)); obtain ⟨_, _, _, _, _⟩ := V23.two; obtain ⟨fa230, fb230⟩ := nq (a := w.heap.size) (b := w2.heap.size) (by omega); obtain ⟨fa231, fb231⟩ := nq (a := w.heap.size + 1) (b := w2.heap.size) (by omega); obtain ⟨fa232, fb232⟩ := nq (a := w.heap.size + 1 + 1) (b := w2.heap.size) (by omega))); clear KX I3 hb3))
  all_goals (go_wp2_with fail)
  all_goals go_meet
  all_goals (first
   | exact ⟨w3.heap.size, neg3, A3, n3, c3, rfl, by assumption, hn3, (K3.var (g := w3.heap.size) rfl [.bool neg3, .slice A3 n3 c3] 24).pick (by simp) (by simp)⟩
   | exact ⟨w2.heap.size, neg3, A3, n3, c3, rfl, by assumption, hn3, ((K3.pick (L' := [(w2.heap.size, [.bool false, .slice none 0 0]), (w.heap.size, [.bool neg, .slice A n c, .bool neg', .slice A' n' c']), (w.heap.size + 1, [.bool nfg, .slice C p q, .bool nfg', .slice C' p' q']), (w.heap.size + 1 + 1, [.bool false, .slice none 0 0, .bool false, .slice none 0 0])]) (by simp) (fun p h => h)).set2 (by simp <;> omega) neg3 A3 n3 c3).pick (by simp) (by simp)⟩
   | exact ⟨w1.heap.size, neg3, A3, n3, c3, rfl, by assumption, hn3, ((K3.pick (L' := [(w1.heap.size, [.bool false, .slice none 0 0]), (w.heap.size, [.bool neg, .slice A n c, .bool neg', .slice A' n' c']), (w.heap.size + 1, [.bool nfg, .slice C p q, .bool nfg', .slice C' p' q']), (w.heap.size + 1 + 1, [.bool false, .slice none 0 0, .bool false, .slice none 0 0])]) (by simp) (fun p h => h)).set2 (by simp <;> omega) neg3 A3 n3 c3).pick (by simp) (by simp)⟩
   | exact ⟨w0.heap.size, neg3, A3, n3, c3, rfl, by assumption, hn3, ((K3.pick (L' := [(w0.heap.size, [.bool false, .slice none 0 0]), (w.heap.size, [.bool neg, .slice A n c, .bool neg', .slice A' n' c']), (w.heap.size + 1, [.bool nfg, .slice C p q, .bool nfg', .slice C' p' q']), (w.heap.size + 1 + 1, [.bool false, .slice none 0 0, .bool false, .slice none 0 0])]) (by simp) (fun p h => h)).set2 (by simp <;> omega) neg3 A3 n3 c3).pick (by simp) (by simp)⟩)
 case rest =>
  obtain ⟨g, ng, Ag, n9, c9, rfl, hg, hn9, KC⟩ := hcut
  clear K0 HP1 HP2 HP3
  obtain ⟨_, _, _, _, _⟩ := (KC.blk (g := g) (by repeat constructor)).two
  obtain ⟨⟨_, _, _, _⟩, ⟨_, _, _, _⟩, _⟩ := (KC.blk (g := w.heap.size) (by repeat constructor)).four
  obtain ⟨⟨_, _, _, _⟩, ⟨_, _, _, _⟩, _⟩ := (KC.blk (g := w.heap.size + 1) (by repeat constructor)).four
  obtain ⟨⟨_, _, _, _⟩, ⟨_, _, _, _⟩, _⟩ := (KC.blk (g := w.heap.size + 1 + 1) (by repeat constructor)).four
  have g0a : ¬ w.heap.size + 1 + 1 = g := by omega
  have g0b : ¬ g = w.heap.size + 1 + 1 := by omega
  go_wp2_with fail
  go_region_held3 (fun w' => w'.cell? ⟨g, 0, none⟩ = some (.bool ng) ∧ w'.cell? ⟨g, 1, none⟩ = some (.slice Ag n9 c9) ∧ w'.cell? ⟨w.heap.size, 2, none⟩ = some (.bool neg') ∧ w'.cell? ⟨w.heap.size, 3, none⟩ = some (.slice A' n' c') ∧ w'.cell? ⟨w.heap.size + 1, 2, none⟩ = some (.bool nfg') ∧ w'.cell? ⟨w.heap.size + 1, 3, none⟩ = some (.slice C' p' q'))
   (go_keep)
   (first
    | (go_at_call 291; apply Calls.withMm (w0 := w); (case K => with_reducible repeat (first | exact KC | apply Mm.drew | apply Mm.drewN)); intro KX; (with_reducible refine (ref_times_int neg' nfg' A' C' n' c' p' q' (x.den : Int) (y.den : Int) _ ?_ ?_ (by omega) (by omega)).mono ?_); (with_reducible exact KX.at_ (by simp)); (with_reducible exact KX.at_ (by simp)); rintro e4 w4 ⟨neg4, A4, n4, c4, rfl, I4, hb4⟩; (with_reducible have K4 := (KX.next hb4).int I4); have hn4 : n4 ≤ 1000000 := Nat.le_trans (int_len I4 HP4.out) (by omega); have Q4g := (K4.blk (g := g) (by repeat constructor)).two; obtain ⟨qa4g, qb4g, qc4g, qd4g, qe4g⟩ := Q4g; have Q4x := (K4.blk (g := w.heap.size) (by repeat constructor)).four; obtain ⟨⟨qa4x, qb4x, qc4x, qd4x⟩, ⟨qe4x, qf4x, qg4x, qh4x⟩, qi4x⟩ := Q4x; have Q4y := (K4.blk (g := w.heap.size + 1) (by repeat constructor)).four; obtain ⟨⟨qa4y, qb4y, qc4y, qd4y⟩, ⟨qe4y, qf4y, qg4y, qh4y⟩, qi4y⟩ := Q4y; have Q4r := (K4.blk (g := w.heap.size + 1 + 1) (by repeat constructor)).four; obtain ⟨⟨qa4r, qb4r, qc4r, qd4r⟩, ⟨qe4r, qf4r, qg4r, qh4r⟩, qi4r⟩ := Q4r; clear KX I4 hb4)
    | (go_at_call 292; apply Calls.withMm (w0 := w); (case K => with_reducible repeat (first | exact K4 | apply Mm.drew | apply Mm.drewN)); intro KX; (with_reducible refine (ref2_low_any ng neg4 Ag A4 n9 c9 n4 c4 (x.num * (y.den : Int) + y.num * (x.den : Int)) ((x.den : Int) * (y.den : Int)) r _ ?_ ?_ hn9 hn4 HD.out HR).mono ?_); (with_reducible exact KX.at_ (by simp)); (with_reducible exact KX.at_ (by simp)); rintro e5 w5 ⟨neg5, A5, n5, c5, ne5, B5, m5, d5, rfl, I5, J5, hb5⟩; (with_reducible have K5 := ((KX.next hb5).int J5).int I5); have Q5g := (K5.blk (g := g) (by repeat constructor)).two; obtain ⟨qa5g, qb5g, qc5g, qd5g, qe5g⟩ := Q5g; have Q5x := (K5.blk (g := w.heap.size) (by repeat constructor)).four; obtain ⟨⟨qa5x, qb5x, qc5x, qd5x⟩, ⟨qe5x, qf5x, qg5x, qh5x⟩, qi5x⟩ := Q5x; have Q5y := (K5.blk (g := w.heap.size + 1) (by repeat constructor)).four; obtain ⟨⟨qa5y, qb5y, qc5y, qd5y⟩, ⟨qe5y, qf5y, qg5y, qh5y⟩, qi5y⟩ := Q5y; have Q5r := (K5.blk (g := w.heap.size + 1 + 1) (by repeat constructor)).four; obtain ⟨⟨qa5r, qb5r, qc5r, qd5r⟩, ⟨qe5r, qf5r, qg5r, qh5r⟩, qi5r⟩ := Q5r; clear KX I5 J5 hb5))
  go_wp2_with fail
  have KE := (K5.pick (L' := [(w.heap.size + 1 + 1, [.bool false, .slice none 0 0, .bool false, .slice none 0 0])]) (l' := [(neg5, A5, n5, c5, r.num), (ne5, B5, m5, d5, (r.den : Int))]) (by simp) (by simp)).set4 (by simp <;> omega) neg5 A5 n5 c5 ne5 B5 m5 d5
  exact bodyPost_ret (v := .agg #[.bool neg5, .slice A5 n5 c5, .bool ne5, .slice B5 m5 d5]) (by simp [results, Tryz.results226, go_sem, qa5r, qb5r, qc5r, qd5r]) rfl ⟨_, _, _, _, _, _, _, _, rfl, KE.at_ (by simp), KE.at_ (by simp), KE.1⟩

end Go.Proofs.YtgekmbfmfiikkaaGreatDoor
