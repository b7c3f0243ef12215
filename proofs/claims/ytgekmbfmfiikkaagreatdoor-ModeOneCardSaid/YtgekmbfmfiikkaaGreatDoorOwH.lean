/-
  Fractions in memory of their own: quotients, products, sums, differences, copies, small ones.
-/
import Derived.Test.YtgekmbfmfiikkaaGreatDoorOwG
set_option maxHeartbeats 3200000
set_option maxRecDepth 100000
namespace Go.Proofs.YtgekmbfmfiikkaaGreatDoor
open Go.RowKit
theorem sub_frac' (x y : Rat) : Rat.divInt (x.num * (y.den : Int) - y.num * (x.den : Int)) ((x.den : Int) * (y.den : Int)) = x - y := by
 have h := add_frac x (-y)
 rw [← Rat.sub_eq_add_neg] at h
 rw [← h, Rat.neg_num, Rat.neg_den, Int.neg_mul, Int.sub_eq_add_neg]
theorem RetFrO.fg {W w' : World} {x : Rat} {e : Ending} (h : RetFrO W x e w') : RetFr W x e w' := by
 obtain ⟨neg, A, n, c, neg', A', n', c', h1, h2, h3, _, h4⟩ := h
 exact ⟨neg, A, n, c, neg', A', n', c', h1, h2, h3, h4⟩
theorem owr_over_any (neg neg' : Bool) (A A' : Option Addr) (n c n' c' : Nat) (nfg nfg' : Bool) (C C' : Option Addr) (p q p' q' : Nat) (x y : Rat) (r : Rat) (m k : Nat) (w : World) (hx : IsInt w neg A n c x.num) (hx' : IsInt w neg' A' n' c' (x.den : Int)) (hy : IsInt w nfg C p q y.num) (hy' : IsInt w nfg' C' p' q' (y.den : Int)) (sx : Sz x m) (sy : Sz y k) (hm : m + k < 1000000) (h0 : y ≠ 0) (hr : Hid (x / y = r)) :
  Calls Tryz.prog 164 #[.agg #[.bool neg, .slice A n c, .bool neg', .slice A' n' c'], .agg #[.bool nfg, .slice C p q, .bool nfg', .slice C' p' q']] w (RetFrO w r) := by
 have K0 := ((((((Mo.nil w).int hx).int hx').int hy).int hy').var (g := w.heap.size) rfl [.bool neg, .slice A n c, .bool neg', .slice A' n' c'] 26).var (g := w.heap.size + 1) (by simp) [.bool nfg, .slice C p q, .bool nfg', .slice C' p' q'] 26 |>.var (g := w.heap.size + 1 + 1) (by simp) [.bool false, .slice none 0 0, .bool false, .slice none 0 0] 26
 have hn := int_len hx sx.1
 have hn' := int_len hx' sx.2
 have hp := int_len hy sy.1
 have hp' := int_len hy' sy.2
 have HP1 : Hid ((x.num * (y.den : Int)).natAbs < 2 ^ (32 * (m + k))) := Lib.hid (by rw [Int.natAbs_mul]; exact mul_lt_pow sx.1 sy.2)
 have HP2 : Hid (((x.den : Int) * y.num).natAbs < 2 ^ (32 * (m + k))) := Lib.hid (by rw [Int.natAbs_mul]; exact mul_lt_pow sx.2 sy.1)
 have HD : Hid ((x.den : Int) * y.num ≠ 0) := Lib.hid (Int.mul_ne_zero (den_ne x) (fun h => h0 (Rat.num_eq_zero.1 h)))
 have HR : Hid (Rat.divInt (x.num * (y.den : Int)) ((x.den : Int) * y.num) = r) := Lib.hid (by rw [div_frac x y h0]; exact hr.out)
 clear hr h0
 clear hx hx' hy hy' sx sy
 go_enter Tryz.func164, Tryz.ntmps164
 go_wp2_with fail
 generalize ((w.alloc (.cells #[.bool neg, .slice A n c, .bool neg', .slice A' n' c'] 26)).alloc (.cells #[.bool nfg, .slice C p q, .bool nfg', .slice C' p' q'] 26)).alloc (.cells #[.bool false, .slice none 0 0, .bool false, .slice none 0 0] 26) = w0 at K0 ⊢
 obtain ⟨⟨_, _, _, _⟩, ⟨_, _, _, _⟩, _⟩ := (K0.blk (g := w.heap.size) (by repeat constructor)).four
 obtain ⟨⟨_, _, _, _⟩, ⟨_, _, _, _⟩, _⟩ := (K0.blk (g := w.heap.size + 1) (by repeat constructor)).four
 have e0a : ¬ w.heap.size + 1 + 1 = w.heap.size := by omega
 have e0b : ¬ w.heap.size = w.heap.size + 1 + 1 := by omega
 have e1a : ¬ w.heap.size + 1 + 1 = w.heap.size + 1 := by omega
 have e1b : ¬ w.heap.size + 1 = w.heap.size + 1 + 1 := by omega
 go_region_held3 (fun w' => w'.cell? ⟨w.heap.size, 0, none⟩ = some (.bool neg) ∧ w'.cell? ⟨w.heap.size, 1, none⟩ = some (.slice A n c) ∧ w'.cell? ⟨w.heap.size, 2, none⟩ = some (.bool neg') ∧ w'.cell? ⟨w.heap.size, 3, none⟩ = some (.slice A' n' c') ∧ w'.cell? ⟨w.heap.size + 1, 0, none⟩ = some (.bool nfg) ∧ w'.cell? ⟨w.heap.size + 1, 1, none⟩ = some (.slice C p q) ∧ w'.cell? ⟨w.heap.size + 1, 2, none⟩ = some (.bool nfg') ∧ w'.cell? ⟨w.heap.size + 1, 3, none⟩ = some (.slice C' p' q'))
  (go_keep)
  (first
   | (go_at_call 221; apply Calls.withMo (w0 := w); (case K => with_reducible repeat (first | exact K0 | apply Mo.drew | apply Mo.drewN)); intro KX; (with_reducible refine (ow_times_any neg nfg' A C' n c p' q' x.num (y.den : Int) _ ?_ ?_ (by omega) (by omega)).mono ?_); (with_reducible exact KX.at_ (by simp)); (with_reducible exact KX.at_ (by simp)); rintro e1 w1 ⟨neg1, A1, n1, c1, rfl, I1, O1, hb1⟩; (with_reducible have K1 := (KX.call1 hb1 O1).int I1); have hn1 : n1 ≤ 1000000 := Nat.le_trans (int_len I1 HP1.out) (by omega); have Q1x := (K1.blk (g := w.heap.size) (by repeat constructor)).four; obtain ⟨⟨qa1x, qb1x, qc1x, qd1x⟩, ⟨qe1x, qf1x, qg1x, qh1x⟩, qi1x⟩ := Q1x; have Q1y := (K1.blk (g := w.heap.size + 1) (by repeat constructor)).four; obtain ⟨⟨qa1y, qb1y, qc1y, qd1y⟩, ⟨qe1y, qf1y, qg1y, qh1y⟩, qi1y⟩ := Q1y; have Q1r := (K1.blk (g := w.heap.size + 1 + 1) (by repeat constructor)).four; obtain ⟨⟨qa1r, qb1r, qc1r, qd1r⟩, ⟨qe1r, qf1r, qg1r, qh1r⟩, qi1r⟩ := Q1r; clear KX I1 O1 hb1)
   | (go_at_call 221; apply Calls.withMo (w0 := w); (case K => with_reducible repeat (first | exact K1 | apply Mo.drew | apply Mo.drewN)); intro KX; (with_reducible refine (ow_times_any neg' nfg A' C n' c' p q (x.den : Int) y.num _ ?_ ?_ (by omega) (by omega)).mono ?_); (with_reducible exact KX.at_ (by simp)); (with_reducible exact KX.at_ (by simp)); rintro e2 w2 ⟨neg2, A2, n2, c2, rfl, I2, O2, hb2⟩; (with_reducible have K2 := (KX.call1 hb2 O2).int I2); have hn2 : n2 ≤ 1000000 := Nat.le_trans (int_len I2 HP2.out) (by omega); have Q2x := (K2.blk (g := w.heap.size) (by repeat constructor)).four; obtain ⟨⟨qa2x, qb2x, qc2x, qd2x⟩, ⟨qe2x, qf2x, qg2x, qh2x⟩, qi2x⟩ := Q2x; have Q2y := (K2.blk (g := w.heap.size + 1) (by repeat constructor)).four; obtain ⟨⟨qa2y, qb2y, qc2y, qd2y⟩, ⟨qe2y, qf2y, qg2y, qh2y⟩, qi2y⟩ := Q2y; have Q2r := (K2.blk (g := w.heap.size + 1 + 1) (by repeat constructor)).four; obtain ⟨⟨qa2r, qb2r, qc2r, qd2r⟩, ⟨qe2r, qf2r, qg2r, qh2r⟩, qi2r⟩ := Q2r; clear KX I2 O2 hb2)
   | (go_at_call 250; apply Calls.withMo (w0 := w); (case K => with_reducible repeat (first | exact K2 | apply Mo.drew | apply Mo.drewN)); intro KX; (with_reducible refine (owr_low_any neg1 neg2 A1 A2 n1 c1 n2 c2 (x.num * (y.den : Int)) ((x.den : Int) * y.num) r _ ?_ ?_ hn1 hn2 HD.out HR w.heap.size ?_ ?_).mono ?_); (with_reducible exact KX.at_ (by simp)); (with_reducible exact KX.at_ (by simp)); (exact K2.1.size); (with_reducible exact KX.own2 1 0 rfl rfl (by decide)); rintro e3 w3 ⟨neg3, A3, n3, c3, ne3, B3, m3, d3, rfl, I3, J3, O3, X3, hb3⟩; (with_reducible have K3 := ((KX.swap.low2 hb3 O3 X3).int J3).int I3); have Q3x := (K3.blk (g := w.heap.size) (by repeat constructor)).four; obtain ⟨⟨qa3x, qb3x, qc3x, qd3x⟩, ⟨qe3x, qf3x, qg3x, qh3x⟩, qi3x⟩ := Q3x; have Q3y := (K3.blk (g := w.heap.size + 1) (by repeat constructor)).four; obtain ⟨⟨qa3y, qb3y, qc3y, qd3y⟩, ⟨qe3y, qf3y, qg3y, qh3y⟩, qi3y⟩ := Q3y; have Q3r := (K3.blk (g := w.heap.size + 1 + 1) (by repeat constructor)).four; obtain ⟨⟨qa3r, qb3r, qc3r, qd3r⟩, ⟨qe3r, qf3r, qg3r, qh3r⟩, qi3r⟩ := Q3r; clear KX I3 J3 O3 X3 hb3))
 go_wp2_with fail
 have KE := (K3.pick (L' := [(w.heap.size + 1 + 1, [.bool false, .slice none 0 0, .bool false, .slice none 0 0])]) (l' := [(neg3, A3, n3, c3, r.num), (ne3, B3, m3, d3, (r.den : Int))]) (by simp) (by simp)).set4 (by simp <;> omega) neg3 A3 n3 c3 ne3 B3 m3 d3
 exact bodyPost_ret (v := .agg #[.bool neg3, .slice A3 n3 c3, .bool ne3, .slice B3 m3 d3]) (by simp [results, Tryz.results164, go_sem, qa3r, qb3r, qc3r, qd3r]) rfl ⟨_, _, _, _, _, _, _, _, rfl, KE.at_ (by simp), KE.at_ (by simp), KE.own2 0 1 rfl rfl (by decide), KE.1⟩
theorem owr_times_any (neg neg' : Bool) (A A' : Option Addr) (n c n' c' : Nat) (nfg nfg' : Bool) (C C' : Option Addr) (p q p' q' : Nat) (x y : Rat) (r : Rat) (m k : Nat) (w : World) (hx : IsInt w neg A n c x.num) (hx' : IsInt w neg' A' n' c' (x.den : Int)) (hy : IsInt w nfg C p q y.num) (hy' : IsInt w nfg' C' p' q' (y.den : Int)) (sx : Sz x m) (sy : Sz y k) (hm : m + k < 1000000) (hr : Hid (x * y = r)) :
  Calls Tryz.prog 140 #[.agg #[.bool neg, .slice A n c, .bool neg', .slice A' n' c'], .agg #[.bool nfg, .slice C p q, .bool nfg', .slice C' p' q']] w (RetFrO w r) := by
 have K0 := ((((((Mo.nil w).int hx).int hx').int hy).int hy').var (g := w.heap.size) rfl [.bool neg, .slice A n c, .bool neg', .slice A' n' c'] 26).var (g := w.heap.size + 1) (by simp) [.bool nfg, .slice C p q, .bool nfg', .slice C' p' q'] 26 |>.var (g := w.heap.size + 1 + 1) (by simp) [.bool false, .slice none 0 0, .bool false, .slice none 0 0] 26
 have hn := int_len hx sx.1
 have hn' := int_len hx' sx.2
 have hp := int_len hy sy.1
 have hp' := int_len hy' sy.2
 have HP1 : Hid ((x.num * y.num).natAbs < 2 ^ (32 * (m + k))) := Lib.hid (by rw [Int.natAbs_mul]; exact mul_lt_pow sx.1 sy.1)
 have HP2 : Hid (((x.den : Int) * (y.den : Int)).natAbs < 2 ^ (32 * (m + k))) := Lib.hid (by rw [Int.natAbs_mul]; exact mul_lt_pow sx.2 sy.2)
 have HD : Hid ((x.den : Int) * (y.den : Int) ≠ 0) := Lib.hid (den_mul_ne x y)
 have HR : Hid (Rat.divInt (x.num * y.num) ((x.den : Int) * (y.den : Int)) = r) := Lib.hid (by rw [mul_frac]; exact hr.out)
 clear hr
 clear hx hx' hy hy' sx sy
 go_enter Tryz.func140, Tryz.ntmps140
 go_wp2_with fail
 generalize ((w.alloc (.cells #[.bool neg, .slice A n c, .bool neg', .slice A' n' c'] 26)).alloc (.cells #[.bool nfg, .slice C p q, .bool nfg', .slice C' p' q'] 26)).alloc (.cells #[.bool false, .slice none 0 0, .bool false, .slice none 0 0] 26) = w0 at K0 ⊢
 obtain ⟨⟨_, _, _, _⟩, ⟨_, _, _, _⟩, _⟩ := (K0.blk (g := w.heap.size) (by repeat constructor)).four
 obtain ⟨⟨_, _, _, _⟩, ⟨_, _, _, _⟩, _⟩ := (K0.blk (g := w.heap.size + 1) (by repeat constructor)).four
 have e0a : ¬ w.heap.size + 1 + 1 = w.heap.size := by omega
 have e0b : ¬ w.heap.size = w.heap.size + 1 + 1 := by omega
 have e1a : ¬ w.heap.size + 1 + 1 = w.heap.size + 1 := by omega
 have e1b : ¬ w.heap.size + 1 = w.heap.size + 1 + 1 := by omega
 go_region_held3 (fun w' => w'.cell? ⟨w.heap.size, 0, none⟩ = some (.bool neg) ∧ w'.cell? ⟨w.heap.size, 1, none⟩ = some (.slice A n c) ∧ w'.cell? ⟨w.heap.size, 2, none⟩ = some (.bool neg') ∧ w'.cell? ⟨w.heap.size, 3, none⟩ = some (.slice A' n' c') ∧ w'.cell? ⟨w.heap.size + 1, 0, none⟩ = some (.bool nfg) ∧ w'.cell? ⟨w.heap.size + 1, 1, none⟩ = some (.slice C p q) ∧ w'.cell? ⟨w.heap.size + 1, 2, none⟩ = some (.bool nfg') ∧ w'.cell? ⟨w.heap.size + 1, 3, none⟩ = some (.slice C' p' q'))
  (go_keep)
  (first
   | (go_at_call 221; apply Calls.withMo (w0 := w); (case K => with_reducible repeat (first | exact K0 | apply Mo.drew | apply Mo.drewN)); intro KX; (with_reducible refine (ow_times_any neg nfg A C n c p q x.num y.num _ ?_ ?_ (by omega) (by omega)).mono ?_); (with_reducible exact KX.at_ (by simp)); (with_reducible exact KX.at_ (by simp)); rintro e1 w1 ⟨neg1, A1, n1, c1, rfl, I1, O1, hb1⟩; (with_reducible have K1 := (KX.call1 hb1 O1).int I1); have hn1 : n1 ≤ 1000000 := Nat.le_trans (int_len I1 HP1.out) (by omega); have Q1x := (K1.blk (g := w.heap.size) (by repeat constructor)).four; obtain ⟨⟨qa1x, qb1x, qc1x, qd1x⟩, ⟨qe1x, qf1x, qg1x, qh1x⟩, qi1x⟩ := Q1x; have Q1y := (K1.blk (g := w.heap.size + 1) (by repeat constructor)).four; obtain ⟨⟨qa1y, qb1y, qc1y, qd1y⟩, ⟨qe1y, qf1y, qg1y, qh1y⟩, qi1y⟩ := Q1y; have Q1r := (K1.blk (g := w.heap.size + 1 + 1) (by repeat constructor)).four; obtain ⟨⟨qa1r, qb1r, qc1r, qd1r⟩, ⟨qe1r, qf1r, qg1r, qh1r⟩, qi1r⟩ := Q1r; clear KX I1 O1 hb1)
   | (go_at_call 221; apply Calls.withMo (w0 := w); (case K => with_reducible repeat (first | exact K1 | apply Mo.drew | apply Mo.drewN)); intro KX; (with_reducible refine (ow_times_any neg' nfg' A' C' n' c' p' q' (x.den : Int) (y.den : Int) _ ?_ ?_ (by omega) (by omega)).mono ?_); (with_reducible exact KX.at_ (by simp)); (with_reducible exact KX.at_ (by simp)); rintro e2 w2 ⟨neg2, A2, n2, c2, rfl, I2, O2, hb2⟩; (with_reducible have K2 := (KX.call1 hb2 O2).int I2); have hn2 : n2 ≤ 1000000 := Nat.le_trans (int_len I2 HP2.out) (by omega); have Q2x := (K2.blk (g := w.heap.size) (by repeat constructor)).four; obtain ⟨⟨qa2x, qb2x, qc2x, qd2x⟩, ⟨qe2x, qf2x, qg2x, qh2x⟩, qi2x⟩ := Q2x; have Q2y := (K2.blk (g := w.heap.size + 1) (by repeat constructor)).four; obtain ⟨⟨qa2y, qb2y, qc2y, qd2y⟩, ⟨qe2y, qf2y, qg2y, qh2y⟩, qi2y⟩ := Q2y; have Q2r := (K2.blk (g := w.heap.size + 1 + 1) (by repeat constructor)).four; obtain ⟨⟨qa2r, qb2r, qc2r, qd2r⟩, ⟨qe2r, qf2r, qg2r, qh2r⟩, qi2r⟩ := Q2r; clear KX I2 O2 hb2)
   | (go_at_call 250; apply Calls.withMo (w0 := w); (case K => with_reducible repeat (first | exact K2 | apply Mo.drew | apply Mo.drewN)); intro KX; (with_reducible refine (owr_low_any neg1 neg2 A1 A2 n1 c1 n2 c2 (x.num * y.num) ((x.den : Int) * (y.den : Int)) r _ ?_ ?_ hn1 hn2 HD.out HR w.heap.size ?_ ?_).mono ?_); (with_reducible exact KX.at_ (by simp)); (with_reducible exact KX.at_ (by simp)); (exact K2.1.size); (with_reducible exact KX.own2 1 0 rfl rfl (by decide)); rintro e3 w3 ⟨neg3, A3, n3, c3, ne3, B3, m3, d3, rfl, I3, J3, O3, X3, hb3⟩; (with_reducible have K3 := ((KX.swap.low2 hb3 O3 X3).int J3).int I3); have Q3x := (K3.blk (g := w.heap.size) (by repeat constructor)).four; obtain ⟨⟨qa3x, qb3x, qc3x, qd3x⟩, ⟨qe3x, qf3x, qg3x, qh3x⟩, qi3x⟩ := Q3x; have Q3y := (K3.blk (g := w.heap.size + 1) (by repeat constructor)).four; obtain ⟨⟨qa3y, qb3y, qc3y, qd3y⟩, ⟨qe3y, qf3y, qg3y, qh3y⟩, qi3y⟩ := Q3y; have Q3r := (K3.blk (g := w.heap.size + 1 + 1) (by repeat constructor)).four; obtain ⟨⟨qa3r, qb3r, qc3r, qd3r⟩, ⟨qe3r, qf3r, qg3r, qh3r⟩, qi3r⟩ := Q3r; clear KX I3 J3 O3 X3 hb3))
 go_wp2_with fail
 have KE := (K3.pick (L' := [(w.heap.size + 1 + 1, [.bool false, .slice none 0 0, .bool false, .slice none 0 0])]) (l' := [(neg3, A3, n3, c3, r.num), (ne3, B3, m3, d3, (r.den : Int))]) (by simp) (by simp)).set4 (by simp <;> omega) neg3 A3 n3 c3 ne3 B3 m3 d3
 exact bodyPost_ret (v := .agg #[.bool neg3, .slice A3 n3 c3, .bool ne3, .slice B3 m3 d3]) (by simp [results, Tryz.results140, go_sem, qa3r, qb3r, qc3r, qd3r]) rfl ⟨_, _, _, _, _, _, _, _, rfl, KE.at_ (by simp), KE.at_ (by simp), KE.own2 0 1 rfl rfl (by decide), KE.1⟩
theorem owr_plus_any (neg neg' : Bool) (A A' : Option Addr) (n c n' c' : Nat) (nfg nfg' : Bool) (C C' : Option Addr) (p q p' q' : Nat) (x y : Rat) (r : Rat) (m k : Nat) (w : World) (hx : IsInt w neg A n c x.num) (hx' : IsInt w neg' A' n' c' (x.den : Int)) (hy : IsInt w nfg C p q y.num) (hy' : IsInt w nfg' C' p' q' (y.den : Int)) (sx : Sz x m) (sy : Sz y k) (hm : m + k < 1000000) (hr : Hid (x + y = r)) :
  Calls Tryz.prog 141 #[.agg #[.bool neg, .slice A n c, .bool neg', .slice A' n' c'], .agg #[.bool nfg, .slice C p q, .bool nfg', .slice C' p' q']] w (RetFrO w r) := by
 have K0 := ((((((Mo.nil w).int hx).int hx').int hy).int hy').var (g := w.heap.size) rfl [.bool neg, .slice A n c, .bool neg', .slice A' n' c'] 26).var (g := w.heap.size + 1) (by simp) [.bool nfg, .slice C p q, .bool nfg', .slice C' p' q'] 26 |>.var (g := w.heap.size + 1 + 1) (by simp) [.bool false, .slice none 0 0, .bool false, .slice none 0 0] 26
 have hn := int_len hx sx.1
 have hn' := int_len hx' sx.2
 have hp := int_len hy sy.1
 have hp' := int_len hy' sy.2
 have HP1 : Hid ((x.num * (y.den : Int)).natAbs < 2 ^ (32 * (m + k))) := Lib.hid (by rw [Int.natAbs_mul]; exact mul_lt_pow sx.1 sy.2)
 have HP2 : Hid ((y.num * (x.den : Int)).natAbs < 2 ^ (32 * (m + k))) := Lib.hid (by rw [Int.natAbs_mul, Nat.add_comm m k]; exact mul_lt_pow sy.1 sx.2)
 have HP3 : Hid ((x.num * (y.den : Int) + y.num * (x.den : Int)).natAbs < 2 ^ (32 * (m + k + 1))) := Lib.hid (by
  have h3 := add_lt_pow HP1.out HP2.out
  have h4 : (x.num * (y.den : Int) + y.num * (x.den : Int)).natAbs ≤ (x.num * (y.den : Int)).natAbs + (y.num * (x.den : Int)).natAbs := by omega
  omega)
 have HP4 : Hid (((x.den : Int) * (y.den : Int)).natAbs < 2 ^ (32 * (m + k))) := Lib.hid (by rw [Int.natAbs_mul]; exact mul_lt_pow sx.2 sy.2)
 have HD : Hid ((x.den : Int) * (y.den : Int) ≠ 0) := Lib.hid (den_mul_ne x y)
 have HR : Hid (Rat.divInt (x.num * (y.den : Int) + y.num * (x.den : Int)) ((x.den : Int) * (y.den : Int)) = r) := Lib.hid (by rw [add_frac]; exact hr.out)
 clear hr
 clear hx hx' hy hy' sx sy
 go_enter Tryz.func141, Tryz.ntmps141
 go_wp2_with fail
 generalize ((w.alloc (.cells #[.bool neg, .slice A n c, .bool neg', .slice A' n' c'] 26)).alloc (.cells #[.bool nfg, .slice C p q, .bool nfg', .slice C' p' q'] 26)).alloc (.cells #[.bool false, .slice none 0 0, .bool false, .slice none 0 0] 26) = w0 at K0 ⊢
 obtain ⟨⟨_, _, _, _⟩, ⟨_, _, _, _⟩, _⟩ := (K0.blk (g := w.heap.size) (by repeat constructor)).four
 obtain ⟨⟨_, _, _, _⟩, ⟨_, _, _, _⟩, _⟩ := (K0.blk (g := w.heap.size + 1) (by repeat constructor)).four
 have e0a : ¬ w.heap.size + 1 + 1 = w.heap.size := by omega
 have e0b : ¬ w.heap.size = w.heap.size + 1 + 1 := by omega
 have e1a : ¬ w.heap.size + 1 + 1 = w.heap.size + 1 := by omega
 have e1b : ¬ w.heap.size + 1 = w.heap.size + 1 + 1 := by omega
 go_region_held3 (fun w' => w'.cell? ⟨w.heap.size, 0, none⟩ = some (.bool neg) ∧ w'.cell? ⟨w.heap.size, 1, none⟩ = some (.slice A n c) ∧ w'.cell? ⟨w.heap.size, 2, none⟩ = some (.bool neg') ∧ w'.cell? ⟨w.heap.size, 3, none⟩ = some (.slice A' n' c') ∧ w'.cell? ⟨w.heap.size + 1, 0, none⟩ = some (.bool nfg) ∧ w'.cell? ⟨w.heap.size + 1, 1, none⟩ = some (.slice C p q) ∧ w'.cell? ⟨w.heap.size + 1, 2, none⟩ = some (.bool nfg') ∧ w'.cell? ⟨w.heap.size + 1, 3, none⟩ = some (.slice C' p' q'))
  (go_keep)
  (first
   | (go_at_call 221; apply Calls.withMo (w0 := w); (case K => with_reducible repeat (first | exact K0 | apply Mo.drew | apply Mo.drewN)); intro KX; (with_reducible refine (ow_times_any neg nfg' A C' n c p' q' x.num (y.den : Int) _ ?_ ?_ (by omega) (by omega)).mono ?_); (with_reducible exact KX.at_ (by simp)); (with_reducible exact KX.at_ (by simp)); rintro e1 w1 ⟨neg1, A1, n1, c1, rfl, I1, O1, hb1⟩; (with_reducible have K1 := (KX.call1 hb1 O1).int I1); have hn1 : n1 ≤ 1000000 := Nat.le_trans (int_len I1 HP1.out) (by omega); have Q1x := (K1.blk (g := w.heap.size) (by repeat constructor)).four; obtain ⟨⟨qa1x, qb1x, qc1x, qd1x⟩, ⟨qe1x, qf1x, qg1x, qh1x⟩, qi1x⟩ := Q1x; have Q1y := (K1.blk (g := w.heap.size + 1) (by repeat constructor)).four; obtain ⟨⟨qa1y, qb1y, qc1y, qd1y⟩, ⟨qe1y, qf1y, qg1y, qh1y⟩, qi1y⟩ := Q1y; have Q1r := (K1.blk (g := w.heap.size + 1 + 1) (by repeat constructor)).four; obtain ⟨⟨qa1r, qb1r, qc1r, qd1r⟩, ⟨qe1r, qf1r, qg1r, qh1r⟩, qi1r⟩ := Q1r; clear KX I1 O1 hb1)
   | (go_at_call 221; apply Calls.withMo (w0 := w); (case K => with_reducible repeat (first | exact K1 | apply Mo.drew | apply Mo.drewN)); intro KX; (with_reducible refine (ow_times_any nfg neg' C A' p q n' c' y.num (x.den : Int) _ ?_ ?_ (by omega) (by omega)).mono ?_); (with_reducible exact KX.at_ (by simp)); (with_reducible exact KX.at_ (by simp)); rintro e2 w2 ⟨neg2, A2, n2, c2, rfl, I2, O2, hb2⟩; (with_reducible have K2 := (KX.call1 hb2 O2).int I2); have hn2 : n2 ≤ 1000000 := Nat.le_trans (int_len I2 HP2.out) (by omega); have Q2x := (K2.blk (g := w.heap.size) (by repeat constructor)).four; obtain ⟨⟨qa2x, qb2x, qc2x, qd2x⟩, ⟨qe2x, qf2x, qg2x, qh2x⟩, qi2x⟩ := Q2x; have Q2y := (K2.blk (g := w.heap.size + 1) (by repeat constructor)).four; obtain ⟨⟨qa2y, qb2y, qc2y, qd2y⟩, ⟨qe2y, qf2y, qg2y, qh2y⟩, qi2y⟩ := Q2y; have Q2r := (K2.blk (g := w.heap.size + 1 + 1) (by repeat constructor)).four; obtain ⟨⟨qa2r, qb2r, qc2r, qd2r⟩, ⟨qe2r, qf2r, qg2r, qh2r⟩, qi2r⟩ := Q2r; clear KX I2 O2 hb2)
   | (go_at_call 219; apply Calls.withMo (w0 := w); (case K => with_reducible repeat (first | exact K2 | apply Mo.drew | apply Mo.drewN)); intro KX; (with_reducible refine (ow_plus_any neg1 neg2 A1 A2 n1 c1 n2 c2 (x.num * (y.den : Int)) (y.num * (x.den : Int)) _ ?_ ?_ (by omega) (by omega)).mono ?_); (with_reducible exact KX.at_ (by simp)); (with_reducible exact KX.at_ (by simp)); rintro e3 w3 ⟨neg3, A3, n3, c3, rfl, I3, O3, hb3⟩; (with_reducible have K3 := (KX.call1 hb3 O3).int I3); have hn3 : n3 ≤ 1000000 := Nat.le_trans (int_len I3 HP3.out) (by omega); have Q3x := (K3.blk (g := w.heap.size) (by repeat constructor)).four; obtain ⟨⟨qa3x, qb3x, qc3x, qd3x⟩, ⟨qe3x, qf3x, qg3x, qh3x⟩, qi3x⟩ := Q3x; have Q3y := (K3.blk (g := w.heap.size + 1) (by repeat constructor)).four; obtain ⟨⟨qa3y, qb3y, qc3y, qd3y⟩, ⟨qe3y, qf3y, qg3y, qh3y⟩, qi3y⟩ := Q3y; have Q3r := (K3.blk (g := w.heap.size + 1 + 1) (by repeat constructor)).four; obtain ⟨⟨qa3r, qb3r, qc3r, qd3r⟩, ⟨qe3r, qf3r, qg3r, qh3r⟩, qi3r⟩ := Q3r; clear KX I3 O3 hb3)
   | (go_at_call 221; apply Calls.withMo (w0 := w); (case K => with_reducible repeat (first | exact K3 | apply Mo.drew | apply Mo.drewN)); intro KX; (with_reducible refine (ow_times_any neg' nfg' A' C' n' c' p' q' (x.den : Int) (y.den : Int) _ ?_ ?_ (by omega) (by omega)).mono ?_); (with_reducible exact KX.at_ (by simp)); (with_reducible exact KX.at_ (by simp)); rintro e4 w4 ⟨neg4, A4, n4, c4, rfl, I4, O4, hb4⟩; (with_reducible have K4 := (KX.call1 hb4 O4).int I4); have hn4 : n4 ≤ 1000000 := Nat.le_trans (int_len I4 HP4.out) (by omega); have Q4x := (K4.blk (g := w.heap.size) (by repeat constructor)).four; obtain ⟨⟨qa4x, qb4x, qc4x, qd4x⟩, ⟨qe4x, qf4x, qg4x, qh4x⟩, qi4x⟩ := Q4x; have Q4y := (K4.blk (g := w.heap.size + 1) (by repeat constructor)).four; obtain ⟨⟨qa4y, qb4y, qc4y, qd4y⟩, ⟨qe4y, qf4y, qg4y, qh4y⟩, qi4y⟩ := Q4y; have Q4r := (K4.blk (g := w.heap.size + 1 + 1) (by repeat constructor)).four; obtain ⟨⟨qa4r, qb4r, qc4r, qd4r⟩, ⟨qe4r, qf4r, qg4r, qh4r⟩, qi4r⟩ := Q4r; clear KX I4 O4 hb4)
   | (go_at_call 250; apply Calls.withMo (w0 := w); (case K => with_reducible repeat (first | exact K4 | apply Mo.drew | apply Mo.drewN)); intro KX; (with_reducible refine (owr_low_any neg3 neg4 A3 A4 n3 c3 n4 c4 (x.num * (y.den : Int) + y.num * (x.den : Int)) ((x.den : Int) * (y.den : Int)) r _ ?_ ?_ hn3 hn4 HD.out HR w.heap.size ?_ ?_).mono ?_); (with_reducible exact KX.at_ (by simp)); (with_reducible exact KX.at_ (by simp)); (exact K4.1.size); (with_reducible exact KX.own2 1 0 rfl rfl (by decide)); rintro e5 w5 ⟨neg5, A5, n5, c5, ne5, B5, m5, d5, rfl, I5, J5, O5, X5, hb5⟩; (with_reducible have K5 := ((KX.swap.low2 hb5 O5 X5).int J5).int I5); have Q5x := (K5.blk (g := w.heap.size) (by repeat constructor)).four; obtain ⟨⟨qa5x, qb5x, qc5x, qd5x⟩, ⟨qe5x, qf5x, qg5x, qh5x⟩, qi5x⟩ := Q5x; have Q5y := (K5.blk (g := w.heap.size + 1) (by repeat constructor)).four; obtain ⟨⟨qa5y, qb5y, qc5y, qd5y⟩, ⟨qe5y, qf5y, qg5y, qh5y⟩, qi5y⟩ := Q5y; have Q5r := (K5.blk (g := w.heap.size + 1 + 1) (by repeat constructor)).four; obtain ⟨⟨qa5r, qb5r, qc5r, qd5r⟩, ⟨qe5r, qf5r, qg5r, qh5r⟩, qi5r⟩ := Q5r; clear KX I5 J5 O5 X5 hb5))
 go_wp2_with fail
 have KE := (K5.pick (L' := [(w.heap.size + 1 + 1, [.bool false, .slice none 0 0, .bool false, .slice none 0 0])]) (l' := [(neg5, A5, n5, c5, r.num), (ne5, B5, m5, d5, (r.den : Int))]) (by simp) (by simp)).set4 (by simp <;> omega) neg5 A5 n5 c5 ne5 B5 m5 d5
 exact bodyPost_ret (v := .agg #[.bool neg5, .slice A5 n5 c5, .bool ne5, .slice B5 m5 d5]) (by simp [results, Tryz.results141, go_sem, qa5r, qb5r, qc5r, qd5r]) rfl ⟨_, _, _, _, _, _, _, _, rfl, KE.at_ (by simp), KE.at_ (by simp), KE.own2 0 1 rfl rfl (by decide), KE.1⟩
theorem owr_minus_any (neg neg' : Bool) (A A' : Option Addr) (n c n' c' : Nat) (nfg nfg' : Bool) (C C' : Option Addr) (p q p' q' : Nat) (x y : Rat) (r : Rat) (m k : Nat) (w : World) (hx : IsInt w neg A n c x.num) (hx' : IsInt w neg' A' n' c' (x.den : Int)) (hy : IsInt w nfg C p q y.num) (hy' : IsInt w nfg' C' p' q' (y.den : Int)) (sx : Sz x m) (sy : Sz y k) (hm : m + k < 1000000) (hr : Hid (x - y = r)) :
  Calls Tryz.prog 139 #[.agg #[.bool neg, .slice A n c, .bool neg', .slice A' n' c'], .agg #[.bool nfg, .slice C p q, .bool nfg', .slice C' p' q']] w (RetFrO w r) := by
 have K0 := ((((((Mo.nil w).int hx).int hx').int hy).int hy').var (g := w.heap.size) rfl [.bool neg, .slice A n c, .bool neg', .slice A' n' c'] 26).var (g := w.heap.size + 1) (by simp) [.bool nfg, .slice C p q, .bool nfg', .slice C' p' q'] 26 |>.var (g := w.heap.size + 1 + 1) (by simp) [.bool false, .slice none 0 0, .bool false, .slice none 0 0] 26
 have hn := int_len hx sx.1
 have hn' := int_len hx' sx.2
 have hp := int_len hy sy.1
 have hp' := int_len hy' sy.2
 have HP1 : Hid ((x.num * (y.den : Int)).natAbs < 2 ^ (32 * (m + k))) := Lib.hid (by rw [Int.natAbs_mul]; exact mul_lt_pow sx.1 sy.2)
 have HP2 : Hid ((y.num * (x.den : Int)).natAbs < 2 ^ (32 * (m + k))) := Lib.hid (by rw [Int.natAbs_mul, Nat.add_comm m k]; exact mul_lt_pow sy.1 sx.2)
 have HP3 : Hid ((x.num * (y.den : Int) - y.num * (x.den : Int)).natAbs < 2 ^ (32 * (m + k + 1))) := Lib.hid (by
  have h3 := add_lt_pow HP1.out HP2.out
  have h4 : (x.num * (y.den : Int) - y.num * (x.den : Int)).natAbs ≤ (x.num * (y.den : Int)).natAbs + (y.num * (x.den : Int)).natAbs := by omega
  omega)
 have HP4 : Hid (((x.den : Int) * (y.den : Int)).natAbs < 2 ^ (32 * (m + k))) := Lib.hid (by rw [Int.natAbs_mul]; exact mul_lt_pow sx.2 sy.2)
 have HD : Hid ((x.den : Int) * (y.den : Int) ≠ 0) := Lib.hid (den_mul_ne x y)
 have HR : Hid (Rat.divInt (x.num * (y.den : Int) - y.num * (x.den : Int)) ((x.den : Int) * (y.den : Int)) = r) := Lib.hid (by rw [sub_frac']; exact hr.out)
 clear hr
 clear hx hx' hy hy' sx sy
 go_enter Tryz.func139, Tryz.ntmps139
 go_wp2_with fail
 generalize ((w.alloc (.cells #[.bool neg, .slice A n c, .bool neg', .slice A' n' c'] 26)).alloc (.cells #[.bool nfg, .slice C p q, .bool nfg', .slice C' p' q'] 26)).alloc (.cells #[.bool false, .slice none 0 0, .bool false, .slice none 0 0] 26) = w0 at K0 ⊢
 obtain ⟨⟨_, _, _, _⟩, ⟨_, _, _, _⟩, _⟩ := (K0.blk (g := w.heap.size) (by repeat constructor)).four
 obtain ⟨⟨_, _, _, _⟩, ⟨_, _, _, _⟩, _⟩ := (K0.blk (g := w.heap.size + 1) (by repeat constructor)).four
 have e0a : ¬ w.heap.size + 1 + 1 = w.heap.size := by omega
 have e0b : ¬ w.heap.size = w.heap.size + 1 + 1 := by omega
 have e1a : ¬ w.heap.size + 1 + 1 = w.heap.size + 1 := by omega
 have e1b : ¬ w.heap.size + 1 = w.heap.size + 1 + 1 := by omega
 go_region_held3 (fun w' => w'.cell? ⟨w.heap.size, 0, none⟩ = some (.bool neg) ∧ w'.cell? ⟨w.heap.size, 1, none⟩ = some (.slice A n c) ∧ w'.cell? ⟨w.heap.size, 2, none⟩ = some (.bool neg') ∧ w'.cell? ⟨w.heap.size, 3, none⟩ = some (.slice A' n' c') ∧ w'.cell? ⟨w.heap.size + 1, 0, none⟩ = some (.bool nfg) ∧ w'.cell? ⟨w.heap.size + 1, 1, none⟩ = some (.slice C p q) ∧ w'.cell? ⟨w.heap.size + 1, 2, none⟩ = some (.bool nfg') ∧ w'.cell? ⟨w.heap.size + 1, 3, none⟩ = some (.slice C' p' q'))
  (go_keep)
  (first
   | (go_at_call 221; apply Calls.withMo (w0 := w); (case K => with_reducible repeat (first | exact K0 | apply Mo.drew | apply Mo.drewN)); intro KX; (with_reducible refine (ow_times_any neg nfg' A C' n c p' q' x.num (y.den : Int) _ ?_ ?_ (by omega) (by omega)).mono ?_); (with_reducible exact KX.at_ (by simp)); (with_reducible exact KX.at_ (by simp)); rintro e1 w1 ⟨neg1, A1, n1, c1, rfl, I1, O1, hb1⟩; (with_reducible have K1 := (KX.call1 hb1 O1).int I1); have hn1 : n1 ≤ 1000000 := Nat.le_trans (int_len I1 HP1.out) (by omega); have Q1x := (K1.blk (g := w.heap.size) (by repeat constructor)).four; obtain ⟨⟨qa1x, qb1x, qc1x, qd1x⟩, ⟨qe1x, qf1x, qg1x, qh1x⟩, qi1x⟩ := Q1x; have Q1y := (K1.blk (g := w.heap.size + 1) (by repeat constructor)).four; obtain ⟨⟨qa1y, qb1y, qc1y, qd1y⟩, ⟨qe1y, qf1y, qg1y, qh1y⟩, qi1y⟩ := Q1y; have Q1r := (K1.blk (g := w.heap.size + 1 + 1) (by repeat constructor)).four; obtain ⟨⟨qa1r, qb1r, qc1r, qd1r⟩, ⟨qe1r, qf1r, qg1r, qh1r⟩, qi1r⟩ := Q1r; clear KX I1 O1 hb1)
   | (go_at_call 221; apply Calls.withMo (w0 := w); (case K => with_reducible repeat (first | exact K1 | apply Mo.drew | apply Mo.drewN)); intro KX; (with_reducible refine (ow_times_any nfg neg' C A' p q n' c' y.num (x.den : Int) _ ?_ ?_ (by omega) (by omega)).mono ?_); (with_reducible exact KX.at_ (by simp)); (with_reducible exact KX.at_ (by simp)); rintro e2 w2 ⟨neg2, A2, n2, c2, rfl, I2, O2, hb2⟩; (with_reducible have K2 := (KX.call1 hb2 O2).int I2); have hn2 : n2 ≤ 1000000 := Nat.le_trans (int_len I2 HP2.out) (by omega); have Q2x := (K2.blk (g := w.heap.size) (by repeat constructor)).four; obtain ⟨⟨qa2x, qb2x, qc2x, qd2x⟩, ⟨qe2x, qf2x, qg2x, qh2x⟩, qi2x⟩ := Q2x; have Q2y := (K2.blk (g := w.heap.size + 1) (by repeat constructor)).four; obtain ⟨⟨qa2y, qb2y, qc2y, qd2y⟩, ⟨qe2y, qf2y, qg2y, qh2y⟩, qi2y⟩ := Q2y; have Q2r := (K2.blk (g := w.heap.size + 1 + 1) (by repeat constructor)).four; obtain ⟨⟨qa2r, qb2r, qc2r, qd2r⟩, ⟨qe2r, qf2r, qg2r, qh2r⟩, qi2r⟩ := Q2r; clear KX I2 O2 hb2)
   | (go_at_call 251; apply Calls.withMo (w0 := w); (case K => with_reducible repeat (first | exact K2 | apply Mo.drew | apply Mo.drewN)); intro KX; (with_reducible refine (ow_minus_any neg1 neg2 A1 A2 n1 c1 n2 c2 (x.num * (y.den : Int)) (y.num * (x.den : Int)) _ ?_ ?_ (by omega) (by omega)).mono ?_); (with_reducible exact KX.at_ (by simp)); (with_reducible exact KX.at_ (by simp)); rintro e3 w3 ⟨neg3, A3, n3, c3, rfl, I3, O3, hb3⟩; (with_reducible have K3 := (KX.call1 hb3 O3).int I3); have hn3 : n3 ≤ 1000000 := Nat.le_trans (int_len I3 HP3.out) (by omega); have Q3x := (K3.blk (g := w.heap.size) (by repeat constructor)).four; obtain ⟨⟨qa3x, qb3x, qc3x, qd3x⟩, ⟨qe3x, qf3x, qg3x, qh3x⟩, qi3x⟩ := Q3x; have Q3y := (K3.blk (g := w.heap.size + 1) (by repeat constructor)).four; obtain ⟨⟨qa3y, qb3y, qc3y, qd3y⟩, ⟨qe3y, qf3y, qg3y, qh3y⟩, qi3y⟩ := Q3y; have Q3r := (K3.blk (g := w.heap.size + 1 + 1) (by repeat constructor)).four; obtain ⟨⟨qa3r, qb3r, qc3r, qd3r⟩, ⟨qe3r, qf3r, qg3r, qh3r⟩, qi3r⟩ := Q3r; clear KX I3 O3 hb3)
   | (go_at_call 221; apply Calls.withMo (w0 := w); (case K => with_reducible repeat (first | exact K3 | apply Mo.drew | apply Mo.drewN)); intro KX; (with_reducible refine (ow_times_any neg' nfg' A' C' n' c' p' q' (x.den : Int) (y.den : Int) _ ?_ ?_ (by omega) (by omega)).mono ?_); (with_reducible exact KX.at_ (by simp)); (with_reducible exact KX.at_ (by simp)); rintro e4 w4 ⟨neg4, A4, n4, c4, rfl, I4, O4, hb4⟩; (with_reducible have K4 := (KX.call1 hb4 O4).int I4); have hn4 : n4 ≤ 1000000 := Nat.le_trans (int_len I4 HP4.out) (by omega); have Q4x := (K4.blk (g := w.heap.size) (by repeat constructor)).four; obtain ⟨⟨qa4x, qb4x, qc4x, qd4x⟩, ⟨qe4x, qf4x, qg4x, qh4x⟩, qi4x⟩ := Q4x; have Q4y := (K4.blk (g := w.heap.size + 1) (by repeat constructor)).four; obtain ⟨⟨qa4y, qb4y, qc4y, qd4y⟩, ⟨qe4y, qf4y, qg4y, qh4y⟩, qi4y⟩ := Q4y; have Q4r := (K4.blk (g := w.heap.size + 1 + 1) (by repeat constructor)).four; obtain ⟨⟨qa4r, qb4r, qc4r, qd4r⟩, ⟨qe4r, qf4r, qg4r, qh4r⟩, qi4r⟩ := Q4r; clear KX I4 O4 hb4)
   | (go_at_call 250; apply Calls.withMo (w0 := w); (case K => with_reducible repeat (first | exact K4 | apply Mo.drew | apply Mo.drewN)); intro KX; (with_reducible refine (owr_low_any neg3 neg4 A3 A4 n3 c3 n4 c4 (x.num * (y.den : Int) - y.num * (x.den : Int)) ((x.den : Int) * (y.den : Int)) r _ ?_ ?_ hn3 hn4 HD.out HR w.heap.size ?_ ?_).mono ?_); (with_reducible exact KX.at_ (by simp)); (with_reducible exact KX.at_ (by simp)); (exact K4.1.size); (with_reducible exact KX.own2 1 0 rfl rfl (by decide)); rintro e5 w5 ⟨neg5, A5, n5, c5, ne5, B5, m5, d5, rfl, I5, J5, O5, X5, hb5⟩; (with_reducible have K5 := ((KX.swap.low2 hb5 O5 X5).int J5).int I5); have Q5x := (K5.blk (g := w.heap.size) (by repeat constructor)).four; obtain ⟨⟨qa5x, qb5x, qc5x, qd5x⟩, ⟨qe5x, qf5x, qg5x, qh5x⟩, qi5x⟩ := Q5x; have Q5y := (K5.blk (g := w.heap.size + 1) (by repeat constructor)).four; obtain ⟨⟨qa5y, qb5y, qc5y, qd5y⟩, ⟨qe5y, qf5y, qg5y, qh5y⟩, qi5y⟩ := Q5y; have Q5r := (K5.blk (g := w.heap.size + 1 + 1) (by repeat constructor)).four; obtain ⟨⟨qa5r, qb5r, qc5r, qd5r⟩, ⟨qe5r, qf5r, qg5r, qh5r⟩, qi5r⟩ := Q5r; clear KX I5 J5 O5 X5 hb5))
 go_wp2_with fail
 have KE := (K5.pick (L' := [(w.heap.size + 1 + 1, [.bool false, .slice none 0 0, .bool false, .slice none 0 0])]) (l' := [(neg5, A5, n5, c5, r.num), (ne5, B5, m5, d5, (r.den : Int))]) (by simp) (by simp)).set4 (by simp <;> omega) neg5 A5 n5 c5 ne5 B5 m5 d5
 exact bodyPost_ret (v := .agg #[.bool neg5, .slice A5 n5 c5, .bool ne5, .slice B5 m5 d5]) (by simp [results, Tryz.results139, go_sem, qa5r, qb5r, qc5r, qd5r]) rfl ⟨_, _, _, _, _, _, _, _, rfl, KE.at_ (by simp), KE.at_ (by simp), KE.own2 0 1 rfl rfl (by decide), KE.1⟩
theorem owr_copy_any (neg neg' : Bool) (A A' : Option Addr) (n c n' c' : Nat) (r : Rat) (w : World) (hx : IsInt w neg A n c r.num) (hx' : IsInt w neg' A' n' c' (r.den : Int)) (hn : n ≤ 2048) (hn' : n' ≤ 2048) :
    Calls Tryz.prog 150 #[.agg #[.bool neg, .slice A n c, .bool neg', .slice A' n' c']] w (RetFrO w r) := by
  have K0 := ((((Mo.nil w).int hx).int hx').var (g := w.heap.size) rfl [.bool neg, .slice A n c, .bool neg', .slice A' n' c'] 26).var (g := w.heap.size + 1) (by simp) [.bool false, .slice none 0 0, .bool false, .slice none 0 0] 26
  clear hx hx'
  go_enter Tryz.func150, Tryz.ntmps150
  go_wp2_with fail
  generalize (w.alloc (.cells #[.bool neg, .slice A n c, .bool neg', .slice A' n' c'] 26)).alloc (.cells #[.bool false, .slice none 0 0, .bool false, .slice none 0 0] 26) = w0 at K0 ⊢
  refine (ex_of_any 0 _ (by decide)).mono ?_
  rintro e1 w1 ⟨neg1, A1, n1, c1, rfl, I1, hb1⟩
  have hn1 : n1 ≤ 1 := int_len I1 (by decide)
  have hz1 : w.heap.size + 1 < w1.heap.size := by
    have := ((K0.next hb1).blk (g := w.heap.size + 1) (vs := [.bool false, .slice none 0 0, .bool false, .slice none 0 0]) (by simp)).1
    exact this
  have K1 := ((K0.next hb1).int I1).var (g := w1.heap.size) rfl [.bool neg1, .slice A1 n1 c1] 24
  clear K0 I1 hb1
  go_upto_region 2 with (fail)
  generalize hg3 : w1.heap.size = g3 at K1 hz1 ⊢
  generalize w1.alloc (.cells #[.bool neg1, .slice A1 n1 c1] 24) = w2 at K1 ⊢
  clear hg3
  obtain ⟨⟨_, _, _, _⟩, _, _⟩ := (K1.blk (g := w.heap.size) (by repeat constructor)).four
  obtain ⟨za0, zb0, _, _, _⟩ := (K1.blk (g := g3) (by repeat constructor)).two
  have e0a : ¬ w.heap.size + 1 = w.heap.size := by omega
  have e0b : ¬ w.heap.size + 1 = g3 := by omega
  go_wp2_with fail
  go_region_held3 (fun w' => w'.cell? ⟨w.heap.size, 0, none⟩ = some (.bool neg) ∧ w'.cell? ⟨w.heap.size, 1, none⟩ = some (.slice A n c) ∧ w'.cell? ⟨w.heap.size, 2, none⟩ = some (.bool neg') ∧ w'.cell? ⟨w.heap.size, 3, none⟩ = some (.slice A' n' c') ∧ w'.cell? ⟨g3, 0, none⟩ = some (.bool neg1) ∧ w'.cell? ⟨g3, 1, none⟩ = some (.slice A1 n1 c1))
    (go_keep)
    (first
      | (go_at_call 219; apply Calls.withMo (w0 := w); (case K => with_reducible repeat (first | exact K1 | apply Mo.drew | apply Mo.drewN)); intro KX; (with_reducible refine (ow_plus_any neg neg1 A A1 n c n1 c1 r.num 0 _ ?_ ?_ (by omega) (by omega)).mono ?_); (with_reducible exact KX.at_ (by simp)); (with_reducible exact KX.at_ (by simp)); rintro e2 w2 ⟨neg2, A2, n2, c2, rfl, I2, O2, hb2⟩; (with_reducible have K2 := (KX.call1 hb2 O2).int I2); obtain ⟨⟨_, _, _, _⟩, _, _⟩ := (K2.blk (g := w.heap.size) (by repeat constructor)).four; obtain ⟨za2, zb2, _, _, _⟩ := (K2.blk (g := g3) (by repeat constructor)).two; obtain ⟨⟨_, _, _, _⟩, ⟨_, _, _, _⟩, _⟩ := (K2.blk (g := w.heap.size + 1) (by repeat constructor)).four; clear KX I2 O2 hb2)
      | (go_at_call 219; apply Calls.withMo (w0 := w); (case K => with_reducible repeat (first | exact K2 | apply Mo.drew | apply Mo.drewN)); intro KX; (with_reducible refine (ow_plus_any neg' neg1 A' A1 n' c' n1 c1 (r.den : Int) 0 _ ?_ ?_ (by omega) (by omega)).mono ?_); (with_reducible exact KX.at_ (by simp)); (with_reducible exact KX.at_ (by simp)); rintro e3 w3 ⟨neg3, A3, n3, c3, rfl, I3, O3, hb3⟩; (with_reducible have K3 := (KX.call1 hb3 O3).int I3); obtain ⟨⟨_, _, _, _⟩, _, _⟩ := (K3.blk (g := w.heap.size) (by repeat constructor)).four; obtain ⟨za3, zb3, _, _, _⟩ := (K3.blk (g := g3) (by repeat constructor)).two; obtain ⟨⟨ra3, rb3, rc3, rd3⟩, ⟨_, _, _, _⟩, _⟩ := (K3.blk (g := w.heap.size + 1) (by repeat constructor)).four; clear KX I3 O3 hb3)
      | fail)
  all_goals
   rw [Int.add_zero, Int.add_zero] at K3
   go_wp2_with fail
   have KE := (K3.pick (L' := [(w.heap.size + 1, [.bool false, .slice none 0 0, .bool false, .slice none 0 0])]) (l' := [(neg2, A2, n2, c2, r.num), (neg3, A3, n3, c3, (r.den : Int))]) (by simp) (by simp)).set4 (by simp <;> omega) neg2 A2 n2 c2 neg3 A3 n3 c3
   exact bodyPost_ret (v := .agg #[.bool neg2, .slice A2 n2 c2, .bool neg3, .slice A3 n3 c3]) (by simp [results, Tryz.results150, go_sem, ra3, rb3, rc3, rd3]) rfl ⟨_, _, _, _, _, _, _, _, rfl, KE.at_ (by simp), KE.at_ (by simp), KE.own2 1 0 rfl rfl (by decide), KE.1⟩
theorem owr_small_any (a b : Int) (r : Rat) (w : World) (ha : -9223372036854775808 ≤ a ∧ a ≤ 9223372036854775807) (hb : -9223372036854775808 ≤ b ∧ b ≤ 9223372036854775807) (h0 : b ≠ 0) (hr : Hid (Rat.divInt a b = r)) :
  Calls Tryz.prog 143 #[.int .i64 a, .int .i64 b] w (RetFrO w r) := by
 have K0 := (Mo.nil w).var (g := w.heap.size) rfl [.bool false, .slice none 0 0, .bool false, .slice none 0 0] 26
 have HA : Hid (a.natAbs < 2 ^ (32 * 2)) := Lib.hid (by omega)
 have HB : Hid (b.natAbs < 2 ^ (32 * 2)) := Lib.hid (by omega)
 have H0 := Lib.hid h0
 clear h0
 go_enter Tryz.func143, Tryz.ntmps143
 go_wp2_with fail
 refine (ow_of_any a _ ha).mono ?_
 rintro e1 w1 ⟨neg1, A1, n1, c1, rfl, I1, O1, hb1⟩
 have hn1 : n1 ≤ 2 := int_len I1 HA.out
 have K1 := (K0.call1 hb1 O1).int I1
 clear I1 O1 hb1 K0 ha
 go_wp2_with fail
 refine (ow_of_any b _ hb).mono ?_
 rintro e2 w2 ⟨neg2, A2, n2, c2, rfl, I2, O2, hb2⟩
 have hn2 : n2 ≤ 2 := int_len I2 HB.out
 have K2 := (K1.call1 hb2 O2).int I2
 clear I2 O2 hb2 K1 hb
 go_wp2_with fail
 refine (owr_low_any neg1 neg2 A1 A2 n1 c1 n2 c2 a b r _ (K2.at_ (by simp)) (K2.at_ (by simp)) (by omega) (by omega) H0.out hr w.heap.size K2.1.size (K2.own2 1 0 rfl rfl (by decide))).mono ?_
 rintro e3 w3 ⟨neg3, A3, n3, c3, ne3, B3, m3, d3, rfl, I3, J3, O3, X3, hb3⟩
 have K3 := ((K2.swap.low2 hb3 O3 X3).int J3).int I3
 obtain ⟨⟨qa3r, qb3r, qc3r, qd3r⟩, ⟨_, _, _, _⟩, _⟩ := (K3.blk (g := w.heap.size) (by repeat constructor)).four
 clear I3 J3 hb3
 go_wp2_with fail
 have KE := (K3.pick (L' := [(w.heap.size, [.bool false, .slice none 0 0, .bool false, .slice none 0 0])]) (l' := [(neg3, A3, n3, c3, r.num), (ne3, B3, m3, d3, (r.den : Int))]) (by simp) (by simp)).set4 (by simp <;> omega) neg3 A3 n3 c3 ne3 B3 m3 d3
 exact bodyPost_ret (v := .agg #[.bool neg3, .slice A3 n3 c3, .bool ne3, .slice B3 m3 d3]) (by simp [results, Tryz.results143, go_sem, qa3r, qb3r, qc3r, qd3r]) rfl ⟨_, _, _, _, _, _, _, _, rfl, KE.at_ (by simp), KE.at_ (by simp), KE.own2 0 1 rfl rfl (by decide), KE.1⟩
end Go.Proofs.YtgekmbfmfiikkaaGreatDoor
