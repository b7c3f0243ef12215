/-
  How stable a cavity is, by the program (cavity.Kind).
-/
import Derived.Test.YtgekmbfmfiikkaaGreatDoorKdA
import Derived.Test.YtgekmbfmfiikkaaGreatDoorMdA
import Derived.Test.YtgekmbfmfiikkaaGreatDoorMdC
namespace Go.Proofs.YtgekmbfmfiikkaaGreatDoor
open Go.RowKit
def kindV (a b c d : Rat) : Int := if 0 < 4 - (a + d) * (a + d) then 1 else if (b = 0 ∧ c = 0 ∧ a = d ∧ (a = 1 ∨ a = -1)) then 2 else if 4 - (a + d) * (a + d) = 0 then 3 else 4
theorem kindV_1 {a b c d : Rat} (h : rcmp ((a + d) * (a + d)) 4 = -1) : kindV a b c d = 1 := by
 unfold rcmp at h
 split at h
 ·rename_i k; unfold kindV; rw [if_pos (by grind)]
 ·split at h <;> exact absurd h (by decide)
theorem kindV_n {a b c d : Rat} (h : rcmp ((a + d) * (a + d)) 4 ≠ -1) {b1 b2 : Bool} (h1 : (decide (b = 0) && decide (c = 0) && decide (a = 1) && decide (d = a)) = b1) (h2 : (decide (b = 0) && decide (c = 0) && decide (a = -1) && decide (d = a)) = b2) :
  kindV a b c d = if (b1 || b2) then 2 else if rcmp ((a + d) * (a + d)) 4 = 0 then 3 else 4 := by
 have k0 : ¬ ((a + d) * (a + d) < 4) := fun k => h (by unfold rcmp; rw [if_pos k])
 have k1 : ¬ 0 < 4 - (a + d) * (a + d) := fun k => k0 (by grind)
 have e : (b1 || b2) = decide (b = 0 ∧ c = 0 ∧ a = d ∧ (a = 1 ∨ a = -1)) := by
  rw [← h1, ← h2, Bool.eq_iff_iff]
  simp only [Bool.or_eq_true, Bool.and_eq_true, decide_eq_true_eq]
  constructor
  ·rintro (⟨⟨⟨x, y⟩, z⟩, t⟩ | ⟨⟨⟨x, y⟩, z⟩, t⟩)
   ·exact ⟨x, y, t.symm, .inl z⟩
   ·exact ⟨x, y, t.symm, .inr z⟩
  ·rintro ⟨x, y, z, t | t⟩
   ·exact .inl ⟨⟨⟨x, y⟩, t⟩, z.symm⟩
   ·exact .inr ⟨⟨⟨x, y⟩, t⟩, z.symm⟩
 unfold kindV
 rw [if_neg k1, e]
 by_cases hp : (b = 0 ∧ c = 0 ∧ a = d ∧ (a = 1 ∨ a = -1))
 ·rw [if_pos hp, decide_eq_true hp, if_pos rfl]
 ·rw [if_neg hp, decide_eq_false hp, if_neg Bool.false_ne_true]
  by_cases hz : 4 - (a + d) * (a + d) = 0
  ·have : rcmp ((a + d) * (a + d)) 4 = 0 := by unfold rcmp; rw [if_neg k0, if_neg (by grind)]
   rw [if_pos hz, if_pos this]
  ·have : ¬ rcmp ((a + d) * (a + d)) 4 = 0 := by unfold rcmp; rw [if_neg k0, if_pos (by grind)]; decide
   rw [if_neg hz, if_neg this]
theorem rcmp_three (x y : Rat) : rcmp x y = -1 ∨ rcmp x y = 0 ∨ rcmp x y = 1 := by
 unfold rcmp
 split
 ·exact .inl rfl
 ·split
  ·exact .inr (.inr rfl)
  ·exact .inr (.inl rfl)
set_option maxRecDepth 100000 in
set_option maxHeartbeats 6400000 in
theorem cavity_kind_any (sa : Bool) (Aa : Option Addr) (na ca : Nat) (la : List Nat) (za : Bool) (Ba : Option Addr) (ma da : Nat) (ka : List Nat) (xa : Rat) (sb : Bool) (Ab : Option Addr) (nb cb : Nat) (lb : List Nat) (zb : Bool) (Bb : Option Addr) (mb db : Nat) (kb : List Nat) (xb : Rat) (sc : Bool) (Ac : Option Addr) (nc cc : Nat) (lc : List Nat) (zc : Bool) (Bc : Option Addr) (mc dc : Nat) (kc : List Nat) (xc : Rat) (sd : Bool) (Ad : Option Addr) (nd cd : Nat) (ld : List Nat) (zd : Bool) (Bd : Option Addr) (md dd : Nat) (kd : List Nat) (xd : Rat) (M : Nat) (hM : M = 2048) (w : World) (oa : OkF w ((sa, Aa, na, ca, la), (za, Ba, ma, da, ka)) xa) (ob : OkF w ((sb, Ab, nb, cb, lb), (zb, Bb, mb, db, kb)) xb) (oc : OkF w ((sc, Ac, nc, cc, lc), (zc, Bc, mc, dc, kc)) xc) (od : OkF w ((sd, Ad, nd, cd, ld), (zd, Bd, md, dd, kd)) xd) (hdet : xa * xd - xb * xc = 1) :
  Calls Tryz.prog 41 #[.agg #[.bool sa, .slice Aa na ca, .bool za, .slice Ba ma da, .bool sb, .slice Ab nb cb, .bool zb, .slice Bb mb db, .bool sc, .slice Ac nc cc, .bool zc, .slice Bc mc dc, .bool sd, .slice Ad nd cd, .bool zd, .slice Bd md dd]] w (RetV w (.tuple #[.int .u8 (kindV xa xb xc xd), .int .i64 0])) := by
 have K0 := (Mm.nil w).var (g := w.heap.size) rfl [.bool sa, .slice Aa na ca, .bool za, .slice Ba ma da, .bool sb, .slice Ab nb cb, .bool zb, .slice Bb mb db, .bool sc, .slice Ac nc cc, .bool zc, .slice Bc mc dc, .bool sd, .slice Ad nd cd, .bool zd, .slice Bd md dd] 28
 have Ya : Hid (Sz xa M) := Lib.hid (by rw [hM]; exact oa.ints.2.2)
 have Yb : Hid (Sz xb M) := Lib.hid (by rw [hM]; exact ob.ints.2.2)
 have Yc : Hid (Sz xc M) := Lib.hid (by rw [hM]; exact oc.ints.2.2)
 have Yd : Hid (Sz xd M) := Lib.hid (by rw [hM]; exact od.ints.2.2)
 have HM := Lib.hid (okM_ok oa ob oc od hdet)
 have ST : Hid (Sz (xa + xd) (2 * M + 1)) := Lib.hid ((Sz.add Ya.out Yd.out).mono (by omega))
 have SU : Hid (Sz ((xa + xd) * (xa + xd)) (4 * M + 2)) := Lib.hid ((Sz.mul ST.out ST.out).mono (by omega))
 have S4 : Hid (Sz (4 : Rat) (0 * M + 1)) := Lib.hid (Sz.mono (⟨by decide, by decide⟩ : Sz (4 : Rat) 1) (by omega))
 obtain ⟨vc, hvc⟩ : ∃ v, rcmp ((xa + xd) * (xa + xd)) 4 = v := ⟨_, rfl⟩
 obtain ⟨b1, hb1⟩ : ∃ b, (decide (xb = 0) && decide (xc = 0) && decide (xa = 1) && decide (xd = xa)) = b := ⟨_, rfl⟩
 obtain ⟨b2, hb2⟩ : ∃ b, (decide (xb = 0) && decide (xc = 0) && decide (xa = -1) && decide (xd = xa)) = b := ⟨_, rfl⟩
 obtain ⟨kq, hkq⟩ : ∃ k, kindV xa xb xc xd = k := ⟨_, rfl⟩
 have HVC := Lib.hid hvc
 have HB1 := Lib.hid hb1
 have HB2 := Lib.hid hb2
 have HKQ := Lib.hid hkq
 have h3 : vc = -1 ∨ vc = 0 ∨ vc = 1 := by rw [← hvc]; exact rcmp_three _ _
 rw [hkq]
 replace oa := oa.next K0.1
 replace ob := ob.next K0.1
 replace oc := oc.next K0.1
 replace od := od.next K0.1
 clear hdet hvc hb1 hb2 hkq
 go_enter Tryz.func41, Tryz.ntmps41
 go_upto_region 1 with (fail)
 generalize w.alloc (.cells #[.bool sa, .slice Aa na ca, .bool za, .slice Ba ma da, .bool sb, .slice Ab nb cb, .bool zb, .slice Bb mb db, .bool sc, .slice Ac nc cc, .bool zc, .slice Bc mc dc, .bool sd, .slice Ad nd cd, .bool zd, .slice Bd md dd] 28) = w0 at K0 oa ob oc od ⊢
 obtain ⟨p0, p1, p2, p3, p4, p5, p6, p7, p8, p9, p10, p11, p12, p13, p14, p15⟩ := (K0.blk (g := w.heap.size) (by repeat constructor)).c16
 go_wp2_with fail
 refine (row_may_any sa Aa na ca la za Ba ma da ka sb Ab nb cb lb zb Bb mb db kb sc Ac nc cc lc zc Bc mc dc kc sd Ad nd cd ld zd Bd md dd kd _ oa.1 ob.1 oc.1 od.1).mono ?_
 rintro e1 w1 ⟨rfl, hb⟩
 rw [HM.out]
 have K1 := K0.next hb
 replace oa := oa.next hb
 replace ob := ob.next hb
 replace oc := oc.next hb
 replace od := od.next hb
 replace K1 := (((((((K1.int od.ints.2.1).int od.ints.1).int oc.ints.2.1).int oc.ints.1).int ob.ints.2.1).int ob.ints.1).int oa.ints.2.1).int oa.ints.1
 clear K0 hb oa ob oc od p0 p1 p2 p3 p4 p5 p6 p7 p8 p9 p10 p11 p12 p13 p14 p15
 obtain ⟨p0, p1, p2, p3, p4, p5, p6, p7, p8, p9, p10, p11, p12, p13, p14, p15⟩ := (K1.blk (g := w.heap.size) (by repeat constructor)).c16
 go_upto_region 3 with (fail)
 go_wp2_with fail
 refine (rat_plus_any sa za Aa Ba na ca ma da sd zd Ad Bd nd cd md dd xa xd (xa + xd) M M _ (K1.at_ (mE 0 rfl)) (K1.at_ (mE 1 rfl)) (K1.at_ (mE 6 rfl)) (K1.at_ (mE 7 rfl)) Ya.out Yd.out (by omega) (Lib.hid rfl)).mono ?_
 rintro e2 w2 ⟨st, At, nt, ct, zt, Bt, mt, dt, rfl, I2, J2, hb⟩
 have K2 := (((K1.next hb).int J2).int I2).var (g := w2.heap.size) rfl [.bool st, .slice At nt ct, .bool zt, .slice Bt mt dt] 26
 clear K1 hb I2 J2 p0 p1 p2 p3 p4 p5 p6 p7 p8 p9 p10 p11 p12 p13 p14 p15
 go_upto_region 4 with (fail)
 generalize w2.heap.size = gt at K2 ⊢
 generalize w2.alloc (.cells #[.bool st, .slice At nt ct, .bool zt, .slice Bt mt dt] 26) = u2 at K2 ⊢
 obtain ⟨⟨qa0t, qb0t, qc0t, qd0t⟩, ⟨_, _, _, _⟩, _⟩ := (K2.blk (g := gt) (by repeat constructor)).four
 go_wp2_with fail
 refine (rat_times_any st zt At Bt nt ct mt dt st zt At Bt nt ct mt dt (xa + xd) (xa + xd) ((xa + xd) * (xa + xd)) (2 * M + 1) (2 * M + 1) _ (K2.at_ (mE 0 rfl)) (K2.at_ (mE 1 rfl)) (K2.at_ (mE 0 rfl)) (K2.at_ (mE 1 rfl)) ST.out ST.out (by omega) (Lib.hid rfl)).mono ?_
 rintro e3 w3 ⟨su, Au, nu, cu, zu, Bu, mu, du, rfl, I3, J3, hb⟩
 have K3 := (((K2.next hb).int J3).int I3).var (g := w3.heap.size) rfl [.bool su, .slice Au nu cu, .bool zu, .slice Bu mu du] 26
 clear K2 hb I3 J3 qa0t qb0t qc0t qd0t
 go_upto_region 5 with (fail)
 generalize w3.heap.size = gu at K3 ⊢
 generalize w3.alloc (.cells #[.bool su, .slice Au nu cu, .bool zu, .slice Bu mu du] 26) = u3 at K3 ⊢
 obtain ⟨⟨qa0u, qb0u, qc0u, qd0u⟩, ⟨_, _, _, _⟩, _⟩ := (K3.blk (g := gu) (by repeat constructor)).four
 go_cut [6] from 18 to 20 (fun sv wz => sv = .int .i64 vc ∧ Mm w [(w.heap.size, [.bool sa, .slice Aa na ca, .bool za, .slice Ba ma da, .bool sb, .slice Ab nb cb, .bool zb, .slice Bb mb db, .bool sc, .slice Ac nc cc, .bool zc, .slice Bc mc dc, .bool sd, .slice Ad nd cd, .bool zd, .slice Bd md dd])] [(sa, Aa, na, ca, (xa : Rat).num), (za, Ba, ma, da, (((xa : Rat).den : Nat) : Int)), (sb, Ab, nb, cb, (xb : Rat).num), (zb, Bb, mb, db, (((xb : Rat).den : Nat) : Int)), (sc, Ac, nc, cc, (xc : Rat).num), (zc, Bc, mc, dc, (((xc : Rat).den : Nat) : Int)), (sd, Ad, nd, cd, (xd : Rat).num), (zd, Bd, md, dd, (((xd : Rat).den : Nat) : Int))] wz)
 case first =>
  go_region_held3 (fun w' => w'.cell? ⟨gu, 0, none⟩ = some (.bool su) ∧ w'.cell? ⟨gu, 1, none⟩ = some (.slice Au nu cu) ∧ w'.cell? ⟨gu, 2, none⟩ = some (.bool zu) ∧ w'.cell? ⟨gu, 3, none⟩ = some (.slice Bu mu du))
  (go_keep)
  (first
   | (go_at_call 143; apply Calls.withMm (w0 := w); (case K => with_reducible repeat (first | exact K3 | apply Mm.drew | apply Mm.drewN)); intro KX; (with_reducible refine (rat_small_any 4 1 4 _ (by decide) (by decide) (by decide) (Lib.hid (by decide +kernel))).mono ?_); rintro en1 wn1 ⟨negn1, An1, nn1, cn1, nen1, Bn1, mn1, dn1, rfl, IS4, JS4, hbn1⟩; (with_reducible have Kn1 := (((KX.next hbn1).int JS4).int IS4)); obtain ⟨⟨_, _, _, _⟩, ⟨_, _, _, _⟩, _⟩ := (Kn1.blk (mE 0 rfl)).four; clear KX IS4 JS4 hbn1)
   | (go_at_call 142; apply Calls.withMm (w0 := w); (case K => with_reducible repeat (first | exact Kn1 | apply Mm.drew | apply Mm.drewN)); intro KX; (with_reducible refine (rat_cmp_any su zu Au Bu nu cu mu du negn1 nen1 An1 Bn1 nn1 cn1 mn1 dn1 ((xa + xd) * (xa + xd)) (4 : Rat) vc (4 * M + 2) (0 * M + 1) _ (KX.at_ (mE 2 rfl)) (KX.at_ (mE 3 rfl)) (KX.at_ (mE 0 rfl)) (KX.at_ (mE 1 rfl)) SU.out S4.out (by omega) HVC).mono ?_); rintro en2 wn2 ⟨rfl, hbn2⟩; (with_reducible have Kn2 := (KX.next hbn2)); obtain ⟨⟨_, _, _, _⟩, ⟨_, _, _, _⟩, _⟩ := (Kn2.blk (mE 0 rfl)).four; clear KX  hbn2))
  all_goals (go_wp2_with fail)
  all_goals go_meet
  all_goals (with_reducible exact ⟨rfl, Kn2.pick (L' := [(w.heap.size, [.bool sa, .slice Aa na ca, .bool za, .slice Ba ma da, .bool sb, .slice Ab nb cb, .bool zb, .slice Bb mb db, .bool sc, .slice Ac nc cc, .bool zc, .slice Bc mc dc, .bool sd, .slice Ad nd cd, .bool zd, .slice Bd md dd])]) (l' := [(sa, Aa, na, ca, (xa : Rat).num), (za, Ba, ma, da, (((xa : Rat).den : Nat) : Int)), (sb, Ab, nb, cb, (xb : Rat).num), (zb, Bb, mb, db, (((xb : Rat).den : Nat) : Int)), (sc, Ac, nc, cc, (xc : Rat).num), (zc, Bc, mc, dc, (((xc : Rat).den : Nat) : Int)), (sd, Ad, nd, cd, (xd : Rat).num), (zd, Bd, md, dd, (((xd : Rat).den : Nat) : Int))]) (all_cons (mE 2 rfl) all_nil) (all_cons (mE 6 rfl) (all_cons (mE 7 rfl) (all_cons (mE 8 rfl) (all_cons (mE 9 rfl) (all_cons (mE 10 rfl) (all_cons (mE 11 rfl) (all_cons (mE 12 rfl) (all_cons (mE 13 rfl) all_nil))))))))⟩)
 case rest =>
 obtain ⟨rfl, K4⟩ := hcut
 clear K3 qa0u qb0u qc0u qd0u
 rename World => u4
 rcases h3 with rfl | h3
 ·obtain rfl : kq = 1 := by rw [← HKQ.out]; exact kindV_1 HVC.out
  go_wp2_with fail
  exact bodyPost_ret (v := .tuple #[.int .u8 1, .int .i64 0]) (by simp [results, Tryz.results41, go_sem]) rfl ⟨rfl, K4.1⟩
 ·rcases h3 with rfl | rfl
  ·go_upto_region 7 with (fail)
   have rg5 := Lib.hid (K4.blk (mE 0 rfl)).rng
   go_wp2_with (refine wpList_load_any (by rfl) _ _ rfl (w.heap.size) 0 rfl _ _ rg5.out Tryz.underlying28 rfl size_ma ?_)
   refine (cavity_one_any sa za Aa Ba na ca ma da xa sb zb Ab Bb nb cb mb db xb sc zc Ac Bc nc cc mc dc xc sd zd Ad Bd nd cd md dd xd M 1 1 b1 _ (K4.at_ (mE 0 rfl)) (K4.at_ (mE 1 rfl)) Ya.out (K4.at_ (mE 2 rfl)) (K4.at_ (mE 3 rfl)) Yb.out (K4.at_ (mE 4 rfl)) (K4.at_ (mE 5 rfl)) Yc.out (K4.at_ (mE 6 rfl)) (K4.at_ (mE 7 rfl)) Yd.out (by omega) (by decide) (Lib.hid (by decide +kernel)) HB1).mono ?_
   rintro e5 w5 ⟨rfl, hb⟩
   have K5 := K4.next hb
   clear hb rg5
   cases b1 with
   | true =>
    obtain rfl : kq = 2 := by rw [← HKQ.out, kindV_n (by rw [HVC.out]; decide) HB1.out HB2.out, HVC.out]; first | decide | simp
    go_wp2_with fail
    exact bodyPost_ret (v := .tuple #[.int .u8 2, .int .i64 0]) (by simp [results, Tryz.results41, go_sem]) rfl ⟨rfl, K5.1⟩
   | false =>
    go_upto_region 8 with (fail)
    have rg6 := Lib.hid (K5.blk (mE 0 rfl)).rng
    go_wp2_with (refine wpList_load_any (by rfl) _ _ rfl (w.heap.size) 0 rfl _ _ rg6.out Tryz.underlying28 rfl size_ma ?_)
    refine (cavity_one_any sa za Aa Ba na ca ma da xa sb zb Ab Bb nb cb mb db xb sc zc Ac Bc nc cc mc dc xc sd zd Ad Bd nd cd md dd xd M (-1) (-1) b2 _ (K5.at_ (mE 0 rfl)) (K5.at_ (mE 1 rfl)) Ya.out (K5.at_ (mE 2 rfl)) (K5.at_ (mE 3 rfl)) Yb.out (K5.at_ (mE 4 rfl)) (K5.at_ (mE 5 rfl)) Yc.out (K5.at_ (mE 6 rfl)) (K5.at_ (mE 7 rfl)) Yd.out (by omega) (by decide) (Lib.hid (by decide +kernel)) HB2).mono ?_
    rintro e6 w6 ⟨rfl, hb⟩
    have K6 := K5.next hb
    clear hb rg6
    cases b2 with
    | true =>
     obtain rfl : kq = 2 := by rw [← HKQ.out, kindV_n (by rw [HVC.out]; decide) HB1.out HB2.out, HVC.out]; first | decide | simp
     go_wp2_with fail
     exact bodyPost_ret (v := .tuple #[.int .u8 2, .int .i64 0]) (by simp [results, Tryz.results41, go_sem]) rfl ⟨rfl, K6.1⟩
    | false =>
     obtain rfl : kq = 3 := by rw [← HKQ.out, kindV_n (by rw [HVC.out]; decide) HB1.out HB2.out, HVC.out]; first | decide | simp
     go_wp2_with fail
     exact bodyPost_ret (v := .tuple #[.int .u8 3, .int .i64 0]) (by simp [results, Tryz.results41, go_sem]) rfl ⟨rfl, K6.1⟩
  ·go_upto_region 7 with (fail)
   have rg5 := Lib.hid (K4.blk (mE 0 rfl)).rng
   go_wp2_with (refine wpList_load_any (by rfl) _ _ rfl (w.heap.size) 0 rfl _ _ rg5.out Tryz.underlying28 rfl size_ma ?_)
   refine (cavity_one_any sa za Aa Ba na ca ma da xa sb zb Ab Bb nb cb mb db xb sc zc Ac Bc nc cc mc dc xc sd zd Ad Bd nd cd md dd xd M 1 1 b1 _ (K4.at_ (mE 0 rfl)) (K4.at_ (mE 1 rfl)) Ya.out (K4.at_ (mE 2 rfl)) (K4.at_ (mE 3 rfl)) Yb.out (K4.at_ (mE 4 rfl)) (K4.at_ (mE 5 rfl)) Yc.out (K4.at_ (mE 6 rfl)) (K4.at_ (mE 7 rfl)) Yd.out (by omega) (by decide) (Lib.hid (by decide +kernel)) HB1).mono ?_
   rintro e5 w5 ⟨rfl, hb⟩
   have K5 := K4.next hb
   clear hb rg5
   cases b1 with
   | true =>
    obtain rfl : kq = 2 := by rw [← HKQ.out, kindV_n (by rw [HVC.out]; decide) HB1.out HB2.out, HVC.out]; first | decide | simp
    go_wp2_with fail
    exact bodyPost_ret (v := .tuple #[.int .u8 2, .int .i64 0]) (by simp [results, Tryz.results41, go_sem]) rfl ⟨rfl, K5.1⟩
   | false =>
    go_upto_region 8 with (fail)
    have rg6 := Lib.hid (K5.blk (mE 0 rfl)).rng
    go_wp2_with (refine wpList_load_any (by rfl) _ _ rfl (w.heap.size) 0 rfl _ _ rg6.out Tryz.underlying28 rfl size_ma ?_)
    refine (cavity_one_any sa za Aa Ba na ca ma da xa sb zb Ab Bb nb cb mb db xb sc zc Ac Bc nc cc mc dc xc sd zd Ad Bd nd cd md dd xd M (-1) (-1) b2 _ (K5.at_ (mE 0 rfl)) (K5.at_ (mE 1 rfl)) Ya.out (K5.at_ (mE 2 rfl)) (K5.at_ (mE 3 rfl)) Yb.out (K5.at_ (mE 4 rfl)) (K5.at_ (mE 5 rfl)) Yc.out (K5.at_ (mE 6 rfl)) (K5.at_ (mE 7 rfl)) Yd.out (by omega) (by decide) (Lib.hid (by decide +kernel)) HB2).mono ?_
    rintro e6 w6 ⟨rfl, hb⟩
    have K6 := K5.next hb
    clear hb rg6
    cases b2 with
    | true =>
     obtain rfl : kq = 2 := by rw [← HKQ.out, kindV_n (by rw [HVC.out]; decide) HB1.out HB2.out, HVC.out]; first | decide | simp
     go_wp2_with fail
     exact bodyPost_ret (v := .tuple #[.int .u8 2, .int .i64 0]) (by simp [results, Tryz.results41, go_sem]) rfl ⟨rfl, K6.1⟩
    | false =>
     obtain rfl : kq = 4 := by rw [← HKQ.out, kindV_n (by rw [HVC.out]; decide) HB1.out HB2.out, HVC.out]; first | decide | simp
     go_wp2_with fail
     exact bodyPost_ret (v := .tuple #[.int .u8 4, .int .i64 0]) (by simp [results, Tryz.results41, go_sem]) rfl ⟨rfl, K6.1⟩
end Go.Proofs.YtgekmbfmfiikkaaGreatDoor
