/-
  A cavity that is not stable, and is the one matrix (polestarref12.Kind).
-/
import Derived.Test.YtgekmbfmfiikkaaGreatDoorMdJ
namespace Go.Proofs.YtgekmbfmfiikkaaGreatDoor
open Go.RowKit

set_option maxRecDepth 100000 in
set_option maxHeartbeats 6400000 in
theorem kind_un_true (sa : Bool) (Aa : Option Addr) (na ca : Nat) (la : List Nat) (za : Bool) (Ba : Option Addr) (ma da : Nat) (ka : List Nat) (xa : Rat) (sb : Bool) (Ab : Option Addr) (nb cb : Nat) (lb : List Nat) (zb : Bool) (Bb : Option Addr) (mb db : Nat) (kb : List Nat) (xb : Rat) (sc : Bool) (Ac : Option Addr) (nc cc : Nat) (lc : List Nat) (zc : Bool) (Bc : Option Addr) (mc dc : Nat) (kc : List Nat) (xc : Rat) (sd : Bool) (Ad : Option Addr) (nd cd : Nat) (ld : List Nat) (zd : Bool) (Bd : Option Addr) (md dd : Nat) (kd : List Nat) (xd : Rat) (M : Nat) (hM : M = 2048) (w : World) (oa : OkF w ((sa, Aa, na, ca, la), (za, Ba, ma, da, ka)) xa) (ob : OkF w ((sb, Ab, nb, cb, lb), (zb, Bb, mb, db, kb)) xb) (oc : OkF w ((sc, Ac, nc, cc, lc), (zc, Bc, mc, dc, kc)) xc) (od : OkF w ((sd, Ad, nd, cd, ld), (zd, Bd, md, dd, kd)) xd) (hdet : xa * xd - xb * xc = 1) (h4 : ¬ 0 < 4 - (xa + xd) * (xa + xd)) (hone : (decide (xa = 1) && decide (xb = 0) && decide (xc = 0) && decide (xd = 1)) = true) :
  Calls Tryz.prog 224 #[.agg #[.bool sa, .slice Aa na ca, .bool za, .slice Ba ma da, .bool sb, .slice Ab nb cb, .bool zb, .slice Bb mb db, .bool sc, .slice Ac nc cc, .bool zc, .slice Bc mc dc, .bool sd, .slice Ad nd cd, .bool zd, .slice Bd md dd]] w (RetKu w) := by
 have K0 := (Mm.nil w).var (g := w.heap.size) rfl [.bool sa, .slice Aa na ca, .bool za, .slice Ba ma da, .bool sb, .slice Ab nb cb, .bool zb, .slice Bb mb db, .bool sc, .slice Ac nc cc, .bool zc, .slice Bc mc dc, .bool sd, .slice Ad nd cd, .bool zd, .slice Bd md dd] 28
 have Ya : Hid (Sz xa M) := Lib.hid (by rw [hM]; exact oa.ints.2.2)
 have Yb : Hid (Sz xb M) := Lib.hid (by rw [hM]; exact ob.ints.2.2)
 have Yc : Hid (Sz xc M) := Lib.hid (by rw [hM]; exact oc.ints.2.2)
 have Yd : Hid (Sz xd M) := Lib.hid (by rw [hM]; exact od.ints.2.2)
 have HM := Lib.hid (okM_ok oa ob oc od hdet)
 have ST : Hid (Sz (xa + xd) (2 * M + 1)) := Lib.hid ((Sz.add Ya.out Yd.out).mono (by omega))
 have SN : Hid (Sz (-2 : Rat) (0 * M + 1)) := Lib.hid (Sz.mono (⟨by decide, by decide⟩ : Sz (-2 : Rat) 1) (by omega))
 have SP : Hid (Sz (2 : Rat) (0 * M + 1)) := Lib.hid (Sz.mono (⟨by decide, by decide⟩ : Sz (2 : Rat) 1) (by omega))
 replace oa := oa.next K0.1
 replace ob := ob.next K0.1
 replace oc := oc.next K0.1
 replace od := od.next K0.1
 clear hdet
 go_enter Tryz.func224, Tryz.ntmps224
 go_upto_region 1 with (fail)
 generalize w.alloc (.cells #[.bool sa, .slice Aa na ca, .bool za, .slice Ba ma da, .bool sb, .slice Ab nb cb, .bool zb, .slice Bb mb db, .bool sc, .slice Ac nc cc, .bool zc, .slice Bc mc dc, .bool sd, .slice Ad nd cd, .bool zd, .slice Bd md dd] 28) = w0 at K0 oa ob oc od ⊢
 obtain ⟨p0, p1, p2, p3, p4, p5, p6, p7, p8, p9, p10, p11, p12, p13, p14, p15⟩ := (K0.blk (g := w.heap.size) (by repeat constructor)).c16
 go_wp2_with fail
 refine (ref9_may_any sa Aa na ca la za Ba ma da ka sb Ab nb cb lb zb Bb mb db kb sc Ac nc cc lc zc Bc mc dc kc sd Ad nd cd ld zd Bd md dd kd _ oa.1 ob.1 oc.1 od.1).mono ?_
 rintro e1 w1 ⟨rfl, hb⟩
 rw [HM.out]
 have K1 := K0.next hb
 replace oa := oa.next hb
 replace ob := ob.next hb
 replace oc := oc.next hb
 replace od := od.next hb
 replace K1 := (((((((K1.int od.ints.2.1).int od.ints.1).int oc.ints.2.1).int oc.ints.1).int ob.ints.2.1).int ob.ints.1).int oa.ints.2.1).int oa.ints.1
 clear K0 hb oa ob oc od p0 p1 p2 p3 p4 p5 p6 p7 p8 p9 p10 p11 p12 p13 p14 p15
 obtain ⟨p0, p1, p2, p3, p4, p5, p6, p7, p8, p9, p10, p11, p12, p13, p14, p15⟩ := (K1.blk (g := w.heap.size) (by repeat constructor)).c16
 go_upto_region 3 with (fail)
 go_wp2_with fail
 refine (ref2_plus_any sa za Aa Ba na ca ma da sd zd Ad Bd nd cd md dd xa xd (xa + xd) M M _ (K1.at_ (mE 0 rfl)) (K1.at_ (mE 1 rfl)) (K1.at_ (mE 6 rfl)) (K1.at_ (mE 7 rfl)) Ya.out Yd.out (by omega) (Lib.hid rfl)).mono ?_
 rintro e2 w2 ⟨st, At, nt, ct, zt, Bt, mt, dt, rfl, I2, J2, hb⟩
 have K2 := (((K1.next hb).int J2).int I2).var (g := w2.heap.size) rfl [.bool st, .slice At nt ct, .bool zt, .slice Bt mt dt] 26
 clear K1 hb I2 J2 p0 p1 p2 p3 p4 p5 p6 p7 p8 p9 p10 p11 p12 p13 p14 p15
 go_upto_region 4 with (fail)
 generalize w2.heap.size = gt at K2 ⊢
 generalize w2.alloc (.cells #[.bool st, .slice At nt ct, .bool zt, .slice Bt mt dt] 26) = u2 at K2 ⊢
 obtain ⟨lo, hlo⟩ : ∃ v, rcmp (xa + xd) (-2) = v := ⟨_, rfl⟩
 obtain ⟨hi, hhi⟩ : ∃ v, rcmp (xa + xd) 2 = v := ⟨_, rfl⟩
 have HLO := Lib.hid hlo
 have HHI := Lib.hid hhi
 clear hlo hhi
 obtain ⟨⟨qa0n, qb0n, qc0n, qd0n⟩, ⟨_, _, _, _⟩, _⟩ := (K2.blk (g := gt) (by repeat constructor)).four
 go_cut [5] from 15 to 17 (fun sv wz => sv = .int .i64 lo ∧ Mm w [(gt, [.bool st, .slice At nt ct, .bool zt, .slice Bt mt dt]), (w.heap.size, [.bool sa, .slice Aa na ca, .bool za, .slice Ba ma da, .bool sb, .slice Ab nb cb, .bool zb, .slice Bb mb db, .bool sc, .slice Ac nc cc, .bool zc, .slice Bc mc dc, .bool sd, .slice Ad nd cd, .bool zd, .slice Bd md dd])] [(st, At, nt, ct, ((xa + xd) : Rat).num), (zt, Bt, mt, dt, ((((xa + xd) : Rat).den : Nat) : Int)), (sa, Aa, na, ca, (xa : Rat).num), (za, Ba, ma, da, (((xa : Rat).den : Nat) : Int)), (sb, Ab, nb, cb, (xb : Rat).num), (zb, Bb, mb, db, (((xb : Rat).den : Nat) : Int)), (sc, Ac, nc, cc, (xc : Rat).num), (zc, Bc, mc, dc, (((xc : Rat).den : Nat) : Int)), (sd, Ad, nd, cd, (xd : Rat).num), (zd, Bd, md, dd, (((xd : Rat).den : Nat) : Int))] wz)
 case first =>
  go_region_held3 (fun w' => w'.cell? ⟨gt, 0, none⟩ = some (.bool st) ∧ w'.cell? ⟨gt, 1, none⟩ = some (.slice At nt ct) ∧ w'.cell? ⟨gt, 2, none⟩ = some (.bool zt) ∧ w'.cell? ⟨gt, 3, none⟩ = some (.slice Bt mt dt))
  (go_keep)
  (first
   | (go_at_call 227; apply Calls.withMm (w0 := w); (case K => with_reducible repeat (first | exact K2 | apply Mm.drew | apply Mm.drewN)); intro KX; (with_reducible refine (ref2_small_any (-2) 1 (-2) _ (by decide) (by decide) (by decide) (Lib.hid (by decide +kernel))).mono ?_); rintro en1 wn1 ⟨negn1, An1, nn1, cn1, nen1, Bn1, mn1, dn1, rfl, ISN, JSN, hbn1⟩; (with_reducible have Kn1 := (((KX.next hbn1).int JSN).int ISN)); obtain ⟨⟨_, _, _, _⟩, ⟨_, _, _, _⟩, _⟩ := (Kn1.blk (mE 0 rfl)).four; clear KX ISN JSN hbn1)
   | (go_at_call 259; apply Calls.withMm (w0 := w); (case K => with_reducible repeat (first | exact Kn1 | apply Mm.drew | apply Mm.drewN)); intro KX; (with_reducible refine (ref2_cmp_any st zt At Bt nt ct mt dt negn1 nen1 An1 Bn1 nn1 cn1 mn1 dn1 (xa + xd) (-2 : Rat) lo (2 * M + 1) (0 * M + 1) _ (KX.at_ (mE 2 rfl)) (KX.at_ (mE 3 rfl)) (KX.at_ (mE 0 rfl)) (KX.at_ (mE 1 rfl)) ST.out SN.out (by omega) HLO).mono ?_); rintro en2 wn2 ⟨rfl, hbn2⟩; (with_reducible have Kn2 := (KX.next hbn2)); obtain ⟨⟨_, _, _, _⟩, ⟨_, _, _, _⟩, _⟩ := (Kn2.blk (mE 0 rfl)).four; clear KX  hbn2))
  all_goals (go_wp2_with fail)
  all_goals go_meet
  all_goals (with_reducible exact ⟨rfl, Kn2.pick (L' := [(gt, [.bool st, .slice At nt ct, .bool zt, .slice Bt mt dt]), (w.heap.size, [.bool sa, .slice Aa na ca, .bool za, .slice Ba ma da, .bool sb, .slice Ab nb cb, .bool zb, .slice Bb mb db, .bool sc, .slice Ac nc cc, .bool zc, .slice Bc mc dc, .bool sd, .slice Ad nd cd, .bool zd, .slice Bd md dd])]) (l' := [(st, At, nt, ct, ((xa + xd) : Rat).num), (zt, Bt, mt, dt, ((((xa + xd) : Rat).den : Nat) : Int)), (sa, Aa, na, ca, (xa : Rat).num), (za, Ba, ma, da, (((xa : Rat).den : Nat) : Int)), (sb, Ab, nb, cb, (xb : Rat).num), (zb, Bb, mb, db, (((xb : Rat).den : Nat) : Int)), (sc, Ac, nc, cc, (xc : Rat).num), (zc, Bc, mc, dc, (((xc : Rat).den : Nat) : Int)), (sd, Ad, nd, cd, (xd : Rat).num), (zd, Bd, md, dd, (((xd : Rat).den : Nat) : Int))]) (all_cons (mE 0 rfl) (all_cons (mE 1 rfl) all_nil)) (all_cons (mE 2 rfl) (all_cons (mE 3 rfl) (all_cons (mE 4 rfl) (all_cons (mE 5 rfl) (all_cons (mE 6 rfl) (all_cons (mE 7 rfl) (all_cons (mE 8 rfl) (all_cons (mE 9 rfl) (all_cons (mE 10 rfl) (all_cons (mE 11 rfl) all_nil))))))))))⟩)
 case rest =>
 obtain ⟨rfl, K3⟩ := hcut
 clear K2 qa0n qb0n qc0n qd0n
 rename World => u3
 go_upto_region 5 with (fail)
 obtain ⟨⟨qa0p, qb0p, qc0p, qd0p⟩, ⟨_, _, _, _⟩, _⟩ := (K3.blk (g := gt) (by repeat constructor)).four
 go_cut [6] from 18 to 20 (fun sv wz => sv = .int .i64 hi ∧ Mm w [(gt, [.bool st, .slice At nt ct, .bool zt, .slice Bt mt dt]), (w.heap.size, [.bool sa, .slice Aa na ca, .bool za, .slice Ba ma da, .bool sb, .slice Ab nb cb, .bool zb, .slice Bb mb db, .bool sc, .slice Ac nc cc, .bool zc, .slice Bc mc dc, .bool sd, .slice Ad nd cd, .bool zd, .slice Bd md dd])] [(st, At, nt, ct, ((xa + xd) : Rat).num), (zt, Bt, mt, dt, ((((xa + xd) : Rat).den : Nat) : Int)), (sa, Aa, na, ca, (xa : Rat).num), (za, Ba, ma, da, (((xa : Rat).den : Nat) : Int)), (sb, Ab, nb, cb, (xb : Rat).num), (zb, Bb, mb, db, (((xb : Rat).den : Nat) : Int)), (sc, Ac, nc, cc, (xc : Rat).num), (zc, Bc, mc, dc, (((xc : Rat).den : Nat) : Int)), (sd, Ad, nd, cd, (xd : Rat).num), (zd, Bd, md, dd, (((xd : Rat).den : Nat) : Int))] wz)
 case first =>
  go_region_held3 (fun w' => w'.cell? ⟨gt, 0, none⟩ = some (.bool st) ∧ w'.cell? ⟨gt, 1, none⟩ = some (.slice At nt ct) ∧ w'.cell? ⟨gt, 2, none⟩ = some (.bool zt) ∧ w'.cell? ⟨gt, 3, none⟩ = some (.slice Bt mt dt))
  (go_keep)
  (first
   | (go_at_call 227; apply Calls.withMm (w0 := w); (case K => with_reducible repeat (first | exact K3 | apply Mm.drew | apply Mm.drewN)); intro KX; (with_reducible refine (ref2_small_any 2 1 2 _ (by decide) (by decide) (by decide) (Lib.hid (by decide +kernel))).mono ?_); rintro ep1 wp1 ⟨negp1, Ap1, np1, cp1, nep1, Bp1, mp1, dp1, rfl, ISP, JSP, hbp1⟩; (with_reducible have Kp1 := (((KX.next hbp1).int JSP).int ISP)); obtain ⟨⟨_, _, _, _⟩, ⟨_, _, _, _⟩, _⟩ := (Kp1.blk (mE 0 rfl)).four; clear KX ISP JSP hbp1)
   | (go_at_call 259; apply Calls.withMm (w0 := w); (case K => with_reducible repeat (first | exact Kp1 | apply Mm.drew | apply Mm.drewN)); intro KX; (with_reducible refine (ref2_cmp_any st zt At Bt nt ct mt dt negp1 nep1 Ap1 Bp1 np1 cp1 mp1 dp1 (xa + xd) (2 : Rat) hi (2 * M + 1) (0 * M + 1) _ (KX.at_ (mE 2 rfl)) (KX.at_ (mE 3 rfl)) (KX.at_ (mE 0 rfl)) (KX.at_ (mE 1 rfl)) ST.out SP.out (by omega) HHI).mono ?_); rintro ep2 wp2 ⟨rfl, hbp2⟩; (with_reducible have Kp2 := (KX.next hbp2)); obtain ⟨⟨_, _, _, _⟩, ⟨_, _, _, _⟩, _⟩ := (Kp2.blk (mE 0 rfl)).four; clear KX  hbp2))
  all_goals (go_wp2_with fail)
  all_goals go_meet
  all_goals (with_reducible exact ⟨rfl, Kp2.pick (L' := [(gt, [.bool st, .slice At nt ct, .bool zt, .slice Bt mt dt]), (w.heap.size, [.bool sa, .slice Aa na ca, .bool za, .slice Ba ma da, .bool sb, .slice Ab nb cb, .bool zb, .slice Bb mb db, .bool sc, .slice Ac nc cc, .bool zc, .slice Bc mc dc, .bool sd, .slice Ad nd cd, .bool zd, .slice Bd md dd])]) (l' := [(st, At, nt, ct, ((xa + xd) : Rat).num), (zt, Bt, mt, dt, ((((xa + xd) : Rat).den : Nat) : Int)), (sa, Aa, na, ca, (xa : Rat).num), (za, Ba, ma, da, (((xa : Rat).den : Nat) : Int)), (sb, Ab, nb, cb, (xb : Rat).num), (zb, Bb, mb, db, (((xb : Rat).den : Nat) : Int)), (sc, Ac, nc, cc, (xc : Rat).num), (zc, Bc, mc, dc, (((xc : Rat).den : Nat) : Int)), (sd, Ad, nd, cd, (xd : Rat).num), (zd, Bd, md, dd, (((xd : Rat).den : Nat) : Int))]) (all_cons (mE 0 rfl) (all_cons (mE 1 rfl) all_nil)) (all_cons (mE 2 rfl) (all_cons (mE 3 rfl) (all_cons (mE 4 rfl) (all_cons (mE 5 rfl) (all_cons (mE 6 rfl) (all_cons (mE 7 rfl) (all_cons (mE 8 rfl) (all_cons (mE 9 rfl) (all_cons (mE 10 rfl) (all_cons (mE 11 rfl) all_nil))))))))))⟩)
 case rest =>
 obtain ⟨rfl, K4⟩ := hcut
 clear K3 qa0p qb0p qc0p qd0p
 rename World => u4
 have HO : Hid (¬ (0 < lo ∧ hi < 0)) := Lib.hid (by rw [← HLO.out, ← HHI.out]; exact kd_out h4)
 have S1 : Hid (Sz (1 : Rat) M) := Lib.hid (Sz.mono (⟨by decide, by decide⟩ : Sz (1 : Rat) 1) (by omega))
 have S1' : Hid (Sz (1 : Rat) M) := S1
 have S0 : Hid (Sz (0 : Rat) M) := Lib.hid (Sz.mono (⟨by decide, by decide⟩ : Sz (0 : Rat) 1) (by omega))
 have S0' : Hid (Sz (0 : Rat) M) := S0
 have SM : Hid (Sz (-1 : Rat) M) := Lib.hid (Sz.mono (⟨by decide, by decide⟩ : Sz (-1 : Rat) 1) (by omega))
 have SM' : Hid (Sz (-1 : Rat) M) := SM
 have T0 : Hid (Sz (0 : Rat) M) := S0
 have T0' : Hid (Sz (0 : Rat) M) := S0
 clear h4 HLO HHI
 go_upto_region 6 with (fail)
 go_cut [26] from 21 to 25 (fun sv wz => sv = .bool false ∧ Mm w [(w.heap.size, [.bool sa, .slice Aa na ca, .bool za, .slice Ba ma da, .bool sb, .slice Ab nb cb, .bool zb, .slice Bb mb db, .bool sc, .slice Ac nc cc, .bool zc, .slice Bc mc dc, .bool sd, .slice Ad nd cd, .bool zd, .slice Bd md dd])] [(sa, Aa, na, ca, (xa : Rat).num), (za, Ba, ma, da, (((xa : Rat).den : Nat) : Int)), (sb, Ab, nb, cb, (xb : Rat).num), (zb, Bb, mb, db, (((xb : Rat).den : Nat) : Int)), (sc, Ac, nc, cc, (xc : Rat).num), (zc, Bc, mc, dc, (((xc : Rat).den : Nat) : Int)), (sd, Ad, nd, cd, (xd : Rat).num), (zd, Bd, md, dd, (((xd : Rat).den : Nat) : Int))] wz)
 case first =>
  have K5 := K4.pick (L' := [(w.heap.size, [.bool sa, .slice Aa na ca, .bool za, .slice Ba ma da, .bool sb, .slice Ab nb cb, .bool zb, .slice Bb mb db, .bool sc, .slice Ac nc cc, .bool zc, .slice Bc mc dc, .bool sd, .slice Ad nd cd, .bool zd, .slice Bd md dd])]) (l' := [(sa, Aa, na, ca, (xa : Rat).num), (za, Ba, ma, da, (((xa : Rat).den : Nat) : Int)), (sb, Ab, nb, cb, (xb : Rat).num), (zb, Bb, mb, db, (((xb : Rat).den : Nat) : Int)), (sc, Ac, nc, cc, (xc : Rat).num), (zc, Bc, mc, dc, (((xc : Rat).den : Nat) : Int)), (sd, Ad, nd, cd, (xd : Rat).num), (zd, Bd, md, dd, (((xd : Rat).den : Nat) : Int))]) (all_cons (mE 1 rfl) all_nil) (all_cons (mE 2 rfl) (all_cons (mE 3 rfl) (all_cons (mE 4 rfl) (all_cons (mE 5 rfl) (all_cons (mE 6 rfl) (all_cons (mE 7 rfl) (all_cons (mE 8 rfl) (all_cons (mE 9 rfl) all_nil))))))))
  by_cases p1 : 0 < lo
  ·have p2 : ¬ hi < 0 := fun h => HO.out ⟨p1, h⟩
   go_wp2_with fail
   go_meet
   exact ⟨rfl, K5⟩
  ·go_wp2_with fail
   go_meet
   exact ⟨rfl, K5⟩
 case rest =>
 obtain ⟨rfl, K5⟩ := hcut
 clear K4 HO
 rename World => u5
 go_upto_region 8 with (fail)
 obtain ⟨b2, hb2⟩ : ∃ b, (decide (xa = -1) && decide (xb = 0) && decide (xc = 0) && decide (xd = -1)) = b := ⟨_, rfl⟩
 have HB1 := Lib.hid hone
 have HB2 := Lib.hid hb2
 clear hone hb2
 obtain ⟨q0_0m, q1_0m, q2_0m, q3_0m, q4_0m, q5_0m, q6_0m, q7_0m, q8_0m, q9_0m, q10_0m, q11_0m, q12_0m, q13_0m, q14_0m, q15_0m⟩ := (K5.blk (g := w.heap.size) (by repeat constructor)).c16
 go_cut [34] from 27 to 33 (fun sv wz => ∃ b, sv = .bool b ∧ Mm w [(w.heap.size, [.bool sa, .slice Aa na ca, .bool za, .slice Ba ma da, .bool sb, .slice Ab nb cb, .bool zb, .slice Bb mb db, .bool sc, .slice Ac nc cc, .bool zc, .slice Bc mc dc, .bool sd, .slice Ad nd cd, .bool zd, .slice Bd md dd])] [] wz)
 case first =>
   (first
   | (go_region_with ((first
    | (go_at_call 240; apply Calls.withMm (w0 := w); (case K => with_reducible repeat (first | exact K5 | apply Mm.drew | apply Mm.drewN)); intro KX; (with_reducible refine (ref9_one_any _).mono ?_); rintro eo1 wo1 ⟨nego1a, Ao1a, no1a, co1a, neo1a, Bo1a, mo1a, do1a, nego1b, Ao1b, no1b, co1b, neo1b, Bo1b, mo1b, do1b, nego1c, Ao1c, no1c, co1c, neo1c, Bo1c, mo1c, do1c, nego1d, Ao1d, no1d, co1d, neo1d, Bo1d, mo1d, do1d, rfl, IS1, JS1, IS0, JS0, IS0', JS0', IS1', JS1', hbo1⟩; (with_reducible have Ko1 := (((((((((KX.next hbo1).int JS1).int IS1).int JS0).int IS0).int JS0').int IS0').int JS1').int IS1')); obtain ⟨_, _, _, _, _, _, _, _, _, _, _, _, _, _, _, _⟩ := (Ko1.blk (mE 0 rfl)).c16; clear KX IS1 JS1 IS0 JS0 IS0' JS0' IS1' JS1' hbo1)
    | (go_at_call 281; apply Calls.withMm (w0 := w); (case K => with_reducible repeat (first | exact Ko1 | apply Mm.drew | apply Mm.drewN)); intro KX; (with_reducible refine (alike_of sa za Aa Ba na ca ma da xa sb zb Ab Bb nb cb mb db xb sc zc Ac Bc nc cc mc dc xc sd zd Ad Bd nd cd md dd xd nego1a neo1a Ao1a Bo1a no1a co1a mo1a do1a (1 : Rat) nego1b neo1b Ao1b Bo1b no1b co1b mo1b do1b (0 : Rat) nego1c neo1c Ao1c Bo1c no1c co1c mo1c do1c (0 : Rat) nego1d neo1d Ao1d Bo1d no1d co1d mo1d do1d (1 : Rat) M true _ (KX.at_ (mE 8 rfl)) (KX.at_ (mE 9 rfl)) Ya.out (KX.at_ (mE 10 rfl)) (KX.at_ (mE 11 rfl)) Yb.out (KX.at_ (mE 12 rfl)) (KX.at_ (mE 13 rfl)) Yc.out (KX.at_ (mE 14 rfl)) (KX.at_ (mE 15 rfl)) Yd.out (KX.at_ (mE 6 rfl)) (KX.at_ (mE 7 rfl)) S1.out (KX.at_ (mE 4 rfl)) (KX.at_ (mE 5 rfl)) S0.out (KX.at_ (mE 2 rfl)) (KX.at_ (mE 3 rfl)) S0'.out (KX.at_ (mE 0 rfl)) (KX.at_ (mE 1 rfl)) S1'.out (by omega) HB1).mono ?_); rintro eo2 wo2 ⟨rfl, hbo2⟩; (with_reducible have Ko2 := (KX.next hbo2)); obtain ⟨_, _, _, _, _, _, _, _, _, _, _, _, _, _, _, _⟩ := (Ko2.blk (mE 0 rfl)).c16; clear KX  hbo2))))
   | fail)
   all_goals (go_wp2_with fail)
   all_goals go_meet
   all_goals (with_reducible exact ⟨true, rfl, Ko2.pick (L' := [(w.heap.size, [.bool sa, .slice Aa na ca, .bool za, .slice Ba ma da, .bool sb, .slice Ab nb cb, .bool zb, .slice Bb mb db, .bool sc, .slice Ac nc cc, .bool zc, .slice Bc mc dc, .bool sd, .slice Ad nd cd, .bool zd, .slice Bd md dd])]) (l' := []) (all_cons (mE 0 rfl) all_nil) all_nil⟩)
 case rest =>
 obtain ⟨b, rfl, K6⟩ := hcut
 clear K5 q0_0m q1_0m q2_0m q3_0m q4_0m q5_0m q6_0m q7_0m q8_0m q9_0m q10_0m q11_0m q12_0m q13_0m q14_0m q15_0m
 rename World => u6
 cases b with
 | true =>
  go_wp2_with fail
  exact bodyPost_ret (v := .tuple #[.int .u8 2, .int .i64 0]) (by simp [results, Tryz.results224, go_sem]) rfl ⟨2, rfl, by simp, K6.1⟩
 | false =>
  by_cases p1 : lo = 0
  ·subst p1
   go_wp2_with fail
   exact bodyPost_ret (v := .tuple #[.int .u8 3, .int .i64 0]) (by simp [results, Tryz.results224, go_sem]) rfl ⟨3, rfl, by simp, K6.1⟩
  ·by_cases p2 : hi = 0
   ·subst p2
    go_wp2_with fail
    exact bodyPost_ret (v := .tuple #[.int .u8 3, .int .i64 0]) (by simp [results, Tryz.results224, go_sem]) rfl ⟨3, rfl, by simp, K6.1⟩
   ·have e1 : (lo == 0) = false := beq_false_of_ne p1
    have e2 : (hi == 0) = false := beq_false_of_ne p2
    go_wp2_with fail
    exact bodyPost_ret (v := .tuple #[.int .u8 4, .int .i64 0]) (by simp [results, Tryz.results224, go_sem]) rfl ⟨4, rfl, by simp, K6.1⟩

theorem kind_un (sa : Bool) (Aa : Option Addr) (na ca : Nat) (la : List Nat) (za : Bool) (Ba : Option Addr) (ma da : Nat) (ka : List Nat) (xa : Rat) (sb : Bool) (Ab : Option Addr) (nb cb : Nat) (lb : List Nat) (zb : Bool) (Bb : Option Addr) (mb db : Nat) (kb : List Nat) (xb : Rat) (sc : Bool) (Ac : Option Addr) (nc cc : Nat) (lc : List Nat) (zc : Bool) (Bc : Option Addr) (mc dc : Nat) (kc : List Nat) (xc : Rat) (sd : Bool) (Ad : Option Addr) (nd cd : Nat) (ld : List Nat) (zd : Bool) (Bd : Option Addr) (md dd : Nat) (kd : List Nat) (xd : Rat) (M : Nat) (hM : M = 2048) (w : World) (oa : OkF w ((sa, Aa, na, ca, la), (za, Ba, ma, da, ka)) xa) (ob : OkF w ((sb, Ab, nb, cb, lb), (zb, Bb, mb, db, kb)) xb) (oc : OkF w ((sc, Ac, nc, cc, lc), (zc, Bc, mc, dc, kc)) xc) (od : OkF w ((sd, Ad, nd, cd, ld), (zd, Bd, md, dd, kd)) xd) (hdet : xa * xd - xb * xc = 1) (h4 : ¬ 0 < 4 - (xa + xd) * (xa + xd)) :
  Calls Tryz.prog 224 #[.agg #[.bool sa, .slice Aa na ca, .bool za, .slice Ba ma da, .bool sb, .slice Ab nb cb, .bool zb, .slice Bb mb db, .bool sc, .slice Ac nc cc, .bool zc, .slice Bc mc dc, .bool sd, .slice Ad nd cd, .bool zd, .slice Bd md dd]] w (RetKu w) := by
 obtain ⟨b, hb⟩ : ∃ b, (decide (xa = 1) && decide (xb = 0) && decide (xc = 0) && decide (xd = 1)) = b := ⟨_, rfl⟩
 cases b with
 | true => exact kind_un_true sa Aa na ca la za Ba ma da ka xa sb Ab nb cb lb zb Bb mb db kb xb sc Ac nc cc lc zc Bc mc dc kc xc sd Ad nd cd ld zd Bd md dd kd xd M hM w oa ob oc od hdet h4 hb
 | false => exact kind_un_false sa Aa na ca la za Ba ma da ka xa sb Ab nb cb lb zb Bb mb db kb xb sc Ac nc cc lc zc Bc mc dc kc xc sd Ad nd cd ld zd Bd md dd kd xd M hM w oa ob oc od hdet h4 hb
end Go.Proofs.YtgekmbfmfiikkaaGreatDoor
