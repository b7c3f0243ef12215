/-
  Is a cavity stable, by the reference (polestarref12.Kind, polestarref16.gate).
-/
import Derived.Test.YtgekmbfmfiikkaaGreatDoorMdG
import Derived.Test.YtgekmbfmfiikkaaGreatDoorFrame2
import Derived.Test.YtgekmbfmfiikkaaGreatDoorMaR
namespace Go.Proofs.YtgekmbfmfiikkaaGreatDoor
open Go.RowKit

/-- Between the bounds of a stable cavity. -/
theorem kd_in {t : Rat} (h : 0 < 4 - t * t) : rcmp t (-2) = 1 ∧ rcmp t 2 = -1 := by
 have e : 4 - t * t = (2 - t) * (2 + t) := by grind
 rw [e] at h
 have h1 : t < 2 := by
  by_cases c : t < 2
  ·exact c
  ·have := Rat.mul_nonneg (show 0 ≤ t - 2 by grind) (show 0 ≤ 2 + t by grind)
   grind
 have h2 : -2 < t := by
  by_cases c : -2 < t
  ·exact c
  ·have := Rat.mul_nonneg (show 0 ≤ 2 - t by grind) (show 0 ≤ -(2 + t) by grind)
   grind
 unfold rcmp
 exact ⟨by rw [if_neg (by grind), if_pos h2], by rw [if_pos h1]⟩
theorem kd_out {t : Rat} (h : ¬ 0 < 4 - t * t) : ¬ (0 < rcmp t (-2) ∧ rcmp t 2 < 0) := by
 rintro ⟨h1, h2⟩
 apply h
 have e : 4 - t * t = (2 - t) * (2 + t) := by grind
 rw [e]
 unfold rcmp at h1 h2
 have a : -2 < t := by
  by_cases c : t < -2
  ·rw [if_pos c] at h1
   omega
  ·rw [if_neg c] at h1
   by_cases d : -2 < t
   ·exact d
   ·rw [if_neg d] at h1
    omega
 have b : t < 2 := by
  by_cases c : t < 2
  ·exact c
  ·rw [if_neg c] at h2
   by_cases d : 2 < t
   ·rw [if_pos d] at h2
    omega
   ·rw [if_neg d] at h2
    omega
 exact Rat.mul_pos (by grind) (by grind)
/-- The answer for a cavity that is not stable: what it is else. -/
def RetKu (W : World) (e : Ending) (w' : World) : Prop :=
 ∃ k : Int, e = .returned (.tuple #[.int .u8 k, .int .i64 0]) ∧ (k = 2 ∨ k = 3 ∨ k = 4) ∧ Below W.heap.size W w'

set_option maxRecDepth 100000 in
set_option maxHeartbeats 6400000 in
theorem kind_arg (sa : Bool) (Aa : Option Addr) (na ca : Nat) (la : List Nat) (za : Bool) (Ba : Option Addr) (ma da : Nat) (ka : List Nat) (sb : Bool) (Ab : Option Addr) (nb cb : Nat) (lb : List Nat) (zb : Bool) (Bb : Option Addr) (mb db : Nat) (kb : List Nat) (sc : Bool) (Ac : Option Addr) (nc cc : Nat) (lc : List Nat) (zc : Bool) (Bc : Option Addr) (mc dc : Nat) (kc : List Nat) (sd : Bool) (Ad : Option Addr) (nd cd : Nat) (ld : List Nat) (zd : Bool) (Bd : Option Addr) (md dd : Nat) (kd : List Nat) (w : World) (aa : LmE.at_ w ((sa, Aa, na, ca, la), (za, Ba, ma, da, ka))) (ab : LmE.at_ w ((sb, Ab, nb, cb, lb), (zb, Bb, mb, db, kb))) (ac : LmE.at_ w ((sc, Ac, nc, cc, lc), (zc, Bc, mc, dc, kc))) (ad : LmE.at_ w ((sd, Ad, nd, cd, ld), (zd, Bd, md, dd, kd))) (hm : okM ((sa, Aa, na, ca, la), (za, Ba, ma, da, ka)) ((sb, Ab, nb, cb, lb), (zb, Bb, mb, db, kb)) ((sc, Ac, nc, cc, lc), (zc, Bc, mc, dc, kc)) ((sd, Ad, nd, cd, ld), (zd, Bd, md, dd, kd)) = false) :
  Calls Tryz.prog 224 #[.agg #[.bool sa, .slice Aa na ca, .bool za, .slice Ba ma da, .bool sb, .slice Ab nb cb, .bool zb, .slice Bb mb db, .bool sc, .slice Ac nc cc, .bool zc, .slice Bc mc dc, .bool sd, .slice Ad nd cd, .bool zd, .slice Bd md dd]] w (RetV w (.tuple #[.int .u8 0, .int .i64 1])) := by
 have K0 := (Mm.nil w).var (g := w.heap.size) rfl [.bool sa, .slice Aa na ca, .bool za, .slice Ba ma da, .bool sb, .slice Ab nb cb, .bool zb, .slice Bb mb db, .bool sc, .slice Ac nc cc, .bool zc, .slice Bc mc dc, .bool sd, .slice Ad nd cd, .bool zd, .slice Bd md dd] 28
 have HM := Lib.hid hm
 replace aa := LmE.at_.below aa K0.1
 replace ab := LmE.at_.below ab K0.1
 replace ac := LmE.at_.below ac K0.1
 replace ad := LmE.at_.below ad K0.1
 clear hm
 go_enter Tryz.func224, Tryz.ntmps224
 go_upto_region 1 with (fail)
 generalize w.alloc (.cells #[.bool sa, .slice Aa na ca, .bool za, .slice Ba ma da, .bool sb, .slice Ab nb cb, .bool zb, .slice Bb mb db, .bool sc, .slice Ac nc cc, .bool zc, .slice Bc mc dc, .bool sd, .slice Ad nd cd, .bool zd, .slice Bd md dd] 28) = w0 at K0 aa ab ac ad ⊢
 obtain ⟨p0, p1, p2, p3, p4, p5, p6, p7, p8, p9, p10, p11, p12, p13, p14, p15⟩ := (K0.blk (g := w.heap.size) (by repeat constructor)).c16
 go_wp2_with fail
 refine (ref9_may_any sa Aa na ca la za Ba ma da ka sb Ab nb cb lb zb Bb mb db kb sc Ac nc cc lc zc Bc mc dc kc sd Ad nd cd ld zd Bd md dd kd _ aa ab ac ad).mono ?_
 rintro e1 w1 ⟨rfl, hb⟩
 rw [HM.out]
 have K1 := K0.next hb
 clear K0 hb aa ab ac ad p0 p1 p2 p3 p4 p5 p6 p7 p8 p9 p10 p11 p12 p13 p14 p15
 go_wp2_with fail
 exact bodyPost_ret (v := .tuple #[.int .u8 0, .int .i64 1]) (by simp [results, Tryz.results224, go_sem]) rfl ⟨rfl, K1.1⟩

set_option maxRecDepth 100000 in
set_option maxHeartbeats 6400000 in
theorem kind_st (sa : Bool) (Aa : Option Addr) (na ca : Nat) (la : List Nat) (za : Bool) (Ba : Option Addr) (ma da : Nat) (ka : List Nat) (xa : Rat) (sb : Bool) (Ab : Option Addr) (nb cb : Nat) (lb : List Nat) (zb : Bool) (Bb : Option Addr) (mb db : Nat) (kb : List Nat) (xb : Rat) (sc : Bool) (Ac : Option Addr) (nc cc : Nat) (lc : List Nat) (zc : Bool) (Bc : Option Addr) (mc dc : Nat) (kc : List Nat) (xc : Rat) (sd : Bool) (Ad : Option Addr) (nd cd : Nat) (ld : List Nat) (zd : Bool) (Bd : Option Addr) (md dd : Nat) (kd : List Nat) (xd : Rat) (M : Nat) (hM : M = 2048) (w : World) (oa : OkF w ((sa, Aa, na, ca, la), (za, Ba, ma, da, ka)) xa) (ob : OkF w ((sb, Ab, nb, cb, lb), (zb, Bb, mb, db, kb)) xb) (oc : OkF w ((sc, Ac, nc, cc, lc), (zc, Bc, mc, dc, kc)) xc) (od : OkF w ((sd, Ad, nd, cd, ld), (zd, Bd, md, dd, kd)) xd) (hdet : xa * xd - xb * xc = 1) (h4 : 0 < 4 - (xa + xd) * (xa + xd)) :
  Calls Tryz.prog 224 #[.agg #[.bool sa, .slice Aa na ca, .bool za, .slice Ba ma da, .bool sb, .slice Ab nb cb, .bool zb, .slice Bb mb db, .bool sc, .slice Ac nc cc, .bool zc, .slice Bc mc dc, .bool sd, .slice Ad nd cd, .bool zd, .slice Bd md dd]] w (RetV w (.tuple #[.int .u8 1, .int .i64 0])) := by
 have K0 := (Mm.nil w).var (g := w.heap.size) rfl [.bool sa, .slice Aa na ca, .bool za, .slice Ba ma da, .bool sb, .slice Ab nb cb, .bool zb, .slice Bb mb db, .bool sc, .slice Ac nc cc, .bool zc, .slice Bc mc dc, .bool sd, .slice Ad nd cd, .bool zd, .slice Bd md dd] 28
 have Ya : Hid (Sz xa M) := Lib.hid (by rw [hM]; exact oa.ints.2.2)
 have Yb : Hid (Sz xb M) := Lib.hid (by rw [hM]; exact ob.ints.2.2)
 have Yc : Hid (Sz xc M) := Lib.hid (by rw [hM]; exact oc.ints.2.2)
 have Yd : Hid (Sz xd M) := Lib.hid (by rw [hM]; exact od.ints.2.2)
 have HM := Lib.hid (okM_ok oa ob oc od hdet)
 have ST : Hid (Sz (xa + xd) (2 * M + 1)) := Lib.hid ((Sz.add Ya.out Yd.out).mono (by omega))
 have SN : Hid (Sz (-2 : Rat) (0 * M + 1)) := Lib.hid (Sz.mono (⟨by decide, by decide⟩ : Sz (-2 : Rat) 1) (by omega))
 have SP : Hid (Sz (2 : Rat) (0 * M + 1)) := Lib.hid (Sz.mono (⟨by decide, by decide⟩ : Sz (2 : Rat) 1) (by omega))
 replace oa := oa.next K0.1
 replace ob := ob.next K0.1
 replace oc := oc.next K0.1
 replace od := od.next K0.1
 clear hdet
 go_enter Tryz.func224, Tryz.ntmps224
 go_upto_region 1 with (fail)
 generalize w.alloc (.cells #[.bool sa, .slice Aa na ca, .bool za, .slice Ba ma da, .bool sb, .slice Ab nb cb, .bool zb, .slice Bb mb db, .bool sc, .slice Ac nc cc, .bool zc, .slice Bc mc dc, .bool sd, .slice Ad nd cd, .bool zd, .slice Bd md dd] 28) = w0 at K0 oa ob oc od ⊢
 obtain ⟨p0, p1, p2, p3, p4, p5, p6, p7, p8, p9, p10, p11, p12, p13, p14, p15⟩ := (K0.blk (g := w.heap.size) (by repeat constructor)).c16
 go_wp2_with fail
 refine (ref9_may_any sa Aa na ca la za Ba ma da ka sb Ab nb cb lb zb Bb mb db kb sc Ac nc cc lc zc Bc mc dc kc sd Ad nd cd ld zd Bd md dd kd _ oa.1 ob.1 oc.1 od.1).mono ?_
 rintro e1 w1 ⟨rfl, hb⟩
 rw [HM.out]
 have K1 := K0.next hb
 replace oa := oa.next hb
 replace ob := ob.next hb
 replace oc := oc.next hb
 replace od := od.next hb
 replace K1 := (((((((K1.int od.ints.2.1).int od.ints.1).int oc.ints.2.1).int oc.ints.1).int ob.ints.2.1).int ob.ints.1).int oa.ints.2.1).int oa.ints.1
 clear K0 hb oa ob oc od p0 p1 p2 p3 p4 p5 p6 p7 p8 p9 p10 p11 p12 p13 p14 p15
 obtain ⟨p0, p1, p2, p3, p4, p5, p6, p7, p8, p9, p10, p11, p12, p13, p14, p15⟩ := (K1.blk (g := w.heap.size) (by repeat constructor)).c16
 go_upto_region 3 with (fail)
 go_wp2_with fail
 refine (ref2_plus_any sa za Aa Ba na ca ma da sd zd Ad Bd nd cd md dd xa xd (xa + xd) M M _ (K1.at_ (mE 0 rfl)) (K1.at_ (mE 1 rfl)) (K1.at_ (mE 6 rfl)) (K1.at_ (mE 7 rfl)) Ya.out Yd.out (by omega) (Lib.hid rfl)).mono ?_
 rintro e2 w2 ⟨st, At, nt, ct, zt, Bt, mt, dt, rfl, I2, J2, hb⟩
 have K2 := (((K1.next hb).int J2).int I2).var (g := w2.heap.size) rfl [.bool st, .slice At nt ct, .bool zt, .slice Bt mt dt] 26
 clear K1 hb I2 J2 p0 p1 p2 p3 p4 p5 p6 p7 p8 p9 p10 p11 p12 p13 p14 p15
 go_upto_region 4 with (fail)
 generalize w2.heap.size = gt at K2 ⊢
 generalize w2.alloc (.cells #[.bool st, .slice At nt ct, .bool zt, .slice Bt mt dt] 26) = u2 at K2 ⊢
 obtain ⟨lo, hlo⟩ : ∃ v, rcmp (xa + xd) (-2) = v := ⟨_, rfl⟩
 obtain ⟨hi, hhi⟩ : ∃ v, rcmp (xa + xd) 2 = v := ⟨_, rfl⟩
 have HLO := Lib.hid hlo
 have HHI := Lib.hid hhi
 clear hlo hhi
 obtain ⟨⟨qa0n, qb0n, qc0n, qd0n⟩, ⟨_, _, _, _⟩, _⟩ := (K2.blk (g := gt) (by repeat constructor)).four
 go_cut [5] from 15 to 17 (fun sv wz => sv = .int .i64 lo ∧ Mm w [(gt, [.bool st, .slice At nt ct, .bool zt, .slice Bt mt dt]), (w.heap.size, [.bool sa, .slice Aa na ca, .bool za, .slice Ba ma da, .bool sb, .slice Ab nb cb, .bool zb, .slice Bb mb db, .bool sc, .slice Ac nc cc, .bool zc, .slice Bc mc dc, .bool sd, .slice Ad nd cd, .bool zd, .slice Bd md dd])] [(st, At, nt, ct, ((xa + xd) : Rat).num), (zt, Bt, mt, dt, ((((xa + xd) : Rat).den : Nat) : Int)), (sa, Aa, na, ca, (xa : Rat).num), (za, Ba, ma, da, (((xa : Rat).den : Nat) : Int)), (sb, Ab, nb, cb, (xb : Rat).num), (zb, Bb, mb, db, (((xb : Rat).den : Nat) : Int)), (sc, Ac, nc, cc, (xc : Rat).num), (zc, Bc, mc, dc, (((xc : Rat).den : Nat) : Int)), (sd, Ad, nd, cd, (xd : Rat).num), (zd, Bd, md, dd, (((xd : Rat).den : Nat) : Int))] wz)
 case first =>
  go_region_held3 (fun w' => w'.cell? ⟨gt, 0, none⟩ = some (.bool st) ∧ w'.cell? ⟨gt, 1, none⟩ = some (.slice At nt ct) ∧ w'.cell? ⟨gt, 2, none⟩ = some (.bool zt) ∧ w'.cell? ⟨gt, 3, none⟩ = some (.slice Bt mt dt))
  (go_keep)
  (first
   | (go_at_call 227; apply Calls.withMm (w0 := w); (case K => with_reducible repeat (first | exact K2 | apply Mm.drew | apply Mm.drewN)); intro KX; (with_reducible refine (ref2_small_any (-2) 1 (-2) _ (by decide) (by decide) (by decide) (Lib.hid (by decide +kernel))).mono ?_); rintro en1 wn1 ⟨negn1, An1, nn1, cn1, nen1, Bn1, mn1, dn1, rfl, ISN, JSN, hbn1⟩; (with_reducible have Kn1 := (((KX.next hbn1).int JSN).int ISN)); obtain ⟨⟨_, _, _, _⟩, ⟨_, _, _, _⟩, _⟩ := (Kn1.blk (mE 0 rfl)).four; clear KX ISN JSN hbn1)
   | (go_at_call 259; apply Calls.withMm (w0 := w); (case K => with_reducible repeat (first | exact Kn1 | apply Mm.drew | apply Mm.drewN)); intro KX; (with_reducible refine (ref2_cmp_any st zt At Bt nt ct mt dt negn1 nen1 An1 Bn1 nn1 cn1 mn1 dn1 (xa + xd) (-2 : Rat) lo (2 * M + 1) (0 * M + 1) _ (KX.at_ (mE 2 rfl)) (KX.at_ (mE 3 rfl)) (KX.at_ (mE 0 rfl)) (KX.at_ (mE 1 rfl)) ST.out SN.out (by omega) HLO).mono ?_); rintro en2 wn2 ⟨rfl, hbn2⟩; (with_reducible have Kn2 := (KX.next hbn2)); obtain ⟨⟨_, _, _, _⟩, ⟨_, _, _, _⟩, _⟩ := (Kn2.blk (mE 0 rfl)).four; clear KX  hbn2))
  all_goals (go_wp2_with fail)
  all_goals go_meet
  all_goals (with_reducible exact ⟨rfl, Kn2.pick (L' := [(gt, [.bool st, .slice At nt ct, .bool zt, .slice Bt mt dt]), (w.heap.size, [.bool sa, .slice Aa na ca, .bool za, .slice Ba ma da, .bool sb, .slice Ab nb cb, .bool zb, .slice Bb mb db, .bool sc, .slice Ac nc cc, .bool zc, .slice Bc mc dc, .bool sd, .slice Ad nd cd, .bool zd, .slice Bd md dd])]) (l' := [(st, At, nt, ct, ((xa + xd) : Rat).num), (zt, Bt, mt, dt, ((((xa + xd) : Rat).den : Nat) : Int)), (sa, Aa, na, ca, (xa : Rat).num), (za, Ba, ma, da, (((xa : Rat).den : Nat) : Int)), (sb, Ab, nb, cb, (xb : Rat).num), (zb, Bb, mb, db, (((xb : Rat).den : Nat) : Int)), (sc, Ac, nc, cc, (xc : Rat).num), (zc, Bc, mc, dc, (((xc : Rat).den : Nat) : Int)), (sd, Ad, nd, cd, (xd : Rat).num), (zd, Bd, md, dd, (((xd : Rat).den : Nat) : Int))]) (all_cons (mE 0 rfl) (all_cons (mE 1 rfl) all_nil)) (all_cons (mE 2 rfl) (all_cons (mE 3 rfl) (all_cons (mE 4 rfl) (all_cons (mE 5 rfl) (all_cons (mE 6 rfl) (all_cons (mE 7 rfl) (all_cons (mE 8 rfl) (all_cons (mE 9 rfl) (all_cons (mE 10 rfl) (all_cons (mE 11 rfl) all_nil))))))))))⟩)
 case rest =>
 obtain ⟨rfl, K3⟩ := hcut
 clear K2 qa0n qb0n qc0n qd0n
 rename World => u3
 go_upto_region 5 with (fail)
 obtain ⟨⟨qa0p, qb0p, qc0p, qd0p⟩, ⟨_, _, _, _⟩, _⟩ := (K3.blk (g := gt) (by repeat constructor)).four
 go_cut [6] from 18 to 20 (fun sv wz => sv = .int .i64 hi ∧ Mm w [(gt, [.bool st, .slice At nt ct, .bool zt, .slice Bt mt dt]), (w.heap.size, [.bool sa, .slice Aa na ca, .bool za, .slice Ba ma da, .bool sb, .slice Ab nb cb, .bool zb, .slice Bb mb db, .bool sc, .slice Ac nc cc, .bool zc, .slice Bc mc dc, .bool sd, .slice Ad nd cd, .bool zd, .slice Bd md dd])] [(st, At, nt, ct, ((xa + xd) : Rat).num), (zt, Bt, mt, dt, ((((xa + xd) : Rat).den : Nat) : Int)), (sa, Aa, na, ca, (xa : Rat).num), (za, Ba, ma, da, (((xa : Rat).den : Nat) : Int)), (sb, Ab, nb, cb, (xb : Rat).num), (zb, Bb, mb, db, (((xb : Rat).den : Nat) : Int)), (sc, Ac, nc, cc, (xc : Rat).num), (zc, Bc, mc, dc, (((xc : Rat).den : Nat) : Int)), (sd, Ad, nd, cd, (xd : Rat).num), (zd, Bd, md, dd, (((xd : Rat).den : Nat) : Int))] wz)
 case first =>
  go_region_held3 (fun w' => w'.cell? ⟨gt, 0, none⟩ = some (.bool st) ∧ w'.cell? ⟨gt, 1, none⟩ = some (.slice At nt ct) ∧ w'.cell? ⟨gt, 2, none⟩ = some (.bool zt) ∧ w'.cell? ⟨gt, 3, none⟩ = some (.slice Bt mt dt))
  (go_keep)
  (first
   | (go_at_call 227; apply Calls.withMm (w0 := w); (case K => with_reducible repeat (first | exact K3 | apply Mm.drew | apply Mm.drewN)); intro KX; (with_reducible refine (ref2_small_any 2 1 2 _ (by decide) (by decide) (by decide) (Lib.hid (by decide +kernel))).mono ?_); rintro ep1 wp1 ⟨negp1, Ap1, np1, cp1, nep1, Bp1, mp1, dp1, rfl, ISP, JSP, hbp1⟩; (with_reducible have Kp1 := (((KX.next hbp1).int JSP).int ISP)); obtain ⟨⟨_, _, _, _⟩, ⟨_, _, _, _⟩, _⟩ := (Kp1.blk (mE 0 rfl)).four; clear KX ISP JSP hbp1)
   | (go_at_call 259; apply Calls.withMm (w0 := w); (case K => with_reducible repeat (first | exact Kp1 | apply Mm.drew | apply Mm.drewN)); intro KX; (with_reducible refine (ref2_cmp_any st zt At Bt nt ct mt dt negp1 nep1 Ap1 Bp1 np1 cp1 mp1 dp1 (xa + xd) (2 : Rat) hi (2 * M + 1) (0 * M + 1) _ (KX.at_ (mE 2 rfl)) (KX.at_ (mE 3 rfl)) (KX.at_ (mE 0 rfl)) (KX.at_ (mE 1 rfl)) ST.out SP.out (by omega) HHI).mono ?_); rintro ep2 wp2 ⟨rfl, hbp2⟩; (with_reducible have Kp2 := (KX.next hbp2)); obtain ⟨⟨_, _, _, _⟩, ⟨_, _, _, _⟩, _⟩ := (Kp2.blk (mE 0 rfl)).four; clear KX  hbp2))
  all_goals (go_wp2_with fail)
  all_goals go_meet
  all_goals (with_reducible exact ⟨rfl, Kp2.pick (L' := [(gt, [.bool st, .slice At nt ct, .bool zt, .slice Bt mt dt]), (w.heap.size, [.bool sa, .slice Aa na ca, .bool za, .slice Ba ma da, .bool sb, .slice Ab nb cb, .bool zb, .slice Bb mb db, .bool sc, .slice Ac nc cc, .bool zc, .slice Bc mc dc, .bool sd, .slice Ad nd cd, .bool zd, .slice Bd md dd])]) (l' := [(st, At, nt, ct, ((xa + xd) : Rat).num), (zt, Bt, mt, dt, ((((xa + xd) : Rat).den : Nat) : Int)), (sa, Aa, na, ca, (xa : Rat).num), (za, Ba, ma, da, (((xa : Rat).den : Nat) : Int)), (sb, Ab, nb, cb, (xb : Rat).num), (zb, Bb, mb, db, (((xb : Rat).den : Nat) : Int)), (sc, Ac, nc, cc, (xc : Rat).num), (zc, Bc, mc, dc, (((xc : Rat).den : Nat) : Int)), (sd, Ad, nd, cd, (xd : Rat).num), (zd, Bd, md, dd, (((xd : Rat).den : Nat) : Int))]) (all_cons (mE 0 rfl) (all_cons (mE 1 rfl) all_nil)) (all_cons (mE 2 rfl) (all_cons (mE 3 rfl) (all_cons (mE 4 rfl) (all_cons (mE 5 rfl) (all_cons (mE 6 rfl) (all_cons (mE 7 rfl) (all_cons (mE 8 rfl) (all_cons (mE 9 rfl) (all_cons (mE 10 rfl) (all_cons (mE 11 rfl) all_nil))))))))))⟩)
 case rest =>
 obtain ⟨rfl, K4⟩ := hcut
 clear K3 qa0p qb0p qc0p qd0p
 rename World => u4
 obtain rfl : lo = 1 := by rw [← HLO.out]; exact (kd_in h4).1
 obtain rfl : hi = -1 := by rw [← HHI.out]; exact (kd_in h4).2
 go_wp2_with fail
 exact bodyPost_ret (v := .tuple #[.int .u8 1, .int .i64 0]) (by simp [results, Tryz.results224, go_sem]) rfl ⟨rfl, K4.1⟩
end Go.Proofs.YtgekmbfmfiikkaaGreatDoor
