/-
  Is it asked of a matrix (polestarlaw16.fits).
  What is so of a program that does something (polestarlaw16.alive).
  Are two whole numbers, two fractions, two complex numbers the same? (SameInt, SameFrac, SameGauss, of any two)
-/
import Derived.Test.YtgekmbfmfiikkaaGreatDoorBmG
import Derived.Test.YtgekmbfmfiikkaaGreatDoorKlW
import Derived.Test.YtgekmbfmfiikkaaGreatDoorMdA
import Derived.Test.YtgekmbfmfiikkaaGreatDoorMdC
import Derived.Test.YtgekmbfmfiikkaaGreatDoorOmA
import Derived.Test.YtgekmbfmfiikkaaGreatDoorOnC
import Derived.Test.YtgekmbfmfiikkaaGreatDoorSfH
import Derived.Laws.StructEq
set_option maxHeartbeats 6400000
set_option maxRecDepth 100000
namespace Go.Proofs.YtgekmbfmfiikkaaGreatDoor
open Go.RowKit
theorem fits16_any (sa : Bool) (Aa : Option Addr) (na ca : Nat) (la : List Nat) (za : Bool) (Ba : Option Addr) (ma da : Nat) (ka : List Nat) (sb : Bool) (Ab : Option Addr) (nb cb : Nat) (lb : List Nat) (zb : Bool) (Bb : Option Addr) (mb db : Nat) (kb : List Nat) (sc : Bool) (Ac : Option Addr) (nc cc : Nat) (lc : List Nat) (zc : Bool) (Bc : Option Addr) (mc dc : Nat) (kc : List Nat) (sd : Bool) (Ad : Option Addr) (nd cd : Nat) (ld : List Nat) (zd : Bool) (Bd : Option Addr) (md dd : Nat) (kd : List Nat) (p2 : Nat) (big ok : Bool) (w : World) (pa : Sl w Aa na ca la) (qa : Sl w Ba ma da ka) (hna : na ≤ 281474976710656) (hma : ma ≤ 281474976710656) (pb : Sl w Ab nb cb lb) (qb : Sl w Bb mb db kb) (hnb : nb ≤ 281474976710656) (hmb : mb ≤ 281474976710656) (pc : Sl w Ac nc cc lc) (qc : Sl w Bc mc dc kc) (hnc : nc ≤ 281474976710656) (hmc : mc ≤ 281474976710656) (pd : Sl w Ad nd cd ld) (qd : Sl w Bd md dd kd) (hnd : nd ≤ 281474976710656) (hmd : md ≤ 281474976710656) (HP2 : Hid (costFr na ma + costFr nb mb + costFr nc mc + costFr nd md = p2)) (HBIG : Hid (decide (1048576 < p2) = big)) (HOK : Hid (okM ((sa, Aa, na, ca, la), (za, Ba, ma, da, ka)) ((sb, Ab, nb, cb, lb), (zb, Bb, mb, db, kb)) ((sc, Ac, nc, cc, lc), (zc, Bc, mc, dc, kc)) ((sd, Ad, nd, cd, ld), (zd, Bd, md, dd, kd)) = ok)) :
  Calls Tryz.prog 39 #[.agg #[.bool sa, .slice Aa na ca, .bool za, .slice Ba ma da, .bool sb, .slice Ab nb cb, .bool zb, .slice Bb mb db, .bool sc, .slice Ac nc cc, .bool zc, .slice Bc mc dc, .bool sd, .slice Ad nd cd, .bool zd, .slice Bd md dd]] w (RetV w (.bool (!big && ok))) := by
 have K0 := (Mm.nil w).var (g := w.heap.size) rfl [.bool sa, .slice Aa na ca, .bool za, .slice Ba ma da, .bool sb, .slice Ab nb cb, .bool zb, .slice Bb mb db, .bool sc, .slice Ac nc cc, .bool zc, .slice Bc mc dc, .bool sd, .slice Ad nd cd, .bool zd, .slice Bd md dd] 28
 replace pa := pa.below K0.1
 replace qa := qa.below K0.1
 replace pb := pb.below K0.1
 replace qb := qb.below K0.1
 replace pc := pc.below K0.1
 replace qc := qc.below K0.1
 replace pd := pd.below K0.1
 replace qd := qd.below K0.1
 have ya := cost_bound hna hma
 have yb := cost_bound hnb hmb
 have yc := cost_bound hnc hmc
 have yd := cost_bound hnd hmd
 have HSUM : Hid (p2 ≤ 9223372036854775807) := Lib.hid (by have := HP2.out; omega)
 have SMa : Hid (big = false → na ≤ 1000000000 ∧ ma ≤ 1000000000) := Lib.hid (fun hb => cost_low (by have e := HP2.out; have hbig := HBIG.out; rw [hb] at hbig; have := of_decide_eq_false hbig; omega))
 have SMb : Hid (big = false → nb ≤ 1000000000 ∧ mb ≤ 1000000000) := Lib.hid (fun hb => cost_low (by have e := HP2.out; have hbig := HBIG.out; rw [hb] at hbig; have := of_decide_eq_false hbig; omega))
 have SMc : Hid (big = false → nc ≤ 1000000000 ∧ mc ≤ 1000000000) := Lib.hid (fun hb => cost_low (by have e := HP2.out; have hbig := HBIG.out; rw [hb] at hbig; have := of_decide_eq_false hbig; omega))
 have SMd : Hid (big = false → nd ≤ 1000000000 ∧ md ≤ 1000000000) := Lib.hid (fun hb => cost_low (by have e := HP2.out; have hbig := HBIG.out; rw [hb] at hbig; have := of_decide_eq_false hbig; omega))
 clear ya yb yc yd
 go_enter Tryz.func39, Tryz.ntmps39
 go_upto_region 1 with (fail)
 generalize w.alloc (.cells #[.bool sa, .slice Aa na ca, .bool za, .slice Ba ma da, .bool sb, .slice Ab nb cb, .bool zb, .slice Bb mb db, .bool sc, .slice Ac nc cc, .bool zc, .slice Bc mc dc, .bool sd, .slice Ad nd cd, .bool zd, .slice Bd md dd] 28) = w0 at K0 pa qa pb qb pc qc pd qd ⊢
 have rgq := Lib.hid (K0.blk (mE 0 rfl)).rng
 go_wp2_with (first | (refine wpList_load_any (by rfl) _ _ rfl (w.heap.size) 0 rfl _ _ rgq.out Tryz.underlying28 rfl size_ma ?_))
 refine (matrix_cost_of sa za Aa Ba na ca ma da sb zb Ab Bb nb cb mb db sc zc Ac Bc nc cc mc dc sd zd Ad Bd nd cd md dd p2 _ hna hma hnb hmb hnc hmc hnd hmd HP2).mono ?_
 rintro e1 w1 ⟨rfl, hb⟩
 have K1 := K0.next hb
 replace pa := pa.below hb
 replace qa := qa.below hb
 replace pb := pb.below hb
 replace qb := qb.below hb
 replace pc := pc.below hb
 replace qc := qc.below hb
 replace pd := pd.below hb
 replace qd := qd.below hb
 clear K0 hb rgq
 go_wp2_with fail
 refine (beyond_one w1.heap.size p2 big _ (nats_new w1 _ [p2]) HSUM.out HBIG).mono ?_
 rintro e2 w2 ⟨rfl, hb⟩
 have hb2 := below_box hb
 have K2 := K1.next hb2
 replace pa := pa.below hb2
 replace qa := qa.below hb2
 replace pb := pb.below hb2
 replace qb := qb.below hb2
 replace pc := pc.below hb2
 replace qc := qc.below hb2
 replace pd := pd.below hb2
 replace qd := qd.below hb2
 clear K1 hb hb2
 cases big with
 | true =>
  go_wp2_with fail
  go_ret
  exact ⟨rfl, K2.1⟩
 | false =>
  obtain ⟨bna, bma⟩ := SMa.out rfl
  have Ea : LmE.at_ w2 ((sa, Aa, na, ca, la), (za, Ba, ma, da, ka)) := ⟨pa, qa, bna, bma⟩
  obtain ⟨bnb, bmb⟩ := SMb.out rfl
  have Eb : LmE.at_ w2 ((sb, Ab, nb, cb, lb), (zb, Bb, mb, db, kb)) := ⟨pb, qb, bnb, bmb⟩
  obtain ⟨bnc, bmc⟩ := SMc.out rfl
  have Ec : LmE.at_ w2 ((sc, Ac, nc, cc, lc), (zc, Bc, mc, dc, kc)) := ⟨pc, qc, bnc, bmc⟩
  obtain ⟨bnd, bmd⟩ := SMd.out rfl
  have Ed : LmE.at_ w2 ((sd, Ad, nd, cd, ld), (zd, Bd, md, dd, kd)) := ⟨pd, qd, bnd, bmd⟩
  have rgq := Lib.hid (K2.blk (mE 0 rfl)).rng
  go_wp2_with (first | (refine wpList_load_any (by rfl) _ _ rfl (w.heap.size) 0 rfl _ _ rgq.out Tryz.underlying28 rfl size_ma ?_))
  refine (ray_check_any sa Aa na ca la za Ba ma da ka sb Ab nb cb lb zb Bb mb db kb sc Ac nc cc lc zc Bc mc dc kc sd Ad nd cd ld zd Bd md dd kd _ Ea Eb Ec Ed).mono ?_
  rintro e3 w3 ⟨rfl, hb⟩
  have K3 := K2.next hb
  have e4 : chkM ((sa, Aa, na, ca, la), (za, Ba, ma, da, ka)) ((sb, Ab, nb, cb, lb), (zb, Bb, mb, db, kb)) ((sc, Ac, nc, cc, lc), (zc, Bc, mc, dc, kc)) ((sd, Ad, nd, cd, ld), (zd, Bd, md, dd, kd)) = if ok then 0 else 1 := by unfold chkM; rw [HOK.out]
  rw [e4]
  clear e4 K2 hb rgq
  cases ok with
  | true =>
   go_wp2_with fail
   go_ret
   exact ⟨rfl, K3.1⟩
  | false =>
   go_wp2_with fail
   go_ret
   exact ⟨rfl, K3.1⟩
end Go.Proofs.YtgekmbfmfiikkaaGreatDoor
namespace Go.Proofs.YtgekmbfmfiikkaaGreatDoor
open Go.RowKit
@[go_sem] theorem eqgD : Tryz.prog.eqGuardType Tryz.prog.depth 131 = false := by kernel_rfl
theorem feq0 : Op.floatEq .f64 0 0 = true := by decide +kernel
theorem feq1 : Op.floatEq .f64 fOne 4607182418800017408 = true := by decide +kernel
@[go_sem] theorem eqCxOne (w : World) : (Op.equalIn 9999 128 (.complex .f64 0 fOne) (.complex .f64 0 4607182418800017408)).run Tryz.prog w = .ok true w := by
 rw [show (9999 : Nat) = 9998 + 1 from rfl, Op.equalIn]
 simp only [Sem.run_bind, run_underlying Tryz.underlying128, Result.andThen_ok]
 simp [feq0, feq1]
@[go_sem] theorem eqFlNought (w : World) : (Op.equalIn 9999 129 (.float .f64 0) (.float .f64 0)).run Tryz.prog w = .ok true w := by
 rw [show (9999 : Nat) = 9998 + 1 from rfl, Op.equalIn]
 simp only [Sem.run_bind, run_underlying Tryz.underlying129, Result.andThen_ok]
 simp [feq0]
theorem al_v1 : (((4 : Rat) - ((2 + (-2)) * (2 + (-2)))) / ((4 : Rat) * ((-1) * (-1)))) = 1 := by decide +kernel
theorem al_r1 : (((2 : Rat) - (-2)) / ((2 : Rat) * (-1))) = -2 := by decide +kernel
theorem al_v2 : (((4 : Rat) - ((1 + 0) * (1 + 0))) / ((4 : Rat) * ((-1) * (-1)))).num = 3 ∧ (((4 : Rat) - ((1 + 0) * (1 + 0))) / ((4 : Rat) * ((-1) * (-1)))).den = 4 := by decide +kernel
theorem al_x1 (M : Nat) (hM : M = 2048) : IsRt (((4 : Rat) - ((2 + (-2)) * (2 + (-2)))) / ((4 : Rat) * ((-1) * (-1)))).num.natAbs 1 ∧ IsRt (((4 : Rat) - ((2 + (-2)) * (2 + (-2)))) / ((4 : Rat) * ((-1) * (-1)))).den 1 ∧ AnsX (((4 : Rat) - ((2 + (-2)) * (2 + (-2)))) / ((4 : Rat) * ((-1) * (-1)))) (((2 : Rat) - (-2)) / ((2 : Rat) * (-1))) M 1 1 (-2) 1 1 1 0 true := by
 rw [al_v1, al_r1]
 refine ⟨⟨by decide, by decide⟩, ⟨by decide, by decide⟩, .inr (.inl ⟨by decide, ⟨?_, ?_, ?_⟩, rfl, rfl, rfl, rfl, rfl, rfl⟩)⟩
 ·exact Sz.mono (⟨by decide, by decide⟩ : Sz (-2 : Rat) 1) (by omega)
 ·exact Nat.one_lt_two_pow (by omega)
 ·exact Nat.one_lt_two_pow (by omega)
theorem al_x2 (M : Nat) : IsRt (((4 : Rat) - ((1 + 0) * (1 + 0))) / ((4 : Rat) * ((-1) * (-1)))).num.natAbs 1 ∧ IsRt (((4 : Rat) - ((1 + 0) * (1 + 0))) / ((4 : Rat) * ((-1) * (-1)))).den 2 ∧ AnsX (((4 : Rat) - ((1 + 0) * (1 + 0))) / ((4 : Rat) * ((-1) * (-1)))) (((1 : Rat) - 0) / ((2 : Rat) * (-1))) M 1 2 0 0 0 0 0 false := by
 unfold AnsX
 rw [al_v2.1, al_v2.2]
 exact ⟨⟨by decide, by decide⟩, ⟨by decide, by decide⟩, .inl ⟨by decide, rfl, rfl, rfl, rfl, rfl, rfl⟩⟩
theorem alive16 (w : World) (hT : Tab w) : Calls Tryz.prog 38 #[] w (RetV w (.bool true)) := by
 obtain ⟨M, hM⟩ : ∃ M, M = 2048 := ⟨_, rfl⟩
 have HT := Lib.hid hT
 have X1 := Lib.hid (al_x1 M hM)
 have X2 := Lib.hid (al_x2 M)
 have K0 := Mm.nil w
 clear hT
 go_enter Tryz.func38, Tryz.ntmps38
 go_upto_region 1 with (fail)
 go_wp2_with fail
 refine (matrix16_any 2 5 (-1) (-2) 2 5 (-1) (-2) _ (by decide) (by decide) (by decide) (by decide) (Lib.hid (by decide +kernel)) (Lib.hid (by decide +kernel)) (Lib.hid (by decide +kernel)) (Lib.hid (by decide +kernel))).mono ?_
 rintro ea wa0 ⟨sa, Aa, na, ca, la, za, Ba, ma, da, ka, sb, Ab, nb, cb, lb, zb, Bb, mb, db, kb, sc, Ac, nc, cc, lc, zc, Bc, mc, dc, kc, sd, Ad, nd, cd, ld, zd, Bd, md, dd, kd, rfl, oa, ob, oc, od, hb⟩
 have KA0 := K0.next hb
 clear K0 hb
 go_wp2_with fail
 refine (exact_of sa Aa na ca la za Ba ma da ka 2 sb Ab nb cb lb zb Bb mb db kb 5 sc Ac nc cc lc zc Bc mc dc kc (-1) sd Ad nd cd ld zd Bd md dd kd (-2) M hM 1 1 (-2) 1 1 1 0 true _ oa ob oc od (by decide +kernel) (by decide +kernel) X1.out.1 X1.out.2.1 X1.out.2.2).mono ?_
 rintro eb wb0 ⟨sg, Ag, ng, cg, zg, Bg, mg, dg, sh, Ah, nh, ch, zh, Bh, mh, dh, rfl, I, J, I', J', _, hb⟩
 have KB0 := (((((KA0.next hb).int J').int I').int J).int I).var (g := wb0.heap.size) rfl [.bool sg, .slice Ag ng cg, .bool zg, .slice Bg mg dg, .bool sh, .slice Ah nh ch, .bool zh, .slice Bh mh dh] 30
 clear KA0 hb I J I' J' oa ob oc od
 go_upto_region 2 with (fail)
 generalize wb0.heap.size = g1 at KB0 ⊢
 generalize wb0.alloc (.cells #[.bool sg, .slice Ag ng cg, .bool zg, .slice Bg mg dg, .bool sh, .slice Ah nh ch, .bool zh, .slice Bh mh dh] 30) = ub0 at KB0 ⊢
 go_wp2_with fail
 refine (matrix16_any 1 1 (-1) 0 1 1 (-1) 0 _ (by decide) (by decide) (by decide) (by decide) (Lib.hid (by decide +kernel)) (Lib.hid (by decide +kernel)) (Lib.hid (by decide +kernel)) (Lib.hid (by decide +kernel))).mono ?_
 rintro ea wa1 ⟨sa, Aa, na, ca, la, za, Ba, ma, da, ka, sb, Ab, nb, cb, lb, zb, Bb, mb, db, kb, sc, Ac, nc, cc, lc, zc, Bc, mc, dc, kc, sd, Ad, nd, cd, ld, zd, Bd, md, dd, kd, rfl, oa, ob, oc, od, hb⟩
 have KA1 := KB0.next hb
 clear KB0 hb
 go_wp2_with fail
 refine (exact_of sa Aa na ca la za Ba ma da ka 1 sb Ab nb cb lb zb Bb mb db kb 1 sc Ac nc cc lc zc Bc mc dc kc (-1) sd Ad nd cd ld zd Bd md dd kd 0 M hM 1 2 0 0 0 0 0 false _ oa ob oc od (by decide +kernel) (by decide +kernel) X2.out.1 X2.out.2.1 X2.out.2.2).mono ?_
 rintro eb wb1 ⟨sp, Ap, np, cp, zp, Bp, mp, dp, sr, Ar, nr, cr, zr, Br, mr, dr, rfl, I, J, I', J', _, hb⟩
 have KB1 := (((((KA1.next hb).int J').int I').int J).int I).var (g := wb1.heap.size) rfl [.bool sp, .slice Ap np cp, .bool zp, .slice Bp mp dp, .bool sr, .slice Ar nr cr, .bool zr, .slice Br mr dr] 30
 clear KA1 hb I J I' J' oa ob oc od
 go_upto_region 3 with (fail)
 generalize wb1.heap.size = g4 at KB1 ⊢
 generalize wb1.alloc (.cells #[.bool sp, .slice Ap np cp, .bool zp, .slice Bp mp dp, .bool sr, .slice Ar nr cr, .bool zr, .slice Br mr dr] 30) = ub1 at KB1 ⊢
 go_wp2_with fail
 refine (matrix16_any 2 3 1 2 2 3 1 2 _ (by decide) (by decide) (by decide) (by decide) (Lib.hid (by decide +kernel)) (Lib.hid (by decide +kernel)) (Lib.hid (by decide +kernel)) (Lib.hid (by decide +kernel))).mono ?_
 rintro ea wa2 ⟨sa, Aa, na, ca, la, za, Ba, ma, da, ka, sb, Ab, nb, cb, lb, zb, Bb, mb, db, kb, sc, Ac, nc, cc, lc, zc, Bc, mc, dc, kc, sd, Ad, nd, cd, ld, zd, Bd, md, dd, kd, rfl, oa, ob, oc, od, hb⟩
 have KA2 := KB1.next hb
 clear KB1 hb
 go_wp2_with fail
 refine (exact_light sa Aa na ca la za Ba ma da ka 2 sb Ab nb cb lb zb Bb mb db kb 3 sc Ac nc cc lc zc Bc mc dc kc 1 sd Ad nd cd ld zd Bd md dd kd 2 M hM _ oa ob oc od (by decide +kernel) (by decide +kernel)).mono ?_
 rintro eb wb2 ⟨st, At, nt, ct, zt, Bt, mt, dt, sv, Av, nv, cv, zv, Bv, mv, dv, rfl, I, J, I', J', _, hb⟩
 have KB2 := (((((KA2.next hb).int J').int I').int J).int I).var (g := wb2.heap.size) rfl [.bool st, .slice At nt ct, .bool zt, .slice Bt mt dt, .bool sv, .slice Av nv cv, .bool zv, .slice Bv mv dv] 30
 clear KA2 hb I J I' J' oa ob oc od
 go_upto_region 4 with (fail)
 generalize wb2.heap.size = g7 at KB2 ⊢
 generalize wb2.alloc (.cells #[.bool st, .slice At nt ct, .bool zt, .slice Bt mt dt, .bool sv, .slice Av nv cv, .bool zv, .slice Bv mv dv] 30) = ub2 at KB2 ⊢
 go_wp2_with fail
 refine (matrix16_any 0 1 (-1) 0 0 1 (-1) 0 _ (by decide) (by decide) (by decide) (by decide) (Lib.hid (by decide +kernel)) (Lib.hid (by decide +kernel)) (Lib.hid (by decide +kernel)) (Lib.hid (by decide +kernel))).mono ?_
 rintro ea wa3 ⟨sa, Aa, na, ca, la, za, Ba, ma, da, ka, sb, Ab, nb, cb, lb, zb, Bb, mb, db, kb, sc, Ac, nc, cc, lc, zc, Bc, mc, dc, kc, sd, Ad, nd, cd, ld, zd, Bd, md, dd, kd, rfl, oa, ob, oc, od, hb⟩
 have KA3 := KB2.next hb
 clear KB2 hb
 go_wp2_with fail
 refine (disc_of_one sa Aa na ca la za Ba ma da ka sb Ab nb cb lb zb Bb mb db kb sc Ac nc cc lc zc Bc mc dc kc sd Ad nd cd ld zd Bd md dd kd M hM _ oa ob oc od (HT.out.next KA3.1)).mono ?_
 rintro eb wb3 ⟨rfl, hb⟩
 have KB3 := (KA3.next hb).var (g := wb3.heap.size) rfl [.complex .f64 0 fOne, .float .f64 0] 131
 clear KA3 hb oa ob oc od
 go_upto_region 5 with (fail)
 generalize wb3.heap.size = gd at KB3 ⊢
 generalize wb3.alloc (.cells #[.complex .f64 0 fOne, .float .f64 0] 131) = u5 at KB3 ⊢
 have QG := Lib.hid (fun (W : World) (s : Bool) (A : Option Addr) (n c : Nat) (h : IsInt W s A n c (-2 : Rat).num) => (show IsInt W s A n c (-2) from h))
 have DG := Lib.hid (fun (W : World) (s : Bool) (A : Option Addr) (n c : Nat) (h : IsInt W s A n c (((-2 : Rat).den : Nat) : Int)) => (show IsInt W s A n c 1 from h))
 have QO := Lib.hid (fun (W : World) (s : Bool) (A : Option Addr) (n c : Nat) (h : IsInt W s A n c (1 : Rat).num) => (show IsInt W s A n c 1 from h))
 have DO := Lib.hid (fun (W : World) (s : Bool) (A : Option Addr) (n c : Nat) (h : IsInt W s A n c (((1 : Rat).den : Nat) : Int)) => (show IsInt W s A n c 1 from h))
 have LG : Hid (ng ≤ 1000000000 ∧ mg ≤ 1000000000 ∧ nh ≤ 1000000000 ∧ mh ≤ 1000000000) := Lib.hid (by
  have e1 := int_len (KB3.at_ (neg := sg) (A := Ag) (n := ng) (c := cg) (z := -2) (mE 8 rfl)) (m := 1) (by decide)
  have e2 := int_len (KB3.at_ (neg := zg) (A := Bg) (n := mg) (c := dg) (z := 1) (mE 9 rfl)) (m := 1) (by decide)
  have e3 := int_len (KB3.at_ (neg := sh) (A := Ah) (n := nh) (c := ch) (z := 1) (mE 10 rfl)) (m := 1) (by decide)
  have e4 := int_len (KB3.at_ (neg := zh) (A := Bh) (n := mh) (c := dh) (z := 1) (mE 11 rfl)) (m := 1) (by decide)
  omega)
 obtain ⟨y0, y1, yf0, yf1, _⟩ := (KB3.blk (mE 0 rfl)).two
 obtain ⟨_, _, _, _, _, _, _, _⟩ := (KB3.blk (g := g1) (by repeat constructor)).c8
 go_region_held3 (fun w' => w'.cell? ⟨g1, 0, none⟩ = some (.bool sg) ∧ w'.cell? ⟨g1, 1, none⟩ = some (.slice Ag ng cg) ∧ w'.cell? ⟨g1, 2, none⟩ = some (.bool zg) ∧ w'.cell? ⟨g1, 3, none⟩ = some (.slice Bg mg dg) ∧ w'.cell? ⟨g1, 4, none⟩ = some (.bool sh) ∧ w'.cell? ⟨g1, 5, none⟩ = some (.slice Ah nh ch) ∧ w'.cell? ⟨g1, 6, none⟩ = some (.bool zh) ∧ w'.cell? ⟨g1, 7, none⟩ = some (.slice Bh mh dh) ∧ w'.cell? ⟨gd, 0, none⟩ = some (.complex .f64 0 fOne) ∧ w'.cell? ⟨gd, 1, none⟩ = some (.float .f64 0))
  (go_keep)
  (first
   | (go_at_call 15; apply Calls.withMm (w0 := w); (case K => with_reducible repeat (first | exact K6 | apply Mm.drew | apply Mm.drewN)); intro KX; (refine (same_gauss_int sg zg Ag Bg ng cg mg dg sh zh Ah Bh nh ch mh dh si zi Ai Bi ni ci mi di sj zj Aj Bj nj cj mj dj (-2) 1 1 1 _ (KX.at_ (mE 12 rfl)) (KX.at_ (mE 13 rfl)) (KX.at_ (mE 14 rfl)) (KX.at_ (mE 15 rfl)) (KX.at_ (mE 0 rfl)) (KX.at_ (mE 1 rfl)) (KX.at_ (mE 2 rfl)) (KX.at_ (mE 3 rfl)) LG.out.1 LG.out.2.1 LG.out.2.2.1 LG.out.2.2.2).mono ?_); rintro e7 w7 ⟨rfl, hb⟩; have K7 := KX.next hb; clear KX hb; obtain ⟨_, _, _, _, _, _, _, _⟩ := (K7.blk (mE 3 rfl)).c8; obtain ⟨y7_0, y7_1, yf7_0, yf7_1, _⟩ := (K7.blk (mE 0 rfl)).two; skip)
   | (go_at_call 109; apply Calls.withMm (w0 := w); (case K => with_reducible repeat (first | exact KB3 | apply Mm.drew | apply Mm.drewN)); intro KX; (refine (gauss_of_any (-2) 1 (-2) 1 _ (by decide) (by decide) (Lib.hid (by decide +kernel)) (Lib.hid (by decide +kernel))).mono ?_); rintro e6 w6 ⟨si, Ai, ni, ci, li, zi, Bi, mi, di, ki, sj, Aj, nj, cj, lj, zj, Bj, mj, dj, kj, rfl, oi, oj, hb⟩; have K6 := ((((KX.next hb).int (DO.out _ _ _ _ _ oj.ints.2.1)).int (QO.out _ _ _ _ _ oj.ints.1)).int (DG.out _ _ _ _ _ oi.ints.2.1)).int (QG.out _ _ _ _ _ oi.ints.1); clear KX hb oi oj; obtain ⟨_, _, _, _, _, _, _, _⟩ := (K6.blk (mE 3 rfl)).c8; obtain ⟨y6_0, y6_1, yf6_0, yf6_1, _⟩ := (K6.blk (mE 0 rfl)).two; skip)
   | fail)
 all_goals (go_wp2_with fail)
 all_goals go_ret
 all_goals exact ⟨by first | rfl | simp [fOne], K7.1⟩
end Go.Proofs.YtgekmbfmfiikkaaGreatDoor
namespace Go.Proofs.YtgekmbfmfiikkaaGreatDoor
open Go.RowKit
theorem same_int_no (neg neg' : Bool) (A A' : Option Addr) (n n' c c' : Nat) (l l' : List Nat) (w : World) (ha : Sl w A n c l) (hb : Sl w A' n' c' l') (hn : n ≤ 1000000000) (hn' : n' ≤ 1000000000) (hd : neg ≠ neg' ∨ n ≠ n' ∨ l ≠ l') :
  Calls Tryz.prog 123 #[.agg #[.bool neg, .slice A n c], .agg #[.bool neg', .slice A' n' c']] w (RetV w (.bool false)) := by
 have K0 := ((Mm.nil w).var (g := w.heap.size) rfl [.bool neg, .slice A n c] 24).var (g := w.heap.size + 1) (by simp) [.bool neg', .slice A' n' c'] 24
 have ha0 := ha.below K0.1
 have hb0 := hb.below K0.1
 have hlen := ha.len
 have hlen' := hb.len
 clear ha hb
 by_cases h1 : neg = neg'
 ·by_cases h2 : n = n'
  ·subst h1
   subst h2
   have hl : Hid (l ≠ l') := Lib.hid (by rcases hd with h | h | h; exact absurd rfl h; exact absurd rfl h; exact h)
   have HL : Hid (l.length = n ∧ l'.length = n) := Lib.hid ⟨hlen, hlen'⟩
   clear hd hlen hlen'
   go_enter Tryz.func123, Tryz.ntmps123
   go_wp2_with fail
   generalize (w.alloc (.cells #[.bool neg, .slice A n c] 24)).alloc (.cells #[.bool neg, .slice A' n c'] 24) = w0 at K0 ha0 hb0 ⊢
   go_loopw [5] (fun ix wr => ∃ k : Nat, k ≤ n ∧ Hid (l.take k = l'.take k) ∧ ix = .int .i64 (k : Int) ∧ Sl wr A n c l ∧ Sl wr A' n c' l' ∧ Mm w [(w.heap.size, [.bool neg, .slice A n c]), (w.heap.size + 1, [.bool neg, .slice A' n c'])] [] wr) (fun ix _ => n - (intOf ix).toNat)
   case atStart => exact ⟨0, Nat.zero_le _, Lib.hid rfl, rfl, ha0, hb0, K0.pick (by simp) (by simp)⟩
   case round =>
    clear ha0 hb0 K0
    obtain ⟨k, hk, ht, rfl, ha0, hb0, K0⟩ := hrel
    obtain ⟨_, _, _, _, _⟩ := (K0.blk (g := w.heap.size) (by repeat constructor)).two
    obtain ⟨_, _, _, _, _⟩ := (K0.blk (g := w.heap.size + 1) (by repeat constructor)).two
    have hlt : k < n := by
     rcases Nat.lt_or_ge k n with h | h
     ·exact h
     ·exfalso
      refine hl.out ?_
      have := ht.out
      rwa [List.take_of_length_le (by rw [HL.out.1]; exact h), List.take_of_length_le (by rw [HL.out.2]; exact h)] at this
    obtain ⟨ad, rfl, _, hla, hcd, _⟩ := ha0.at_ hlt
    obtain ⟨bd, rfl, _, hlb, hce, _⟩ := hb0.at_ hlt
    have HN : Hid (l[k] = l'[k] → l.take (k + 1) = l'.take (k + 1)) := Lib.hid (fun e => by rw [List.take_succ_eq_append_getElem hla, List.take_succ_eq_append_getElem hlb, ht.out, e])
    obtain ⟨x, hx⟩ : ∃ x, l[k] = x := ⟨_, rfl⟩
    obtain ⟨y, hy⟩ : ∃ y, l'[k] = y := ⟨_, rfl⟩
    rw [hx] at hcd
    rw [hy] at hce
    rw [hx, hy] at HN
    have hlt' : (k : Int) < (n : Int) := by omega
    have hk0 : (0 : Int) ≤ (k : Int) := Int.natCast_nonneg _
    clear hx hy ht
    by_cases hxy : x = y
    ·subst hxy
     go_wp2_with fail
     go_quiet (fail)
     go_wp2_with fail
     go_roundw
     case rel => exact ⟨k + 1, hlt, Lib.hid (by first | exact HN.out rfl | exact HN.out trivial), congrArg (Value.int .i64) (by omega), ha0.drewN _, hb0.drewN _, K0.drewN _⟩
     case measure => simp [intOf] <;> omega
    ·have hxy' : ¬ (x : Int) = (y : Int) := by omega
     clear HN
     go_wp2_with fail
     go_quiet (fail)
     go_wp2_with fail
     go_ret
     exact ⟨rfl, (K0.drewN _).1⟩
  ·subst h1
   have h2' : ¬ (n : Int) = (n' : Int) := by omega
   clear hd hlen hlen'
   go_enter Tryz.func123, Tryz.ntmps123
   go_wp2_with fail
   go_ret
   exact ⟨rfl, K0.1⟩
 ·have h1' : (neg != neg') = true := by cases neg <;> cases neg' <;> simp at h1 ⊢
  clear hd hlen hlen'
  go_enter Tryz.func123, Tryz.ntmps123
  go_wp2_with fail
  go_ret
  exact ⟨rfl, K0.1⟩
theorem same_int_cmp (sa sb : Bool) (Aa Ab : Option Addr) (na ca nb cb : Nat) (x y : Int) (w : World) (ia : IsInt w sa Aa na ca x) (ib : IsInt w sb Ab nb cb y) (h1 : na ≤ 1000000000) (h2 : nb ≤ 1000000000) :
  Calls Tryz.prog 123 #[.agg #[.bool sa, .slice Aa na ca], .agg #[.bool sb, .slice Ab nb cb]] w (RetV w (.bool (decide (x = y)))) := by
 by_cases h : x = y
 ·subst h
  obtain ⟨rfl, rfl, l, S, T⟩ := isInt_same ia ib
  rw [decide_eq_true rfl]
  exact same_int_any _ _ _ _ _ _ l w S T h1
 ·rw [decide_eq_false h]
  obtain ⟨la, S, _, _, e1⟩ := ia
  obtain ⟨lb, T, _, _, e2⟩ := ib
  refine same_int_no sa sb Aa Ab na nb ca cb la lb w S T h1 h2 ?_
  by_cases k1 : sa = sb
  ·by_cases k2 : la = lb
   ·exact absurd (by rw [e1, e2, k1, k2]) h
   ·exact .inr (.inr k2)
  ·exact .inl k1
theorem same_frac_cmp (sa za : Bool) (Aa Ba : Option Addr) (na ca ma da : Nat) (sb zb : Bool) (Ab Bb : Option Addr) (nb cb mb db : Nat) (x y x' y' : Int) (b : Bool) (w : World) (ia : IsInt w sa Aa na ca x) (ja : IsInt w za Ba ma da y) (ib : IsInt w sb Ab nb cb x') (jb : IsInt w zb Bb mb db y') (h1 : na ≤ 1000000000) (h2 : ma ≤ 1000000000) (h3 : nb ≤ 1000000000) (h4 : mb ≤ 1000000000) (hB : Hid ((decide (x = x') && decide (y = y')) = b)) :
  Calls Tryz.prog 28 #[.agg #[.bool sa, .slice Aa na ca, .bool za, .slice Ba ma da], .agg #[.bool sb, .slice Ab nb cb, .bool zb, .slice Bb mb db]] w (RetV w (.bool b)) := by
 have K0 := ((Mm.nil w).var (g := w.heap.size) rfl [.bool sa, .slice Aa na ca, .bool za, .slice Ba ma da] 26).var (g := w.heap.size + 1) (by simp) [.bool sb, .slice Ab nb cb, .bool zb, .slice Bb mb db] 26
 replace ia := ia.below K0.1
 replace ja := ja.below K0.1
 replace ib := ib.below K0.1
 replace jb := jb.below K0.1
 obtain ⟨b1, hb1⟩ : ∃ b1, decide (x = x') = b1 := ⟨_, rfl⟩
 obtain ⟨b2, hb2⟩ : ∃ b2, decide (y = y') = b2 := ⟨_, rfl⟩
 have HB1 := Lib.hid hb1
 have HB2 := Lib.hid hb2
 obtain rfl : (b1 && b2) = b := by rw [← hB.out, hb1, hb2]
 clear hb1 hb2 hB
 go_enter Tryz.func28, Tryz.ntmps28
 go_upto_region 1 with (fail)
 generalize (w.alloc (.cells #[.bool sa, .slice Aa na ca, .bool za, .slice Ba ma da] 26)).alloc (.cells #[.bool sb, .slice Ab nb cb, .bool zb, .slice Bb mb db] 26) = w0 at K0 ia ja ib jb ⊢
 obtain ⟨⟨p0, p1, p2, p3⟩, _, _⟩ := (K0.blk (g := w.heap.size) (by repeat constructor)).four
 obtain ⟨⟨q0, q1, q2, q3⟩, _, _⟩ := (K0.blk (g := w.heap.size + 1) (by repeat constructor)).four
 go_wp2_with fail
 refine (same_int_cmp sa sb Aa Ab na ca nb cb x x' _ ia ib h1 h3).mono ?_
 rintro e1 w1 ⟨rfl, hb⟩
 rw [HB1.out]
 have K1 := K0.next hb
 replace ja := ja.below hb
 replace jb := jb.below hb
 clear K0 hb ia ib p0 p1 p2 p3 q0 q1 q2 q3
 cases b1 with
 | false =>
  go_wp2_with fail
  go_ret
  exact ⟨rfl, K1.1⟩
 | true =>
  obtain ⟨⟨p0, p1, p2, p3⟩, _, _⟩ := (K1.blk (g := w.heap.size) (by repeat constructor)).four
  obtain ⟨⟨q0, q1, q2, q3⟩, _, _⟩ := (K1.blk (g := w.heap.size + 1) (by repeat constructor)).four
  go_wp2_with fail
  refine (same_int_cmp za zb Ba Bb ma da mb db y y' _ ja jb h2 h4).mono ?_
  rintro e2 w2 ⟨rfl, hb⟩
  rw [HB2.out]
  go_wp2_with fail
  go_ret
  exact ⟨rfl, (K1.next hb).1⟩
theorem same_gauss_cmp (sa za : Bool) (Aa Ba : Option Addr) (na ca ma da : Nat) (sb zb : Bool) (Ab Bb : Option Addr) (nb cb mb db : Nat) (sc zc : Bool) (Ac Bc : Option Addr) (nc cc mc dc : Nat) (se ze : Bool) (Ae Be : Option Addr) (ne ce me de : Nat) (x y x' y' u v u' v' : Int) (b : Bool) (w : World) (ia : IsInt w sa Aa na ca x) (ja : IsInt w za Ba ma da y) (ib : IsInt w sb Ab nb cb x') (jb : IsInt w zb Bb mb db y') (ic : IsInt w sc Ac nc cc u) (jc : IsInt w zc Bc mc dc v) (ie : IsInt w se Ae ne ce u') (je : IsInt w ze Be me de v') (h1 : na ≤ 1000000000) (h2 : ma ≤ 1000000000) (h3 : nb ≤ 1000000000) (h4 : mb ≤ 1000000000) (h5 : nc ≤ 1000000000) (h6 : mc ≤ 1000000000) (h7 : ne ≤ 1000000000) (h8 : me ≤ 1000000000)
  (hB : Hid (((decide (x = u) && decide (y = v)) && (decide (x' = u') && decide (y' = v'))) = b)) :
  Calls Tryz.prog 15 #[.agg #[.bool sa, .slice Aa na ca, .bool za, .slice Ba ma da, .bool sb, .slice Ab nb cb, .bool zb, .slice Bb mb db], .agg #[.bool sc, .slice Ac nc cc, .bool zc, .slice Bc mc dc, .bool se, .slice Ae ne ce, .bool ze, .slice Be me de]] w (RetV w (.bool b)) := by
 have K0 := ((Mm.nil w).var (g := w.heap.size) rfl [.bool sa, .slice Aa na ca, .bool za, .slice Ba ma da, .bool sb, .slice Ab nb cb, .bool zb, .slice Bb mb db] 30).var (g := w.heap.size + 1) (by simp) [.bool sc, .slice Ac nc cc, .bool zc, .slice Bc mc dc, .bool se, .slice Ae ne ce, .bool ze, .slice Be me de] 30
 replace ia := ia.below K0.1
 replace ja := ja.below K0.1
 replace ib := ib.below K0.1
 replace jb := jb.below K0.1
 replace ic := ic.below K0.1
 replace jc := jc.below K0.1
 replace ie := ie.below K0.1
 replace je := je.below K0.1
 obtain ⟨b1, hb1⟩ : ∃ b1, (decide (x = u) && decide (y = v)) = b1 := ⟨_, rfl⟩
 obtain ⟨b2, hb2⟩ : ∃ b2, (decide (x' = u') && decide (y' = v')) = b2 := ⟨_, rfl⟩
 have HB1 := Lib.hid hb1
 have HB2 := Lib.hid hb2
 obtain rfl : (b1 && b2) = b := by rw [← hB.out, hb1, hb2]
 clear hb1 hb2 hB
 go_enter Tryz.func15, Tryz.ntmps15
 go_upto_region 1 with (fail)
 generalize (w.alloc (.cells #[.bool sa, .slice Aa na ca, .bool za, .slice Ba ma da, .bool sb, .slice Ab nb cb, .bool zb, .slice Bb mb db] 30)).alloc (.cells #[.bool sc, .slice Ac nc cc, .bool zc, .slice Bc mc dc, .bool se, .slice Ae ne ce, .bool ze, .slice Be me de] 30) = w0 at K0 ia ja ib jb ic jc ie je ⊢
 obtain ⟨p0, p1, p2, p3, p4, p5, p6, p7⟩ := (K0.blk (g := w.heap.size) (by repeat constructor)).c8
 obtain ⟨q0, q1, q2, q3, q4, q5, q6, q7⟩ := (K0.blk (g := w.heap.size + 1) (by repeat constructor)).c8
 go_wp2_with fail
 refine (same_frac_cmp sa za Aa Ba na ca ma da sc zc Ac Bc nc cc mc dc x y u v b1 _ ia ja ic jc h1 h2 h5 h6 HB1).mono ?_
 rintro e1 w1 ⟨rfl, hb⟩
 have K1 := K0.next hb
 replace ib := ib.below hb
 replace jb := jb.below hb
 replace ie := ie.below hb
 replace je := je.below hb
 clear K0 hb ia ja ic jc p0 p1 p2 p3 p4 p5 p6 p7 q0 q1 q2 q3 q4 q5 q6 q7
 cases b1 with
 | false =>
  go_wp2_with fail
  go_ret
  exact ⟨rfl, K1.1⟩
 | true =>
  obtain ⟨p0, p1, p2, p3, p4, p5, p6, p7⟩ := (K1.blk (g := w.heap.size) (by repeat constructor)).c8
  obtain ⟨q0, q1, q2, q3, q4, q5, q6, q7⟩ := (K1.blk (g := w.heap.size + 1) (by repeat constructor)).c8
  go_wp2_with fail
  refine (same_frac_cmp sb zb Ab Bb nb cb mb db se ze Ae Be ne ce me de x' y' u' v' b2 _ ib jb ie je h3 h4 h7 h8 HB2).mono ?_
  rintro e2 w2 ⟨rfl, hb⟩
  go_wp2_with fail
  go_ret
  exact ⟨rfl, (K1.next hb).1⟩
end Go.Proofs.YtgekmbfmfiikkaaGreatDoor
