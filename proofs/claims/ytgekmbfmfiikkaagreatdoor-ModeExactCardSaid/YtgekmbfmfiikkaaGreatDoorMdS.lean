/-
  The walk of ModeExact.
-/
import Derived.Test.YtgekmbfmfiikkaaGreatDoorMdQ
import Derived.Test.YtgekmbfmfiikkaaGreatDoorMdR
import Derived.Test.YtgekmbfmfiikkaaGreatDoorOwT
import Derived.Test.YtgekmbfmfiikkaaGreatDoorBkO
import Derived.Test.YtgekmbfmfiikkaaGreatDoorKlW
namespace Go.Proofs.YtgekmbfmfiikkaaGreatDoor
open Go.RowKit

theorem Mo.call8 {B : Nat} {w wr w' : World} {L : List (Nat × List Value)} {l : List IntAt} {o : List OwnAt} {q1 q2 q3 q4 q5 q6 q7 q8 : OwnAt} (h : Mo B w L l o wr) (hb : Below wr.heap.size wr w') (hO : Owns wr.heap.size w' [q1, q2, q3, q4, q5, q6, q7, q8]) : Mo B w L l (q1 :: q2 :: q3 :: q4 :: q5 :: q6 :: q7 :: q8 :: o) w' := h.calln hb hO

set_option maxRecDepth 100000 in
set_option maxHeartbeats 6400000 in
theorem law_modeExact (sa : Bool) (Aa : Option Addr) (na ca : Nat) (la : List Nat) (za : Bool) (Ba : Option Addr) (ma da : Nat) (ka : List Nat) (sb : Bool) (Ab : Option Addr) (nb cb : Nat) (lb : List Nat) (zb : Bool) (Bb : Option Addr) (mb db : Nat) (kb : List Nat) (sc : Bool) (Ac : Option Addr) (nc cc : Nat) (lc : List Nat) (zc : Bool) (Bc : Option Addr) (mc dc : Nat) (kc : List Nat) (sd : Bool) (Ad : Option Addr) (nd cd : Nat) (ld : List Nat) (zd : Bool) (Bd : Option Addr) (md dd : Nat) (kd : List Nat) (w : World) (pa : Sl w Aa na ca la) (qa : Sl w Ba ma da ka) (hna : na ≤ 281474976710656) (hma : ma ≤ 281474976710656) (pb : Sl w Ab nb cb lb) (qb : Sl w Bb mb db kb) (hnb : nb ≤ 281474976710656) (hmb : mb ≤ 281474976710656) (pc : Sl w Ac nc cc lc) (qc : Sl w Bc mc dc kc) (hnc : nc ≤ 281474976710656) (hmc : mc ≤ 281474976710656) (pd : Sl w Ad nd cd ld) (qd : Sl w Bd md dd kd) (hnd : nd ≤ 281474976710656) (hmd : md ≤ 281474976710656) :
  Calls Tryz.prog 4 #[.agg #[.bool sa, .slice Aa na ca, .bool za, .slice Ba ma da, .bool sb, .slice Ab nb cb, .bool zb, .slice Bb mb db, .bool sc, .slice Ac nc cc, .bool zc, .slice Bc mc dc, .bool sd, .slice Ad nd cd, .bool zd, .slice Bd md dd]] w (RetV w (.bool true)) := by
 have K0 := (Mo.nil w).var (g := w.heap.size) rfl [.bool sa, .slice Aa na ca, .bool za, .slice Ba ma da, .bool sb, .slice Ab nb cb, .bool zb, .slice Bb mb db, .bool sc, .slice Ac nc cc, .bool zc, .slice Bc mc dc, .bool sd, .slice Ad nd cd, .bool zd, .slice Bd md dd] 28
 replace pa := pa.below K0.1
 replace qa := qa.below K0.1
 have ya := cost_bound hna hma
 replace pb := pb.below K0.1
 replace qb := qb.below K0.1
 have yb := cost_bound hnb hmb
 replace pc := pc.below K0.1
 replace qc := qc.below K0.1
 have yc := cost_bound hnc hmc
 replace pd := pd.below K0.1
 replace qd := qd.below K0.1
 have yd := cost_bound hnd hmd
 obtain ⟨p2, hp2⟩ : ∃ p, costFr na ma + costFr nb mb + costFr nc mc + costFr nd md = p := ⟨_, rfl⟩
 obtain ⟨big, hbig⟩ : ∃ b, decide (1048576 < p2) = b := ⟨_, rfl⟩
 have HP2 := Lib.hid hp2
 have HBIG := Lib.hid hbig
 have HSUM : Hid (p2 ≤ 9223372036854775807) := Lib.hid (by omega)
 have SMa : Hid (big = false → na ≤ 1000000000 ∧ ma ≤ 1000000000) := Lib.hid (fun hb => cost_low (by rw [hb] at hbig; have := of_decide_eq_false hbig; omega))
 have SMb : Hid (big = false → nb ≤ 1000000000 ∧ mb ≤ 1000000000) := Lib.hid (fun hb => cost_low (by rw [hb] at hbig; have := of_decide_eq_false hbig; omega))
 have SMc : Hid (big = false → nc ≤ 1000000000 ∧ mc ≤ 1000000000) := Lib.hid (fun hb => cost_low (by rw [hb] at hbig; have := of_decide_eq_false hbig; omega))
 have SMd : Hid (big = false → nd ≤ 1000000000 ∧ md ≤ 1000000000) := Lib.hid (fun hb => cost_low (by rw [hb] at hbig; have := of_decide_eq_false hbig; omega))
 clear hp2 hbig ya yb yc yd
 go_enter Tryz.func4, Tryz.ntmps4
 go_upto_region 1 with (fail)
 generalize w.alloc (.cells #[.bool sa, .slice Aa na ca, .bool za, .slice Ba ma da, .bool sb, .slice Ab nb cb, .bool zb, .slice Bb mb db, .bool sc, .slice Ac nc cc, .bool zc, .slice Bc mc dc, .bool sd, .slice Ad nd cd, .bool zd, .slice Bd md dd] 28) = w0 at K0 pa qa pb qb pc qc pd qd ⊢

 have rgq := Lib.hid (K0.blk (mE 0 rfl)).rng
 go_wp2_with (first | (refine wpList_load_any (by rfl) _ _ rfl (w.heap.size) 0 rfl _ _ rgq.out Tryz.underlying28 rfl size_ma ?_))
 refine (matrix_cost_of sa za Aa Ba na ca ma da sb zb Ab Bb nb cb mb db sc zc Ac Bc nc cc mc dc sd zd Ad Bd nd cd md dd p2 _ hna hma hnb hmb hnc hmc hnd hmd HP2).mono ?_
 rintro e1 w1 ⟨rfl, hb⟩
 have K1 := K0.next hb
 replace pa := pa.below hb
 replace qa := qa.below hb
 replace pb := pb.below hb
 replace qb := qb.below hb
 replace pc := pc.below hb
 replace qc := qc.below hb
 replace pd := pd.below hb
 replace qd := qd.below hb
 clear K0 hb rgq
 go_wp2_with fail
 refine (beyond_one w1.heap.size p2 big _ (nats_new w1 _ [p2]) HSUM.out HBIG).mono ?_
 rintro e2 w2 ⟨rfl, hb⟩
 have hb2 := below_box hb
 have K2 := K1.next hb2
 replace pa := pa.below hb2
 replace qa := qa.below hb2
 replace pb := pb.below hb2
 replace qb := qb.below hb2
 replace pc := pc.below hb2
 replace qc := qc.below hb2
 replace pd := pd.below hb2
 replace qd := qd.below hb2
 clear K1 hb hb2
 cases big with
 | true =>
  go_wp2_with fail
  go_ret
  exact ⟨rfl, K2.1⟩
 | false =>
  obtain ⟨bna, bma⟩ := SMa.out rfl
  have Ea : LmE.at_ w2 ((sa, Aa, na, ca, la), (za, Ba, ma, da, ka)) := ⟨pa, qa, bna, bma⟩
  obtain ⟨bnb, bmb⟩ := SMb.out rfl
  have Eb : LmE.at_ w2 ((sb, Ab, nb, cb, lb), (zb, Bb, mb, db, kb)) := ⟨pb, qb, bnb, bmb⟩
  obtain ⟨bnc, bmc⟩ := SMc.out rfl
  have Ec : LmE.at_ w2 ((sc, Ac, nc, cc, lc), (zc, Bc, mc, dc, kc)) := ⟨pc, qc, bnc, bmc⟩
  obtain ⟨bnd, bmd⟩ := SMd.out rfl
  have Ed : LmE.at_ w2 ((sd, Ad, nd, cd, ld), (zd, Bd, md, dd, kd)) := ⟨pd, qd, bnd, bmd⟩
  obtain ⟨M, hM0⟩ : ∃ M, M = 2048 := ⟨_, rfl⟩
  have hM : M ≤ 1000000000 := by omega
  obtain ⟨x, y, x', y', v, is, dx, dy, dv, hbnd, hall⟩ := md_all sa Aa na ca la za Ba ma da ka sb Ab nb cb lb zb Bb mb db kb sc Ac nc cc lc zc Bc mc dc kc sd Ad nd cd ld zd Bd md dd kd M hM0 w2 Ea Eb Ec Ed
  have HB := Lib.hid hbnd
  have HA := Lib.hid hall
  clear hbnd hall hM0 HP2 HBIG HSUM pa qa SMa hna hma pb qb SMb hnb hmb pc qc SMc hnc hmc pd qd SMd hnd hmd
  go_upto_region 3 with (fail)
  as_aux_lemma =>
   have rgq := Lib.hid (K2.blk (mE 0 rfl)).rng
   go_wp2_with (first | (refine wpList_load_any (by rfl) _ _ rfl (w.heap.size) 0 rfl _ _ rgq.out Tryz.underlying28 rfl size_ma ?_))
   refine (owt_matrix_any sa Aa na ca la za Ba ma da ka sb Ab nb cb lb zb Bb mb db kb sc Ac nc cc lc zc Bc mc dc kc sd Ad nd cd ld zd Bd md dd kd _ Ea Eb Ec Ed).mono ?_
   rintro e3 v3 ⟨ga, ea, ja, fa, gb, eb, jb, fb, gc, ec, jc, fc, gd, ed, jd, fd, rfl, Ta, Ua, Tb, Ub, Tc, Uc, Td, Ud, O, hbw⟩
   have K3 := (K2.call8 hbw O).var (g := v3.heap.size) rfl [.bool sa, .slice (some ⟨ga, 0, none⟩) na ea, .bool za, .slice (some ⟨ja, 0, none⟩) ma fa, .bool sb, .slice (some ⟨gb, 0, none⟩) nb eb, .bool zb, .slice (some ⟨jb, 0, none⟩) mb fb, .bool sc, .slice (some ⟨gc, 0, none⟩) nc ec, .bool zc, .slice (some ⟨jc, 0, none⟩) mc fc, .bool sd, .slice (some ⟨gd, 0, none⟩) nd ed, .bool zd, .slice (some ⟨jd, 0, none⟩) md fd] 28
   have hbx : Below v3.heap.size v3 (v3.alloc (.cells #[.bool sa, .slice (some ⟨ga, 0, none⟩) na ea, .bool za, .slice (some ⟨ja, 0, none⟩) ma fa, .bool sb, .slice (some ⟨gb, 0, none⟩) nb eb, .bool zb, .slice (some ⟨jb, 0, none⟩) mb fb, .bool sc, .slice (some ⟨gc, 0, none⟩) nc ec, .bool zc, .slice (some ⟨jc, 0, none⟩) mc fc, .bool sd, .slice (some ⟨gd, 0, none⟩) nd ed, .bool zd, .slice (some ⟨jd, 0, none⟩) md fd] 28)) := (Below.refl _ _).alloc (Nat.le_refl _) _
   replace Ea := LmE.at_.below (LmE.at_.below Ea hbw) hbx
   replace Ta := Twl.below Ta hbx
   replace Ua := Twl.below Ua hbx
   replace Eb := LmE.at_.below (LmE.at_.below Eb hbw) hbx
   replace Tb := Twl.below Tb hbx
   replace Ub := Twl.below Ub hbx
   replace Ec := LmE.at_.below (LmE.at_.below Ec hbw) hbx
   replace Tc := Twl.below Tc hbx
   replace Uc := Twl.below Uc hbx
   replace Ed := LmE.at_.below (LmE.at_.below Ed hbw) hbx
   replace Td := Twl.below Td hbx
   replace Ud := Twl.below Ud hbx
   clear K2 hbw hbx O rgq
   go_upto_region 4 with (fail)
   generalize v3.heap.size = gz at K3 ⊢
   generalize v3.alloc (.cells #[.bool sa, .slice (some ⟨ga, 0, none⟩) na ea, .bool za, .slice (some ⟨ja, 0, none⟩) ma fa, .bool sb, .slice (some ⟨gb, 0, none⟩) nb eb, .bool zb, .slice (some ⟨jb, 0, none⟩) mb fb, .bool sc, .slice (some ⟨gc, 0, none⟩) nc ec, .bool zc, .slice (some ⟨jc, 0, none⟩) mc fc, .bool sd, .slice (some ⟨gd, 0, none⟩) nd ed, .bool zd, .slice (some ⟨jd, 0, none⟩) md fd] 28) = u3 at K3 Ea Ta Ua Eb Tb Ub Ec Tc Uc Ed Td Ud ⊢
   as_aux_lemma =>
    have rgz := Lib.hid (K3.blk (mE 0 rfl)).rng
    go_wp2_with (first | (refine wpList_load_any (by rfl) _ _ rfl (gz) 0 rfl _ _ rgz.out Tryz.underlying28 rfl size_ma ?_))
    refine ((HA.out (some ⟨ga, 0, none⟩) (some ⟨ja, 0, none⟩) na ea ma fa (some ⟨gb, 0, none⟩) (some ⟨jb, 0, none⟩) nb eb mb fb (some ⟨gc, 0, none⟩) (some ⟨jc, 0, none⟩) nc ec mc fc (some ⟨gd, 0, none⟩) (some ⟨jd, 0, none⟩) nd ed md fd _ (⟨Ta.2.1, Ua.2.1, bna, bma⟩ : LmE.at_ u3 ((sa, some ⟨ga, 0, none⟩, na, ea, la), (za, some ⟨ja, 0, none⟩, ma, fa, ka))) (⟨Tb.2.1, Ub.2.1, bnb, bmb⟩ : LmE.at_ u3 ((sb, some ⟨gb, 0, none⟩, nb, eb, lb), (zb, some ⟨jb, 0, none⟩, mb, fb, kb))) (⟨Tc.2.1, Uc.2.1, bnc, bmc⟩ : LmE.at_ u3 ((sc, some ⟨gc, 0, none⟩, nc, ec, lc), (zc, some ⟨jc, 0, none⟩, mc, fc, kc))) (⟨Td.2.1, Ud.2.1, bnd, bmd⟩ : LmE.at_ u3 ((sd, some ⟨gd, 0, none⟩, nd, ed, ld), (zd, some ⟨jd, 0, none⟩, md, fd, kd)))).1).mono ?_
    rintro e4 v4 ⟨sg, Ag, ng, cg, zg, Bg, mg, dg, sh, Ah, nh, ch, zh, Bh, mh, dh, rfl, I4_0, I4_1, I4_2, I4_3, O, hb⟩
    have hbx : Below v4.heap.size v4 (v4.alloc (.cells #[.bool sg, .slice Ag ng cg, .bool zg, .slice Bg mg dg, .bool sh, .slice Ah nh ch, .bool zh, .slice Bh mh dh] 30)) := (Below.refl _ _).alloc (Nat.le_refl _) _
    have K4 := ((((((K3.call4 hb O).int I4_3).int I4_2).int I4_1).int I4_0).var (g := v4.heap.size) rfl [.bool sg, .slice Ag ng cg, .bool zg, .slice Bg mg dg, .bool sh, .slice Ah nh ch, .bool zh, .slice Bh mh dh] 30)
    replace Ea := LmE.at_.below (LmE.at_.below Ea hb) hbx
    replace Eb := LmE.at_.below (LmE.at_.below Eb hb) hbx
    replace Ec := LmE.at_.below (LmE.at_.below Ec hb) hbx
    replace Ed := LmE.at_.below (LmE.at_.below Ed hb) hbx
    replace Ta := Twl.below (Twl.below Ta hb) hbx
    replace Ua := Twl.below (Twl.below Ua hb) hbx
    replace Tb := Twl.below (Twl.below Tb hb) hbx
    replace Ub := Twl.below (Twl.below Ub hb) hbx
    replace Tc := Twl.below (Twl.below Tc hb) hbx
    replace Uc := Twl.below (Twl.below Uc hb) hbx
    replace Td := Twl.below (Twl.below Td hb) hbx
    replace Ud := Twl.below (Twl.below Ud hb) hbx
    clear K3 hb hbx O I4_0 I4_1 I4_2 I4_3 rgz
    go_upto_region 5 with (fail)
    generalize v4.heap.size = g4 at K4 ⊢
    generalize v4.alloc (.cells #[.bool sg, .slice Ag ng cg, .bool zg, .slice Bg mg dg, .bool sh, .slice Ah nh ch, .bool zh, .slice Bh mh dh] 30) = u4 at K4 Ea Eb Ec Ed Ta Ua Tb Ub Tc Uc Td Ud ⊢
    as_aux_lemma =>
     have rgz := Lib.hid (K4.blk (mE 1 rfl)).rng
     go_wp2_with (first | (refine wpList_load_any (by rfl) _ _ rfl (gz) 0 rfl _ _ rgz.out Tryz.underlying28 rfl size_ma ?_))
     refine ((HA.out (some ⟨ga, 0, none⟩) (some ⟨ja, 0, none⟩) na ea ma fa (some ⟨gb, 0, none⟩) (some ⟨jb, 0, none⟩) nb eb mb fb (some ⟨gc, 0, none⟩) (some ⟨jc, 0, none⟩) nc ec mc fc (some ⟨gd, 0, none⟩) (some ⟨jd, 0, none⟩) nd ed md fd _ (⟨Ta.2.1, Ua.2.1, bna, bma⟩ : LmE.at_ u4 ((sa, some ⟨ga, 0, none⟩, na, ea, la), (za, some ⟨ja, 0, none⟩, ma, fa, ka))) (⟨Tb.2.1, Ub.2.1, bnb, bmb⟩ : LmE.at_ u4 ((sb, some ⟨gb, 0, none⟩, nb, eb, lb), (zb, some ⟨jb, 0, none⟩, mb, fb, kb))) (⟨Tc.2.1, Uc.2.1, bnc, bmc⟩ : LmE.at_ u4 ((sc, some ⟨gc, 0, none⟩, nc, ec, lc), (zc, some ⟨jc, 0, none⟩, mc, fc, kc))) (⟨Td.2.1, Ud.2.1, bnd, bmd⟩ : LmE.at_ u4 ((sd, some ⟨gd, 0, none⟩, nd, ed, ld), (zd, some ⟨jd, 0, none⟩, md, fd, kd)))).2.1).mono ?_
     rintro e5 v5 ⟨si, Ai, ni, ci, zi, Bi, mi, di, rfl, I5_0, I5_1, O, hb⟩
     have hbx : Below v5.heap.size v5 (v5.alloc (.cells #[.bool si, .slice Ai ni ci, .bool zi, .slice Bi mi di] 26)) := (Below.refl _ _).alloc (Nat.le_refl _) _
     have K5 := ((((K4.call2 hb O).int I5_1).int I5_0).var (g := v5.heap.size) rfl [.bool si, .slice Ai ni ci, .bool zi, .slice Bi mi di] 26)
     replace Ea := LmE.at_.below (LmE.at_.below Ea hb) hbx
     replace Eb := LmE.at_.below (LmE.at_.below Eb hb) hbx
     replace Ec := LmE.at_.below (LmE.at_.below Ec hb) hbx
     replace Ed := LmE.at_.below (LmE.at_.below Ed hb) hbx
     replace Ta := Twl.below (Twl.below Ta hb) hbx
     replace Ua := Twl.below (Twl.below Ua hb) hbx
     replace Tb := Twl.below (Twl.below Tb hb) hbx
     replace Ub := Twl.below (Twl.below Ub hb) hbx
     replace Tc := Twl.below (Twl.below Tc hb) hbx
     replace Uc := Twl.below (Twl.below Uc hb) hbx
     replace Td := Twl.below (Twl.below Td hb) hbx
     replace Ud := Twl.below (Twl.below Ud hb) hbx
     clear K4 hb hbx O I5_0 I5_1 rgz
     go_upto_region 6 with (fail)
     generalize v5.heap.size = g5 at K5 ⊢
     generalize v5.alloc (.cells #[.bool si, .slice Ai ni ci, .bool zi, .slice Bi mi di] 26) = u5 at K5 Ea Eb Ec Ed Ta Ua Tb Ub Tc Uc Td Ud ⊢
     as_aux_lemma =>
      have rgq := Lib.hid (K5.blk (mE 3 rfl)).rng
      go_wp2_with (first | (refine wpList_load_any (by rfl) _ _ rfl (w.heap.size) 0 rfl _ _ rgq.out Tryz.underlying28 rfl size_ma ?_))
      refine ((HA.out Aa Ba na ca ma da Ab Bb nb cb mb db Ac Bc nc cc mc dc Ad Bd nd cd md dd _ Ea Eb Ec Ed).2.2.1).mono ?_
      rintro e6 v6 ⟨sp, Ap, np, cp, zp, Bp, mp, dp, sq, Aq, nq, cq, zq, Bq, mq, dq, rfl, I6_0, I6_1, I6_2, I6_3, hb⟩
      have hbx : Below v6.heap.size v6 (v6.alloc (.cells #[.bool sp, .slice Ap np cp, .bool zp, .slice Bp mp dp, .bool sq, .slice Aq nq cq, .bool zq, .slice Bq mq dq] 30)) := (Below.refl _ _).alloc (Nat.le_refl _) _
      have K6 := ((((((K5.next hb).int I6_3).int I6_2).int I6_1).int I6_0).var (g := v6.heap.size) rfl [.bool sp, .slice Ap np cp, .bool zp, .slice Bp mp dp, .bool sq, .slice Aq nq cq, .bool zq, .slice Bq mq dq] 30)
      replace Ea := LmE.at_.below (LmE.at_.below Ea hb) hbx
      replace Eb := LmE.at_.below (LmE.at_.below Eb hb) hbx
      replace Ec := LmE.at_.below (LmE.at_.below Ec hb) hbx
      replace Ed := LmE.at_.below (LmE.at_.below Ed hb) hbx
      replace Ta := Twl.below (Twl.below Ta hb) hbx
      replace Ua := Twl.below (Twl.below Ua hb) hbx
      replace Tb := Twl.below (Twl.below Tb hb) hbx
      replace Ub := Twl.below (Twl.below Ub hb) hbx
      replace Tc := Twl.below (Twl.below Tc hb) hbx
      replace Uc := Twl.below (Twl.below Uc hb) hbx
      replace Td := Twl.below (Twl.below Td hb) hbx
      replace Ud := Twl.below (Twl.below Ud hb) hbx
      clear K5 hb hbx I6_0 I6_1 I6_2 I6_3 rgq
      go_upto_region 7 with (fail)
      generalize v6.heap.size = g6 at K6 ⊢
      generalize v6.alloc (.cells #[.bool sp, .slice Ap np cp, .bool zp, .slice Bp mp dp, .bool sq, .slice Aq nq cq, .bool zq, .slice Bq mq dq] 30) = u6 at K6 Ea Eb Ec Ed Ta Ua Tb Ub Tc Uc Td Ud ⊢
      as_aux_lemma =>
       have rgq := Lib.hid (K6.blk (mE 4 rfl)).rng
       go_wp2_with (first | (refine wpList_load_any (by rfl) _ _ rfl (w.heap.size) 0 rfl _ _ rgq.out Tryz.underlying28 rfl size_ma ?_))
       refine ((HA.out Aa Ba na ca ma da Ab Bb nb cb mb db Ac Bc nc cc mc dc Ad Bd nd cd md dd _ Ea Eb Ec Ed).2.2.2).mono ?_
       rintro e7 v7 ⟨sr, Ar, nr, cr, zr, Br, mr, dr, rfl, I7_0, I7_1, hb⟩
       have hbx : Below v7.heap.size v7 (v7.alloc (.cells #[.bool sr, .slice Ar nr cr, .bool zr, .slice Br mr dr] 26)) := (Below.refl _ _).alloc (Nat.le_refl _) _
       have K7 := ((((K6.next hb).int I7_1).int I7_0).var (g := v7.heap.size) rfl [.bool sr, .slice Ar nr cr, .bool zr, .slice Br mr dr] 26)
       replace Ea := LmE.at_.below (LmE.at_.below Ea hb) hbx
       replace Eb := LmE.at_.below (LmE.at_.below Eb hb) hbx
       replace Ec := LmE.at_.below (LmE.at_.below Ec hb) hbx
       replace Ed := LmE.at_.below (LmE.at_.below Ed hb) hbx
       replace Ta := Twl.below (Twl.below Ta hb) hbx
       replace Ua := Twl.below (Twl.below Ua hb) hbx
       replace Tb := Twl.below (Twl.below Tb hb) hbx
       replace Ub := Twl.below (Twl.below Ub hb) hbx
       replace Tc := Twl.below (Twl.below Tc hb) hbx
       replace Uc := Twl.below (Twl.below Uc hb) hbx
       replace Td := Twl.below (Twl.below Td hb) hbx
       replace Ud := Twl.below (Twl.below Ud hb) hbx
       clear K6 hb hbx I7_0 I7_1 rgq
       go_upto_region 8 with (fail)
       generalize v7.heap.size = g7 at K7 ⊢
       generalize v7.alloc (.cells #[.bool sr, .slice Ar nr cr, .bool zr, .slice Br mr dr] 26) = u7 at K7 Ea Eb Ec Ed Ta Ua Tb Ub Tc Uc Td Ud ⊢
       clear HA
       have bng := int_len (K7.at_ (mE 8 rfl)) HB.out.1
       have bmg := int_len (K7.at_ (mE 9 rfl)) HB.out.2.1
       have bnh := int_len (K7.at_ (mE 10 rfl)) HB.out.2.2.1
       have bmh := int_len (K7.at_ (mE 11 rfl)) HB.out.2.2.2.1
       have bni := int_len (K7.at_ (mE 6 rfl)) HB.out.2.2.2.2.1
       have bmi := int_len (K7.at_ (mE 7 rfl)) HB.out.2.2.2.2.2
       clear HB
       as_aux_lemma =>
        have rga := Lib.hid (K7.blk (mE 3 rfl)).rng
        have rgb := Lib.hid (K7.blk (mE 1 rfl)).rng
        go_wp2_with (first | (refine wpList_load_any (by rfl) _ _ rfl (g4) 0 rfl _ _ rga.out Tryz.underlying30 rfl size_ga ?_) | (refine wpList_load_any (by rfl) _ _ rfl (g6) 0 rfl _ _ rgb.out Tryz.underlying30 rfl size_ga ?_))
        refine (same_gauss_int sg zg Ag Bg ng cg mg dg sh zh Ah Bh nh ch mh dh sp zp Ap Bp np cp mp dp sq zq Aq Bq nq cq mq dq x y x' y' _ (K7.at_ (mE 8 rfl)) (K7.at_ (mE 9 rfl)) (K7.at_ (mE 10 rfl)) (K7.at_ (mE 11 rfl)) (K7.at_ (mE 2 rfl)) (K7.at_ (mE 3 rfl)) (K7.at_ (mE 4 rfl)) (K7.at_ (mE 5 rfl)) (by omega) (by omega) (by omega) (by omega)).mono ?_
        rintro e8 v8 ⟨rfl, hbw⟩
        have K8 := K7.next hbw
        replace Ea := LmE.at_.below Ea hbw
        replace Eb := LmE.at_.below Eb hbw
        replace Ec := LmE.at_.below Ec hbw
        replace Ed := LmE.at_.below Ed hbw
        replace Ta := Twl.below Ta hbw
        replace Ua := Twl.below Ua hbw
        replace Tb := Twl.below Tb hbw
        replace Ub := Twl.below Ub hbw
        replace Tc := Twl.below Tc hbw
        replace Uc := Twl.below Uc hbw
        replace Td := Twl.below Td hbw
        replace Ud := Twl.below Ud hbw
        clear K7 hbw rga rgb
        as_aux_lemma =>
         have rga := Lib.hid (K8.blk (mE 2 rfl)).rng
         have rgb := Lib.hid (K8.blk (mE 0 rfl)).rng
         go_wp2_with (first | (refine wpList_load_any (by rfl) _ _ rfl (g5) 0 rfl _ _ rga.out Tryz.underlying26 rfl size_fr ?_) | (refine wpList_load_any (by rfl) _ _ rfl (g7) 0 rfl _ _ rgb.out Tryz.underlying26 rfl size_fr ?_))
         refine (same_frac_int si zi Ai Bi ni ci mi di sr zr Ar Br nr cr mr dr dx dy _ (K8.at_ (mE 6 rfl)) (K8.at_ (mE 7 rfl)) (K8.at_ (mE 0 rfl)) (K8.at_ (mE 1 rfl)) (by omega) (by omega)).mono ?_
         rintro e9 v9 ⟨rfl, hbw⟩
         have K9 := K8.next hbw
         replace Ea := LmE.at_.below Ea hbw
         replace Eb := LmE.at_.below Eb hbw
         replace Ec := LmE.at_.below Ec hbw
         replace Ed := LmE.at_.below Ed hbw
         replace Ta := Twl.below Ta hbw
         replace Ua := Twl.below Ua hbw
         replace Tb := Twl.below Tb hbw
         replace Ub := Twl.below Ub hbw
         replace Tc := Twl.below Tc hbw
         replace Uc := Twl.below Uc hbw
         replace Td := Twl.below Td hbw
         replace Ud := Twl.below Ud hbw
         clear K8 hbw rga rgb
         as_aux_lemma =>
          have rgz := Lib.hid (K9.blk (mE 4 rfl)).rng
          have rgq := Lib.hid (K9.blk (mE 5 rfl)).rng
          go_wp2_with (first | (refine wpList_load_any (by rfl) _ _ rfl (gz) 0 rfl _ _ rgz.out Tryz.underlying28 rfl size_ma ?_) | (refine wpList_load_any (by rfl) _ _ rfl (w.heap.size) 0 rfl _ _ rgq.out Tryz.underlying28 rfl size_ma ?_))
          refine (left_matrix_any sa Aa na ca la za Ba ma da ka sb Ab nb cb lb zb Bb mb db kb sc Ac nc cc lc zc Bc mc dc kc sd Ad nd cd ld zd Bd md dd kd ga ea ja fa gb eb jb fb gc ec jc fc gd ed jd fd _ Ea Ta Ua Eb Tb Ub Ec Tc Uc Ed Td Ud).mono ?_
          rintro e10 v10 ⟨rfl, hbw⟩
          have K10 := K9.next hbw
          clear K9 hbw Ea Ta Ua Eb Tb Ub Ec Tc Uc Ed Td Ud rgz rgq
          as_aux_lemma =>
           have OB : Owns w.heap.size v10 [(some ⟨ga, 0, none⟩, na, ea), (some ⟨ja, 0, none⟩, ma, fa), (some ⟨gb, 0, none⟩, nb, eb), (some ⟨jb, 0, none⟩, mb, fb), (some ⟨gc, 0, none⟩, nc, ec), (some ⟨jc, 0, none⟩, mc, fc), (some ⟨gd, 0, none⟩, nd, ed), (some ⟨jd, 0, none⟩, md, fd), (Ag, ng, cg), (Bg, mg, dg), (Ah, nh, ch), (Bh, mh, dh), (Ai, ni, ci), (Bi, mi, di)] := K10.all.sel [13, 12, 11, 10, 9, 8, 7, 6, 2, 3, 4, 5, 0, 1] (by decide) (by intro i hi; simp at hi ⊢; omega)
           have KB := K10
           have k0 := bkL_new w.heap.size v10
           have z0 : Below v10.heap.size v10 (v10.alloc (.cells #[.int .i64 0, .slice none 0 0, .slice none 0 0, .slice none 0 0, .slice none 0 0, .slice none 0 0, .slice none 0 0, .slice none 0 0, .slice none 0 0, .slice none 0 0, .slice none 0 0, .slice none 0 0, .slice none 0 0, .slice none 0 0, .slice none 0 0, .slice none 0 0, .slice none 0 0] 59)) := (Below.refl _ _).alloc (Nat.le_refl _) _
           go_upto_region 11 with (fail)
           obtain ⟨BB, hBB⟩ : ∃ B, v10.heap.size = B := ⟨_, rfl⟩
           rw [hBB] at k0 z0 ⊢
           generalize v10.alloc (.cells #[.int .i64 0, .slice none 0 0, .slice none 0 0, .slice none 0 0, .slice none 0 0, .slice none 0 0, .slice none 0 0, .slice none 0 0, .slice none 0 0, .slice none 0 0, .slice none 0 0, .slice none 0 0, .slice none 0 0, .slice none 0 0, .slice none 0 0, .slice none 0 0, .slice none 0 0] 59) = b0 at k0 z0 ⊢
           as_aux_lemma =>
            have z0' := z0
            rw [← hBB] at z0'
            have KX := KB.next z0'
            have rgx := Lib.hid (KX.blk (mE 4 rfl)).rng
            have hsz : BB ≤ b0.heap.size := by have := z0'.size; omega
            go_wp2_with (first | (refine wpList_load_any (by rfl) _ _ rfl (gz) 0 rfl _ _ rgx.out Tryz.underlying28 rfl size_ma ?_))
            refine (bk_matrix BB w.heap.size sa za (some ⟨ga, 0, none⟩) (some ⟨ja, 0, none⟩) na ea ma fa sb zb (some ⟨gb, 0, none⟩) (some ⟨jb, 0, none⟩) nb eb mb fb sc zc (some ⟨gc, 0, none⟩) (some ⟨jc, 0, none⟩) nc ec mc fc sd zd (some ⟨gd, 0, none⟩) (some ⟨jd, 0, none⟩) nd ed md fd [] v10 b0 k0 ⟨OB.1 _ (mE 0 rfl), bna⟩ ⟨OB.1 _ (mE 1 rfl), bma⟩ ⟨OB.1 _ (mE 2 rfl), bnb⟩ ⟨OB.1 _ (mE 3 rfl), bmb⟩ ⟨OB.1 _ (mE 4 rfl), bnc⟩ ⟨OB.1 _ (mE 5 rfl), bmc⟩ ⟨OB.1 _ (mE 6 rfl), bnd⟩ ⟨OB.1 _ (mE 7 rfl), bmd⟩ (by simp) hsz).mono ?_
            rintro e20 b1 ⟨rfl, k1, zz, _⟩
            have z1 := z0.trans zz
            clear KX zz hsz z0 z0' k0 rgx
            replace k1 : BkL w.heap.size v10 b1 BB [(some ⟨ga, 0, none⟩, na, ea), (some ⟨ja, 0, none⟩, ma, fa), (some ⟨gb, 0, none⟩, nb, eb), (some ⟨jb, 0, none⟩, mb, fb), (some ⟨gc, 0, none⟩, nc, ec), (some ⟨jc, 0, none⟩, mc, fc), (some ⟨gd, 0, none⟩, nd, ed), (some ⟨jd, 0, none⟩, md, fd)] := k1
            as_aux_lemma =>
             have z1' := z1
             rw [← hBB] at z1'
             have KX := KB.next z1'
             have rgx := Lib.hid (KX.blk (mE 3 rfl)).rng
             have hsz : BB ≤ b1.heap.size := by have := z1'.size; omega
             go_wp2_with (first | (refine wpList_load_any (by rfl) _ _ rfl (g4) 0 rfl _ _ rgx.out Tryz.underlying30 rfl size_ga ?_))
             refine (bk_gauss BB w.heap.size sg zg Ag Bg ng cg mg dg sh zh Ah Bh nh ch mh dh [(some ⟨ga, 0, none⟩, na, ea), (some ⟨ja, 0, none⟩, ma, fa), (some ⟨gb, 0, none⟩, nb, eb), (some ⟨jb, 0, none⟩, mb, fb), (some ⟨gc, 0, none⟩, nc, ec), (some ⟨jc, 0, none⟩, mc, fc), (some ⟨gd, 0, none⟩, nd, ed), (some ⟨jd, 0, none⟩, md, fd)] v10 b1 k1 ⟨OB.1 _ (mE 8 rfl), by omega⟩ ⟨OB.1 _ (mE 9 rfl), by omega⟩ ⟨OB.1 _ (mE 10 rfl), by omega⟩ ⟨OB.1 _ (mE 11 rfl), by omega⟩ (by simp) hsz).mono ?_
             rintro e21 b2 ⟨rfl, k2, zz, _⟩
             have z2 := z1.trans zz
             clear KX zz hsz z1 z1' k1 rgx
             replace k2 : BkL w.heap.size v10 b2 BB [(some ⟨ga, 0, none⟩, na, ea), (some ⟨ja, 0, none⟩, ma, fa), (some ⟨gb, 0, none⟩, nb, eb), (some ⟨jb, 0, none⟩, mb, fb), (some ⟨gc, 0, none⟩, nc, ec), (some ⟨jc, 0, none⟩, mc, fc), (some ⟨gd, 0, none⟩, nd, ed), (some ⟨jd, 0, none⟩, md, fd), (Ag, ng, cg), (Bg, mg, dg), (Ah, nh, ch), (Bh, mh, dh)] := k2
             as_aux_lemma =>
              have z2' := z2
              rw [← hBB] at z2'
              have KX := KB.next z2'
              have rgx := Lib.hid (KX.blk (mE 2 rfl)).rng
              have hsz : BB ≤ b2.heap.size := by have := z2'.size; omega
              go_wp2_with (first | (refine wpList_load_any (by rfl) _ _ rfl (g5) 0 rfl _ _ rgx.out Tryz.underlying26 rfl size_fr ?_))
              refine (bk_frac BB w.heap.size si zi Ai Bi ni ci mi di [(some ⟨ga, 0, none⟩, na, ea), (some ⟨ja, 0, none⟩, ma, fa), (some ⟨gb, 0, none⟩, nb, eb), (some ⟨jb, 0, none⟩, mb, fb), (some ⟨gc, 0, none⟩, nc, ec), (some ⟨jc, 0, none⟩, mc, fc), (some ⟨gd, 0, none⟩, nd, ed), (some ⟨jd, 0, none⟩, md, fd), (Ag, ng, cg), (Bg, mg, dg), (Ah, nh, ch), (Bh, mh, dh)] v10 b2 k2 ⟨OB.1 _ (mE 12 rfl), by omega⟩ ⟨OB.1 _ (mE 13 rfl), by omega⟩ (by simp) hsz).mono ?_
              rintro e22 b3 ⟨rfl, k3, zz, _⟩
              have z3 := z2.trans zz
              clear KX zz hsz z2 z2' k2 rgx
              replace k3 : BkL w.heap.size v10 b3 BB [(some ⟨ga, 0, none⟩, na, ea), (some ⟨ja, 0, none⟩, ma, fa), (some ⟨gb, 0, none⟩, nb, eb), (some ⟨jb, 0, none⟩, mb, fb), (some ⟨gc, 0, none⟩, nc, ec), (some ⟨jc, 0, none⟩, mc, fc), (some ⟨gd, 0, none⟩, nd, ed), (some ⟨jd, 0, none⟩, md, fd), (Ag, ng, cg), (Bg, mg, dg), (Ah, nh, ch), (Bh, mh, dh), (Ai, ni, ci), (Bi, mi, di)] := k3
              as_aux_lemma =>
               have hlow : w.heap.size ≤ BB := by have := KB.1.size; omega
               go_wp2_with fail
               refine (apartLimb_bk BB w.heap.size [(some ⟨ga, 0, none⟩, na, ea), (some ⟨ja, 0, none⟩, ma, fa), (some ⟨gb, 0, none⟩, nb, eb), (some ⟨jb, 0, none⟩, mb, fb), (some ⟨gc, 0, none⟩, nc, ec), (some ⟨jc, 0, none⟩, mc, fc), (some ⟨gd, 0, none⟩, nd, ed), (some ⟨jd, 0, none⟩, md, fd), (Ag, ng, cg), (Bg, mg, dg), (Ah, nh, ch), (Bh, mh, dh), (Ai, ni, ci), (Bi, mi, di)] v10 b3 k3 (by simp) (by simp) OB z3 hBB.symm hlow).mono ?_
               rintro e30 b8 ⟨rfl, zz⟩
               have hend := (KB.1.trans (z3.mono hlow)).trans zz
               clear KB k3 z3 zz OB
               go_wp2_with fail
               go_ret
               exact ⟨rfl, hend⟩
end Go.Proofs.YtgekmbfmfiikkaaGreatDoor
