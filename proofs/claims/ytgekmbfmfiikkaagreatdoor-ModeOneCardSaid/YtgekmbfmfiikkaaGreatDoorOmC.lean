/-
  The walk of ModeOne.
-/
import Derived.Test.YtgekmbfmfiikkaaGreatDoorOmA
import Derived.Test.YtgekmbfmfiikkaaGreatDoorSmG
namespace Go.Proofs.YtgekmbfmfiikkaaGreatDoor
open Go.RowKit
set_option maxRecDepth 100000 in
set_option maxHeartbeats 6400000 in
theorem law_modeOne (sa : Bool) (Aa : Option Addr) (na ca : Nat) (la : List Nat) (za : Bool) (Ba : Option Addr) (ma da : Nat) (ka : List Nat) (sb : Bool) (Ab : Option Addr) (nb cb : Nat) (lb : List Nat) (zb : Bool) (Bb : Option Addr) (mb db : Nat) (kb : List Nat) (sc : Bool) (Ac : Option Addr) (nc cc : Nat) (lc : List Nat) (zc : Bool) (Bc : Option Addr) (mc dc : Nat) (kc : List Nat) (sd : Bool) (Ad : Option Addr) (nd cd : Nat) (ld : List Nat) (zd : Bool) (Bd : Option Addr) (md dd : Nat) (kd : List Nat) (su : Bool) (Au : Option Addr) (nu cu : Nat) (lu : List Nat) (zu : Bool) (Bu : Option Addr) (mu du : Nat) (ku : List Nat) (sv : Bool) (Av : Option Addr) (nv cv : Nat) (lv : List Nat) (zv : Bool) (Bv : Option Addr) (mv dv : Nat) (kv : List Nat) (w : World) (pa : Sl w Aa na ca la) (qa : Sl w Ba ma da ka) (hna : na ≤ 281474976710656) (hma : ma ≤ 281474976710656) (pb : Sl w Ab nb cb lb) (qb : Sl w Bb mb db kb) (hnb : nb ≤ 281474976710656) (hmb : mb ≤ 281474976710656) (pc : Sl w Ac nc cc lc) (qc : Sl w Bc mc dc kc) (hnc : nc ≤ 281474976710656) (hmc : mc ≤ 281474976710656) (pd : Sl w Ad nd cd ld) (qd : Sl w Bd md dd kd) (hnd : nd ≤ 281474976710656) (hmd : md ≤ 281474976710656) (pu : Sl w Au nu cu lu) (qu : Sl w Bu mu du ku) (hnu : nu ≤ 281474976710656) (hmu : mu ≤ 281474976710656) (pv : Sl w Av nv cv lv) (qv : Sl w Bv mv dv kv) (hnv : nv ≤ 281474976710656) (hmv : mv ≤ 281474976710656) (hT : Tab w) :
  Calls Tryz.prog 6 #[.agg #[.bool sa, .slice Aa na ca, .bool za, .slice Ba ma da, .bool sb, .slice Ab nb cb, .bool zb, .slice Bb mb db, .bool sc, .slice Ac nc cc, .bool zc, .slice Bc mc dc, .bool sd, .slice Ad nd cd, .bool zd, .slice Bd md dd], .agg #[.bool su, .slice Au nu cu, .bool zu, .slice Bu mu du, .bool sv, .slice Av nv cv, .bool zv, .slice Bv mv dv]] w (RetV w (.bool true)) := by
 have K0 := ((Mm.nil w).var (g := w.heap.size) rfl [.bool sa, .slice Aa na ca, .bool za, .slice Ba ma da, .bool sb, .slice Ab nb cb, .bool zb, .slice Bb mb db, .bool sc, .slice Ac nc cc, .bool zc, .slice Bc mc dc, .bool sd, .slice Ad nd cd, .bool zd, .slice Bd md dd] 28).var (g := w.heap.size + 1) (by simp) [.bool su, .slice Au nu cu, .bool zu, .slice Bu mu du, .bool sv, .slice Av nv cv, .bool zv, .slice Bv mv dv] 30
 replace pa := pa.below K0.1
 replace qa := qa.below K0.1
 replace pb := pb.below K0.1
 replace qb := qb.below K0.1
 replace pc := pc.below K0.1
 replace qc := qc.below K0.1
 replace pd := pd.below K0.1
 replace qd := qd.below K0.1
 replace pu := pu.below K0.1
 replace qu := qu.below K0.1
 replace pv := pv.below K0.1
 replace qv := qv.below K0.1
 have ya := cost_bound hna hma
 have yb := cost_bound hnb hmb
 have yc := cost_bound hnc hmc
 have yd := cost_bound hnd hmd
 have yu := cost_bound hnu hmu
 have yv := cost_bound hnv hmv
 obtain ⟨p2, hp2⟩ : ∃ p, costFr na ma + costFr nb mb + costFr nc mc + costFr nd md = p := ⟨_, rfl⟩
 obtain ⟨big, hbig⟩ : ∃ b, decide (1048576 < p2) = b := ⟨_, rfl⟩
 obtain ⟨p3, hp3⟩ : ∃ p, costFr nu mu + costFr nv mv = p := ⟨_, rfl⟩
 obtain ⟨big3, hbig3⟩ : ∃ b, decide (1048576 < p3) = b := ⟨_, rfl⟩
 obtain ⟨ok, hok⟩ : ∃ b, okM ((sa, Aa, na, ca, la), (za, Ba, ma, da, ka)) ((sb, Ab, nb, cb, lb), (zb, Bb, mb, db, kb)) ((sc, Ac, nc, cc, lc), (zc, Bc, mc, dc, kc)) ((sd, Ad, nd, cd, ld), (zd, Bd, md, dd, kd)) = b := ⟨_, rfl⟩
 have HT := Lib.hid hT
 have HP2 := Lib.hid hp2
 have HBIG := Lib.hid hbig
 have HP3 := Lib.hid hp3
 have HBIG3 := Lib.hid hbig3
 have HOK := Lib.hid hok
 have HSUM3 : Hid (p3 ≤ 9223372036854775807) := Lib.hid (by omega)
 have SMa : Hid (big = false → na ≤ 1000000000 ∧ ma ≤ 1000000000) := Lib.hid (fun hb => cost_low (by rw [hb] at hbig; have := of_decide_eq_false hbig; omega))
 have SMb : Hid (big = false → nb ≤ 1000000000 ∧ mb ≤ 1000000000) := Lib.hid (fun hb => cost_low (by rw [hb] at hbig; have := of_decide_eq_false hbig; omega))
 have SMc : Hid (big = false → nc ≤ 1000000000 ∧ mc ≤ 1000000000) := Lib.hid (fun hb => cost_low (by rw [hb] at hbig; have := of_decide_eq_false hbig; omega))
 have SMd : Hid (big = false → nd ≤ 1000000000 ∧ md ≤ 1000000000) := Lib.hid (fun hb => cost_low (by rw [hb] at hbig; have := of_decide_eq_false hbig; omega))
 have SMu : Hid (big3 = false → nu ≤ 1000000000 ∧ mu ≤ 1000000000) := Lib.hid (fun hb => cost_low (by rw [hb] at hbig3; have := of_decide_eq_false hbig3; omega))
 have SMv : Hid (big3 = false → nv ≤ 1000000000 ∧ mv ≤ 1000000000) := Lib.hid (fun hb => cost_low (by rw [hb] at hbig3; have := of_decide_eq_false hbig3; omega))
 clear hp2 hbig hp3 hbig3 hok hT ya yb yc yd yu yv
 go_enter Tryz.func6, Tryz.ntmps6
 go_upto_region 1 with (fail)
 generalize (w.alloc (.cells #[.bool sa, .slice Aa na ca, .bool za, .slice Ba ma da, .bool sb, .slice Ab nb cb, .bool zb, .slice Bb mb db, .bool sc, .slice Ac nc cc, .bool zc, .slice Bc mc dc, .bool sd, .slice Ad nd cd, .bool zd, .slice Bd md dd] 28)).alloc (.cells #[.bool su, .slice Au nu cu, .bool zu, .slice Bu mu du, .bool sv, .slice Av nv cv, .bool zv, .slice Bv mv dv] 30) = w0 at K0 pa qa pb qb pc qc pd qd pu qu pv qv ⊢
 go_wp2_with fail
 refine (alive16 _ (HT.out.next K0.1)).mono ?_
 rintro e1 w1 ⟨rfl, hb⟩
 have K1 := K0.next hb
 replace pa := pa.below hb
 replace qa := qa.below hb
 replace pb := pb.below hb
 replace qb := qb.below hb
 replace pc := pc.below hb
 replace qc := qc.below hb
 replace pd := pd.below hb
 replace qd := qd.below hb
 replace pu := pu.below hb
 replace qu := qu.below hb
 replace pv := pv.below hb
 replace qv := qv.below hb
 clear K0 hb
 have rgq := Lib.hid (K1.blk (mE 1 rfl)).rng
 go_wp2_with (first | (refine wpList_load_any (by rfl) _ _ rfl (w.heap.size) 0 rfl _ _ rgq.out Tryz.underlying28 rfl size_ma ?_))
 refine (fits16_any sa Aa na ca la za Ba ma da ka sb Ab nb cb lb zb Bb mb db kb sc Ac nc cc lc zc Bc mc dc kc sd Ad nd cd ld zd Bd md dd kd p2 big ok _ pa qa hna hma pb qb hnb hmb pc qc hnc hmc pd qd hnd hmd HP2 HBIG HOK).mono ?_
 rintro e2 w2 ⟨rfl, hb⟩
 have K2 := K1.next hb
 replace pa := pa.below hb
 replace qa := qa.below hb
 replace pb := pb.below hb
 replace qb := qb.below hb
 replace pc := pc.below hb
 replace qc := qc.below hb
 replace pd := pd.below hb
 replace qd := qd.below hb
 replace pu := pu.below hb
 replace qu := qu.below hb
 replace pv := pv.below hb
 replace qv := qv.below hb
 clear K1 hb rgq
 obtain ⟨ft, hft⟩ : ∃ b, (!big && ok) = b := ⟨_, rfl⟩
 rw [hft]
 have HFT := Lib.hid hft
 clear hft
 cases ft with
 | false =>
  go_wp2_with fail
  refine (alive16 _ (HT.out.next K2.1)).mono ?_
  rintro e9 w9 ⟨rfl, hb⟩
  go_wp2_with fail
  go_ret
  exact ⟨rfl, (K2.next hb).1⟩
 | true =>
  obtain ⟨hb0, rfl⟩ : big = false ∧ ok = true := by have := HFT.out; rw [Bool.and_eq_true] at this; exact ⟨by simpa using this.1, this.2⟩
  subst hb0
  have rgq := Lib.hid (K2.blk (mE 0 rfl)).rng
  go_wp2_with (first | (refine wpList_load_any (by rfl) _ _ rfl (w.heap.size + 1) 0 rfl _ _ rgq.out Tryz.underlying30 rfl size_ga ?_))
  refine (gauss_cost_of su zu Au Bu nu cu mu du sv zv Av Bv nv cv mv dv p3 _ hnu hmu hnv hmv HP3).mono ?_
  rintro e3 w3 ⟨rfl, hb⟩
  have K3 := K2.next hb
  replace pa := pa.below hb
  replace qa := qa.below hb
  replace pb := pb.below hb
  replace qb := qb.below hb
  replace pc := pc.below hb
  replace qc := qc.below hb
  replace pd := pd.below hb
  replace qd := qd.below hb
  replace pu := pu.below hb
  replace qu := qu.below hb
  replace pv := pv.below hb
  replace qv := qv.below hb
  clear K2 hb rgq
  go_wp2_with fail
  refine (beyond_one w3.heap.size p3 big3 _ (nats_new w3 _ [p3]) HSUM3.out HBIG3).mono ?_
  rintro e4 w4 ⟨rfl, hb⟩
  have hb2 := below_box hb
  have K4 := K3.next hb2
  replace pa := pa.below hb2
  replace qa := qa.below hb2
  replace pb := pb.below hb2
  replace qb := qb.below hb2
  replace pc := pc.below hb2
  replace qc := qc.below hb2
  replace pd := pd.below hb2
  replace qd := qd.below hb2
  replace pu := pu.below hb2
  replace qu := qu.below hb2
  replace pv := pv.below hb2
  replace qv := qv.below hb2
  clear K3 hb hb2
  cases big3 with
  | true =>
   go_wp2_with fail
   refine (alive16 _ (HT.out.next K4.1)).mono ?_
   rintro e9 w9 ⟨rfl, hb⟩
   go_wp2_with fail
   go_ret
   exact ⟨rfl, (K4.next hb).1⟩
  | false =>
   obtain ⟨bna, bma⟩ := (by first | exact SMa.out rfl | exact SMa.out trivial : na ≤ 1000000000 ∧ ma ≤ 1000000000)
   have Ea : LmE.at_ w4 ((sa, Aa, na, ca, la), (za, Ba, ma, da, ka)) := ⟨pa, qa, bna, bma⟩
   obtain ⟨bnb, bmb⟩ := (by first | exact SMb.out rfl | exact SMb.out trivial : nb ≤ 1000000000 ∧ mb ≤ 1000000000)
   have Eb : LmE.at_ w4 ((sb, Ab, nb, cb, lb), (zb, Bb, mb, db, kb)) := ⟨pb, qb, bnb, bmb⟩
   obtain ⟨bnc, bmc⟩ := (by first | exact SMc.out rfl | exact SMc.out trivial : nc ≤ 1000000000 ∧ mc ≤ 1000000000)
   have Ec : LmE.at_ w4 ((sc, Ac, nc, cc, lc), (zc, Bc, mc, dc, kc)) := ⟨pc, qc, bnc, bmc⟩
   obtain ⟨bnd, bmd⟩ := (by first | exact SMd.out rfl | exact SMd.out trivial : nd ≤ 1000000000 ∧ md ≤ 1000000000)
   have Ed : LmE.at_ w4 ((sd, Ad, nd, cd, ld), (zd, Bd, md, dd, kd)) := ⟨pd, qd, bnd, bmd⟩
   obtain ⟨bnu, bmu⟩ := (by first | exact SMu.out rfl | exact SMu.out trivial : nu ≤ 1000000000 ∧ mu ≤ 1000000000)
   have Eu : LmE.at_ w4 ((su, Au, nu, cu, lu), (zu, Bu, mu, du, ku)) := ⟨pu, qu, bnu, bmu⟩
   obtain ⟨bnv, bmv⟩ := (by first | exact SMv.out rfl | exact SMv.out trivial : nv ≤ 1000000000 ∧ mv ≤ 1000000000)
   have Ev : LmE.at_ w4 ((sv, Av, nv, cv, lv), (zv, Bv, mv, dv, kv)) := ⟨pv, qv, bnv, bmv⟩
   clear pa qa SMa hna hma pb qb SMb hnb hmb pc qc SMc hnc hmc pd qd SMd hnd hmd pu qu SMu hnu hmu pv qv SMv hnv hmv HP2 HBIG HP3 HBIG3 HSUM3 HFT
   obtain ⟨ck, hck⟩ : ∃ c, chkBm ((su, Au, nu, cu, lu), (zu, Bu, mu, du, ku)) ((sv, Av, nv, cv, lv), (zv, Bv, mv, dv, kv)) = c := ⟨_, rfl⟩
   have rgq := Lib.hid (K4.blk (mE 0 rfl)).rng
   go_wp2_with (first | (refine wpList_load_any (by rfl) _ _ rfl (w.heap.size + 1) 0 rfl _ _ rgq.out Tryz.underlying30 rfl size_ga ?_))
   refine (beam_check_any su Au nu cu lu zu Bu mu du ku sv Av nv cv lv zv Bv mv dv kv _ Eu Ev).mono ?_
   rintro e5 w5 ⟨rfl, hb⟩
   rw [hck]
   have K5 := K4.next hb
   replace Ea := LmE.at_.below Ea hb
   replace Eb := LmE.at_.below Eb hb
   replace Ec := LmE.at_.below Ec hb
   replace Ed := LmE.at_.below Ed hb
   replace Eu := LmE.at_.below Eu hb
   replace Ev := LmE.at_.below Ev hb
   clear K4 hb rgq
   by_cases h0 : ck = 0
   case neg =>
    clear hck
    go_wp2_with fail
    refine (alive16 _ (HT.out.next K5.1)).mono ?_
    rintro e9 w9 ⟨rfl, hb⟩
    go_wp2_with fail
    go_ret
    exact ⟨rfl, (K5.next hb).1⟩
   case pos =>
    subst h0
    obtain ⟨M, hM0⟩ : ∃ M, M = 2048 := ⟨_, rfl⟩
    have hM : M ≤ 1000000000 := by omega
    obtain ⟨kp, kq, tx, ty, tx', ty', tv, px, py, px', py', pv, pis, ux, uy, vx, vy, hF, hbnd, hall⟩ := one_all sa Aa na ca la za Ba ma da ka sb Ab nb cb lb zb Bb mb db kb sc Ac nc cc lc zc Bc mc dc kc sd Ad nd cd ld zd Bd md dd kd su Au nu cu lu zu Bu mu du ku sv Av nv cv lv zv Bv mv dv kv M hM0 w5 Ea Eb Ec Ed Eu Ev HOK.out hck
    have HB := Lib.hid hbnd
    have HA := Lib.hid hall
    have HF := Lib.hid hF
    clear hbnd hall hF hM0 HOK hck
    go_upto_region 3 with (fail)
    as_aux_lemma =>
     have rgq := Lib.hid (K5.blk (mE 1 rfl)).rng
     have rgr := Lib.hid (K5.blk (mE 0 rfl)).rng
     go_wp2_with (first | (refine wpList_load_any (by rfl) _ _ rfl (w.heap.size) 0 rfl _ _ rgq.out Tryz.underlying28 rfl size_ma ?_) | (refine wpList_load_any (by rfl) _ _ rfl (w.heap.size + 1) 0 rfl _ _ rgr.out Tryz.underlying30 rfl size_ga ?_))
     refine ((HA.out _ Ea Eb Ec Ed Eu Ev).1).mono ?_
     rintro e6 w6 ⟨rfl, hb⟩
     have K6 := K5.next hb
     replace Ea := LmE.at_.below Ea hb
     replace Eb := LmE.at_.below Eb hb
     replace Ec := LmE.at_.below Ec hb
     replace Ed := LmE.at_.below Ed hb
     replace Eu := LmE.at_.below Eu hb
     replace Ev := LmE.at_.below Ev hb
     clear K5 hb rgq rgr
     go_upto_region 4 with (fail)
     as_aux_lemma =>
      have rgq := Lib.hid (K6.blk (mE 1 rfl)).rng
      go_wp2_with (first | (refine wpList_load_any (by rfl) _ _ rfl (w.heap.size) 0 rfl _ _ rgq.out Tryz.underlying28 rfl size_ma ?_))
      refine ((HA.out _ Ea Eb Ec Ed Eu Ev).2.1).mono ?_
      rintro e7 w7 ⟨rfl, hb⟩
      have K7 := K6.next hb
      replace Ea := LmE.at_.below Ea hb
      replace Eb := LmE.at_.below Eb hb
      replace Ec := LmE.at_.below Ec hb
      replace Ed := LmE.at_.below Ed hb
      replace Eu := LmE.at_.below Eu hb
      replace Ev := LmE.at_.below Ev hb
      clear K6 hb rgq
      go_upto_region 5 with (fail)
      as_aux_lemma =>
       have rgq := Lib.hid (K7.blk (mE 1 rfl)).rng
       have rgr := Lib.hid (K7.blk (mE 0 rfl)).rng
       go_wp2_with (first | (refine wpList_load_any (by rfl) _ _ rfl (w.heap.size) 0 rfl _ _ rgq.out Tryz.underlying28 rfl size_ma ?_) | (refine wpList_load_any (by rfl) _ _ rfl (w.heap.size + 1) 0 rfl _ _ rgr.out Tryz.underlying30 rfl size_ga ?_))
       refine ((HA.out _ Ea Eb Ec Ed Eu Ev).2.2.1).mono ?_
       rintro e8 w8 ⟨sg, Ag, ng, cg, zg, Bg, mg, dg, sh, Ah, nh, ch, zh, Bh, mh, dh, rfl, I1, J1, I2, J2, _, hb⟩
       have hbx : Below w8.heap.size w8 (w8.alloc (.cells #[.bool sg, .slice Ag ng cg, .bool zg, .slice Bg mg dg, .bool sh, .slice Ah nh ch, .bool zh, .slice Bh mh dh] 30)) := (Below.refl _ _).alloc (Nat.le_refl _) _
       have K8 := (((((K7.next hb).int J2).int I2).int J1).int I1).var (g := w8.heap.size) rfl [.bool sg, .slice Ag ng cg, .bool zg, .slice Bg mg dg, .bool sh, .slice Ah nh ch, .bool zh, .slice Bh mh dh] 30
       replace Ea := LmE.at_.below (LmE.at_.below Ea hb) hbx
       replace Eb := LmE.at_.below (LmE.at_.below Eb hb) hbx
       replace Ec := LmE.at_.below (LmE.at_.below Ec hb) hbx
       replace Ed := LmE.at_.below (LmE.at_.below Ed hb) hbx
       replace Eu := LmE.at_.below (LmE.at_.below Eu hb) hbx
       replace Ev := LmE.at_.below (LmE.at_.below Ev hb) hbx
       clear K7 hb hbx I1 J1 I2 J2 rgq rgr
       go_upto_region 6 with (fail)
       generalize w8.heap.size = gx at K8 ⊢
       generalize w8.alloc (.cells #[.bool sg, .slice Ag ng cg, .bool zg, .slice Bg mg dg, .bool sh, .slice Ah nh ch, .bool zh, .slice Bh mh dh] 30) = u8 at K8 Ea Eb Ec Ed Eu Ev ⊢
       have bng := int_len (K8.at_ (mE 0 rfl)) HB.out.1
       have bmg := int_len (K8.at_ (mE 1 rfl)) HB.out.2.1
       have bnh := int_len (K8.at_ (mE 2 rfl)) HB.out.2.2.1
       have bmh := int_len (K8.at_ (mE 3 rfl)) HB.out.2.2.2.1
       have GI := Lib.hid (And.intro (HA.out _ Ea Eb Ec Ed Eu Ev).2.2.2.2.1 (And.intro (HA.out _ Ea Eb Ec Ed Eu Ev).2.2.2.2.2.1 (And.intro (HA.out _ Ea Eb Ec Ed Eu Ev).2.2.2.2.2.2.1 (HA.out _ Ea Eb Ec Ed Eu Ev).2.2.2.2.2.2.2)))
       replace K8 := (((K8.int GI.out.2.2.2).int GI.out.2.2.1).int GI.out.2.1).int GI.out.1
       clear GI
       obtain ⟨bs, hbs⟩ : ∃ b, ((decide (tx = ux) && decide (ty = uy)) && (decide (tx' = vx) && decide (ty' = vy))) = b := ⟨_, rfl⟩
       have HBS := Lib.hid hbs
       clear hbs
       have hkb : tv = 0 → kp = bs := fun h => (HF.out.2.1 h).trans HBS.out
       have htv := HF.out.1
       go_cut [74] from 50 to 73 (fun s74 wx => s74 = .bool false ∧ Mm w [(w.heap.size + 1, [.bool su, .slice Au nu cu, .bool zu, .slice Bu mu du, .bool sv, .slice Av nv cv, .bool zv, .slice Bv mv dv]), (w.heap.size, [.bool sa, .slice Aa na ca, .bool za, .slice Ba ma da, .bool sb, .slice Ab nb cb, .bool zb, .slice Bb mb db, .bool sc, .slice Ac nc cc, .bool zc, .slice Bc mc dc, .bool sd, .slice Ad nd cd, .bool zd, .slice Bd md dd])] [(su, Au, nu, cu, ux), (zu, Bu, mu, du, uy), (sv, Av, nv, cv, vx), (zv, Bv, mv, dv, vy)] wx ∧ LmE.at_ wx ((sa, Aa, na, ca, la), (za, Ba, ma, da, ka)) ∧ LmE.at_ wx ((sb, Ab, nb, cb, lb), (zb, Bb, mb, db, kb)) ∧ LmE.at_ wx ((sc, Ac, nc, cc, lc), (zc, Bc, mc, dc, kc)) ∧ LmE.at_ wx ((sd, Ad, nd, cd, ld), (zd, Bd, md, dd, kd)) ∧ LmE.at_ wx ((su, Au, nu, cu, lu), (zu, Bu, mu, du, ku)) ∧ LmE.at_ wx ((sv, Av, nv, cv, lv), (zv, Bv, mv, dv, kv)))
       case first =>
        rcases htv with rfl | rfl
        case inl =>
         obtain rfl := hkb rfl
         have rgx := Lib.hid (K8.blk (mE 0 rfl)).rng
         have rgr := Lib.hid (K8.blk (mE 1 rfl)).rng
         go_wp2_with (first | (refine wpList_load_any (by rfl) _ _ rfl (gx) 0 rfl _ _ rgx.out Tryz.underlying30 rfl size_ga ?_) | (refine wpList_load_any (by rfl) _ _ rfl (w.heap.size + 1) 0 rfl _ _ rgr.out Tryz.underlying30 rfl size_ga ?_))
         refine (same_gauss_cmp sg zg Ag Bg ng cg mg dg sh zh Ah Bh nh ch mh dh su zu Au Bu nu cu mu du sv zv Av Bv nv cv mv dv tx ty tx' ty' ux uy vx vy kp _ (K8.at_ (mE 4 rfl)) (K8.at_ (mE 5 rfl)) (K8.at_ (mE 6 rfl)) (K8.at_ (mE 7 rfl)) (K8.at_ (mE 0 rfl)) (K8.at_ (mE 1 rfl)) (K8.at_ (mE 2 rfl)) (K8.at_ (mE 3 rfl)) (by omega) (by omega) (by omega) (by omega) bnu bmu bnv bmv HBS).mono ?_
         rintro e9 w9 ⟨rfl, hb⟩
         have K9 := K8.next hb
         go_wp2_with fail
         go_meet
         exact ⟨rfl, K9.pick (L' := [(w.heap.size + 1, [.bool su, .slice Au nu cu, .bool zu, .slice Bu mu du, .bool sv, .slice Av nv cv, .bool zv, .slice Bv mv dv]), (w.heap.size, [.bool sa, .slice Aa na ca, .bool za, .slice Ba ma da, .bool sb, .slice Ab nb cb, .bool zb, .slice Bb mb db, .bool sc, .slice Ac nc cc, .bool zc, .slice Bc mc dc, .bool sd, .slice Ad nd cd, .bool zd, .slice Bd md dd])]) (l' := [(su, Au, nu, cu, ux), (zu, Bu, mu, du, uy), (sv, Av, nv, cv, vx), (zv, Bv, mv, dv, vy)]) (all_cons (mE 1 rfl) (all_cons (mE 2 rfl) all_nil)) (all_cons (mE 0 rfl) (all_cons (mE 1 rfl) (all_cons (mE 2 rfl) (all_cons (mE 3 rfl) all_nil)))), LmE.at_.below Ea hb, LmE.at_.below Eb hb, LmE.at_.below Ec hb, LmE.at_.below Ed hb, LmE.at_.below Eu hb, LmE.at_.below Ev hb⟩
        case inr =>
         go_wp2_with fail
         go_meet
         exact ⟨rfl, K8.pick (L' := [(w.heap.size + 1, [.bool su, .slice Au nu cu, .bool zu, .slice Bu mu du, .bool sv, .slice Av nv cv, .bool zv, .slice Bv mv dv]), (w.heap.size, [.bool sa, .slice Aa na ca, .bool za, .slice Ba ma da, .bool sb, .slice Ab nb cb, .bool zb, .slice Bb mb db, .bool sc, .slice Ac nc cc, .bool zc, .slice Bc mc dc, .bool sd, .slice Ad nd cd, .bool zd, .slice Bd md dd])]) (l' := [(su, Au, nu, cu, ux), (zu, Bu, mu, du, uy), (sv, Av, nv, cv, vx), (zv, Bv, mv, dv, vy)]) (all_cons (mE 1 rfl) (all_cons (mE 2 rfl) all_nil)) (all_cons (mE 0 rfl) (all_cons (mE 1 rfl) (all_cons (mE 2 rfl) (all_cons (mE 3 rfl) all_nil)))), Ea, Eb, Ec, Ed, Eu, Ev⟩
       case rest =>
        clear Ea Eb Ec Ed Eu Ev
        obtain ⟨rfl, K9, Ea, Eb, Ec, Ed, Eu, Ev⟩ := hcut
        clear K8 hkb htv HBS
        rename World => w9
        by_cases hk1 : kq = 1
        case neg =>
         have hkp := HF.out.2.2.1 hk1
         by_cases hk2 : kq = 2
         case pos =>
          rw [decide_eq_true hk2] at hkp
          subst hkp
          subst hk2
          go_wp2_with fail
          go_ret
          exact ⟨rfl, K9.1⟩
         case neg =>
          rw [decide_eq_false hk2] at hkp
          subst hkp
          have hk2b : (kq == 2) = false := by rw [beq_eq_false_iff_ne]; exact hk2
          go_wp2_with fail
          go_ret
          exact ⟨rfl, K9.1⟩
        case pos =>
         subst hk1
         obtain ⟨hpv, hkp⟩ := (by first | exact HF.out.2.2.2 rfl | exact HF.out.2.2.2 trivial : (pv = 0 ∨ pv = 4) ∧ kp = (decide (pv = 0) && (pis && ((decide (px = ux) && decide (py = uy)) && (decide (px' = vx) && decide (py' = vy))))))
         go_upto_region 10 with (fail)
         have rgq := Lib.hid (K9.blk (mE 1 rfl)).rng
         go_wp2_with (first | (refine wpList_load_any (by rfl) _ _ rfl (w.heap.size) 0 rfl _ _ rgq.out Tryz.underlying28 rfl size_ma ?_))
         first | refine ((HA.out _ Ea Eb Ec Ed Eu Ev).2.2.2.1 rfl).mono ?_ | refine ((HA.out _ Ea Eb Ec Ed Eu Ev).2.2.2.1 trivial).mono ?_
         rintro e10 w10 ⟨si, Ai, ni, ci, zi, Bi, mi, di, sj, Aj, nj, cj, zj, Bj, mj, dj, rfl, I1, J1, I2, J2, _, hb⟩
         have K10 := (((((K9.next hb).int J2).int I2).int J1).int I1).var (g := w10.heap.size) rfl [.bool si, .slice Ai ni ci, .bool zi, .slice Bi mi di, .bool sj, .slice Aj nj cj, .bool zj, .slice Bj mj dj] 30
         clear K9 hb I1 J1 I2 J2 rgq HA Ea Eb Ec Ed Eu Ev
         go_upto_region 11 with (fail)
         generalize w10.heap.size = gy at K10 ⊢
         generalize w10.alloc (.cells #[.bool si, .slice Ai ni ci, .bool zi, .slice Bi mi di, .bool sj, .slice Aj nj cj, .bool zj, .slice Bj mj dj] 30) = u10 at K10 ⊢
         have bni := int_len (K10.at_ (mE 0 rfl)) HB.out.2.2.2.2.1
         have bmi := int_len (K10.at_ (mE 1 rfl)) HB.out.2.2.2.2.2.1
         have bnj := int_len (K10.at_ (mE 2 rfl)) HB.out.2.2.2.2.2.2.1
         have bmj := int_len (K10.at_ (mE 3 rfl)) HB.out.2.2.2.2.2.2.2
         obtain ⟨bs, hbs⟩ : ∃ b, ((decide (px = ux) && decide (py = uy)) && (decide (px' = vx) && decide (py' = vy))) = b := ⟨_, rfl⟩
         rw [hbs] at hkp
         have HBS := Lib.hid hbs
         clear hbs HF HB
         rcases hpv with rfl | rfl
         case inr =>
          rw [show (decide ((4 : Int) = 0)) = false from by decide, Bool.false_and] at hkp
          subst hkp
          go_wp2_with fail
          go_ret
          exact ⟨rfl, K10.1⟩
         case inl =>
          rw [show (decide ((0 : Int) = 0)) = true from by decide, Bool.true_and] at hkp
          subst hkp
          cases pis with
          | false =>
           go_wp2_with fail
           go_ret
           exact ⟨rfl, K10.1⟩
          | true =>
           have rgy := Lib.hid (K10.blk (mE 0 rfl)).rng
           have rgr := Lib.hid (K10.blk (mE 1 rfl)).rng
           go_wp2_with (first | (refine wpList_load_any (by rfl) _ _ rfl (gy) 0 rfl _ _ rgy.out Tryz.underlying30 rfl size_ga ?_) | (refine wpList_load_any (by rfl) _ _ rfl (w.heap.size + 1) 0 rfl _ _ rgr.out Tryz.underlying30 rfl size_ga ?_))
           refine (same_gauss_cmp si zi Ai Bi ni ci mi di sj zj Aj Bj nj cj mj dj su zu Au Bu nu cu mu du sv zv Av Bv nv cv mv dv px py px' py' ux uy vx vy bs _ (K10.at_ (mE 0 rfl)) (K10.at_ (mE 1 rfl)) (K10.at_ (mE 2 rfl)) (K10.at_ (mE 3 rfl)) (K10.at_ (mE 4 rfl)) (K10.at_ (mE 5 rfl)) (K10.at_ (mE 6 rfl)) (K10.at_ (mE 7 rfl)) (by omega) (by omega) (by omega) (by omega) bnu bmu bnv bmv HBS).mono ?_
           rintro e11 w11 ⟨rfl, hb⟩
           go_wp2_with fail
           go_ret
           exact ⟨by first | (simp; done) | (simp; exact HBS.out), (K10.next hb).1⟩
end Go.Proofs.YtgekmbfmfiikkaaGreatDoor
