/-
 The walk of BeamGoes.
-/
import Derived.Test.YtgekmbfmfiikkaaGreatDoorExFf
import Derived.Test.YtgekmbfmfiikkaaGreatDoorBmF
import Derived.Test.YtgekmbfmfiikkaaGreatDoorMdR
import Derived.Test.YtgekmbfmfiikkaaGreatDoorOwT
import Derived.Test.YtgekmbfmfiikkaaGreatDoorBkO
import Derived.Test.YtgekmbfmfiikkaaGreatDoorKlW
import Derived.Test.YtgekmbfmfiikkaaGreatDoorBmJ
namespace Go.Proofs.YtgekmbfmfiikkaaGreatDoor
open Go.RowKit
set_option maxRecDepth 100000 in
set_option maxHeartbeats 6400000 in
theorem law_goes (sa : Bool) (Aa : Option Addr) (na ca : Nat) (la : List Nat) (za : Bool) (Ba : Option Addr) (ma da : Nat) (ka : List Nat) (sb : Bool) (Ab : Option Addr) (nb cb : Nat) (lb : List Nat) (zb : Bool) (Bb : Option Addr) (mb db : Nat) (kb : List Nat) (sc : Bool) (Ac : Option Addr) (nc cc : Nat) (lc : List Nat) (zc : Bool) (Bc : Option Addr) (mc dc : Nat) (kc : List Nat) (sd : Bool) (Ad : Option Addr) (nd cd : Nat) (ld : List Nat) (zd : Bool) (Bd : Option Addr) (md dd : Nat) (kd : List Nat) (su : Bool) (Au : Option Addr) (nu cu : Nat) (lu : List Nat) (zu : Bool) (Bu : Option Addr) (mu du : Nat) (ku : List Nat) (sv : Bool) (Av : Option Addr) (nv cv : Nat) (lv : List Nat) (zv : Bool) (Bv : Option Addr) (mv dv : Nat) (kv : List Nat) (w : World) (pa : Sl w Aa na ca la) (qa : Sl w Ba ma da ka) (hna : na ≤ 281474976710656) (hma : ma ≤ 281474976710656) (pb : Sl w Ab nb cb lb) (qb : Sl w Bb mb db kb) (hnb : nb ≤ 281474976710656) (hmb : mb ≤ 281474976710656) (pc : Sl w Ac nc cc lc) (qc : Sl w Bc mc dc kc) (hnc : nc ≤ 281474976710656) (hmc : mc ≤ 281474976710656) (pd : Sl w Ad nd cd ld) (qd : Sl w Bd md dd kd) (hnd : nd ≤ 281474976710656) (hmd : md ≤ 281474976710656) (pu : Sl w Au nu cu lu) (qu : Sl w Bu mu du ku) (hnu : nu ≤ 281474976710656) (hmu : mu ≤ 281474976710656) (pv : Sl w Av nv cv lv) (qv : Sl w Bv mv dv kv) (hnv : nv ≤ 281474976710656) (hmv : mv ≤ 281474976710656) :
   Calls Tryz.prog 3 #[.agg #[.bool sa, .slice Aa na ca, .bool za, .slice Ba ma da, .bool sb, .slice Ab nb cb, .bool zb, .slice Bb mb db, .bool sc, .slice Ac nc cc, .bool zc, .slice Bc mc dc, .bool sd, .slice Ad nd cd, .bool zd, .slice Bd md dd], .agg #[.bool su, .slice Au nu cu, .bool zu, .slice Bu mu du, .bool sv, .slice Av nv cv, .bool zv, .slice Bv mv dv]] w (RetV w (.bool true)) := by
 have K0 := ((Mo.nil w).var (g := w.heap.size) rfl [.bool sa, .slice Aa na ca, .bool za, .slice Ba ma da, .bool sb, .slice Ab nb cb, .bool zb, .slice Bb mb db, .bool sc, .slice Ac nc cc, .bool zc, .slice Bc mc dc, .bool sd, .slice Ad nd cd, .bool zd, .slice Bd md dd] 28).var (g := w.heap.size + 1) (by simp) [.bool su, .slice Au nu cu, .bool zu, .slice Bu mu du, .bool sv, .slice Av nv cv, .bool zv, .slice Bv mv dv] 30
 have ya := cost_bound hna hma
 have Pa := Lib.hid pa
 have Qa := Lib.hid qa
 have yb := cost_bound hnb hmb
 have Pb := Lib.hid pb
 have Qb := Lib.hid qb
 have yc := cost_bound hnc hmc
 have Pc := Lib.hid pc
 have Qc := Lib.hid qc
 have yd := cost_bound hnd hmd
 have Pd := Lib.hid pd
 have Qd := Lib.hid qd
 have yu := cost_bound hnu hmu
 have Pu := Lib.hid pu
 have Qu := Lib.hid qu
 have yv := cost_bound hnv hmv
 have Pv := Lib.hid pv
 have Qv := Lib.hid qv
 obtain ⟨p1, hp1⟩ : ∃ p, costFr na ma + costFr nb mb + costFr nc mc + costFr nd md = p := ⟨_, rfl⟩
 obtain ⟨p2, hp2⟩ : ∃ p, costFr nu mu + costFr nv mv = p := ⟨_, rfl⟩
 obtain ⟨big, hbig⟩ : ∃ b, decide (1048576 < p1 + p2) = b := ⟨_, rfl⟩
 have HP1 := Lib.hid hp1
 have HP2 := Lib.hid hp2
 have HBIG := Lib.hid hbig
 have HSUM : Hid (p1 + p2 ≤ 9223372036854775807) := Lib.hid (by omega)
 have SMa : Hid (big = false → na ≤ 1000000000 ∧ ma ≤ 1000000000) := Lib.hid (fun hb => cost_low (by rw [hb] at hbig; have := of_decide_eq_false hbig; omega))
 have SMb : Hid (big = false → nb ≤ 1000000000 ∧ mb ≤ 1000000000) := Lib.hid (fun hb => cost_low (by rw [hb] at hbig; have := of_decide_eq_false hbig; omega))
 have SMc : Hid (big = false → nc ≤ 1000000000 ∧ mc ≤ 1000000000) := Lib.hid (fun hb => cost_low (by rw [hb] at hbig; have := of_decide_eq_false hbig; omega))
 have SMd : Hid (big = false → nd ≤ 1000000000 ∧ md ≤ 1000000000) := Lib.hid (fun hb => cost_low (by rw [hb] at hbig; have := of_decide_eq_false hbig; omega))
 have SMu : Hid (big = false → nu ≤ 1000000000 ∧ mu ≤ 1000000000) := Lib.hid (fun hb => cost_low (by rw [hb] at hbig; have := of_decide_eq_false hbig; omega))
 have SMv : Hid (big = false → nv ≤ 1000000000 ∧ mv ≤ 1000000000) := Lib.hid (fun hb => cost_low (by rw [hb] at hbig; have := of_decide_eq_false hbig; omega))
 clear hp1 hp2 hbig ya pa qa yb pb qb yc pc qc yd pd qd yu pu qu yv pv qv
 have ne01 : ¬ w.heap.size = w.heap.size + 1 := by omega
 have ne10 : ¬ w.heap.size + 1 = w.heap.size := by omega
 go_enter Tryz.func3, Tryz.ntmps3
 go_upto_region 1 with (fail)
 generalize (w.alloc (.cells #[.bool sa, .slice Aa na ca, .bool za, .slice Ba ma da, .bool sb, .slice Ab nb cb, .bool zb, .slice Bb mb db, .bool sc, .slice Ac nc cc, .bool zc, .slice Bc mc dc, .bool sd, .slice Ad nd cd, .bool zd, .slice Bd md dd] 28)).alloc (.cells #[.bool su, .slice Au nu cu, .bool zu, .slice Bu mu du, .bool sv, .slice Av nv cv, .bool zv, .slice Bv mv dv] 30) = w0 at K0 ⊢
 obtain ⟨m0_0, m0_1, m0_2, m0_3, m0_4, m0_5, m0_6, m0_7, m0_8, m0_9, m0_10, m0_11, m0_12, m0_13, m0_14, m0_15⟩ := (K0.blk (mE 1 rfl)).c16
 obtain ⟨r0_0, r0_1, r0_2, r0_3, r0_4, r0_5, r0_6, r0_7⟩ := (K0.blk (mE 0 rfl)).c8
 go_region_held3 (fun w' => w'.cell? ⟨w.heap.size, 0, none⟩ = some (.bool sa) ∧ w'.cell? ⟨w.heap.size, 1, none⟩ = some (.slice Aa na ca) ∧ w'.cell? ⟨w.heap.size, 2, none⟩ = some (.bool za) ∧ w'.cell? ⟨w.heap.size, 3, none⟩ = some (.slice Ba ma da) ∧ w'.cell? ⟨w.heap.size, 4, none⟩ = some (.bool sb) ∧ w'.cell? ⟨w.heap.size, 5, none⟩ = some (.slice Ab nb cb) ∧ w'.cell? ⟨w.heap.size, 6, none⟩ = some (.bool zb) ∧ w'.cell? ⟨w.heap.size, 7, none⟩ = some (.slice Bb mb db) ∧ w'.cell? ⟨w.heap.size, 8, none⟩ = some (.bool sc) ∧ w'.cell? ⟨w.heap.size, 9, none⟩ = some (.slice Ac nc cc) ∧ w'.cell? ⟨w.heap.size, 10, none⟩ = some (.bool zc) ∧ w'.cell? ⟨w.heap.size, 11, none⟩ = some (.slice Bc mc dc) ∧ w'.cell? ⟨w.heap.size, 12, none⟩ = some (.bool sd) ∧ w'.cell? ⟨w.heap.size, 13, none⟩ = some (.slice Ad nd cd) ∧ w'.cell? ⟨w.heap.size, 14, none⟩ = some (.bool zd) ∧ w'.cell? ⟨w.heap.size, 15, none⟩ = some (.slice Bd md dd) ∧ w'.cell? ⟨w.heap.size + 1, 0, none⟩ = some (.bool su) ∧ w'.cell? ⟨w.heap.size + 1, 1, none⟩ = some (.slice Au nu cu) ∧ w'.cell? ⟨w.heap.size + 1, 2, none⟩ = some (.bool zu) ∧ w'.cell? ⟨w.heap.size + 1, 3, none⟩ = some (.slice Bu mu du) ∧ w'.cell? ⟨w.heap.size + 1, 4, none⟩ = some (.bool sv) ∧ w'.cell? ⟨w.heap.size + 1, 5, none⟩ = some (.slice Av nv cv) ∧ w'.cell? ⟨w.heap.size + 1, 6, none⟩ = some (.bool zv) ∧ w'.cell? ⟨w.heap.size + 1, 7, none⟩ = some (.slice Bv mv dv))
   (go_keep)
   (first
     | (go_at_call 8; apply Calls.withMo (w0 := w); (case K => with_reducible repeat (first | exact K2 | apply Mo.drew | apply Mo.drewN | apply Mo.varz)); intro KX; (with_reducible refine (beyond_two _ p1 p2 big _ ?_ HSUM.out HBIG).mono ?_); (first | exact nats_new _ _ [p1, p2]); rintro e3 w3 ⟨rfl, hb⟩; have K3 := KX.next hb; clear KX hb; obtain ⟨m3_0, m3_1, m3_2, m3_3, m3_4, m3_5, m3_6, m3_7, m3_8, m3_9, m3_10, m3_11, m3_12, m3_13, m3_14, m3_15⟩ := (K3.blk (g := w.heap.size) (by first | exact mE 1 rfl | exact mE 2 rfl)).c16; obtain ⟨r3_0, r3_1, r3_2, r3_3, r3_4, r3_5, r3_6, r3_7⟩ := (K3.blk (g := w.heap.size + 1) (by first | exact mE 0 rfl | exact mE 1 rfl)).c8; clear m2_0 m2_1 m2_2 m2_3 m2_4 m2_5 m2_6 m2_7 m2_8 m2_9 m2_10 m2_11 m2_12 m2_13 m2_14 m2_15 r2_0 r2_1 r2_2 r2_3 r2_4 r2_5 r2_6 r2_7)
     | (go_at_call 10; apply Calls.withMo (w0 := w); (case K => with_reducible repeat (first | exact K1 | apply Mo.drew | apply Mo.drewN)); intro KX; (with_reducible refine (gauss_cost_of su zu Au Bu nu cu mu du sv zv Av Bv nv cv mv dv p2 _ hnu hmu hnv hmv HP2).mono ?_); rintro e2 w2 ⟨rfl, hb⟩; have K2 := KX.next hb; clear KX hb; obtain ⟨m2_0, m2_1, m2_2, m2_3, m2_4, m2_5, m2_6, m2_7, m2_8, m2_9, m2_10, m2_11, m2_12, m2_13, m2_14, m2_15⟩ := (K2.blk (mE 1 rfl)).c16; obtain ⟨r2_0, r2_1, r2_2, r2_3, r2_4, r2_5, r2_6, r2_7⟩ := (K2.blk (mE 0 rfl)).c8; clear m1_0 m1_1 m1_2 m1_3 m1_4 m1_5 m1_6 m1_7 m1_8 m1_9 m1_10 m1_11 m1_12 m1_13 m1_14 m1_15 r1_0 r1_1 r1_2 r1_3 r1_4 r1_5 r1_6 r1_7)
     | (go_at_call 9; apply Calls.withMo (w0 := w); (case K => with_reducible repeat (first | exact K0 | apply Mo.drew | apply Mo.drewN)); intro KX; (with_reducible refine (matrix_cost_of sa za Aa Ba na ca ma da sb zb Ab Bb nb cb mb db sc zc Ac Bc nc cc mc dc sd zd Ad Bd nd cd md dd p1 _ hna hma hnb hmb hnc hmc hnd hmd HP1).mono ?_); rintro e1 w1 ⟨rfl, hb⟩; have K1 := KX.next hb; clear KX hb; obtain ⟨m1_0, m1_1, m1_2, m1_3, m1_4, m1_5, m1_6, m1_7, m1_8, m1_9, m1_10, m1_11, m1_12, m1_13, m1_14, m1_15⟩ := (K1.blk (mE 1 rfl)).c16; obtain ⟨r1_0, r1_1, r1_2, r1_3, r1_4, r1_5, r1_6, r1_7⟩ := (K1.blk (mE 0 rfl)).c8; clear m0_0 m0_1 m0_2 m0_3 m0_4 m0_5 m0_6 m0_7 m0_8 m0_9 m0_10 m0_11 m0_12 m0_13 m0_14 m0_15 r0_0 r0_1 r0_2 r0_3 r0_4 r0_5 r0_6 r0_7)
     | fail)
 all_goals
  cases big with
  | true =>
    go_wp2_with fail
    go_ret
    exact ⟨rfl, K3.1⟩
  | false =>
    obtain ⟨bna, bma⟩ := SMa.out rfl
    have Ea : Hid (LmE.at_ w ((sa, Aa, na, ca, la), (za, Ba, ma, da, ka))) := Lib.hid ⟨Pa.out, Qa.out, bna, bma⟩
    obtain ⟨bnb, bmb⟩ := SMb.out rfl
    have Eb : Hid (LmE.at_ w ((sb, Ab, nb, cb, lb), (zb, Bb, mb, db, kb))) := Lib.hid ⟨Pb.out, Qb.out, bnb, bmb⟩
    obtain ⟨bnc, bmc⟩ := SMc.out rfl
    have Ec : Hid (LmE.at_ w ((sc, Ac, nc, cc, lc), (zc, Bc, mc, dc, kc))) := Lib.hid ⟨Pc.out, Qc.out, bnc, bmc⟩
    obtain ⟨bnd, bmd⟩ := SMd.out rfl
    have Ed : Hid (LmE.at_ w ((sd, Ad, nd, cd, ld), (zd, Bd, md, dd, kd))) := Lib.hid ⟨Pd.out, Qd.out, bnd, bmd⟩
    obtain ⟨bnu, bmu⟩ := SMu.out rfl
    have Eu : Hid (LmE.at_ w ((su, Au, nu, cu, lu), (zu, Bu, mu, du, ku))) := Lib.hid ⟨Pu.out, Qu.out, bnu, bmu⟩
    obtain ⟨bnv, bmv⟩ := SMv.out rfl
    have Ev : Hid (LmE.at_ w ((sv, Av, nv, cv, lv), (zv, Bv, mv, dv, kv))) := Lib.hid ⟨Pv.out, Qv.out, bnv, bmv⟩
    obtain ⟨M, hM0⟩ : ∃ M, M = 2048 := ⟨_, rfl⟩
    have hM : M ≤ 1000000000 := by omega
    obtain ⟨x, y, x', y', v, eck, hbnd, hall⟩ := goes_all sa Aa na ca la za Ba ma da ka sb Ab nb cb lb zb Bb mb db kb sc Ac nc cc lc zc Bc mc dc kc sd Ad nd cd ld zd Bd md dd kd su Au nu cu lu zu Bu mu du ku sv Av nv cv lv zv Bv mv dv kv M hM0 w Ea.out Eb.out Ec.out Ed.out Eu.out Ev.out
    have HB := Lib.hid hbnd
    have HA := Lib.hid hall
    clear hbnd hall hM0 HP1 HP2 HBIG HSUM K0 K1 K2 Pa Qa SMa hna hma Pb Qb SMb hnb hmb Pc Qc SMc hnc hmc Pd Qd SMd hnd hmd Pu Qu SMu hnu hmu Pv Qv SMv hnv hmv m3_0 m3_1 m3_2 m3_3 m3_4 m3_5 m3_6 m3_7 m3_8 m3_9 m3_10 m3_11 m3_12 m3_13 m3_14 m3_15 r3_0 r3_1 r3_2 r3_3 r3_4 r3_5 r3_6 r3_7
    replace K3 : MoT w.heap.size w [(w.heap.size + 1, [.bool su, .slice Au nu cu, .bool zu, .slice Bu mu du, .bool sv, .slice Av nv cv, .bool zv, .slice Bv mv dv]), (w.heap.size, [.bool sa, .slice Aa na ca, .bool za, .slice Ba ma da, .bool sb, .slice Ab nb cb, .bool zb, .slice Bb mb db, .bool sc, .slice Ac nc cc, .bool zc, .slice Bc mc dc, .bool sd, .slice Ad nd cd, .bool zd, .slice Bd md dd])] [] (fun _ => True) w3 := ⟨K3.pick (L' := [(w.heap.size + 1, [.bool su, .slice Au nu cu, .bool zu, .slice Bu mu du, .bool sv, .slice Av nv cv, .bool zv, .slice Bv mv dv]), (w.heap.size, [.bool sa, .slice Aa na ca, .bool za, .slice Ba ma da, .bool sb, .slice Ab nb cb, .bool zb, .slice Bb mb db, .bool sc, .slice Ac nc cc, .bool zc, .slice Bc mc dc, .bool sd, .slice Ad nd cd, .bool zd, .slice Bd md dd])]) (l' := []) (by first | exact (all_cons (mE 0 rfl) (all_cons (mE 1 rfl) all_nil)) | exact (all_cons (mE 1 rfl) (all_cons (mE 2 rfl) all_nil))) all_nil, ⟨fun _ _ _ _ => trivial, fun _ _ _ _ _ _ _ => trivial⟩, trivial⟩
    go_upto_region 3 with (fail)
    obtain ⟨TM, hTM⟩ : ∃ T : List Value → List OwnAt → World → Prop, T = fun V o x => ∃ ga ea ja fa gb eb jb fb gc ec jc fc gd ed jd fd : Nat, V = [.bool sa, .slice (some ⟨ga, 0, none⟩) na ea, .bool za, .slice (some ⟨ja, 0, none⟩) ma fa, .bool sb, .slice (some ⟨gb, 0, none⟩) nb eb, .bool zb, .slice (some ⟨jb, 0, none⟩) mb fb, .bool sc, .slice (some ⟨gc, 0, none⟩) nc ec, .bool zc, .slice (some ⟨jc, 0, none⟩) mc fc, .bool sd, .slice (some ⟨gd, 0, none⟩) nd ed, .bool zd, .slice (some ⟨jd, 0, none⟩) md fd] ∧ o = [(some ⟨jd, 0, none⟩, md, fd), (some ⟨gd, 0, none⟩, nd, ed), (some ⟨jc, 0, none⟩, mc, fc), (some ⟨gc, 0, none⟩, nc, ec), (some ⟨jb, 0, none⟩, mb, fb), (some ⟨gb, 0, none⟩, nb, eb), (some ⟨ja, 0, none⟩, ma, fa), (some ⟨ga, 0, none⟩, na, ea)] ∧ Twl x ga na ea la ∧ Twl x ja ma fa ka ∧ Twl x gb nb eb lb ∧ Twl x jb mb fb kb ∧ Twl x gc nc ec lc ∧ Twl x jc mc fc kc ∧ Twl x gd nd ed ld ∧ Twl x jd md fd kd := ⟨_, rfl⟩
    have HKM : Hid (∀ V o, KeptP (TM V o)) := Lib.hid (fun V o => by subst hTM; repeat (first | exact twl_kept _ _ _ _ | exact KeptP.const _ | apply KeptP.and | (apply KeptP.ex; intro _)))
    have HTM : Hid (∀ W, Below w.heap.size w W → Calls Tryz.prog 11 #[.agg #[.bool sa, .slice Aa na ca, .bool za, .slice Ba ma da, .bool sb, .slice Ab nb cb, .bool zb, .slice Bb mb db, .bool sc, .slice Ac nc cc, .bool zc, .slice Bc mc dc, .bool sd, .slice Ad nd cd, .bool zd, .slice Bd md dd]] W (RetTwX 16 TM W)) := Lib.hid (fun W h => by
      refine (owt_matrix_any sa Aa na ca la za Ba ma da ka sb Ab nb cb lb zb Bb mb db kb sc Ac nc cc lc zc Bc mc dc kc sd Ad nd cd ld zd Bd md dd kd W (Ea.out.below h) (Eb.out.below h) (Ec.out.below h) (Ed.out.below h)).mono ?_
      rintro e w' ⟨ga, ea, ja, fa, gb, eb, jb, fb, gc, ec, jc, fc, gd, ed, jd, fd, rfl, Ta, Ua, Tb, Ub, Tc, Uc, Td, Ud, O, hbw⟩
      subst hTM
      exact ⟨[.bool sa, .slice (some ⟨ga, 0, none⟩) na ea, .bool za, .slice (some ⟨ja, 0, none⟩) ma fa, .bool sb, .slice (some ⟨gb, 0, none⟩) nb eb, .bool zb, .slice (some ⟨jb, 0, none⟩) mb fb, .bool sc, .slice (some ⟨gc, 0, none⟩) nc ec, .bool zc, .slice (some ⟨jc, 0, none⟩) mc fc, .bool sd, .slice (some ⟨gd, 0, none⟩) nd ed, .bool zd, .slice (some ⟨jd, 0, none⟩) md fd], _, rfl, rfl, rfl, O, ⟨ga, ea, ja, fa, gb, eb, jb, fb, gc, ec, jc, fc, gd, ed, jd, fd, rfl, rfl, Ta, Ua, Tb, Ub, Tc, Uc, Td, Ud⟩, hbw⟩)
    obtain ⟨TG, hTG⟩ : ∃ T : List Value → List OwnAt → World → Prop, T = fun V o x => ∃ gu eu ju fu gv ev jv fv : Nat, V = [.bool su, .slice (some ⟨gu, 0, none⟩) nu eu, .bool zu, .slice (some ⟨ju, 0, none⟩) mu fu, .bool sv, .slice (some ⟨gv, 0, none⟩) nv ev, .bool zv, .slice (some ⟨jv, 0, none⟩) mv fv] ∧ o = [(some ⟨jv, 0, none⟩, mv, fv), (some ⟨gv, 0, none⟩, nv, ev), (some ⟨ju, 0, none⟩, mu, fu), (some ⟨gu, 0, none⟩, nu, eu)] ∧ Twl x gu nu eu lu ∧ Twl x ju mu fu ku ∧ Twl x gv nv ev lv ∧ Twl x jv mv fv kv := ⟨_, rfl⟩
    have HKG : Hid (∀ V o, KeptP (TG V o)) := Lib.hid (fun V o => by subst hTG; repeat (first | exact twl_kept _ _ _ _ | exact KeptP.const _ | apply KeptP.and | (apply KeptP.ex; intro _)))
    have HTG : Hid (∀ W, Below w.heap.size w W → Calls Tryz.prog 12 #[.agg #[.bool su, .slice Au nu cu, .bool zu, .slice Bu mu du, .bool sv, .slice Av nv cv, .bool zv, .slice Bv mv dv]] W (RetTwX 8 TG W)) := Lib.hid (fun W h => by
      refine (owt_gauss_any su Au nu cu lu zu Bu mu du ku sv Av nv cv lv zv Bv mv dv kv W (Eu.out.below h) (Ev.out.below h)).mono ?_
      rintro e w' ⟨gu, eu, ju, fu, gv, ev, jv, fv, rfl, Tu, Uu, Tv, Uv, O, hbw⟩
      subst hTG
      exact ⟨[.bool su, .slice (some ⟨gu, 0, none⟩) nu eu, .bool zu, .slice (some ⟨ju, 0, none⟩) mu fu, .bool sv, .slice (some ⟨gv, 0, none⟩) nv ev, .bool zv, .slice (some ⟨jv, 0, none⟩) mv fv], _, rfl, rfl, rfl, O, ⟨gu, eu, ju, fu, gv, ev, jv, fv, rfl, rfl, Tu, Uu, Tv, Uv⟩, hbw⟩)
    go_cut [5, 6] from 20 to 24 (fun s5 s6 wx => ∃ (g5 g6 : Nat) (V1 V2 : List Value) (o1 o2 : List OwnAt), s5 = .pointer (some ⟨g5, 0, none⟩) ∧ s6 = .pointer (some ⟨g6, 0, none⟩) ∧
      MoT w.heap.size w [(g5, V1), (g6, V2), (w.heap.size + 1, [.bool su, .slice Au nu cu, .bool zu, .slice Bu mu du, .bool sv, .slice Av nv cv, .bool zv, .slice Bv mv dv]), (w.heap.size, [.bool sa, .slice Aa na ca, .bool za, .slice Ba ma da, .bool sb, .slice Ab nb cb, .bool zb, .slice Bb mb db, .bool sc, .slice Ac nc cc, .bool zc, .slice Bc mc dc, .bool sd, .slice Ad nd cd, .bool zd, .slice Bd md dd])] (o2 ++ (o1 ++ [])) (fun x => (True ∧ TM V1 o1 x) ∧ TG V2 o2 x) wx)
    case first =>
      (try refine wp_region_noPanic ?_)
      refine wp_region_held_drew (S := fun w' => w'.rangeAt (w.heap.size) 0 [.bool sa, .slice Aa na ca, .bool za, .slice Ba ma da, .bool sb, .slice Ab nb cb, .bool zb, .slice Bb mb db, .bool sc, .slice Ac nc cc, .bool zc, .slice Bc mc dc, .bool sd, .slice Ad nd cd, .bool zd, .slice Bd md dd] ∧ w'.rangeAt (w.heap.size + 1) 0 [.bool su, .slice Au nu cu, .bool zu, .slice Bu mu du, .bool sv, .slice Av nv cv, .bool zv, .slice Bv mv dv]) (by kernel_rfl) ⟨(K3.blk (mE 1 rfl)).rng, (K3.blk (mE 0 rfl)).rng⟩ (fun H0 => ?_)
      have R00 := K3.drew
      generalize w3.drew = W0 at R00 H0 ⊢
      refine wpAnyH_take (i := 0) (oi := ?oiL0) (v := .agg (List.toArray [.bool sa, .slice Aa na ca, .bool za, .slice Ba ma da, .bool sb, .slice Ab nb cb, .bool zb, .slice Bb mb db, .bool sc, .slice Ac nc cc, .bool zc, .slice Bc mc dc, .bool sd, .slice Ad nd cd, .bool zd, .slice Bd md dd])) ?hiL0 (by kernel_rfl) (by kernel_rfl) (by kernel_rfl) ?hQL0 (Or.inl ⟨?hwL0, ?hyL0⟩) (by assumption) ?restL0
      case hiL0 =>
       simp only [List.getElem?_toArray, List.getElem?_cons_zero]
       rfl
      case hQL0 => exact fun _ _ _ h => h
      case hwL0 => rfl
      case hyL0 =>
       intro wS hSw
       exact load_yieldsG _ _ rfl (w.heap.size) 0 rfl [.bool sa, .slice Aa na ca, .bool za, .slice Ba ma da, .bool sb, .slice Ab nb cb, .bool zb, .slice Bb mb db, .bool sc, .slice Ac nc cc, .bool zc, .slice Bc mc dc, .bool sd, .slice Ad nd cd, .bool zd, .slice Bd md dd] _ hSw.1 Tryz.underlying28 rfl size_ma
      try simp only [Act.put, List.setIfInBounds_toArray, List.set_cons_zero, List.set_cons_succ]
      refine wpAnyH_take (i := 2) (oi := ?oiL2) (v := .agg (List.toArray [.bool su, .slice Au nu cu, .bool zu, .slice Bu mu du, .bool sv, .slice Av nv cv, .bool zv, .slice Bv mv dv])) ?hiL2 (by kernel_rfl) (by kernel_rfl) (by kernel_rfl) ?hQL2 (Or.inl ⟨?hwL2, ?hyL2⟩) (by assumption) ?restL2
      case hiL2 =>
       simp only [List.getElem?_toArray, List.getElem?_cons_succ, List.getElem?_cons_zero]
       rfl
      case hQL2 => exact fun _ _ _ h => h
      case hwL2 => rfl
      case hyL2 =>
       intro wS hSw
       exact load_yieldsG _ _ rfl (w.heap.size + 1) 0 rfl [.bool su, .slice Au nu cu, .bool zu, .slice Bu mu du, .bool sv, .slice Av nv cv, .bool zv, .slice Bv mv dv] _ hSw.2 Tryz.underlying30 rfl size_ga
      try simp only [Act.put, List.setIfInBounds_toArray, List.set_cons_zero, List.set_cons_succ]
      refine wpAnyH_ready (rs := [1, 4, 5]) (by kernel_rfl) (by simp) ?_
      refine AllReadyH.cons (gOf rfl) (fun Kf hK => ?st1) ?mo1
      case st1 =>
       go_simp
       refine (HTM.out _ R00.1.1).mono ?_
       rintro e1 W1 ⟨V1, o1, rfl, hl1, hc1, O, t, hbw⟩
       have R1 := R00.calln hbw O (HKM.out V1 o1) t
       refine hK.out _ _ ⟨(R1.blk (mE 1 rfl)).rng, (R1.blk (mE 0 rfl)).rng⟩ (fun H1 => ?_)
       clear hK Kf H0 R00 hbw O t
       try simp only [Act.put, List.setIfInBounds_toArray, List.set_cons_zero, List.set_cons_succ]
       refine wpAnyH_ready (rs := [3, 4, 5]) (by kernel_rfl) (by simp) ?_
       refine AllReadyH.cons (gOf rfl) (fun Kf hK => ?st2) ?mo2
       case st2 =>
        go_simp
        refine (HTG.out _ R1.1.1).mono ?_
        rintro e2 W2 ⟨V2, o2, rfl, hl2, hc2, O, t, hbw⟩
        have R2 := R1.calln hbw O (HKG.out V2 o2) t
        refine hK.out _ _ ⟨(R2.blk (mE 1 rfl)).rng, (R2.blk (mE 0 rfl)).rng⟩ (fun H2 => ?_)
        clear hK Kf H1 R1 hbw O t
        try simp only [Act.put, List.setIfInBounds_toArray, List.set_cons_zero, List.set_cons_succ]
        refine wpAnyH_ready (rs := [4, 5]) (by kernel_rfl) (by simp) ?_
        refine AllReadyH.cons (gOf rfl) (fun Kf hK => ?st3) ?mo3
        case st3 =>
         go_simp
         obtain ⟨W3, hW3, qg4, hng4, hzg4, R3⟩ := R2.fresh [.bool false, .slice none 0 0, .bool false, .slice none 0 0, .bool false, .slice none 0 0, .bool false, .slice none 0 0, .bool false, .slice none 0 0, .bool false, .slice none 0 0, .bool false, .slice none 0 0, .bool false, .slice none 0 0] 28 (n := 16) rfl rfl
         rw [hW3]
         have ng4G1 : W2.heap.size ≠ w.heap.size + 1 := by have := (R2.blk (mE 0 rfl)).1; omega
         have ng4G0 : W2.heap.size ≠ w.heap.size := by have := (R2.blk (mE 1 rfl)).1; omega
         refine hK.out _ _ ⟨(R3.blk (mE 2 rfl)).rng, (R3.blk (mE 1 rfl)).rng⟩ (fun H3 => ?_)
         clear hK Kf H2 R2 hW3
         try simp only [Act.put, List.setIfInBounds_toArray, List.set_cons_zero, List.set_cons_succ]
         generalize W2.heap.size = g4 at R3 ng4G1 ng4G0 ⊢
         refine wpAnyH_ready (rs := [5]) (by kernel_rfl) (by simp) ?_
         refine AllReadyH.cons (gOf rfl) (fun Kf hK => ?st4) ?mo4
         case st4 =>
          go_simp
          obtain ⟨W4, hW4, qg5, hng5, hzg5, R4⟩ := R3.fresh [.bool false, .slice none 0 0, .bool false, .slice none 0 0, .bool false, .slice none 0 0, .bool false, .slice none 0 0] 30 (n := 8) rfl rfl
          rw [hW4]
          have ng5g4 : W3.heap.size ≠ g4 := by have := (R3.blk (mE 0 rfl)).1; omega
          have ng5G1 : W3.heap.size ≠ w.heap.size + 1 := by have := (R3.blk (mE 1 rfl)).1; omega
          have ng5G0 : W3.heap.size ≠ w.heap.size := by have := (R3.blk (mE 2 rfl)).1; omega
          refine hK.out _ _ ⟨(R4.blk (mE 3 rfl)).rng, (R4.blk (mE 2 rfl)).rng⟩ (fun H4 => ?_)
          clear hK Kf H3 R3 hW4
          try simp only [Act.put, List.setIfInBounds_toArray, List.set_cons_zero, List.set_cons_succ]
          generalize W3.heap.size = g5 at R4 ng5g4 ng5G1 ng5G0 ⊢
          refine wpAnyH_ready (rs := [6]) (by kernel_rfl) (by simp) ?_
          refine AllReadyH.cons (gOf rfl) (fun Kf hK => ?st5) ?mo5
          case st5 =>
           have Q5 := R4.pick (all_cons (mE 1 rfl) (all_cons (mE 0 rfl) (all_cons (mE 2 rfl) (all_cons (mE 3 rfl) all_nil))))
           have R5 := Q5.setV (all_cons (ng5g4.symm) (all_cons (ng4G1) (all_cons (ng4G0) all_nil))) hl1 hng4 hzg4
           have th5 := (Q5.blk (mE 0 rfl)).thereG hng4
           refine step_storeG 16 ?hw5 28 ?x5 ?y5 ?hop5 g4 ?hx5 V1 ?hy5 th5 hl1 size_ma hc1 ?hk5
           case hop5 => rfl
           case hw5 => rfl
           case hx5 => rfl
           case hy5 => rfl
           generalize W4.setCells g4 0 V1 = W5 at R5 ⊢
           refine hK.out _ _ ⟨(R5.blk (mE 3 rfl)).rng, (R5.blk (mE 2 rfl)).rng⟩ (fun H5 => ?_)
           clear hK Kf H4 R4 Q5 th5
           try simp only [Act.put]
           refine wpAnyH_ready (rs := [7]) (by kernel_rfl) (by simp) ?_
           refine AllReadyH.cons (gOf rfl) (fun Kf hK => ?st6) ?mo6
           case st6 =>
            have Q6 := R5.pick (all_cons (mE 1 rfl) (all_cons (mE 0 rfl) (all_cons (mE 2 rfl) (all_cons (mE 3 rfl) all_nil))))
            have R6 := Q6.setV (all_cons (ng5g4) (all_cons (ng5G1) (all_cons (ng5G0) all_nil))) hl2 hng5 hzg5
            have th6 := (Q6.blk (mE 0 rfl)).thereG hng5
            refine step_storeG 8 ?hw6 30 ?x6 ?y6 ?hop6 g5 ?hx6 V2 ?hy6 th6 hl2 size_ga hc2 ?hk6
            case hop6 => rfl
            case hw6 => rfl
            case hx6 => rfl
            case hy6 => rfl
            generalize W5.setCells g5 0 V2 = W6 at R6 ⊢
            refine hK.out _ _ ⟨(R6.blk (mE 3 rfl)).rng, (R6.blk (mE 2 rfl)).rng⟩ (fun H6 => ?_)
            clear hK Kf H5 R5 Q6 th6
            try simp only [Act.put]
            refine wpAnyH_done (by kernel_rfl) ?_ _
            (try refine NoPanic.normal ?_)
            go_wp2_with fail
            go_meet
            exact ⟨g4, g5, V1, V2, o1, o2, rfl, rfl, R6.pick (all_cons (mE 1 rfl) (all_cons (mE 0 rfl) (all_cons (mE 2 rfl) (all_cons (mE 3 rfl) all_nil))))⟩
           exact AllReadyH.nil
          exact AllReadyH.nil
         exact AllReadyH.nil
        refine AllReadyH.cons (gOf rfl) (fun Kf hK => ?st7) ?mo7
        case st7 =>
         go_simp
         obtain ⟨W7, hW7, qg5, hng5, hzg5, R7⟩ := R2.fresh [.bool false, .slice none 0 0, .bool false, .slice none 0 0, .bool false, .slice none 0 0, .bool false, .slice none 0 0] 30 (n := 8) rfl rfl
         rw [hW7]
         have ng5G1 : W2.heap.size ≠ w.heap.size + 1 := by have := (R2.blk (mE 0 rfl)).1; omega
         have ng5G0 : W2.heap.size ≠ w.heap.size := by have := (R2.blk (mE 1 rfl)).1; omega
         refine hK.out _ _ ⟨(R7.blk (mE 2 rfl)).rng, (R7.blk (mE 1 rfl)).rng⟩ (fun H7 => ?_)
         clear hK Kf H2 R2 hW7
         try simp only [Act.put, List.setIfInBounds_toArray, List.set_cons_zero, List.set_cons_succ]
         generalize W2.heap.size = g5 at R7 ng5G1 ng5G0 ⊢
         refine wpAnyH_ready (rs := [4]) (by kernel_rfl) (by simp) ?_
         refine AllReadyH.cons (gOf rfl) (fun Kf hK => ?st8) ?mo8
         case st8 =>
          go_simp
          obtain ⟨W8, hW8, qg4, hng4, hzg4, R8⟩ := R7.fresh [.bool false, .slice none 0 0, .bool false, .slice none 0 0, .bool false, .slice none 0 0, .bool false, .slice none 0 0, .bool false, .slice none 0 0, .bool false, .slice none 0 0, .bool false, .slice none 0 0, .bool false, .slice none 0 0] 28 (n := 16) rfl rfl
          rw [hW8]
          have ng4g5 : W7.heap.size ≠ g5 := by have := (R7.blk (mE 0 rfl)).1; omega
          have ng4G1 : W7.heap.size ≠ w.heap.size + 1 := by have := (R7.blk (mE 1 rfl)).1; omega
          have ng4G0 : W7.heap.size ≠ w.heap.size := by have := (R7.blk (mE 2 rfl)).1; omega
          refine hK.out _ _ ⟨(R8.blk (mE 3 rfl)).rng, (R8.blk (mE 2 rfl)).rng⟩ (fun H8 => ?_)
          clear hK Kf H7 R7 hW8
          try simp only [Act.put, List.setIfInBounds_toArray, List.set_cons_zero, List.set_cons_succ]
          generalize W7.heap.size = g4 at R8 ng4g5 ng4G1 ng4G0 ⊢
          refine wpAnyH_ready (rs := [6]) (by kernel_rfl) (by simp) ?_
          refine AllReadyH.cons (gOf rfl) (fun Kf hK => ?st9) ?mo9
          case st9 =>
           have Q9 := R8.pick (all_cons (mE 0 rfl) (all_cons (mE 1 rfl) (all_cons (mE 2 rfl) (all_cons (mE 3 rfl) all_nil))))
           have R9 := Q9.setV (all_cons (ng4g5) (all_cons (ng4G1) (all_cons (ng4G0) all_nil))) hl1 hng4 hzg4
           have th9 := (Q9.blk (mE 0 rfl)).thereG hng4
           refine step_storeG 16 ?hw9 28 ?x9 ?y9 ?hop9 g4 ?hx9 V1 ?hy9 th9 hl1 size_ma hc1 ?hk9
           case hop9 => rfl
           case hw9 => rfl
           case hx9 => rfl
           case hy9 => rfl
           generalize W8.setCells g4 0 V1 = W9 at R9 ⊢
           refine hK.out _ _ ⟨(R9.blk (mE 3 rfl)).rng, (R9.blk (mE 2 rfl)).rng⟩ (fun H9 => ?_)
           clear hK Kf H8 R8 Q9 th9
           try simp only [Act.put]
           refine wpAnyH_ready (rs := [7]) (by kernel_rfl) (by simp) ?_
           refine AllReadyH.cons (gOf rfl) (fun Kf hK => ?st10) ?mo10
           case st10 =>
            have Q10 := R9.pick (all_cons (mE 1 rfl) (all_cons (mE 0 rfl) (all_cons (mE 2 rfl) (all_cons (mE 3 rfl) all_nil))))
            have R10 := Q10.setV (all_cons (ng4g5.symm) (all_cons (ng5G1) (all_cons (ng5G0) all_nil))) hl2 hng5 hzg5
            have th10 := (Q10.blk (mE 0 rfl)).thereG hng5
            refine step_storeG 8 ?hw10 30 ?x10 ?y10 ?hop10 g5 ?hx10 V2 ?hy10 th10 hl2 size_ga hc2 ?hk10
            case hop10 => rfl
            case hw10 => rfl
            case hx10 => rfl
            case hy10 => rfl
            generalize W9.setCells g5 0 V2 = W10 at R10 ⊢
            refine hK.out _ _ ⟨(R10.blk (mE 3 rfl)).rng, (R10.blk (mE 2 rfl)).rng⟩ (fun H10 => ?_)
            clear hK Kf H9 R9 Q10 th10
            try simp only [Act.put]
            refine wpAnyH_done (by kernel_rfl) ?_ _
            (try refine NoPanic.normal ?_)
            go_wp2_with fail
            go_meet
            exact ⟨g4, g5, V1, V2, o1, o2, rfl, rfl, R10.pick (all_cons (mE 1 rfl) (all_cons (mE 0 rfl) (all_cons (mE 2 rfl) (all_cons (mE 3 rfl) all_nil))))⟩
           exact AllReadyH.nil
          exact AllReadyH.nil
         exact AllReadyH.nil
        exact AllReadyH.nil
       refine AllReadyH.cons (gOf rfl) (fun Kf hK => ?st11) ?mo11
       case st11 =>
        go_simp
        obtain ⟨W11, hW11, qg4, hng4, hzg4, R11⟩ := R1.fresh [.bool false, .slice none 0 0, .bool false, .slice none 0 0, .bool false, .slice none 0 0, .bool false, .slice none 0 0, .bool false, .slice none 0 0, .bool false, .slice none 0 0, .bool false, .slice none 0 0, .bool false, .slice none 0 0] 28 (n := 16) rfl rfl
        rw [hW11]
        have ng4G1 : W1.heap.size ≠ w.heap.size + 1 := by have := (R1.blk (mE 0 rfl)).1; omega
        have ng4G0 : W1.heap.size ≠ w.heap.size := by have := (R1.blk (mE 1 rfl)).1; omega
        refine hK.out _ _ ⟨(R11.blk (mE 2 rfl)).rng, (R11.blk (mE 1 rfl)).rng⟩ (fun H11 => ?_)
        clear hK Kf H1 R1 hW11
        try simp only [Act.put, List.setIfInBounds_toArray, List.set_cons_zero, List.set_cons_succ]
        generalize W1.heap.size = g4 at R11 ng4G1 ng4G0 ⊢
        refine wpAnyH_ready (rs := [3, 5]) (by kernel_rfl) (by simp) ?_
        refine AllReadyH.cons (gOf rfl) (fun Kf hK => ?st12) ?mo12
        case st12 =>
         go_simp
         refine (HTG.out _ R11.1.1).mono ?_
         rintro e12 W12 ⟨V2, o2, rfl, hl2, hc2, O, t, hbw⟩
         have R12 := R11.calln hbw O (HKG.out V2 o2) t
         refine hK.out _ _ ⟨(R12.blk (mE 2 rfl)).rng, (R12.blk (mE 1 rfl)).rng⟩ (fun H12 => ?_)
         clear hK Kf H11 R11 hbw O t
         try simp only [Act.put, List.setIfInBounds_toArray, List.set_cons_zero, List.set_cons_succ]
         refine wpAnyH_ready (rs := [5]) (by kernel_rfl) (by simp) ?_
         refine AllReadyH.cons (gOf rfl) (fun Kf hK => ?st13) ?mo13
         case st13 =>
          go_simp
          obtain ⟨W13, hW13, qg5, hng5, hzg5, R13⟩ := R12.fresh [.bool false, .slice none 0 0, .bool false, .slice none 0 0, .bool false, .slice none 0 0, .bool false, .slice none 0 0] 30 (n := 8) rfl rfl
          rw [hW13]
          have ng5g4 : W12.heap.size ≠ g4 := by have := (R12.blk (mE 0 rfl)).1; omega
          have ng5G1 : W12.heap.size ≠ w.heap.size + 1 := by have := (R12.blk (mE 1 rfl)).1; omega
          have ng5G0 : W12.heap.size ≠ w.heap.size := by have := (R12.blk (mE 2 rfl)).1; omega
          refine hK.out _ _ ⟨(R13.blk (mE 3 rfl)).rng, (R13.blk (mE 2 rfl)).rng⟩ (fun H13 => ?_)
          clear hK Kf H12 R12 hW13
          try simp only [Act.put, List.setIfInBounds_toArray, List.set_cons_zero, List.set_cons_succ]
          generalize W12.heap.size = g5 at R13 ng5g4 ng5G1 ng5G0 ⊢
          refine wpAnyH_ready (rs := [6]) (by kernel_rfl) (by simp) ?_
          refine AllReadyH.cons (gOf rfl) (fun Kf hK => ?st14) ?mo14
          case st14 =>
           have Q14 := R13.pick (all_cons (mE 1 rfl) (all_cons (mE 0 rfl) (all_cons (mE 2 rfl) (all_cons (mE 3 rfl) all_nil))))
           have R14 := Q14.setV (all_cons (ng5g4.symm) (all_cons (ng4G1) (all_cons (ng4G0) all_nil))) hl1 hng4 hzg4
           have th14 := (Q14.blk (mE 0 rfl)).thereG hng4
           refine step_storeG 16 ?hw14 28 ?x14 ?y14 ?hop14 g4 ?hx14 V1 ?hy14 th14 hl1 size_ma hc1 ?hk14
           case hop14 => rfl
           case hw14 => rfl
           case hx14 => rfl
           case hy14 => rfl
           generalize W13.setCells g4 0 V1 = W14 at R14 ⊢
           refine hK.out _ _ ⟨(R14.blk (mE 3 rfl)).rng, (R14.blk (mE 2 rfl)).rng⟩ (fun H14 => ?_)
           clear hK Kf H13 R13 Q14 th14
           try simp only [Act.put]
           refine wpAnyH_ready (rs := [7]) (by kernel_rfl) (by simp) ?_
           refine AllReadyH.cons (gOf rfl) (fun Kf hK => ?st15) ?mo15
           case st15 =>
            have Q15 := R14.pick (all_cons (mE 1 rfl) (all_cons (mE 0 rfl) (all_cons (mE 2 rfl) (all_cons (mE 3 rfl) all_nil))))
            have R15 := Q15.setV (all_cons (ng5g4) (all_cons (ng5G1) (all_cons (ng5G0) all_nil))) hl2 hng5 hzg5
            have th15 := (Q15.blk (mE 0 rfl)).thereG hng5
            refine step_storeG 8 ?hw15 30 ?x15 ?y15 ?hop15 g5 ?hx15 V2 ?hy15 th15 hl2 size_ga hc2 ?hk15
            case hop15 => rfl
            case hw15 => rfl
            case hx15 => rfl
            case hy15 => rfl
            generalize W14.setCells g5 0 V2 = W15 at R15 ⊢
            refine hK.out _ _ ⟨(R15.blk (mE 3 rfl)).rng, (R15.blk (mE 2 rfl)).rng⟩ (fun H15 => ?_)
            clear hK Kf H14 R14 Q15 th15
            try simp only [Act.put]
            refine wpAnyH_done (by kernel_rfl) ?_ _
            (try refine NoPanic.normal ?_)
            go_wp2_with fail
            go_meet
            exact ⟨g4, g5, V1, V2, o1, o2, rfl, rfl, R15.pick (all_cons (mE 1 rfl) (all_cons (mE 0 rfl) (all_cons (mE 2 rfl) (all_cons (mE 3 rfl) all_nil))))⟩
           exact AllReadyH.nil
          exact AllReadyH.nil
         exact AllReadyH.nil
        refine AllReadyH.cons (gOf rfl) (fun Kf hK => ?st16) ?mo16
        case st16 =>
         go_simp
         obtain ⟨W16, hW16, qg5, hng5, hzg5, R16⟩ := R11.fresh [.bool false, .slice none 0 0, .bool false, .slice none 0 0, .bool false, .slice none 0 0, .bool false, .slice none 0 0] 30 (n := 8) rfl rfl
         rw [hW16]
         have ng5g4 : W11.heap.size ≠ g4 := by have := (R11.blk (mE 0 rfl)).1; omega
         have ng5G1 : W11.heap.size ≠ w.heap.size + 1 := by have := (R11.blk (mE 1 rfl)).1; omega
         have ng5G0 : W11.heap.size ≠ w.heap.size := by have := (R11.blk (mE 2 rfl)).1; omega
         refine hK.out _ _ ⟨(R16.blk (mE 3 rfl)).rng, (R16.blk (mE 2 rfl)).rng⟩ (fun H16 => ?_)
         clear hK Kf H11 R11 hW16
         try simp only [Act.put, List.setIfInBounds_toArray, List.set_cons_zero, List.set_cons_succ]
         generalize W11.heap.size = g5 at R16 ng5g4 ng5G1 ng5G0 ⊢
         refine wpAnyH_ready (rs := [3]) (by kernel_rfl) (by simp) ?_
         refine AllReadyH.cons (gOf rfl) (fun Kf hK => ?st17) ?mo17
         case st17 =>
          go_simp
          refine (HTG.out _ R16.1.1).mono ?_
          rintro e17 W17 ⟨V2, o2, rfl, hl2, hc2, O, t, hbw⟩
          have R17 := R16.calln hbw O (HKG.out V2 o2) t
          refine hK.out _ _ ⟨(R17.blk (mE 3 rfl)).rng, (R17.blk (mE 2 rfl)).rng⟩ (fun H17 => ?_)
          clear hK Kf H16 R16 hbw O t
          try simp only [Act.put, List.setIfInBounds_toArray, List.set_cons_zero, List.set_cons_succ]
          refine wpAnyH_ready (rs := [6]) (by kernel_rfl) (by simp) ?_
          refine AllReadyH.cons (gOf rfl) (fun Kf hK => ?st18) ?mo18
          case st18 =>
           have Q18 := R17.pick (all_cons (mE 1 rfl) (all_cons (mE 0 rfl) (all_cons (mE 2 rfl) (all_cons (mE 3 rfl) all_nil))))
           have R18 := Q18.setV (all_cons (ng5g4.symm) (all_cons (ng4G1) (all_cons (ng4G0) all_nil))) hl1 hng4 hzg4
           have th18 := (Q18.blk (mE 0 rfl)).thereG hng4
           refine step_storeG 16 ?hw18 28 ?x18 ?y18 ?hop18 g4 ?hx18 V1 ?hy18 th18 hl1 size_ma hc1 ?hk18
           case hop18 => rfl
           case hw18 => rfl
           case hx18 => rfl
           case hy18 => rfl
           generalize W17.setCells g4 0 V1 = W18 at R18 ⊢
           refine hK.out _ _ ⟨(R18.blk (mE 3 rfl)).rng, (R18.blk (mE 2 rfl)).rng⟩ (fun H18 => ?_)
           clear hK Kf H17 R17 Q18 th18
           try simp only [Act.put]
           refine wpAnyH_ready (rs := [7]) (by kernel_rfl) (by simp) ?_
           refine AllReadyH.cons (gOf rfl) (fun Kf hK => ?st19) ?mo19
           case st19 =>
            have Q19 := R18.pick (all_cons (mE 1 rfl) (all_cons (mE 0 rfl) (all_cons (mE 2 rfl) (all_cons (mE 3 rfl) all_nil))))
            have R19 := Q19.setV (all_cons (ng5g4) (all_cons (ng5G1) (all_cons (ng5G0) all_nil))) hl2 hng5 hzg5
            have th19 := (Q19.blk (mE 0 rfl)).thereG hng5
            refine step_storeG 8 ?hw19 30 ?x19 ?y19 ?hop19 g5 ?hx19 V2 ?hy19 th19 hl2 size_ga hc2 ?hk19
            case hop19 => rfl
            case hw19 => rfl
            case hx19 => rfl
            case hy19 => rfl
            generalize W18.setCells g5 0 V2 = W19 at R19 ⊢
            refine hK.out _ _ ⟨(R19.blk (mE 3 rfl)).rng, (R19.blk (mE 2 rfl)).rng⟩ (fun H19 => ?_)
            clear hK Kf H18 R18 Q19 th19
            try simp only [Act.put]
            refine wpAnyH_done (by kernel_rfl) ?_ _
            (try refine NoPanic.normal ?_)
            go_wp2_with fail
            go_meet
            exact ⟨g4, g5, V1, V2, o1, o2, rfl, rfl, R19.pick (all_cons (mE 1 rfl) (all_cons (mE 0 rfl) (all_cons (mE 2 rfl) (all_cons (mE 3 rfl) all_nil))))⟩
           exact AllReadyH.nil
          exact AllReadyH.nil
         exact AllReadyH.nil
        exact AllReadyH.nil
       refine AllReadyH.cons (gOf rfl) (fun Kf hK => ?st20) ?mo20
       case st20 =>
        go_simp
        obtain ⟨W20, hW20, qg5, hng5, hzg5, R20⟩ := R1.fresh [.bool false, .slice none 0 0, .bool false, .slice none 0 0, .bool false, .slice none 0 0, .bool false, .slice none 0 0] 30 (n := 8) rfl rfl
        rw [hW20]
        have ng5G1 : W1.heap.size ≠ w.heap.size + 1 := by have := (R1.blk (mE 0 rfl)).1; omega
        have ng5G0 : W1.heap.size ≠ w.heap.size := by have := (R1.blk (mE 1 rfl)).1; omega
        refine hK.out _ _ ⟨(R20.blk (mE 2 rfl)).rng, (R20.blk (mE 1 rfl)).rng⟩ (fun H20 => ?_)
        clear hK Kf H1 R1 hW20
        try simp only [Act.put, List.setIfInBounds_toArray, List.set_cons_zero, List.set_cons_succ]
        generalize W1.heap.size = g5 at R20 ng5G1 ng5G0 ⊢
        refine wpAnyH_ready (rs := [3, 4]) (by kernel_rfl) (by simp) ?_
        refine AllReadyH.cons (gOf rfl) (fun Kf hK => ?st21) ?mo21
        case st21 =>
         go_simp
         refine (HTG.out _ R20.1.1).mono ?_
         rintro e21 W21 ⟨V2, o2, rfl, hl2, hc2, O, t, hbw⟩
         have R21 := R20.calln hbw O (HKG.out V2 o2) t
         refine hK.out _ _ ⟨(R21.blk (mE 2 rfl)).rng, (R21.blk (mE 1 rfl)).rng⟩ (fun H21 => ?_)
         clear hK Kf H20 R20 hbw O t
         try simp only [Act.put, List.setIfInBounds_toArray, List.set_cons_zero, List.set_cons_succ]
         refine wpAnyH_ready (rs := [4]) (by kernel_rfl) (by simp) ?_
         refine AllReadyH.cons (gOf rfl) (fun Kf hK => ?st22) ?mo22
         case st22 =>
          go_simp
          obtain ⟨W22, hW22, qg4, hng4, hzg4, R22⟩ := R21.fresh [.bool false, .slice none 0 0, .bool false, .slice none 0 0, .bool false, .slice none 0 0, .bool false, .slice none 0 0, .bool false, .slice none 0 0, .bool false, .slice none 0 0, .bool false, .slice none 0 0, .bool false, .slice none 0 0] 28 (n := 16) rfl rfl
          rw [hW22]
          have ng4g5 : W21.heap.size ≠ g5 := by have := (R21.blk (mE 0 rfl)).1; omega
          have ng4G1 : W21.heap.size ≠ w.heap.size + 1 := by have := (R21.blk (mE 1 rfl)).1; omega
          have ng4G0 : W21.heap.size ≠ w.heap.size := by have := (R21.blk (mE 2 rfl)).1; omega
          refine hK.out _ _ ⟨(R22.blk (mE 3 rfl)).rng, (R22.blk (mE 2 rfl)).rng⟩ (fun H22 => ?_)
          clear hK Kf H21 R21 hW22
          try simp only [Act.put, List.setIfInBounds_toArray, List.set_cons_zero, List.set_cons_succ]
          generalize W21.heap.size = g4 at R22 ng4g5 ng4G1 ng4G0 ⊢
          refine wpAnyH_ready (rs := [6]) (by kernel_rfl) (by simp) ?_
          refine AllReadyH.cons (gOf rfl) (fun Kf hK => ?st23) ?mo23
          case st23 =>
           have Q23 := R22.pick (all_cons (mE 0 rfl) (all_cons (mE 1 rfl) (all_cons (mE 2 rfl) (all_cons (mE 3 rfl) all_nil))))
           have R23 := Q23.setV (all_cons (ng4g5) (all_cons (ng4G1) (all_cons (ng4G0) all_nil))) hl1 hng4 hzg4
           have th23 := (Q23.blk (mE 0 rfl)).thereG hng4
           refine step_storeG 16 ?hw23 28 ?x23 ?y23 ?hop23 g4 ?hx23 V1 ?hy23 th23 hl1 size_ma hc1 ?hk23
           case hop23 => rfl
           case hw23 => rfl
           case hx23 => rfl
           case hy23 => rfl
           generalize W22.setCells g4 0 V1 = W23 at R23 ⊢
           refine hK.out _ _ ⟨(R23.blk (mE 3 rfl)).rng, (R23.blk (mE 2 rfl)).rng⟩ (fun H23 => ?_)
           clear hK Kf H22 R22 Q23 th23
           try simp only [Act.put]
           refine wpAnyH_ready (rs := [7]) (by kernel_rfl) (by simp) ?_
           refine AllReadyH.cons (gOf rfl) (fun Kf hK => ?st24) ?mo24
           case st24 =>
            have Q24 := R23.pick (all_cons (mE 1 rfl) (all_cons (mE 0 rfl) (all_cons (mE 2 rfl) (all_cons (mE 3 rfl) all_nil))))
            have R24 := Q24.setV (all_cons (ng4g5.symm) (all_cons (ng5G1) (all_cons (ng5G0) all_nil))) hl2 hng5 hzg5
            have th24 := (Q24.blk (mE 0 rfl)).thereG hng5
            refine step_storeG 8 ?hw24 30 ?x24 ?y24 ?hop24 g5 ?hx24 V2 ?hy24 th24 hl2 size_ga hc2 ?hk24
            case hop24 => rfl
            case hw24 => rfl
            case hx24 => rfl
            case hy24 => rfl
            generalize W23.setCells g5 0 V2 = W24 at R24 ⊢
            refine hK.out _ _ ⟨(R24.blk (mE 3 rfl)).rng, (R24.blk (mE 2 rfl)).rng⟩ (fun H24 => ?_)
            clear hK Kf H23 R23 Q24 th24
            try simp only [Act.put]
            refine wpAnyH_done (by kernel_rfl) ?_ _
            (try refine NoPanic.normal ?_)
            go_wp2_with fail
            go_meet
            exact ⟨g4, g5, V1, V2, o1, o2, rfl, rfl, R24.pick (all_cons (mE 1 rfl) (all_cons (mE 0 rfl) (all_cons (mE 2 rfl) (all_cons (mE 3 rfl) all_nil))))⟩
           exact AllReadyH.nil
          exact AllReadyH.nil
         exact AllReadyH.nil
        refine AllReadyH.cons (gOf rfl) (fun Kf hK => ?st25) ?mo25
        case st25 =>
         go_simp
         obtain ⟨W25, hW25, qg4, hng4, hzg4, R25⟩ := R20.fresh [.bool false, .slice none 0 0, .bool false, .slice none 0 0, .bool false, .slice none 0 0, .bool false, .slice none 0 0, .bool false, .slice none 0 0, .bool false, .slice none 0 0, .bool false, .slice none 0 0, .bool false, .slice none 0 0] 28 (n := 16) rfl rfl
         rw [hW25]
         have ng4g5 : W20.heap.size ≠ g5 := by have := (R20.blk (mE 0 rfl)).1; omega
         have ng4G1 : W20.heap.size ≠ w.heap.size + 1 := by have := (R20.blk (mE 1 rfl)).1; omega
         have ng4G0 : W20.heap.size ≠ w.heap.size := by have := (R20.blk (mE 2 rfl)).1; omega
         refine hK.out _ _ ⟨(R25.blk (mE 3 rfl)).rng, (R25.blk (mE 2 rfl)).rng⟩ (fun H25 => ?_)
         clear hK Kf H20 R20 hW25
         try simp only [Act.put, List.setIfInBounds_toArray, List.set_cons_zero, List.set_cons_succ]
         generalize W20.heap.size = g4 at R25 ng4g5 ng4G1 ng4G0 ⊢
         refine wpAnyH_ready (rs := [3]) (by kernel_rfl) (by simp) ?_
         refine AllReadyH.cons (gOf rfl) (fun Kf hK => ?st26) ?mo26
         case st26 =>
          go_simp
          refine (HTG.out _ R25.1.1).mono ?_
          rintro e26 W26 ⟨V2, o2, rfl, hl2, hc2, O, t, hbw⟩
          have R26 := R25.calln hbw O (HKG.out V2 o2) t
          refine hK.out _ _ ⟨(R26.blk (mE 3 rfl)).rng, (R26.blk (mE 2 rfl)).rng⟩ (fun H26 => ?_)
          clear hK Kf H25 R25 hbw O t
          try simp only [Act.put, List.setIfInBounds_toArray, List.set_cons_zero, List.set_cons_succ]
          refine wpAnyH_ready (rs := [6]) (by kernel_rfl) (by simp) ?_
          refine AllReadyH.cons (gOf rfl) (fun Kf hK => ?st27) ?mo27
          case st27 =>
           have Q27 := R26.pick (all_cons (mE 0 rfl) (all_cons (mE 1 rfl) (all_cons (mE 2 rfl) (all_cons (mE 3 rfl) all_nil))))
           have R27 := Q27.setV (all_cons (ng4g5) (all_cons (ng4G1) (all_cons (ng4G0) all_nil))) hl1 hng4 hzg4
           have th27 := (Q27.blk (mE 0 rfl)).thereG hng4
           refine step_storeG 16 ?hw27 28 ?x27 ?y27 ?hop27 g4 ?hx27 V1 ?hy27 th27 hl1 size_ma hc1 ?hk27
           case hop27 => rfl
           case hw27 => rfl
           case hx27 => rfl
           case hy27 => rfl
           generalize W26.setCells g4 0 V1 = W27 at R27 ⊢
           refine hK.out _ _ ⟨(R27.blk (mE 3 rfl)).rng, (R27.blk (mE 2 rfl)).rng⟩ (fun H27 => ?_)
           clear hK Kf H26 R26 Q27 th27
           try simp only [Act.put]
           refine wpAnyH_ready (rs := [7]) (by kernel_rfl) (by simp) ?_
           refine AllReadyH.cons (gOf rfl) (fun Kf hK => ?st28) ?mo28
           case st28 =>
            have Q28 := R27.pick (all_cons (mE 1 rfl) (all_cons (mE 0 rfl) (all_cons (mE 2 rfl) (all_cons (mE 3 rfl) all_nil))))
            have R28 := Q28.setV (all_cons (ng4g5.symm) (all_cons (ng5G1) (all_cons (ng5G0) all_nil))) hl2 hng5 hzg5
            have th28 := (Q28.blk (mE 0 rfl)).thereG hng5
            refine step_storeG 8 ?hw28 30 ?x28 ?y28 ?hop28 g5 ?hx28 V2 ?hy28 th28 hl2 size_ga hc2 ?hk28
            case hop28 => rfl
            case hw28 => rfl
            case hx28 => rfl
            case hy28 => rfl
            generalize W27.setCells g5 0 V2 = W28 at R28 ⊢
            refine hK.out _ _ ⟨(R28.blk (mE 3 rfl)).rng, (R28.blk (mE 2 rfl)).rng⟩ (fun H28 => ?_)
            clear hK Kf H27 R27 Q28 th28
            try simp only [Act.put]
            refine wpAnyH_done (by kernel_rfl) ?_ _
            (try refine NoPanic.normal ?_)
            go_wp2_with fail
            go_meet
            exact ⟨g4, g5, V1, V2, o1, o2, rfl, rfl, R28.pick (all_cons (mE 1 rfl) (all_cons (mE 0 rfl) (all_cons (mE 2 rfl) (all_cons (mE 3 rfl) all_nil))))⟩
           exact AllReadyH.nil
          exact AllReadyH.nil
         exact AllReadyH.nil
        exact AllReadyH.nil
       exact AllReadyH.nil
      refine AllReadyH.cons (gOf rfl) (fun Kf hK => ?st29) ?mo29
      case st29 =>
       go_simp
       obtain ⟨W29, hW29, qg4, hng4, hzg4, R29⟩ := R00.fresh [.bool false, .slice none 0 0, .bool false, .slice none 0 0, .bool false, .slice none 0 0, .bool false, .slice none 0 0, .bool false, .slice none 0 0, .bool false, .slice none 0 0, .bool false, .slice none 0 0, .bool false, .slice none 0 0] 28 (n := 16) rfl rfl
       rw [hW29]
       have ng4G1 : W0.heap.size ≠ w.heap.size + 1 := by have := (R00.blk (mE 0 rfl)).1; omega
       have ng4G0 : W0.heap.size ≠ w.heap.size := by have := (R00.blk (mE 1 rfl)).1; omega
       refine hK.out _ _ ⟨(R29.blk (mE 2 rfl)).rng, (R29.blk (mE 1 rfl)).rng⟩ (fun H29 => ?_)
       clear hK Kf H0 R00 hW29
       try simp only [Act.put, List.setIfInBounds_toArray, List.set_cons_zero, List.set_cons_succ]
       generalize W0.heap.size = g4 at R29 ng4G1 ng4G0 ⊢
       refine wpAnyH_ready (rs := [1, 5]) (by kernel_rfl) (by simp) ?_
       refine AllReadyH.cons (gOf rfl) (fun Kf hK => ?st30) ?mo30
       case st30 =>
        go_simp
        refine (HTM.out _ R29.1.1).mono ?_
        rintro e30 W30 ⟨V1, o1, rfl, hl1, hc1, O, t, hbw⟩
        have R30 := R29.calln hbw O (HKM.out V1 o1) t
        refine hK.out _ _ ⟨(R30.blk (mE 2 rfl)).rng, (R30.blk (mE 1 rfl)).rng⟩ (fun H30 => ?_)
        clear hK Kf H29 R29 hbw O t
        try simp only [Act.put, List.setIfInBounds_toArray, List.set_cons_zero, List.set_cons_succ]
        refine wpAnyH_ready (rs := [3, 5]) (by kernel_rfl) (by simp) ?_
        refine AllReadyH.cons (gOf rfl) (fun Kf hK => ?st31) ?mo31
        case st31 =>
         go_simp
         refine (HTG.out _ R30.1.1).mono ?_
         rintro e31 W31 ⟨V2, o2, rfl, hl2, hc2, O, t, hbw⟩
         have R31 := R30.calln hbw O (HKG.out V2 o2) t
         refine hK.out _ _ ⟨(R31.blk (mE 2 rfl)).rng, (R31.blk (mE 1 rfl)).rng⟩ (fun H31 => ?_)
         clear hK Kf H30 R30 hbw O t
         try simp only [Act.put, List.setIfInBounds_toArray, List.set_cons_zero, List.set_cons_succ]
         refine wpAnyH_ready (rs := [5]) (by kernel_rfl) (by simp) ?_
         refine AllReadyH.cons (gOf rfl) (fun Kf hK => ?st32) ?mo32
         case st32 =>
          go_simp
          obtain ⟨W32, hW32, qg5, hng5, hzg5, R32⟩ := R31.fresh [.bool false, .slice none 0 0, .bool false, .slice none 0 0, .bool false, .slice none 0 0, .bool false, .slice none 0 0] 30 (n := 8) rfl rfl
          rw [hW32]
          have ng5g4 : W31.heap.size ≠ g4 := by have := (R31.blk (mE 0 rfl)).1; omega
          have ng5G1 : W31.heap.size ≠ w.heap.size + 1 := by have := (R31.blk (mE 1 rfl)).1; omega
          have ng5G0 : W31.heap.size ≠ w.heap.size := by have := (R31.blk (mE 2 rfl)).1; omega
          refine hK.out _ _ ⟨(R32.blk (mE 3 rfl)).rng, (R32.blk (mE 2 rfl)).rng⟩ (fun H32 => ?_)
          clear hK Kf H31 R31 hW32
          try simp only [Act.put, List.setIfInBounds_toArray, List.set_cons_zero, List.set_cons_succ]
          generalize W31.heap.size = g5 at R32 ng5g4 ng5G1 ng5G0 ⊢
          refine wpAnyH_ready (rs := [6]) (by kernel_rfl) (by simp) ?_
          refine AllReadyH.cons (gOf rfl) (fun Kf hK => ?st33) ?mo33
          case st33 =>
           have Q33 := R32.pick (all_cons (mE 1 rfl) (all_cons (mE 0 rfl) (all_cons (mE 2 rfl) (all_cons (mE 3 rfl) all_nil))))
           have R33 := Q33.setV (all_cons (ng5g4.symm) (all_cons (ng4G1) (all_cons (ng4G0) all_nil))) hl1 hng4 hzg4
           have th33 := (Q33.blk (mE 0 rfl)).thereG hng4
           refine step_storeG 16 ?hw33 28 ?x33 ?y33 ?hop33 g4 ?hx33 V1 ?hy33 th33 hl1 size_ma hc1 ?hk33
           case hop33 => rfl
           case hw33 => rfl
           case hx33 => rfl
           case hy33 => rfl
           generalize W32.setCells g4 0 V1 = W33 at R33 ⊢
           refine hK.out _ _ ⟨(R33.blk (mE 3 rfl)).rng, (R33.blk (mE 2 rfl)).rng⟩ (fun H33 => ?_)
           clear hK Kf H32 R32 Q33 th33
           try simp only [Act.put]
           refine wpAnyH_ready (rs := [7]) (by kernel_rfl) (by simp) ?_
           refine AllReadyH.cons (gOf rfl) (fun Kf hK => ?st34) ?mo34
           case st34 =>
            have Q34 := R33.pick (all_cons (mE 1 rfl) (all_cons (mE 0 rfl) (all_cons (mE 2 rfl) (all_cons (mE 3 rfl) all_nil))))
            have R34 := Q34.setV (all_cons (ng5g4) (all_cons (ng5G1) (all_cons (ng5G0) all_nil))) hl2 hng5 hzg5
            have th34 := (Q34.blk (mE 0 rfl)).thereG hng5
            refine step_storeG 8 ?hw34 30 ?x34 ?y34 ?hop34 g5 ?hx34 V2 ?hy34 th34 hl2 size_ga hc2 ?hk34
            case hop34 => rfl
            case hw34 => rfl
            case hx34 => rfl
            case hy34 => rfl
            generalize W33.setCells g5 0 V2 = W34 at R34 ⊢
            refine hK.out _ _ ⟨(R34.blk (mE 3 rfl)).rng, (R34.blk (mE 2 rfl)).rng⟩ (fun H34 => ?_)
            clear hK Kf H33 R33 Q34 th34
            try simp only [Act.put]
            refine wpAnyH_done (by kernel_rfl) ?_ _
            (try refine NoPanic.normal ?_)
            go_wp2_with fail
            go_meet
            exact ⟨g4, g5, V1, V2, o1, o2, rfl, rfl, R34.pick (all_cons (mE 1 rfl) (all_cons (mE 0 rfl) (all_cons (mE 2 rfl) (all_cons (mE 3 rfl) all_nil))))⟩
           exact AllReadyH.nil
          exact AllReadyH.nil
         exact AllReadyH.nil
        refine AllReadyH.cons (gOf rfl) (fun Kf hK => ?st35) ?mo35
        case st35 =>
         go_simp
         obtain ⟨W35, hW35, qg5, hng5, hzg5, R35⟩ := R30.fresh [.bool false, .slice none 0 0, .bool false, .slice none 0 0, .bool false, .slice none 0 0, .bool false, .slice none 0 0] 30 (n := 8) rfl rfl
         rw [hW35]
         have ng5g4 : W30.heap.size ≠ g4 := by have := (R30.blk (mE 0 rfl)).1; omega
         have ng5G1 : W30.heap.size ≠ w.heap.size + 1 := by have := (R30.blk (mE 1 rfl)).1; omega
         have ng5G0 : W30.heap.size ≠ w.heap.size := by have := (R30.blk (mE 2 rfl)).1; omega
         refine hK.out _ _ ⟨(R35.blk (mE 3 rfl)).rng, (R35.blk (mE 2 rfl)).rng⟩ (fun H35 => ?_)
         clear hK Kf H30 R30 hW35
         try simp only [Act.put, List.setIfInBounds_toArray, List.set_cons_zero, List.set_cons_succ]
         generalize W30.heap.size = g5 at R35 ng5g4 ng5G1 ng5G0 ⊢
         refine wpAnyH_ready (rs := [3]) (by kernel_rfl) (by simp) ?_
         refine AllReadyH.cons (gOf rfl) (fun Kf hK => ?st36) ?mo36
         case st36 =>
          go_simp
          refine (HTG.out _ R35.1.1).mono ?_
          rintro e36 W36 ⟨V2, o2, rfl, hl2, hc2, O, t, hbw⟩
          have R36 := R35.calln hbw O (HKG.out V2 o2) t
          refine hK.out _ _ ⟨(R36.blk (mE 3 rfl)).rng, (R36.blk (mE 2 rfl)).rng⟩ (fun H36 => ?_)
          clear hK Kf H35 R35 hbw O t
          try simp only [Act.put, List.setIfInBounds_toArray, List.set_cons_zero, List.set_cons_succ]
          refine wpAnyH_ready (rs := [6]) (by kernel_rfl) (by simp) ?_
          refine AllReadyH.cons (gOf rfl) (fun Kf hK => ?st37) ?mo37
          case st37 =>
           have Q37 := R36.pick (all_cons (mE 1 rfl) (all_cons (mE 0 rfl) (all_cons (mE 2 rfl) (all_cons (mE 3 rfl) all_nil))))
           have R37 := Q37.setV (all_cons (ng5g4.symm) (all_cons (ng4G1) (all_cons (ng4G0) all_nil))) hl1 hng4 hzg4
           have th37 := (Q37.blk (mE 0 rfl)).thereG hng4
           refine step_storeG 16 ?hw37 28 ?x37 ?y37 ?hop37 g4 ?hx37 V1 ?hy37 th37 hl1 size_ma hc1 ?hk37
           case hop37 => rfl
           case hw37 => rfl
           case hx37 => rfl
           case hy37 => rfl
           generalize W36.setCells g4 0 V1 = W37 at R37 ⊢
           refine hK.out _ _ ⟨(R37.blk (mE 3 rfl)).rng, (R37.blk (mE 2 rfl)).rng⟩ (fun H37 => ?_)
           clear hK Kf H36 R36 Q37 th37
           try simp only [Act.put]
           refine wpAnyH_ready (rs := [7]) (by kernel_rfl) (by simp) ?_
           refine AllReadyH.cons (gOf rfl) (fun Kf hK => ?st38) ?mo38
           case st38 =>
            have Q38 := R37.pick (all_cons (mE 1 rfl) (all_cons (mE 0 rfl) (all_cons (mE 2 rfl) (all_cons (mE 3 rfl) all_nil))))
            have R38 := Q38.setV (all_cons (ng5g4) (all_cons (ng5G1) (all_cons (ng5G0) all_nil))) hl2 hng5 hzg5
            have th38 := (Q38.blk (mE 0 rfl)).thereG hng5
            refine step_storeG 8 ?hw38 30 ?x38 ?y38 ?hop38 g5 ?hx38 V2 ?hy38 th38 hl2 size_ga hc2 ?hk38
            case hop38 => rfl
            case hw38 => rfl
            case hx38 => rfl
            case hy38 => rfl
            generalize W37.setCells g5 0 V2 = W38 at R38 ⊢
            refine hK.out _ _ ⟨(R38.blk (mE 3 rfl)).rng, (R38.blk (mE 2 rfl)).rng⟩ (fun H38 => ?_)
            clear hK Kf H37 R37 Q38 th38
            try simp only [Act.put]
            refine wpAnyH_done (by kernel_rfl) ?_ _
            (try refine NoPanic.normal ?_)
            go_wp2_with fail
            go_meet
            exact ⟨g4, g5, V1, V2, o1, o2, rfl, rfl, R38.pick (all_cons (mE 1 rfl) (all_cons (mE 0 rfl) (all_cons (mE 2 rfl) (all_cons (mE 3 rfl) all_nil))))⟩
           exact AllReadyH.nil
          exact AllReadyH.nil
         exact AllReadyH.nil
        exact AllReadyH.nil
       refine AllReadyH.cons (gOf rfl) (fun Kf hK => ?st39) ?mo39
       case st39 =>
        go_simp
        obtain ⟨W39, hW39, qg5, hng5, hzg5, R39⟩ := R29.fresh [.bool false, .slice none 0 0, .bool false, .slice none 0 0, .bool false, .slice none 0 0, .bool false, .slice none 0 0] 30 (n := 8) rfl rfl
        rw [hW39]
        have ng5g4 : W29.heap.size ≠ g4 := by have := (R29.blk (mE 0 rfl)).1; omega
        have ng5G1 : W29.heap.size ≠ w.heap.size + 1 := by have := (R29.blk (mE 1 rfl)).1; omega
        have ng5G0 : W29.heap.size ≠ w.heap.size := by have := (R29.blk (mE 2 rfl)).1; omega
        refine hK.out _ _ ⟨(R39.blk (mE 3 rfl)).rng, (R39.blk (mE 2 rfl)).rng⟩ (fun H39 => ?_)
        clear hK Kf H29 R29 hW39
        try simp only [Act.put, List.setIfInBounds_toArray, List.set_cons_zero, List.set_cons_succ]
        generalize W29.heap.size = g5 at R39 ng5g4 ng5G1 ng5G0 ⊢
        refine wpAnyH_ready (rs := [1]) (by kernel_rfl) (by simp) ?_
        refine AllReadyH.cons (gOf rfl) (fun Kf hK => ?st40) ?mo40
        case st40 =>
         go_simp
         refine (HTM.out _ R39.1.1).mono ?_
         rintro e40 W40 ⟨V1, o1, rfl, hl1, hc1, O, t, hbw⟩
         have R40 := R39.calln hbw O (HKM.out V1 o1) t
         refine hK.out _ _ ⟨(R40.blk (mE 3 rfl)).rng, (R40.blk (mE 2 rfl)).rng⟩ (fun H40 => ?_)
         clear hK Kf H39 R39 hbw O t
         try simp only [Act.put, List.setIfInBounds_toArray, List.set_cons_zero, List.set_cons_succ]
         refine wpAnyH_ready (rs := [3]) (by kernel_rfl) (by simp) ?_
         refine AllReadyH.cons (gOf rfl) (fun Kf hK => ?st41) ?mo41
         case st41 =>
          go_simp
          refine (HTG.out _ R40.1.1).mono ?_
          rintro e41 W41 ⟨V2, o2, rfl, hl2, hc2, O, t, hbw⟩
          have R41 := R40.calln hbw O (HKG.out V2 o2) t
          refine hK.out _ _ ⟨(R41.blk (mE 3 rfl)).rng, (R41.blk (mE 2 rfl)).rng⟩ (fun H41 => ?_)
          clear hK Kf H40 R40 hbw O t
          try simp only [Act.put, List.setIfInBounds_toArray, List.set_cons_zero, List.set_cons_succ]
          refine wpAnyH_ready (rs := [6]) (by kernel_rfl) (by simp) ?_
          refine AllReadyH.cons (gOf rfl) (fun Kf hK => ?st42) ?mo42
          case st42 =>
           have Q42 := R41.pick (all_cons (mE 1 rfl) (all_cons (mE 0 rfl) (all_cons (mE 2 rfl) (all_cons (mE 3 rfl) all_nil))))
           have R42 := Q42.setV (all_cons (ng5g4.symm) (all_cons (ng4G1) (all_cons (ng4G0) all_nil))) hl1 hng4 hzg4
           have th42 := (Q42.blk (mE 0 rfl)).thereG hng4
           refine step_storeG 16 ?hw42 28 ?x42 ?y42 ?hop42 g4 ?hx42 V1 ?hy42 th42 hl1 size_ma hc1 ?hk42
           case hop42 => rfl
           case hw42 => rfl
           case hx42 => rfl
           case hy42 => rfl
           generalize W41.setCells g4 0 V1 = W42 at R42 ⊢
           refine hK.out _ _ ⟨(R42.blk (mE 3 rfl)).rng, (R42.blk (mE 2 rfl)).rng⟩ (fun H42 => ?_)
           clear hK Kf H41 R41 Q42 th42
           try simp only [Act.put]
           refine wpAnyH_ready (rs := [7]) (by kernel_rfl) (by simp) ?_
           refine AllReadyH.cons (gOf rfl) (fun Kf hK => ?st43) ?mo43
           case st43 =>
            have Q43 := R42.pick (all_cons (mE 1 rfl) (all_cons (mE 0 rfl) (all_cons (mE 2 rfl) (all_cons (mE 3 rfl) all_nil))))
            have R43 := Q43.setV (all_cons (ng5g4) (all_cons (ng5G1) (all_cons (ng5G0) all_nil))) hl2 hng5 hzg5
            have th43 := (Q43.blk (mE 0 rfl)).thereG hng5
            refine step_storeG 8 ?hw43 30 ?x43 ?y43 ?hop43 g5 ?hx43 V2 ?hy43 th43 hl2 size_ga hc2 ?hk43
            case hop43 => rfl
            case hw43 => rfl
            case hx43 => rfl
            case hy43 => rfl
            generalize W42.setCells g5 0 V2 = W43 at R43 ⊢
            refine hK.out _ _ ⟨(R43.blk (mE 3 rfl)).rng, (R43.blk (mE 2 rfl)).rng⟩ (fun H43 => ?_)
            clear hK Kf H42 R42 Q43 th43
            try simp only [Act.put]
            refine wpAnyH_done (by kernel_rfl) ?_ _
            (try refine NoPanic.normal ?_)
            go_wp2_with fail
            go_meet
            exact ⟨g4, g5, V1, V2, o1, o2, rfl, rfl, R43.pick (all_cons (mE 1 rfl) (all_cons (mE 0 rfl) (all_cons (mE 2 rfl) (all_cons (mE 3 rfl) all_nil))))⟩
           exact AllReadyH.nil
          exact AllReadyH.nil
         exact AllReadyH.nil
        exact AllReadyH.nil
       exact AllReadyH.nil
      refine AllReadyH.cons (gOf rfl) (fun Kf hK => ?st44) ?mo44
      case st44 =>
       go_simp
       obtain ⟨W44, hW44, qg5, hng5, hzg5, R44⟩ := R00.fresh [.bool false, .slice none 0 0, .bool false, .slice none 0 0, .bool false, .slice none 0 0, .bool false, .slice none 0 0] 30 (n := 8) rfl rfl
       rw [hW44]
       have ng5G1 : W0.heap.size ≠ w.heap.size + 1 := by have := (R00.blk (mE 0 rfl)).1; omega
       have ng5G0 : W0.heap.size ≠ w.heap.size := by have := (R00.blk (mE 1 rfl)).1; omega
       refine hK.out _ _ ⟨(R44.blk (mE 2 rfl)).rng, (R44.blk (mE 1 rfl)).rng⟩ (fun H44 => ?_)
       clear hK Kf H0 R00 hW44
       try simp only [Act.put, List.setIfInBounds_toArray, List.set_cons_zero, List.set_cons_succ]
       generalize W0.heap.size = g5 at R44 ng5G1 ng5G0 ⊢
       refine wpAnyH_ready (rs := [1, 4]) (by kernel_rfl) (by simp) ?_
       refine AllReadyH.cons (gOf rfl) (fun Kf hK => ?st45) ?mo45
       case st45 =>
        go_simp
        refine (HTM.out _ R44.1.1).mono ?_
        rintro e45 W45 ⟨V1, o1, rfl, hl1, hc1, O, t, hbw⟩
        have R45 := R44.calln hbw O (HKM.out V1 o1) t
        refine hK.out _ _ ⟨(R45.blk (mE 2 rfl)).rng, (R45.blk (mE 1 rfl)).rng⟩ (fun H45 => ?_)
        clear hK Kf H44 R44 hbw O t
        try simp only [Act.put, List.setIfInBounds_toArray, List.set_cons_zero, List.set_cons_succ]
        refine wpAnyH_ready (rs := [3, 4]) (by kernel_rfl) (by simp) ?_
        refine AllReadyH.cons (gOf rfl) (fun Kf hK => ?st46) ?mo46
        case st46 =>
         go_simp
         refine (HTG.out _ R45.1.1).mono ?_
         rintro e46 W46 ⟨V2, o2, rfl, hl2, hc2, O, t, hbw⟩
         have R46 := R45.calln hbw O (HKG.out V2 o2) t
         refine hK.out _ _ ⟨(R46.blk (mE 2 rfl)).rng, (R46.blk (mE 1 rfl)).rng⟩ (fun H46 => ?_)
         clear hK Kf H45 R45 hbw O t
         try simp only [Act.put, List.setIfInBounds_toArray, List.set_cons_zero, List.set_cons_succ]
         refine wpAnyH_ready (rs := [4]) (by kernel_rfl) (by simp) ?_
         refine AllReadyH.cons (gOf rfl) (fun Kf hK => ?st47) ?mo47
         case st47 =>
          go_simp
          obtain ⟨W47, hW47, qg4, hng4, hzg4, R47⟩ := R46.fresh [.bool false, .slice none 0 0, .bool false, .slice none 0 0, .bool false, .slice none 0 0, .bool false, .slice none 0 0, .bool false, .slice none 0 0, .bool false, .slice none 0 0, .bool false, .slice none 0 0, .bool false, .slice none 0 0] 28 (n := 16) rfl rfl
          rw [hW47]
          have ng4g5 : W46.heap.size ≠ g5 := by have := (R46.blk (mE 0 rfl)).1; omega
          have ng4G1 : W46.heap.size ≠ w.heap.size + 1 := by have := (R46.blk (mE 1 rfl)).1; omega
          have ng4G0 : W46.heap.size ≠ w.heap.size := by have := (R46.blk (mE 2 rfl)).1; omega
          refine hK.out _ _ ⟨(R47.blk (mE 3 rfl)).rng, (R47.blk (mE 2 rfl)).rng⟩ (fun H47 => ?_)
          clear hK Kf H46 R46 hW47
          try simp only [Act.put, List.setIfInBounds_toArray, List.set_cons_zero, List.set_cons_succ]
          generalize W46.heap.size = g4 at R47 ng4g5 ng4G1 ng4G0 ⊢
          refine wpAnyH_ready (rs := [6]) (by kernel_rfl) (by simp) ?_
          refine AllReadyH.cons (gOf rfl) (fun Kf hK => ?st48) ?mo48
          case st48 =>
           have Q48 := R47.pick (all_cons (mE 0 rfl) (all_cons (mE 1 rfl) (all_cons (mE 2 rfl) (all_cons (mE 3 rfl) all_nil))))
           have R48 := Q48.setV (all_cons (ng4g5) (all_cons (ng4G1) (all_cons (ng4G0) all_nil))) hl1 hng4 hzg4
           have th48 := (Q48.blk (mE 0 rfl)).thereG hng4
           refine step_storeG 16 ?hw48 28 ?x48 ?y48 ?hop48 g4 ?hx48 V1 ?hy48 th48 hl1 size_ma hc1 ?hk48
           case hop48 => rfl
           case hw48 => rfl
           case hx48 => rfl
           case hy48 => rfl
           generalize W47.setCells g4 0 V1 = W48 at R48 ⊢
           refine hK.out _ _ ⟨(R48.blk (mE 3 rfl)).rng, (R48.blk (mE 2 rfl)).rng⟩ (fun H48 => ?_)
           clear hK Kf H47 R47 Q48 th48
           try simp only [Act.put]
           refine wpAnyH_ready (rs := [7]) (by kernel_rfl) (by simp) ?_
           refine AllReadyH.cons (gOf rfl) (fun Kf hK => ?st49) ?mo49
           case st49 =>
            have Q49 := R48.pick (all_cons (mE 1 rfl) (all_cons (mE 0 rfl) (all_cons (mE 2 rfl) (all_cons (mE 3 rfl) all_nil))))
            have R49 := Q49.setV (all_cons (ng4g5.symm) (all_cons (ng5G1) (all_cons (ng5G0) all_nil))) hl2 hng5 hzg5
            have th49 := (Q49.blk (mE 0 rfl)).thereG hng5
            refine step_storeG 8 ?hw49 30 ?x49 ?y49 ?hop49 g5 ?hx49 V2 ?hy49 th49 hl2 size_ga hc2 ?hk49
            case hop49 => rfl
            case hw49 => rfl
            case hx49 => rfl
            case hy49 => rfl
            generalize W48.setCells g5 0 V2 = W49 at R49 ⊢
            refine hK.out _ _ ⟨(R49.blk (mE 3 rfl)).rng, (R49.blk (mE 2 rfl)).rng⟩ (fun H49 => ?_)
            clear hK Kf H48 R48 Q49 th49
            try simp only [Act.put]
            refine wpAnyH_done (by kernel_rfl) ?_ _
            (try refine NoPanic.normal ?_)
            go_wp2_with fail
            go_meet
            exact ⟨g4, g5, V1, V2, o1, o2, rfl, rfl, R49.pick (all_cons (mE 1 rfl) (all_cons (mE 0 rfl) (all_cons (mE 2 rfl) (all_cons (mE 3 rfl) all_nil))))⟩
           exact AllReadyH.nil
          exact AllReadyH.nil
         exact AllReadyH.nil
        refine AllReadyH.cons (gOf rfl) (fun Kf hK => ?st50) ?mo50
        case st50 =>
         go_simp
         obtain ⟨W50, hW50, qg4, hng4, hzg4, R50⟩ := R45.fresh [.bool false, .slice none 0 0, .bool false, .slice none 0 0, .bool false, .slice none 0 0, .bool false, .slice none 0 0, .bool false, .slice none 0 0, .bool false, .slice none 0 0, .bool false, .slice none 0 0, .bool false, .slice none 0 0] 28 (n := 16) rfl rfl
         rw [hW50]
         have ng4g5 : W45.heap.size ≠ g5 := by have := (R45.blk (mE 0 rfl)).1; omega
         have ng4G1 : W45.heap.size ≠ w.heap.size + 1 := by have := (R45.blk (mE 1 rfl)).1; omega
         have ng4G0 : W45.heap.size ≠ w.heap.size := by have := (R45.blk (mE 2 rfl)).1; omega
         refine hK.out _ _ ⟨(R50.blk (mE 3 rfl)).rng, (R50.blk (mE 2 rfl)).rng⟩ (fun H50 => ?_)
         clear hK Kf H45 R45 hW50
         try simp only [Act.put, List.setIfInBounds_toArray, List.set_cons_zero, List.set_cons_succ]
         generalize W45.heap.size = g4 at R50 ng4g5 ng4G1 ng4G0 ⊢
         refine wpAnyH_ready (rs := [3]) (by kernel_rfl) (by simp) ?_
         refine AllReadyH.cons (gOf rfl) (fun Kf hK => ?st51) ?mo51
         case st51 =>
          go_simp
          refine (HTG.out _ R50.1.1).mono ?_
          rintro e51 W51 ⟨V2, o2, rfl, hl2, hc2, O, t, hbw⟩
          have R51 := R50.calln hbw O (HKG.out V2 o2) t
          refine hK.out _ _ ⟨(R51.blk (mE 3 rfl)).rng, (R51.blk (mE 2 rfl)).rng⟩ (fun H51 => ?_)
          clear hK Kf H50 R50 hbw O t
          try simp only [Act.put, List.setIfInBounds_toArray, List.set_cons_zero, List.set_cons_succ]
          refine wpAnyH_ready (rs := [6]) (by kernel_rfl) (by simp) ?_
          refine AllReadyH.cons (gOf rfl) (fun Kf hK => ?st52) ?mo52
          case st52 =>
           have Q52 := R51.pick (all_cons (mE 0 rfl) (all_cons (mE 1 rfl) (all_cons (mE 2 rfl) (all_cons (mE 3 rfl) all_nil))))
           have R52 := Q52.setV (all_cons (ng4g5) (all_cons (ng4G1) (all_cons (ng4G0) all_nil))) hl1 hng4 hzg4
           have th52 := (Q52.blk (mE 0 rfl)).thereG hng4
           refine step_storeG 16 ?hw52 28 ?x52 ?y52 ?hop52 g4 ?hx52 V1 ?hy52 th52 hl1 size_ma hc1 ?hk52
           case hop52 => rfl
           case hw52 => rfl
           case hx52 => rfl
           case hy52 => rfl
           generalize W51.setCells g4 0 V1 = W52 at R52 ⊢
           refine hK.out _ _ ⟨(R52.blk (mE 3 rfl)).rng, (R52.blk (mE 2 rfl)).rng⟩ (fun H52 => ?_)
           clear hK Kf H51 R51 Q52 th52
           try simp only [Act.put]
           refine wpAnyH_ready (rs := [7]) (by kernel_rfl) (by simp) ?_
           refine AllReadyH.cons (gOf rfl) (fun Kf hK => ?st53) ?mo53
           case st53 =>
            have Q53 := R52.pick (all_cons (mE 1 rfl) (all_cons (mE 0 rfl) (all_cons (mE 2 rfl) (all_cons (mE 3 rfl) all_nil))))
            have R53 := Q53.setV (all_cons (ng4g5.symm) (all_cons (ng5G1) (all_cons (ng5G0) all_nil))) hl2 hng5 hzg5
            have th53 := (Q53.blk (mE 0 rfl)).thereG hng5
            refine step_storeG 8 ?hw53 30 ?x53 ?y53 ?hop53 g5 ?hx53 V2 ?hy53 th53 hl2 size_ga hc2 ?hk53
            case hop53 => rfl
            case hw53 => rfl
            case hx53 => rfl
            case hy53 => rfl
            generalize W52.setCells g5 0 V2 = W53 at R53 ⊢
            refine hK.out _ _ ⟨(R53.blk (mE 3 rfl)).rng, (R53.blk (mE 2 rfl)).rng⟩ (fun H53 => ?_)
            clear hK Kf H52 R52 Q53 th53
            try simp only [Act.put]
            refine wpAnyH_done (by kernel_rfl) ?_ _
            (try refine NoPanic.normal ?_)
            go_wp2_with fail
            go_meet
            exact ⟨g4, g5, V1, V2, o1, o2, rfl, rfl, R53.pick (all_cons (mE 1 rfl) (all_cons (mE 0 rfl) (all_cons (mE 2 rfl) (all_cons (mE 3 rfl) all_nil))))⟩
           exact AllReadyH.nil
          exact AllReadyH.nil
         exact AllReadyH.nil
        exact AllReadyH.nil
       refine AllReadyH.cons (gOf rfl) (fun Kf hK => ?st54) ?mo54
       case st54 =>
        go_simp
        obtain ⟨W54, hW54, qg4, hng4, hzg4, R54⟩ := R44.fresh [.bool false, .slice none 0 0, .bool false, .slice none 0 0, .bool false, .slice none 0 0, .bool false, .slice none 0 0, .bool false, .slice none 0 0, .bool false, .slice none 0 0, .bool false, .slice none 0 0, .bool false, .slice none 0 0] 28 (n := 16) rfl rfl
        rw [hW54]
        have ng4g5 : W44.heap.size ≠ g5 := by have := (R44.blk (mE 0 rfl)).1; omega
        have ng4G1 : W44.heap.size ≠ w.heap.size + 1 := by have := (R44.blk (mE 1 rfl)).1; omega
        have ng4G0 : W44.heap.size ≠ w.heap.size := by have := (R44.blk (mE 2 rfl)).1; omega
        refine hK.out _ _ ⟨(R54.blk (mE 3 rfl)).rng, (R54.blk (mE 2 rfl)).rng⟩ (fun H54 => ?_)
        clear hK Kf H44 R44 hW54
        try simp only [Act.put, List.setIfInBounds_toArray, List.set_cons_zero, List.set_cons_succ]
        generalize W44.heap.size = g4 at R54 ng4g5 ng4G1 ng4G0 ⊢
        refine wpAnyH_ready (rs := [1]) (by kernel_rfl) (by simp) ?_
        refine AllReadyH.cons (gOf rfl) (fun Kf hK => ?st55) ?mo55
        case st55 =>
         go_simp
         refine (HTM.out _ R54.1.1).mono ?_
         rintro e55 W55 ⟨V1, o1, rfl, hl1, hc1, O, t, hbw⟩
         have R55 := R54.calln hbw O (HKM.out V1 o1) t
         refine hK.out _ _ ⟨(R55.blk (mE 3 rfl)).rng, (R55.blk (mE 2 rfl)).rng⟩ (fun H55 => ?_)
         clear hK Kf H54 R54 hbw O t
         try simp only [Act.put, List.setIfInBounds_toArray, List.set_cons_zero, List.set_cons_succ]
         refine wpAnyH_ready (rs := [3]) (by kernel_rfl) (by simp) ?_
         refine AllReadyH.cons (gOf rfl) (fun Kf hK => ?st56) ?mo56
         case st56 =>
          go_simp
          refine (HTG.out _ R55.1.1).mono ?_
          rintro e56 W56 ⟨V2, o2, rfl, hl2, hc2, O, t, hbw⟩
          have R56 := R55.calln hbw O (HKG.out V2 o2) t
          refine hK.out _ _ ⟨(R56.blk (mE 3 rfl)).rng, (R56.blk (mE 2 rfl)).rng⟩ (fun H56 => ?_)
          clear hK Kf H55 R55 hbw O t
          try simp only [Act.put, List.setIfInBounds_toArray, List.set_cons_zero, List.set_cons_succ]
          refine wpAnyH_ready (rs := [6]) (by kernel_rfl) (by simp) ?_
          refine AllReadyH.cons (gOf rfl) (fun Kf hK => ?st57) ?mo57
          case st57 =>
           have Q57 := R56.pick (all_cons (mE 0 rfl) (all_cons (mE 1 rfl) (all_cons (mE 2 rfl) (all_cons (mE 3 rfl) all_nil))))
           have R57 := Q57.setV (all_cons (ng4g5) (all_cons (ng4G1) (all_cons (ng4G0) all_nil))) hl1 hng4 hzg4
           have th57 := (Q57.blk (mE 0 rfl)).thereG hng4
           refine step_storeG 16 ?hw57 28 ?x57 ?y57 ?hop57 g4 ?hx57 V1 ?hy57 th57 hl1 size_ma hc1 ?hk57
           case hop57 => rfl
           case hw57 => rfl
           case hx57 => rfl
           case hy57 => rfl
           generalize W56.setCells g4 0 V1 = W57 at R57 ⊢
           refine hK.out _ _ ⟨(R57.blk (mE 3 rfl)).rng, (R57.blk (mE 2 rfl)).rng⟩ (fun H57 => ?_)
           clear hK Kf H56 R56 Q57 th57
           try simp only [Act.put]
           refine wpAnyH_ready (rs := [7]) (by kernel_rfl) (by simp) ?_
           refine AllReadyH.cons (gOf rfl) (fun Kf hK => ?st58) ?mo58
           case st58 =>
            have Q58 := R57.pick (all_cons (mE 1 rfl) (all_cons (mE 0 rfl) (all_cons (mE 2 rfl) (all_cons (mE 3 rfl) all_nil))))
            have R58 := Q58.setV (all_cons (ng4g5.symm) (all_cons (ng5G1) (all_cons (ng5G0) all_nil))) hl2 hng5 hzg5
            have th58 := (Q58.blk (mE 0 rfl)).thereG hng5
            refine step_storeG 8 ?hw58 30 ?x58 ?y58 ?hop58 g5 ?hx58 V2 ?hy58 th58 hl2 size_ga hc2 ?hk58
            case hop58 => rfl
            case hw58 => rfl
            case hx58 => rfl
            case hy58 => rfl
            generalize W57.setCells g5 0 V2 = W58 at R58 ⊢
            refine hK.out _ _ ⟨(R58.blk (mE 3 rfl)).rng, (R58.blk (mE 2 rfl)).rng⟩ (fun H58 => ?_)
            clear hK Kf H57 R57 Q58 th58
            try simp only [Act.put]
            refine wpAnyH_done (by kernel_rfl) ?_ _
            (try refine NoPanic.normal ?_)
            go_wp2_with fail
            go_meet
            exact ⟨g4, g5, V1, V2, o1, o2, rfl, rfl, R58.pick (all_cons (mE 1 rfl) (all_cons (mE 0 rfl) (all_cons (mE 2 rfl) (all_cons (mE 3 rfl) all_nil))))⟩
           exact AllReadyH.nil
          exact AllReadyH.nil
         exact AllReadyH.nil
        exact AllReadyH.nil
       exact AllReadyH.nil
      exact AllReadyH.nil
    case rest =>
      obtain ⟨gm, gz, V1, V2, o1, o2, rfl, rfl, KT⟩ := hcut
      clear K3
      rename World => wc
      have KU := KT.2.2
      clear HTM HTG HKM HKG
      subst hTM hTG
      obtain ⟨⟨_, ga, ea, ja, fa, gb, eb, jb, fb, gc, ec, jc, fc, gd, ed, jd, fd, rfl, rfl, Ta, Ua, Tb, Ub, Tc, Uc, Td, Ud⟩, gu, eu, ju, fu, gv, ev, jv, fv, rfl, rfl, Tu, Uu, Tv, Uv⟩ := KU
      have K6 : Mo w.heap.size w [(gm, [.bool sa, .slice (some ⟨ga, 0, none⟩) na ea, .bool za, .slice (some ⟨ja, 0, none⟩) ma fa, .bool sb, .slice (some ⟨gb, 0, none⟩) nb eb, .bool zb, .slice (some ⟨jb, 0, none⟩) mb fb, .bool sc, .slice (some ⟨gc, 0, none⟩) nc ec, .bool zc, .slice (some ⟨jc, 0, none⟩) mc fc, .bool sd, .slice (some ⟨gd, 0, none⟩) nd ed, .bool zd, .slice (some ⟨jd, 0, none⟩) md fd]), (gz, [.bool su, .slice (some ⟨gu, 0, none⟩) nu eu, .bool zu, .slice (some ⟨ju, 0, none⟩) mu fu, .bool sv, .slice (some ⟨gv, 0, none⟩) nv ev, .bool zv, .slice (some ⟨jv, 0, none⟩) mv fv]), (w.heap.size + 1, [.bool su, .slice Au nu cu, .bool zu, .slice Bu mu du, .bool sv, .slice Av nv cv, .bool zv, .slice Bv mv dv]), (w.heap.size, [.bool sa, .slice Aa na ca, .bool za, .slice Ba ma da, .bool sb, .slice Ab nb cb, .bool zb, .slice Bb mb db, .bool sc, .slice Ac nc cc, .bool zc, .slice Bc mc dc, .bool sd, .slice Ad nd cd, .bool zd, .slice Bd md dd])] [] [(some ⟨jv, 0, none⟩, mv, fv), (some ⟨gv, 0, none⟩, nv, ev), (some ⟨ju, 0, none⟩, mu, fu), (some ⟨gu, 0, none⟩, nu, eu), (some ⟨jd, 0, none⟩, md, fd), (some ⟨gd, 0, none⟩, nd, ed), (some ⟨jc, 0, none⟩, mc, fc), (some ⟨gc, 0, none⟩, nc, ec), (some ⟨jb, 0, none⟩, mb, fb), (some ⟨gb, 0, none⟩, nb, eb), (some ⟨ja, 0, none⟩, ma, fa), (some ⟨ga, 0, none⟩, na, ea)] wc := KT.1
      clear KT
      go_upto_region 4 with (fail)
      as_aux_lemma =>
       have rga := Lib.hid (K6.blk (mE 0 rfl)).rng
       have rgb := Lib.hid (K6.blk (mE 1 rfl)).rng
       go_wp2_with (first | (refine wpList_load_any (by rfl) _ _ rfl (gm) 0 rfl _ _ rga.out Tryz.underlying28 rfl size_ma ?_) | (refine wpList_load_any (by rfl) _ _ rfl (gz) 0 rfl _ _ rgb.out Tryz.underlying30 rfl size_ga ?_))
       refine ((HA.out (some ⟨ga, 0, none⟩) (some ⟨ja, 0, none⟩) na ea ma fa (some ⟨gb, 0, none⟩) (some ⟨jb, 0, none⟩) nb eb mb fb (some ⟨gc, 0, none⟩) (some ⟨jc, 0, none⟩) nc ec mc fc (some ⟨gd, 0, none⟩) (some ⟨jd, 0, none⟩) nd ed md fd (some ⟨gu, 0, none⟩) (some ⟨ju, 0, none⟩) nu eu mu fu (some ⟨gv, 0, none⟩) (some ⟨jv, 0, none⟩) nv ev mv fv _ (⟨Ta.2.1, Ua.2.1, bna, bma⟩ : LmE.at_ wc ((sa, some ⟨ga, 0, none⟩, na, ea, la), (za, some ⟨ja, 0, none⟩, ma, fa, ka))) (⟨Tb.2.1, Ub.2.1, bnb, bmb⟩ : LmE.at_ wc ((sb, some ⟨gb, 0, none⟩, nb, eb, lb), (zb, some ⟨jb, 0, none⟩, mb, fb, kb))) (⟨Tc.2.1, Uc.2.1, bnc, bmc⟩ : LmE.at_ wc ((sc, some ⟨gc, 0, none⟩, nc, ec, lc), (zc, some ⟨jc, 0, none⟩, mc, fc, kc))) (⟨Td.2.1, Ud.2.1, bnd, bmd⟩ : LmE.at_ wc ((sd, some ⟨gd, 0, none⟩, nd, ed, ld), (zd, some ⟨jd, 0, none⟩, md, fd, kd))) (⟨Tu.2.1, Uu.2.1, bnu, bmu⟩ : LmE.at_ wc ((su, some ⟨gu, 0, none⟩, nu, eu, lu), (zu, some ⟨ju, 0, none⟩, mu, fu, ku))) (⟨Tv.2.1, Uv.2.1, bnv, bmv⟩ : LmE.at_ wc ((sv, some ⟨gv, 0, none⟩, nv, ev, lv), (zv, some ⟨jv, 0, none⟩, mv, fv, kv)))).1).mono ?_
       rintro e7 v7 ⟨sg, Ag, ng, cg, zg, Bg, mg, dg, sh, Ah, nh, ch, zh, Bh, mh, dh, rfl, I7_0, I7_1, I7_2, I7_3, O, hb⟩
       have hbx : Below v7.heap.size v7 (v7.alloc (.cells #[.bool sg, .slice Ag ng cg, .bool zg, .slice Bg mg dg, .bool sh, .slice Ah nh ch, .bool zh, .slice Bh mh dh] 30)) := (Below.refl _ _).alloc (Nat.le_refl _) _
       have K7 := ((((((K6.call4 hb O).int I7_3).int I7_2).int I7_1).int I7_0).var (g := v7.heap.size) rfl [.bool sg, .slice Ag ng cg, .bool zg, .slice Bg mg dg, .bool sh, .slice Ah nh ch, .bool zh, .slice Bh mh dh] 30)
       replace Ta := Twl.below (Twl.below Ta hb) hbx
       replace Ua := Twl.below (Twl.below Ua hb) hbx
       replace Tb := Twl.below (Twl.below Tb hb) hbx
       replace Ub := Twl.below (Twl.below Ub hb) hbx
       replace Tc := Twl.below (Twl.below Tc hb) hbx
       replace Uc := Twl.below (Twl.below Uc hb) hbx
       replace Td := Twl.below (Twl.below Td hb) hbx
       replace Ud := Twl.below (Twl.below Ud hb) hbx
       replace Tu := Twl.below (Twl.below Tu hb) hbx
       replace Uu := Twl.below (Twl.below Uu hb) hbx
       replace Tv := Twl.below (Twl.below Tv hb) hbx
       replace Uv := Twl.below (Twl.below Uv hb) hbx
       clear K6 hb hbx O I7_0 I7_1 I7_2 I7_3 rga rgb
       go_upto_region 5 with (fail)
       generalize v7.heap.size = g4 at K7 ⊢
       generalize v7.alloc (.cells #[.bool sg, .slice Ag ng cg, .bool zg, .slice Bg mg dg, .bool sh, .slice Ah nh ch, .bool zh, .slice Bh mh dh] 30) = u7 at K7 Ta Ua Tb Ub Tc Uc Td Ud Tu Uu Tv Uv ⊢
       as_aux_lemma =>
        have rga := Lib.hid (K7.blk (mE 1 rfl)).rng
        have rgb := Lib.hid (K7.blk (mE 2 rfl)).rng
        go_wp2_with (first | (refine wpList_load_any (by rfl) _ _ rfl (gm) 0 rfl _ _ rga.out Tryz.underlying28 rfl size_ma ?_) | (refine wpList_load_any (by rfl) _ _ rfl (gz) 0 rfl _ _ rgb.out Tryz.underlying30 rfl size_ga ?_))
        refine ((HA.out (some ⟨ga, 0, none⟩) (some ⟨ja, 0, none⟩) na ea ma fa (some ⟨gb, 0, none⟩) (some ⟨jb, 0, none⟩) nb eb mb fb (some ⟨gc, 0, none⟩) (some ⟨jc, 0, none⟩) nc ec mc fc (some ⟨gd, 0, none⟩) (some ⟨jd, 0, none⟩) nd ed md fd (some ⟨gu, 0, none⟩) (some ⟨ju, 0, none⟩) nu eu mu fu (some ⟨gv, 0, none⟩) (some ⟨jv, 0, none⟩) nv ev mv fv _ (⟨Ta.2.1, Ua.2.1, bna, bma⟩ : LmE.at_ u7 ((sa, some ⟨ga, 0, none⟩, na, ea, la), (za, some ⟨ja, 0, none⟩, ma, fa, ka))) (⟨Tb.2.1, Ub.2.1, bnb, bmb⟩ : LmE.at_ u7 ((sb, some ⟨gb, 0, none⟩, nb, eb, lb), (zb, some ⟨jb, 0, none⟩, mb, fb, kb))) (⟨Tc.2.1, Uc.2.1, bnc, bmc⟩ : LmE.at_ u7 ((sc, some ⟨gc, 0, none⟩, nc, ec, lc), (zc, some ⟨jc, 0, none⟩, mc, fc, kc))) (⟨Td.2.1, Ud.2.1, bnd, bmd⟩ : LmE.at_ u7 ((sd, some ⟨gd, 0, none⟩, nd, ed, ld), (zd, some ⟨jd, 0, none⟩, md, fd, kd))) (⟨Tu.2.1, Uu.2.1, bnu, bmu⟩ : LmE.at_ u7 ((su, some ⟨gu, 0, none⟩, nu, eu, lu), (zu, some ⟨ju, 0, none⟩, mu, fu, ku))) (⟨Tv.2.1, Uv.2.1, bnv, bmv⟩ : LmE.at_ u7 ((sv, some ⟨gv, 0, none⟩, nv, ev, lv), (zv, some ⟨jv, 0, none⟩, mv, fv, kv)))).1).mono ?_
        rintro e8 v8 ⟨si, Ai, ni, ci, zi, Bi, mi, di, st, At, nt, ct, zt, Bt, mt, dt, rfl, I8_0, I8_1, I8_2, I8_3, O, hb⟩
        have hbx : Below v8.heap.size v8 (v8.alloc (.cells #[.bool si, .slice Ai ni ci, .bool zi, .slice Bi mi di, .bool st, .slice At nt ct, .bool zt, .slice Bt mt dt] 30)) := (Below.refl _ _).alloc (Nat.le_refl _) _
        have K8 := ((((((K7.call4 hb O).int I8_3).int I8_2).int I8_1).int I8_0).var (g := v8.heap.size) rfl [.bool si, .slice Ai ni ci, .bool zi, .slice Bi mi di, .bool st, .slice At nt ct, .bool zt, .slice Bt mt dt] 30)
        replace Ta := Twl.below (Twl.below Ta hb) hbx
        replace Ua := Twl.below (Twl.below Ua hb) hbx
        replace Tb := Twl.below (Twl.below Tb hb) hbx
        replace Ub := Twl.below (Twl.below Ub hb) hbx
        replace Tc := Twl.below (Twl.below Tc hb) hbx
        replace Uc := Twl.below (Twl.below Uc hb) hbx
        replace Td := Twl.below (Twl.below Td hb) hbx
        replace Ud := Twl.below (Twl.below Ud hb) hbx
        replace Tu := Twl.below (Twl.below Tu hb) hbx
        replace Uu := Twl.below (Twl.below Uu hb) hbx
        replace Tv := Twl.below (Twl.below Tv hb) hbx
        replace Uv := Twl.below (Twl.below Uv hb) hbx
        clear K7 hb hbx O I8_0 I8_1 I8_2 I8_3 rga rgb
        go_upto_region 6 with (fail)
        generalize v8.heap.size = g5 at K8 ⊢
        generalize v8.alloc (.cells #[.bool si, .slice Ai ni ci, .bool zi, .slice Bi mi di, .bool st, .slice At nt ct, .bool zt, .slice Bt mt dt] 30) = u8 at K8 Ta Ua Tb Ub Tc Uc Td Ud Tu Uu Tv Uv ⊢
        as_aux_lemma =>
         have rga := Lib.hid (K8.blk (mE 5 rfl)).rng
         have rgb := Lib.hid (K8.blk (mE 4 rfl)).rng
         go_wp2_with (first | (refine wpList_load_any (by rfl) _ _ rfl (w.heap.size) 0 rfl _ _ rga.out Tryz.underlying28 rfl size_ma ?_) | (refine wpList_load_any (by rfl) _ _ rfl (w.heap.size + 1) 0 rfl _ _ rgb.out Tryz.underlying30 rfl size_ga ?_))
         refine ((HA.out Aa Ba na ca ma da Ab Bb nb cb mb db Ac Bc nc cc mc dc Ad Bd nd cd md dd Au Bu nu cu mu du Av Bv nv cv mv dv _ (Ea.out.below K8.1) (Eb.out.below K8.1) (Ec.out.below K8.1) (Ed.out.below K8.1) (Eu.out.below K8.1) (Ev.out.below K8.1)).2.1).mono ?_
         rintro e9 v9 ⟨sp, Ap, np, cp, zp, Bp, mp, dp, sr, Ar, nr, cr, zr, Br, mr, dr, rfl, I9_0, I9_1, I9_2, I9_3, hb⟩
         have hbx : Below v9.heap.size v9 (v9.alloc (.cells #[.bool sp, .slice Ap np cp, .bool zp, .slice Bp mp dp, .bool sr, .slice Ar nr cr, .bool zr, .slice Br mr dr] 30)) := (Below.refl _ _).alloc (Nat.le_refl _) _
         have K9 := ((((((K8.next hb).int I9_3).int I9_2).int I9_1).int I9_0).var (g := v9.heap.size) rfl [.bool sp, .slice Ap np cp, .bool zp, .slice Bp mp dp, .bool sr, .slice Ar nr cr, .bool zr, .slice Br mr dr] 30)
         replace Ta := Twl.below (Twl.below Ta hb) hbx
         replace Ua := Twl.below (Twl.below Ua hb) hbx
         replace Tb := Twl.below (Twl.below Tb hb) hbx
         replace Ub := Twl.below (Twl.below Ub hb) hbx
         replace Tc := Twl.below (Twl.below Tc hb) hbx
         replace Uc := Twl.below (Twl.below Uc hb) hbx
         replace Td := Twl.below (Twl.below Td hb) hbx
         replace Ud := Twl.below (Twl.below Ud hb) hbx
         replace Tu := Twl.below (Twl.below Tu hb) hbx
         replace Uu := Twl.below (Twl.below Uu hb) hbx
         replace Tv := Twl.below (Twl.below Tv hb) hbx
         replace Uv := Twl.below (Twl.below Uv hb) hbx
         clear K8 hb hbx I9_0 I9_1 I9_2 I9_3 rga rgb
         go_upto_region 7 with (fail)
         generalize v9.heap.size = g6 at K9 ⊢
         generalize v9.alloc (.cells #[.bool sp, .slice Ap np cp, .bool zp, .slice Bp mp dp, .bool sr, .slice Ar nr cr, .bool zr, .slice Br mr dr] 30) = u9 at K9 Ta Ua Tb Ub Tc Uc Td Ud Tu Uu Tv Uv ⊢
         have bng := int_len (K9.at_ (mE 8 rfl)) HB.out.1
         have bmg := int_len (K9.at_ (mE 9 rfl)) HB.out.2.1
         have bnh := int_len (K9.at_ (mE 10 rfl)) HB.out.2.2.1
         have bmh := int_len (K9.at_ (mE 11 rfl)) HB.out.2.2.2
         have bni := int_len (K9.at_ (mE 4 rfl)) HB.out.1
         have bmi := int_len (K9.at_ (mE 5 rfl)) HB.out.2.1
         have bnt := int_len (K9.at_ (mE 6 rfl)) HB.out.2.2.1
         have bmt := int_len (K9.at_ (mE 7 rfl)) HB.out.2.2.2
         clear HB
         as_aux_lemma =>
          obtain ⟨cx0_0, cx0_1, cx0_2, cx0_3, cx0_4, cx0_5, cx0_6, cx0_7⟩ := (K9.blk (mE 2 rfl)).c8
          obtain ⟨cy0_0, cy0_1, cy0_2, cy0_3, cy0_4, cy0_5, cy0_6, cy0_7⟩ := (K9.blk (mE 1 rfl)).c8
          obtain ⟨cw0_0, cw0_1, cw0_2, cw0_3, cw0_4, cw0_5, cw0_6, cw0_7⟩ := (K9.blk (mE 0 rfl)).c8
          obtain ⟨cz0_0, cz0_1, cz0_2, cz0_3, cz0_4, cz0_5, cz0_6, cz0_7⟩ := (K9.blk (mE 4 rfl)).c8
          obtain ⟨cp0_0, cp0_1, cp0_2, cp0_3, cp0_4, cp0_5, cp0_6, cp0_7, cp0_8, cp0_9, cp0_10, cp0_11, cp0_12, cp0_13, cp0_14, cp0_15⟩ := (K9.blk (mE 3 rfl)).c16
          obtain ⟨cq0_0, cq0_1, cq0_2, cq0_3, cq0_4, cq0_5, cq0_6, cq0_7⟩ := (K9.blk (mE 5 rfl)).c8
          obtain ⟨cm0_0, cm0_1, cm0_2, cm0_3, cm0_4, cm0_5, cm0_6, cm0_7, cm0_8, cm0_9, cm0_10, cm0_11, cm0_12, cm0_13, cm0_14, cm0_15⟩ := (K9.blk (mE 6 rfl)).c16
          have HTa := Lib.hid Ta
          have HUa := Lib.hid Ua
          have HTb := Lib.hid Tb
          have HUb := Lib.hid Ub
          have HTc := Lib.hid Tc
          have HUc := Lib.hid Uc
          have HTd := Lib.hid Td
          have HUd := Lib.hid Ud
          have HTu := Lib.hid Tu
          have HUu := Lib.hid Uu
          have HTv := Lib.hid Tv
          have HUv := Lib.hid Uv
          have KT : MoT w.heap.size w [(g6, [.bool sp, .slice Ap np cp, .bool zp, .slice Bp mp dp, .bool sr, .slice Ar nr cr, .bool zr, .slice Br mr dr]), (g5, [.bool si, .slice Ai ni ci, .bool zi, .slice Bi mi di, .bool st, .slice At nt ct, .bool zt, .slice Bt mt dt]), (g4, [.bool sg, .slice Ag ng cg, .bool zg, .slice Bg mg dg, .bool sh, .slice Ah nh ch, .bool zh, .slice Bh mh dh]), (gm, [.bool sa, .slice (some ⟨ga, 0, none⟩) na ea, .bool za, .slice (some ⟨ja, 0, none⟩) ma fa, .bool sb, .slice (some ⟨gb, 0, none⟩) nb eb, .bool zb, .slice (some ⟨jb, 0, none⟩) mb fb, .bool sc, .slice (some ⟨gc, 0, none⟩) nc ec, .bool zc, .slice (some ⟨jc, 0, none⟩) mc fc, .bool sd, .slice (some ⟨gd, 0, none⟩) nd ed, .bool zd, .slice (some ⟨jd, 0, none⟩) md fd]), (gz, [.bool su, .slice (some ⟨gu, 0, none⟩) nu eu, .bool zu, .slice (some ⟨ju, 0, none⟩) mu fu, .bool sv, .slice (some ⟨gv, 0, none⟩) nv ev, .bool zv, .slice (some ⟨jv, 0, none⟩) mv fv]), (w.heap.size + 1, [.bool su, .slice Au nu cu, .bool zu, .slice Bu mu du, .bool sv, .slice Av nv cv, .bool zv, .slice Bv mv dv]), (w.heap.size, [.bool sa, .slice Aa na ca, .bool za, .slice Ba ma da, .bool sb, .slice Ab nb cb, .bool zb, .slice Bb mb db, .bool sc, .slice Ac nc cc, .bool zc, .slice Bc mc dc, .bool sd, .slice Ad nd cd, .bool zd, .slice Bd md dd])] [(Ai, ni, ci), (Bi, mi, di), (At, nt, ct), (Bt, mt, dt), (Ag, ng, cg), (Bg, mg, dg), (Ah, nh, ch), (Bh, mh, dh), (some ⟨jv, 0, none⟩, mv, fv), (some ⟨gv, 0, none⟩, nv, ev), (some ⟨ju, 0, none⟩, mu, fu), (some ⟨gu, 0, none⟩, nu, eu), (some ⟨jd, 0, none⟩, md, fd), (some ⟨gd, 0, none⟩, nd, ed), (some ⟨jc, 0, none⟩, mc, fc), (some ⟨gc, 0, none⟩, nc, ec), (some ⟨jb, 0, none⟩, mb, fb), (some ⟨gb, 0, none⟩, nb, eb), (some ⟨ja, 0, none⟩, ma, fa), (some ⟨ga, 0, none⟩, na, ea)] (fun x => Twl x ga na ea la ∧ Twl x ja ma fa ka ∧ Twl x gb nb eb lb ∧ Twl x jb mb fb kb ∧ Twl x gc nc ec lc ∧ Twl x jc mc fc kc ∧ Twl x gd nd ed ld ∧ Twl x jd md fd kd ∧ Twl x gu nu eu lu ∧ Twl x ju mu fu ku ∧ Twl x gv nv ev lv ∧ Twl x jv mv fv kv) u9 := ⟨K9.pick (L' := [(g6, [.bool sp, .slice Ap np cp, .bool zp, .slice Bp mp dp, .bool sr, .slice Ar nr cr, .bool zr, .slice Br mr dr]), (g5, [.bool si, .slice Ai ni ci, .bool zi, .slice Bi mi di, .bool st, .slice At nt ct, .bool zt, .slice Bt mt dt]), (g4, [.bool sg, .slice Ag ng cg, .bool zg, .slice Bg mg dg, .bool sh, .slice Ah nh ch, .bool zh, .slice Bh mh dh]), (gm, [.bool sa, .slice (some ⟨ga, 0, none⟩) na ea, .bool za, .slice (some ⟨ja, 0, none⟩) ma fa, .bool sb, .slice (some ⟨gb, 0, none⟩) nb eb, .bool zb, .slice (some ⟨jb, 0, none⟩) mb fb, .bool sc, .slice (some ⟨gc, 0, none⟩) nc ec, .bool zc, .slice (some ⟨jc, 0, none⟩) mc fc, .bool sd, .slice (some ⟨gd, 0, none⟩) nd ed, .bool zd, .slice (some ⟨jd, 0, none⟩) md fd]), (gz, [.bool su, .slice (some ⟨gu, 0, none⟩) nu eu, .bool zu, .slice (some ⟨ju, 0, none⟩) mu fu, .bool sv, .slice (some ⟨gv, 0, none⟩) nv ev, .bool zv, .slice (some ⟨jv, 0, none⟩) mv fv]), (w.heap.size + 1, [.bool su, .slice Au nu cu, .bool zu, .slice Bu mu du, .bool sv, .slice Av nv cv, .bool zv, .slice Bv mv dv]), (w.heap.size, [.bool sa, .slice Aa na ca, .bool za, .slice Ba ma da, .bool sb, .slice Ab nb cb, .bool zb, .slice Bb mb db, .bool sc, .slice Ac nc cc, .bool zc, .slice Bc mc dc, .bool sd, .slice Ad nd cd, .bool zd, .slice Bd md dd])]) (l' := []) (all_cons (mE 0 rfl) (all_cons (mE 1 rfl) (all_cons (mE 2 rfl) (all_cons (mE 3 rfl) (all_cons (mE 4 rfl) (all_cons (mE 5 rfl) (all_cons (mE 6 rfl) all_nil))))))) all_nil, (by with_reducible repeat (first | exact twl_kept _ _ _ _ | apply KeptP.and)), Ta, Ua, Tb, Ub, Tc, Uc, Td, Ud, Tu, Uu, Tv, Uv⟩
          have KI := Lib.hid K9
          clear K9 Ta Ua Tb Ub Tc Uc Td Ud Tu Uu Tv Uv HTa HUa HTb HUb HTc HUc HTd HUd HTu HUu HTv HUv
          have KY0 := Mm.nil u9
          go_region_held3 (fun w' => w'.cell? ⟨g4, 0, none⟩ = some (.bool sg) ∧ w'.cell? ⟨g4, 1, none⟩ = some (.slice Ag ng cg) ∧ w'.cell? ⟨g4, 2, none⟩ = some (.bool zg) ∧ w'.cell? ⟨g4, 3, none⟩ = some (.slice Bg mg dg) ∧ w'.cell? ⟨g4, 4, none⟩ = some (.bool sh) ∧ w'.cell? ⟨g4, 5, none⟩ = some (.slice Ah nh ch) ∧ w'.cell? ⟨g4, 6, none⟩ = some (.bool zh) ∧ w'.cell? ⟨g4, 7, none⟩ = some (.slice Bh mh dh) ∧ w'.cell? ⟨g5, 0, none⟩ = some (.bool si) ∧ w'.cell? ⟨g5, 1, none⟩ = some (.slice Ai ni ci) ∧ w'.cell? ⟨g5, 2, none⟩ = some (.bool zi) ∧ w'.cell? ⟨g5, 3, none⟩ = some (.slice Bi mi di) ∧ w'.cell? ⟨g5, 4, none⟩ = some (.bool st) ∧ w'.cell? ⟨g5, 5, none⟩ = some (.slice At nt ct) ∧ w'.cell? ⟨g5, 6, none⟩ = some (.bool zt) ∧ w'.cell? ⟨g5, 7, none⟩ = some (.slice Bt mt dt) ∧ w'.cell? ⟨g6, 0, none⟩ = some (.bool sp) ∧ w'.cell? ⟨g6, 1, none⟩ = some (.slice Ap np cp) ∧ w'.cell? ⟨g6, 2, none⟩ = some (.bool zp) ∧ w'.cell? ⟨g6, 3, none⟩ = some (.slice Bp mp dp) ∧ w'.cell? ⟨g6, 4, none⟩ = some (.bool sr) ∧ w'.cell? ⟨g6, 5, none⟩ = some (.slice Ar nr cr) ∧ w'.cell? ⟨g6, 6, none⟩ = some (.bool zr) ∧ w'.cell? ⟨g6, 7, none⟩ = some (.slice Br mr dr) ∧ w'.cell? ⟨gz, 0, none⟩ = some (.bool su) ∧ w'.cell? ⟨gz, 1, none⟩ = some (.slice (some ⟨gu, 0, none⟩) nu eu) ∧ w'.cell? ⟨gz, 2, none⟩ = some (.bool zu) ∧ w'.cell? ⟨gz, 3, none⟩ = some (.slice (some ⟨ju, 0, none⟩) mu fu) ∧ w'.cell? ⟨gz, 4, none⟩ = some (.bool sv) ∧ w'.cell? ⟨gz, 5, none⟩ = some (.slice (some ⟨gv, 0, none⟩) nv ev) ∧ w'.cell? ⟨gz, 6, none⟩ = some (.bool zv) ∧ w'.cell? ⟨gz, 7, none⟩ = some (.slice (some ⟨jv, 0, none⟩) mv fv) ∧ w'.cell? ⟨gm, 0, none⟩ = some (.bool sa) ∧ w'.cell? ⟨gm, 1, none⟩ = some (.slice (some ⟨ga, 0, none⟩) na ea) ∧ w'.cell? ⟨gm, 2, none⟩ = some (.bool za) ∧ w'.cell? ⟨gm, 3, none⟩ = some (.slice (some ⟨ja, 0, none⟩) ma fa) ∧ w'.cell? ⟨gm, 4, none⟩ = some (.bool sb) ∧ w'.cell? ⟨gm, 5, none⟩ = some (.slice (some ⟨gb, 0, none⟩) nb eb) ∧ w'.cell? ⟨gm, 6, none⟩ = some (.bool zb) ∧ w'.cell? ⟨gm, 7, none⟩ = some (.slice (some ⟨jb, 0, none⟩) mb fb) ∧ w'.cell? ⟨gm, 8, none⟩ = some (.bool sc) ∧ w'.cell? ⟨gm, 9, none⟩ = some (.slice (some ⟨gc, 0, none⟩) nc ec) ∧ w'.cell? ⟨gm, 10, none⟩ = some (.bool zc) ∧ w'.cell? ⟨gm, 11, none⟩ = some (.slice (some ⟨jc, 0, none⟩) mc fc) ∧ w'.cell? ⟨gm, 12, none⟩ = some (.bool sd) ∧ w'.cell? ⟨gm, 13, none⟩ = some (.slice (some ⟨gd, 0, none⟩) nd ed) ∧ w'.cell? ⟨gm, 14, none⟩ = some (.bool zd) ∧ w'.cell? ⟨gm, 15, none⟩ = some (.slice (some ⟨jd, 0, none⟩) md fd) ∧ w'.cell? ⟨w.heap.size + 1, 0, none⟩ = some (.bool su) ∧ w'.cell? ⟨w.heap.size + 1, 1, none⟩ = some (.slice Au nu cu) ∧ w'.cell? ⟨w.heap.size + 1, 2, none⟩ = some (.bool zu) ∧ w'.cell? ⟨w.heap.size + 1, 3, none⟩ = some (.slice Bu mu du) ∧ w'.cell? ⟨w.heap.size + 1, 4, none⟩ = some (.bool sv) ∧ w'.cell? ⟨w.heap.size + 1, 5, none⟩ = some (.slice Av nv cv) ∧ w'.cell? ⟨w.heap.size + 1, 6, none⟩ = some (.bool zv) ∧ w'.cell? ⟨w.heap.size + 1, 7, none⟩ = some (.slice Bv mv dv) ∧ w'.cell? ⟨w.heap.size, 0, none⟩ = some (.bool sa) ∧ w'.cell? ⟨w.heap.size, 1, none⟩ = some (.slice Aa na ca) ∧ w'.cell? ⟨w.heap.size, 2, none⟩ = some (.bool za) ∧ w'.cell? ⟨w.heap.size, 3, none⟩ = some (.slice Ba ma da) ∧ w'.cell? ⟨w.heap.size, 4, none⟩ = some (.bool sb) ∧ w'.cell? ⟨w.heap.size, 5, none⟩ = some (.slice Ab nb cb) ∧ w'.cell? ⟨w.heap.size, 6, none⟩ = some (.bool zb) ∧ w'.cell? ⟨w.heap.size, 7, none⟩ = some (.slice Bb mb db) ∧ w'.cell? ⟨w.heap.size, 8, none⟩ = some (.bool sc) ∧ w'.cell? ⟨w.heap.size, 9, none⟩ = some (.slice Ac nc cc) ∧ w'.cell? ⟨w.heap.size, 10, none⟩ = some (.bool zc) ∧ w'.cell? ⟨w.heap.size, 11, none⟩ = some (.slice Bc mc dc) ∧ w'.cell? ⟨w.heap.size, 12, none⟩ = some (.bool sd) ∧ w'.cell? ⟨w.heap.size, 13, none⟩ = some (.slice Ad nd cd) ∧ w'.cell? ⟨w.heap.size, 14, none⟩ = some (.bool zd) ∧ w'.cell? ⟨w.heap.size, 15, none⟩ = some (.slice Bd md dd))
           (go_keep)
           (first
            | (go_at_call 19; apply Calls.withMoT (w0 := w); (case K => with_reducible repeat (first | exact KT5 | apply MoT.drew | apply MoT.drewN)); intro KX; apply Calls.withMm (w0 := u9); (case K => with_reducible repeat (first | exact KY5 | apply Mm.drew | apply Mm.drewN)); intro KY; (refine (left_gauss_any su Au nu cu lu zu Bu mu du ku sv Av nv cv lv zv Bv mv dv kv gu eu ju fu gv ev jv fv _ (Eu.out.below KX.1.1) KX.2.2.2.2.2.2.2.2.2.2.1 KX.2.2.2.2.2.2.2.2.2.2.2.1 (Ev.out.below KX.1.1) KX.2.2.2.2.2.2.2.2.2.2.2.2.1 KX.2.2.2.2.2.2.2.2.2.2.2.2.2).mono ?_); rintro e26 w26 ⟨rfl, hb⟩; have KT6 := KX.next hb; have KY6 := KY.next hb; clear KX KY hb; obtain ⟨cx6_0, cx6_1, cx6_2, cx6_3, cx6_4, cx6_5, cx6_6, cx6_7⟩ := (KT6.blk (mE 2 rfl)).c8; obtain ⟨cy6_0, cy6_1, cy6_2, cy6_3, cy6_4, cy6_5, cy6_6, cy6_7⟩ := (KT6.blk (mE 1 rfl)).c8; obtain ⟨cw6_0, cw6_1, cw6_2, cw6_3, cw6_4, cw6_5, cw6_6, cw6_7⟩ := (KT6.blk (mE 0 rfl)).c8; obtain ⟨cz6_0, cz6_1, cz6_2, cz6_3, cz6_4, cz6_5, cz6_6, cz6_7⟩ := (KT6.blk (mE 4 rfl)).c8; obtain ⟨cp6_0, cp6_1, cp6_2, cp6_3, cp6_4, cp6_5, cp6_6, cp6_7, cp6_8, cp6_9, cp6_10, cp6_11, cp6_12, cp6_13, cp6_14, cp6_15⟩ := (KT6.blk (mE 3 rfl)).c16; obtain ⟨cq6_0, cq6_1, cq6_2, cq6_3, cq6_4, cq6_5, cq6_6, cq6_7⟩ := (KT6.blk (mE 5 rfl)).c8; obtain ⟨cm6_0, cm6_1, cm6_2, cm6_3, cm6_4, cm6_5, cm6_6, cm6_7, cm6_8, cm6_9, cm6_10, cm6_11, cm6_12, cm6_13, cm6_14, cm6_15⟩ := (KT6.blk (mE 6 rfl)).c16; clear cx5_0 cx5_1 cx5_2 cx5_3 cx5_4 cx5_5 cx5_6 cx5_7 cy5_0 cy5_1 cy5_2 cy5_3 cy5_4 cy5_5 cy5_6 cy5_7 cw5_0 cw5_1 cw5_2 cw5_3 cw5_4 cw5_5 cw5_6 cw5_7 cz5_0 cz5_1 cz5_2 cz5_3 cz5_4 cz5_5 cz5_6 cz5_7 cp5_0 cp5_1 cp5_2 cp5_3 cp5_4 cp5_5 cp5_6 cp5_7 cp5_8 cp5_9 cp5_10 cp5_11 cp5_12 cp5_13 cp5_14 cp5_15 cq5_0 cq5_1 cq5_2 cq5_3 cq5_4 cq5_5 cq5_6 cq5_7 cm5_0 cm5_1 cm5_2 cm5_3 cm5_4 cm5_5 cm5_6 cm5_7 cm5_8 cm5_9 cm5_10 cm5_11 cm5_12 cm5_13 cm5_14 cm5_15)
            | (go_at_call 18; apply Calls.withMoT (w0 := w); (case K => with_reducible repeat (first | exact KT4 | apply MoT.drew | apply MoT.drewN)); intro KX; apply Calls.withMm (w0 := u9); (case K => with_reducible repeat (first | exact KY4 | apply Mm.drew | apply Mm.drewN)); intro KY; (refine (left_matrix_any sa Aa na ca la za Ba ma da ka sb Ab nb cb lb zb Bb mb db kb sc Ac nc cc lc zc Bc mc dc kc sd Ad nd cd ld zd Bd md dd kd ga ea ja fa gb eb jb fb gc ec jc fc gd ed jd fd _ (Ea.out.below KX.1.1) KX.2.2.1 KX.2.2.2.1 (Eb.out.below KX.1.1) KX.2.2.2.2.1 KX.2.2.2.2.2.1 (Ec.out.below KX.1.1) KX.2.2.2.2.2.2.1 KX.2.2.2.2.2.2.2.1 (Ed.out.below KX.1.1) KX.2.2.2.2.2.2.2.2.1 KX.2.2.2.2.2.2.2.2.2.1).mono ?_); rintro e25 w25 ⟨rfl, hb⟩; have KT5 := KX.next hb; have KY5 := KY.next hb; clear KX KY hb; obtain ⟨cx5_0, cx5_1, cx5_2, cx5_3, cx5_4, cx5_5, cx5_6, cx5_7⟩ := (KT5.blk (mE 2 rfl)).c8; obtain ⟨cy5_0, cy5_1, cy5_2, cy5_3, cy5_4, cy5_5, cy5_6, cy5_7⟩ := (KT5.blk (mE 1 rfl)).c8; obtain ⟨cw5_0, cw5_1, cw5_2, cw5_3, cw5_4, cw5_5, cw5_6, cw5_7⟩ := (KT5.blk (mE 0 rfl)).c8; obtain ⟨cz5_0, cz5_1, cz5_2, cz5_3, cz5_4, cz5_5, cz5_6, cz5_7⟩ := (KT5.blk (mE 4 rfl)).c8; obtain ⟨cp5_0, cp5_1, cp5_2, cp5_3, cp5_4, cp5_5, cp5_6, cp5_7, cp5_8, cp5_9, cp5_10, cp5_11, cp5_12, cp5_13, cp5_14, cp5_15⟩ := (KT5.blk (mE 3 rfl)).c16; obtain ⟨cq5_0, cq5_1, cq5_2, cq5_3, cq5_4, cq5_5, cq5_6, cq5_7⟩ := (KT5.blk (mE 5 rfl)).c8; obtain ⟨cm5_0, cm5_1, cm5_2, cm5_3, cm5_4, cm5_5, cm5_6, cm5_7, cm5_8, cm5_9, cm5_10, cm5_11, cm5_12, cm5_13, cm5_14, cm5_15⟩ := (KT5.blk (mE 6 rfl)).c16; clear cx4_0 cx4_1 cx4_2 cx4_3 cx4_4 cx4_5 cx4_6 cx4_7 cy4_0 cy4_1 cy4_2 cy4_3 cy4_4 cy4_5 cy4_6 cy4_7 cw4_0 cw4_1 cw4_2 cw4_3 cw4_4 cw4_5 cw4_6 cw4_7 cz4_0 cz4_1 cz4_2 cz4_3 cz4_4 cz4_5 cz4_6 cz4_7 cp4_0 cp4_1 cp4_2 cp4_3 cp4_4 cp4_5 cp4_6 cp4_7 cp4_8 cp4_9 cp4_10 cp4_11 cp4_12 cp4_13 cp4_14 cp4_15 cq4_0 cq4_1 cq4_2 cq4_3 cq4_4 cq4_5 cq4_6 cq4_7 cm4_0 cm4_1 cm4_2 cm4_3 cm4_4 cm4_5 cm4_6 cm4_7 cm4_8 cm4_9 cm4_10 cm4_11 cm4_12 cm4_13 cm4_14 cm4_15)
            | (go_at_call 17; apply Calls.withMoT (w0 := w); (case K => with_reducible repeat (first | exact KT3 | apply MoT.drew | apply MoT.drewN)); intro KX; apply Calls.withMm (w0 := u9); (case K => with_reducible repeat (first | exact KY3 | apply Mm.drew | apply Mm.drewN)); intro KY; (refine ((HA.out Aa Ba na ca ma da Ab Bb nb cb mb db Ac Bc nc cc mc dc Ad Bd nd cd md dd Au Bu nu cu mu du Av Bv nv cv mv dv _ (Ea.out.below KX.1.1) (Eb.out.below KX.1.1) (Ec.out.below KX.1.1) (Ed.out.below KX.1.1) (Eu.out.below KX.1.1) (Ev.out.below KX.1.1)).2.2.2).mono ?_); rintro e24 w24 ⟨rfl, hb⟩; have KT4 := KX.next hb; have KY4 := KY.next hb; clear KX KY hb; obtain ⟨cx4_0, cx4_1, cx4_2, cx4_3, cx4_4, cx4_5, cx4_6, cx4_7⟩ := (KT4.blk (mE 2 rfl)).c8; obtain ⟨cy4_0, cy4_1, cy4_2, cy4_3, cy4_4, cy4_5, cy4_6, cy4_7⟩ := (KT4.blk (mE 1 rfl)).c8; obtain ⟨cw4_0, cw4_1, cw4_2, cw4_3, cw4_4, cw4_5, cw4_6, cw4_7⟩ := (KT4.blk (mE 0 rfl)).c8; obtain ⟨cz4_0, cz4_1, cz4_2, cz4_3, cz4_4, cz4_5, cz4_6, cz4_7⟩ := (KT4.blk (mE 4 rfl)).c8; obtain ⟨cp4_0, cp4_1, cp4_2, cp4_3, cp4_4, cp4_5, cp4_6, cp4_7, cp4_8, cp4_9, cp4_10, cp4_11, cp4_12, cp4_13, cp4_14, cp4_15⟩ := (KT4.blk (mE 3 rfl)).c16; obtain ⟨cq4_0, cq4_1, cq4_2, cq4_3, cq4_4, cq4_5, cq4_6, cq4_7⟩ := (KT4.blk (mE 5 rfl)).c8; obtain ⟨cm4_0, cm4_1, cm4_2, cm4_3, cm4_4, cm4_5, cm4_6, cm4_7, cm4_8, cm4_9, cm4_10, cm4_11, cm4_12, cm4_13, cm4_14, cm4_15⟩ := (KT4.blk (mE 6 rfl)).c16; clear cx3_0 cx3_1 cx3_2 cx3_3 cx3_4 cx3_5 cx3_6 cx3_7 cy3_0 cy3_1 cy3_2 cy3_3 cy3_4 cy3_5 cy3_6 cy3_7 cw3_0 cw3_1 cw3_2 cw3_3 cw3_4 cw3_5 cw3_6 cw3_7 cz3_0 cz3_1 cz3_2 cz3_3 cz3_4 cz3_5 cz3_6 cz3_7 cp3_0 cp3_1 cp3_2 cp3_3 cp3_4 cp3_5 cp3_6 cp3_7 cp3_8 cp3_9 cp3_10 cp3_11 cp3_12 cp3_13 cp3_14 cp3_15 cq3_0 cq3_1 cq3_2 cq3_3 cq3_4 cq3_5 cq3_6 cq3_7 cm3_0 cm3_1 cm3_2 cm3_3 cm3_4 cm3_5 cm3_6 cm3_7 cm3_8 cm3_9 cm3_10 cm3_11 cm3_12 cm3_13 cm3_14 cm3_15)
            | (go_at_call 16; apply Calls.withMoT (w0 := w); (case K => with_reducible repeat (first | exact KT2 | apply MoT.drew | apply MoT.drewN)); intro KX; apply Calls.withMm (w0 := u9); (case K => with_reducible repeat (first | exact KY2 | apply Mm.drew | apply Mm.drewN)); intro KY; (refine ((HA.out (some ⟨ga, 0, none⟩) (some ⟨ja, 0, none⟩) na ea ma fa (some ⟨gb, 0, none⟩) (some ⟨jb, 0, none⟩) nb eb mb fb (some ⟨gc, 0, none⟩) (some ⟨jc, 0, none⟩) nc ec mc fc (some ⟨gd, 0, none⟩) (some ⟨jd, 0, none⟩) nd ed md fd (some ⟨gu, 0, none⟩) (some ⟨ju, 0, none⟩) nu eu mu fu (some ⟨gv, 0, none⟩) (some ⟨jv, 0, none⟩) nv ev mv fv _ (⟨KX.2.2.1.2.1, KX.2.2.2.1.2.1, bna, bma⟩ : LmE.at_ _ ((sa, some ⟨ga, 0, none⟩, na, ea, la), (za, some ⟨ja, 0, none⟩, ma, fa, ka))) (⟨KX.2.2.2.2.1.2.1, KX.2.2.2.2.2.1.2.1, bnb, bmb⟩ : LmE.at_ _ ((sb, some ⟨gb, 0, none⟩, nb, eb, lb), (zb, some ⟨jb, 0, none⟩, mb, fb, kb))) (⟨KX.2.2.2.2.2.2.1.2.1, KX.2.2.2.2.2.2.2.1.2.1, bnc, bmc⟩ : LmE.at_ _ ((sc, some ⟨gc, 0, none⟩, nc, ec, lc), (zc, some ⟨jc, 0, none⟩, mc, fc, kc))) (⟨KX.2.2.2.2.2.2.2.2.1.2.1, KX.2.2.2.2.2.2.2.2.2.1.2.1, bnd, bmd⟩ : LmE.at_ _ ((sd, some ⟨gd, 0, none⟩, nd, ed, ld), (zd, some ⟨jd, 0, none⟩, md, fd, kd))) (⟨KX.2.2.2.2.2.2.2.2.2.2.1.2.1, KX.2.2.2.2.2.2.2.2.2.2.2.1.2.1, bnu, bmu⟩ : LmE.at_ _ ((su, some ⟨gu, 0, none⟩, nu, eu, lu), (zu, some ⟨ju, 0, none⟩, mu, fu, ku))) (⟨KX.2.2.2.2.2.2.2.2.2.2.2.2.1.2.1, KX.2.2.2.2.2.2.2.2.2.2.2.2.2.2.1, bnv, bmv⟩ : LmE.at_ _ ((sv, some ⟨gv, 0, none⟩, nv, ev, lv), (zv, some ⟨jv, 0, none⟩, mv, fv, kv)))).2.2.1).mono ?_); rintro e23 w23 ⟨rfl, hb⟩; have KT3 := KX.next hb; have KY3 := KY.next hb; clear KX KY hb; obtain ⟨cx3_0, cx3_1, cx3_2, cx3_3, cx3_4, cx3_5, cx3_6, cx3_7⟩ := (KT3.blk (mE 2 rfl)).c8; obtain ⟨cy3_0, cy3_1, cy3_2, cy3_3, cy3_4, cy3_5, cy3_6, cy3_7⟩ := (KT3.blk (mE 1 rfl)).c8; obtain ⟨cw3_0, cw3_1, cw3_2, cw3_3, cw3_4, cw3_5, cw3_6, cw3_7⟩ := (KT3.blk (mE 0 rfl)).c8; obtain ⟨cz3_0, cz3_1, cz3_2, cz3_3, cz3_4, cz3_5, cz3_6, cz3_7⟩ := (KT3.blk (mE 4 rfl)).c8; obtain ⟨cp3_0, cp3_1, cp3_2, cp3_3, cp3_4, cp3_5, cp3_6, cp3_7, cp3_8, cp3_9, cp3_10, cp3_11, cp3_12, cp3_13, cp3_14, cp3_15⟩ := (KT3.blk (mE 3 rfl)).c16; obtain ⟨cq3_0, cq3_1, cq3_2, cq3_3, cq3_4, cq3_5, cq3_6, cq3_7⟩ := (KT3.blk (mE 5 rfl)).c8; obtain ⟨cm3_0, cm3_1, cm3_2, cm3_3, cm3_4, cm3_5, cm3_6, cm3_7, cm3_8, cm3_9, cm3_10, cm3_11, cm3_12, cm3_13, cm3_14, cm3_15⟩ := (KT3.blk (mE 6 rfl)).c16; clear cx2_0 cx2_1 cx2_2 cx2_3 cx2_4 cx2_5 cx2_6 cx2_7 cy2_0 cy2_1 cy2_2 cy2_3 cy2_4 cy2_5 cy2_6 cy2_7 cw2_0 cw2_1 cw2_2 cw2_3 cw2_4 cw2_5 cw2_6 cw2_7 cz2_0 cz2_1 cz2_2 cz2_3 cz2_4 cz2_5 cz2_6 cz2_7 cp2_0 cp2_1 cp2_2 cp2_3 cp2_4 cp2_5 cp2_6 cp2_7 cp2_8 cp2_9 cp2_10 cp2_11 cp2_12 cp2_13 cp2_14 cp2_15 cq2_0 cq2_1 cq2_2 cq2_3 cq2_4 cq2_5 cq2_6 cq2_7 cm2_0 cm2_1 cm2_2 cm2_3 cm2_4 cm2_5 cm2_6 cm2_7 cm2_8 cm2_9 cm2_10 cm2_11 cm2_12 cm2_13 cm2_14 cm2_15)
            | (go_at_call 15; apply Calls.withMoT (w0 := w); (case K => with_reducible repeat (first | exact KT1 | apply MoT.drew | apply MoT.drewN)); intro KX; apply Calls.withMm (w0 := u9); (case K => with_reducible repeat (first | exact KY1 | apply Mm.drew | apply Mm.drewN)); intro KY; (refine (same_gauss_int si zi Ai Bi ni ci mi di st zt At Bt nt ct mt dt sp zp Ap Bp np cp mp dp sr zr Ar Br nr cr mr dr x y x' y' _ (((KI.out.next KY.1).at_ (mE 4 rfl))) (((KI.out.next KY.1).at_ (mE 5 rfl))) (((KI.out.next KY.1).at_ (mE 6 rfl))) (((KI.out.next KY.1).at_ (mE 7 rfl))) (((KI.out.next KY.1).at_ (mE 0 rfl))) (((KI.out.next KY.1).at_ (mE 1 rfl))) (((KI.out.next KY.1).at_ (mE 2 rfl))) (((KI.out.next KY.1).at_ (mE 3 rfl))) (by omega) (by omega) (by omega) (by omega)).mono ?_); rintro e22 w22 ⟨rfl, hb⟩; have KT2 := KX.next hb; have KY2 := KY.next hb; clear KX KY hb; obtain ⟨cx2_0, cx2_1, cx2_2, cx2_3, cx2_4, cx2_5, cx2_6, cx2_7⟩ := (KT2.blk (mE 2 rfl)).c8; obtain ⟨cy2_0, cy2_1, cy2_2, cy2_3, cy2_4, cy2_5, cy2_6, cy2_7⟩ := (KT2.blk (mE 1 rfl)).c8; obtain ⟨cw2_0, cw2_1, cw2_2, cw2_3, cw2_4, cw2_5, cw2_6, cw2_7⟩ := (KT2.blk (mE 0 rfl)).c8; obtain ⟨cz2_0, cz2_1, cz2_2, cz2_3, cz2_4, cz2_5, cz2_6, cz2_7⟩ := (KT2.blk (mE 4 rfl)).c8; obtain ⟨cp2_0, cp2_1, cp2_2, cp2_3, cp2_4, cp2_5, cp2_6, cp2_7, cp2_8, cp2_9, cp2_10, cp2_11, cp2_12, cp2_13, cp2_14, cp2_15⟩ := (KT2.blk (mE 3 rfl)).c16; obtain ⟨cq2_0, cq2_1, cq2_2, cq2_3, cq2_4, cq2_5, cq2_6, cq2_7⟩ := (KT2.blk (mE 5 rfl)).c8; obtain ⟨cm2_0, cm2_1, cm2_2, cm2_3, cm2_4, cm2_5, cm2_6, cm2_7, cm2_8, cm2_9, cm2_10, cm2_11, cm2_12, cm2_13, cm2_14, cm2_15⟩ := (KT2.blk (mE 6 rfl)).c16; clear cx1_0 cx1_1 cx1_2 cx1_3 cx1_4 cx1_5 cx1_6 cx1_7 cy1_0 cy1_1 cy1_2 cy1_3 cy1_4 cy1_5 cy1_6 cy1_7 cw1_0 cw1_1 cw1_2 cw1_3 cw1_4 cw1_5 cw1_6 cw1_7 cz1_0 cz1_1 cz1_2 cz1_3 cz1_4 cz1_5 cz1_6 cz1_7 cp1_0 cp1_1 cp1_2 cp1_3 cp1_4 cp1_5 cp1_6 cp1_7 cp1_8 cp1_9 cp1_10 cp1_11 cp1_12 cp1_13 cp1_14 cp1_15 cq1_0 cq1_1 cq1_2 cq1_3 cq1_4 cq1_5 cq1_6 cq1_7 cm1_0 cm1_1 cm1_2 cm1_3 cm1_4 cm1_5 cm1_6 cm1_7 cm1_8 cm1_9 cm1_10 cm1_11 cm1_12 cm1_13 cm1_14 cm1_15)
            | (go_at_call 15; apply Calls.withMoT (w0 := w); (case K => with_reducible repeat (first | exact KT | apply MoT.drew | apply MoT.drewN)); intro KX; apply Calls.withMm (w0 := u9); (case K => with_reducible repeat (first | exact KY0 | apply Mm.drew | apply Mm.drewN)); intro KY; (refine (same_gauss_int sg zg Ag Bg ng cg mg dg sh zh Ah Bh nh ch mh dh sp zp Ap Bp np cp mp dp sr zr Ar Br nr cr mr dr x y x' y' _ (((KI.out.next KY.1).at_ (mE 8 rfl))) (((KI.out.next KY.1).at_ (mE 9 rfl))) (((KI.out.next KY.1).at_ (mE 10 rfl))) (((KI.out.next KY.1).at_ (mE 11 rfl))) (((KI.out.next KY.1).at_ (mE 0 rfl))) (((KI.out.next KY.1).at_ (mE 1 rfl))) (((KI.out.next KY.1).at_ (mE 2 rfl))) (((KI.out.next KY.1).at_ (mE 3 rfl))) (by omega) (by omega) (by omega) (by omega)).mono ?_); rintro e21 w21 ⟨rfl, hb⟩; have KT1 := KX.next hb; have KY1 := KY.next hb; clear KX KY hb; obtain ⟨cx1_0, cx1_1, cx1_2, cx1_3, cx1_4, cx1_5, cx1_6, cx1_7⟩ := (KT1.blk (mE 2 rfl)).c8; obtain ⟨cy1_0, cy1_1, cy1_2, cy1_3, cy1_4, cy1_5, cy1_6, cy1_7⟩ := (KT1.blk (mE 1 rfl)).c8; obtain ⟨cw1_0, cw1_1, cw1_2, cw1_3, cw1_4, cw1_5, cw1_6, cw1_7⟩ := (KT1.blk (mE 0 rfl)).c8; obtain ⟨cz1_0, cz1_1, cz1_2, cz1_3, cz1_4, cz1_5, cz1_6, cz1_7⟩ := (KT1.blk (mE 4 rfl)).c8; obtain ⟨cp1_0, cp1_1, cp1_2, cp1_3, cp1_4, cp1_5, cp1_6, cp1_7, cp1_8, cp1_9, cp1_10, cp1_11, cp1_12, cp1_13, cp1_14, cp1_15⟩ := (KT1.blk (mE 3 rfl)).c16; obtain ⟨cq1_0, cq1_1, cq1_2, cq1_3, cq1_4, cq1_5, cq1_6, cq1_7⟩ := (KT1.blk (mE 5 rfl)).c8; obtain ⟨cm1_0, cm1_1, cm1_2, cm1_3, cm1_4, cm1_5, cm1_6, cm1_7, cm1_8, cm1_9, cm1_10, cm1_11, cm1_12, cm1_13, cm1_14, cm1_15⟩ := (KT1.blk (mE 6 rfl)).c16; clear cx0_0 cx0_1 cx0_2 cx0_3 cx0_4 cx0_5 cx0_6 cx0_7 cy0_0 cy0_1 cy0_2 cy0_3 cy0_4 cy0_5 cy0_6 cy0_7 cw0_0 cw0_1 cw0_2 cw0_3 cw0_4 cw0_5 cw0_6 cw0_7 cz0_0 cz0_1 cz0_2 cz0_3 cz0_4 cz0_5 cz0_6 cz0_7 cp0_0 cp0_1 cp0_2 cp0_3 cp0_4 cp0_5 cp0_6 cp0_7 cp0_8 cp0_9 cp0_10 cp0_11 cp0_12 cp0_13 cp0_14 cp0_15 cq0_0 cq0_1 cq0_2 cq0_3 cq0_4 cq0_5 cq0_6 cq0_7 cm0_0 cm0_1 cm0_2 cm0_3 cm0_4 cm0_5 cm0_6 cm0_7 cm0_8 cm0_9 cm0_10 cm0_11 cm0_12 cm0_13 cm0_14 cm0_15)
            | fail)
          have K10 := KT6.1
          clear KT KT1 KT2 KT3 KT4 KT5 KT6 KY0 KY1 KY2 KY3 KY4 KY5 KY6 KI HA Ea Eb Ec Ed Eu Ev cx6_0 cx6_1 cx6_2 cx6_3 cx6_4 cx6_5 cx6_6 cx6_7 cy6_0 cy6_1 cy6_2 cy6_3 cy6_4 cy6_5 cy6_6 cy6_7 cw6_0 cw6_1 cw6_2 cw6_3 cw6_4 cw6_5 cw6_6 cw6_7 cz6_0 cz6_1 cz6_2 cz6_3 cz6_4 cz6_5 cz6_6 cz6_7 cp6_0 cp6_1 cp6_2 cp6_3 cp6_4 cp6_5 cp6_6 cp6_7 cp6_8 cp6_9 cp6_10 cp6_11 cp6_12 cp6_13 cp6_14 cp6_15 cq6_0 cq6_1 cq6_2 cq6_3 cq6_4 cq6_5 cq6_6 cq6_7 cm6_0 cm6_1 cm6_2 cm6_3 cm6_4 cm6_5 cm6_6 cm6_7 cm6_8 cm6_9 cm6_10 cm6_11 cm6_12 cm6_13 cm6_14 cm6_15
          as_aux_lemma =>
           have OB : Owns w.heap.size w26 [(Ag, ng, cg), (Bg, mg, dg), (Ah, nh, ch), (Bh, mh, dh), (Ai, ni, ci), (Bi, mi, di), (At, nt, ct), (Bt, mt, dt), (some ⟨ga, 0, none⟩, na, ea), (some ⟨ja, 0, none⟩, ma, fa), (some ⟨gb, 0, none⟩, nb, eb), (some ⟨jb, 0, none⟩, mb, fb), (some ⟨gc, 0, none⟩, nc, ec), (some ⟨jc, 0, none⟩, mc, fc), (some ⟨gd, 0, none⟩, nd, ed), (some ⟨jd, 0, none⟩, md, fd), (some ⟨gu, 0, none⟩, nu, eu), (some ⟨ju, 0, none⟩, mu, fu), (some ⟨gv, 0, none⟩, nv, ev), (some ⟨jv, 0, none⟩, mv, fv)] := K10.all.sel [4, 5, 6, 7, 0, 1, 2, 3, 19, 18, 17, 16, 15, 14, 13, 12, 11, 10, 9, 8] (by decide) (by intro i hi; simp at hi ⊢; omega)
           have KB := K10
           have k0 := bkL_new w.heap.size w26
           have z0 : Below w26.heap.size w26 (w26.alloc (.cells #[.int .i64 0, .slice none 0 0, .slice none 0 0, .slice none 0 0, .slice none 0 0, .slice none 0 0, .slice none 0 0, .slice none 0 0, .slice none 0 0, .slice none 0 0, .slice none 0 0, .slice none 0 0, .slice none 0 0, .slice none 0 0, .slice none 0 0, .slice none 0 0, .slice none 0 0] 59)) := (Below.refl _ _).alloc (Nat.le_refl _) _
           go_upto_region 10 with (fail)
           obtain ⟨BB, hBB⟩ : ∃ B, w26.heap.size = B := ⟨_, rfl⟩
           rw [hBB] at k0 z0 ⊢
           generalize w26.alloc (.cells #[.int .i64 0, .slice none 0 0, .slice none 0 0, .slice none 0 0, .slice none 0 0, .slice none 0 0, .slice none 0 0, .slice none 0 0, .slice none 0 0, .slice none 0 0, .slice none 0 0, .slice none 0 0, .slice none 0 0, .slice none 0 0, .slice none 0 0, .slice none 0 0, .slice none 0 0] 59) = b0 at k0 z0 ⊢
           as_aux_lemma =>
            have z0' := z0
            rw [← hBB] at z0'
            have KX := KB.next z0'
            have rgx := Lib.hid (KX.blk (mE 2 rfl)).rng
            have hsz : BB ≤ b0.heap.size := by have := z0'.size; omega
            go_wp2_with (first | (refine wpList_load_any (by rfl) _ _ rfl (g4) 0 rfl _ _ rgx.out Tryz.underlying30 rfl size_ga ?_))
            refine (bk_gauss BB w.heap.size sg zg Ag Bg ng cg mg dg sh zh Ah Bh nh ch mh dh [] w26 b0 k0 ⟨OB.1 _ (mE 0 rfl), by omega⟩ ⟨OB.1 _ (mE 1 rfl), by omega⟩ ⟨OB.1 _ (mE 2 rfl), by omega⟩ ⟨OB.1 _ (mE 3 rfl), by omega⟩ (by simp) hsz).mono ?_
            rintro e30 b1 ⟨rfl, k1, zz, _⟩
            have z1 := z0.trans zz
            clear KX zz hsz z0 z0' k0 rgx
            replace k1 : BkL w.heap.size w26 b1 BB [(Ag, ng, cg), (Bg, mg, dg), (Ah, nh, ch), (Bh, mh, dh)] := k1
            as_aux_lemma =>
             have z1' := z1
             rw [← hBB] at z1'
             have KX := KB.next z1'
             have rgx := Lib.hid (KX.blk (mE 1 rfl)).rng
             have hsz : BB ≤ b1.heap.size := by have := z1'.size; omega
             go_wp2_with (first | (refine wpList_load_any (by rfl) _ _ rfl (g5) 0 rfl _ _ rgx.out Tryz.underlying30 rfl size_ga ?_))
             refine (bk_gauss BB w.heap.size si zi Ai Bi ni ci mi di st zt At Bt nt ct mt dt [(Ag, ng, cg), (Bg, mg, dg), (Ah, nh, ch), (Bh, mh, dh)] w26 b1 k1 ⟨OB.1 _ (mE 4 rfl), by omega⟩ ⟨OB.1 _ (mE 5 rfl), by omega⟩ ⟨OB.1 _ (mE 6 rfl), by omega⟩ ⟨OB.1 _ (mE 7 rfl), by omega⟩ (by simp) hsz).mono ?_
             rintro e31 b2 ⟨rfl, k2, zz, _⟩
             have z2 := z1.trans zz
             clear KX zz hsz z1 z1' k1 rgx
             replace k2 : BkL w.heap.size w26 b2 BB [(Ag, ng, cg), (Bg, mg, dg), (Ah, nh, ch), (Bh, mh, dh), (Ai, ni, ci), (Bi, mi, di), (At, nt, ct), (Bt, mt, dt)] := k2
             as_aux_lemma =>
              have z2' := z2
              rw [← hBB] at z2'
              have KX := KB.next z2'
              have rgx := Lib.hid (KX.blk (mE 3 rfl)).rng
              have hsz : BB ≤ b2.heap.size := by have := z2'.size; omega
              go_wp2_with (first | (refine wpList_load_any (by rfl) _ _ rfl (gm) 0 rfl _ _ rgx.out Tryz.underlying28 rfl size_ma ?_))
              refine (bk_matrix BB w.heap.size sa za (some ⟨ga, 0, none⟩) (some ⟨ja, 0, none⟩) na ea ma fa sb zb (some ⟨gb, 0, none⟩) (some ⟨jb, 0, none⟩) nb eb mb fb sc zc (some ⟨gc, 0, none⟩) (some ⟨jc, 0, none⟩) nc ec mc fc sd zd (some ⟨gd, 0, none⟩) (some ⟨jd, 0, none⟩) nd ed md fd [(Ag, ng, cg), (Bg, mg, dg), (Ah, nh, ch), (Bh, mh, dh), (Ai, ni, ci), (Bi, mi, di), (At, nt, ct), (Bt, mt, dt)] w26 b2 k2 ⟨OB.1 _ (mE 8 rfl), bna⟩ ⟨OB.1 _ (mE 9 rfl), bma⟩ ⟨OB.1 _ (mE 10 rfl), bnb⟩ ⟨OB.1 _ (mE 11 rfl), bmb⟩ ⟨OB.1 _ (mE 12 rfl), bnc⟩ ⟨OB.1 _ (mE 13 rfl), bmc⟩ ⟨OB.1 _ (mE 14 rfl), bnd⟩ ⟨OB.1 _ (mE 15 rfl), bmd⟩ (by simp) hsz).mono ?_
              rintro e32 b3 ⟨rfl, k3, zz, _⟩
              have z3 := z2.trans zz
              clear KX zz hsz z2 z2' k2 rgx
              replace k3 : BkL w.heap.size w26 b3 BB [(Ag, ng, cg), (Bg, mg, dg), (Ah, nh, ch), (Bh, mh, dh), (Ai, ni, ci), (Bi, mi, di), (At, nt, ct), (Bt, mt, dt), (some ⟨ga, 0, none⟩, na, ea), (some ⟨ja, 0, none⟩, ma, fa), (some ⟨gb, 0, none⟩, nb, eb), (some ⟨jb, 0, none⟩, mb, fb), (some ⟨gc, 0, none⟩, nc, ec), (some ⟨jc, 0, none⟩, mc, fc), (some ⟨gd, 0, none⟩, nd, ed), (some ⟨jd, 0, none⟩, md, fd)] := k3
              as_aux_lemma =>
               have z3' := z3
               rw [← hBB] at z3'
               have KX := KB.next z3'
               have rgx := Lib.hid (KX.blk (mE 4 rfl)).rng
               have hsz : BB ≤ b3.heap.size := by have := z3'.size; omega
               go_wp2_with (first | (refine wpList_load_any (by rfl) _ _ rfl (gz) 0 rfl _ _ rgx.out Tryz.underlying30 rfl size_ga ?_))
               refine (bk_gauss BB w.heap.size su zu (some ⟨gu, 0, none⟩) (some ⟨ju, 0, none⟩) nu eu mu fu sv zv (some ⟨gv, 0, none⟩) (some ⟨jv, 0, none⟩) nv ev mv fv [(Ag, ng, cg), (Bg, mg, dg), (Ah, nh, ch), (Bh, mh, dh), (Ai, ni, ci), (Bi, mi, di), (At, nt, ct), (Bt, mt, dt), (some ⟨ga, 0, none⟩, na, ea), (some ⟨ja, 0, none⟩, ma, fa), (some ⟨gb, 0, none⟩, nb, eb), (some ⟨jb, 0, none⟩, mb, fb), (some ⟨gc, 0, none⟩, nc, ec), (some ⟨jc, 0, none⟩, mc, fc), (some ⟨gd, 0, none⟩, nd, ed), (some ⟨jd, 0, none⟩, md, fd)] w26 b3 k3 ⟨OB.1 _ (mE 16 rfl), bnu⟩ ⟨OB.1 _ (mE 17 rfl), bmu⟩ ⟨OB.1 _ (mE 18 rfl), bnv⟩ ⟨OB.1 _ (mE 19 rfl), bmv⟩ (by simp) hsz).mono ?_
               rintro e33 b4 ⟨rfl, k4, zz, _⟩
               have z4 := z3.trans zz
               clear KX zz hsz z3 z3' k3 rgx
               replace k4 : BkL w.heap.size w26 b4 BB [(Ag, ng, cg), (Bg, mg, dg), (Ah, nh, ch), (Bh, mh, dh), (Ai, ni, ci), (Bi, mi, di), (At, nt, ct), (Bt, mt, dt), (some ⟨ga, 0, none⟩, na, ea), (some ⟨ja, 0, none⟩, ma, fa), (some ⟨gb, 0, none⟩, nb, eb), (some ⟨jb, 0, none⟩, mb, fb), (some ⟨gc, 0, none⟩, nc, ec), (some ⟨jc, 0, none⟩, mc, fc), (some ⟨gd, 0, none⟩, nd, ed), (some ⟨jd, 0, none⟩, md, fd), (some ⟨gu, 0, none⟩, nu, eu), (some ⟨ju, 0, none⟩, mu, fu), (some ⟨gv, 0, none⟩, nv, ev), (some ⟨jv, 0, none⟩, mv, fv)] := k4
               as_aux_lemma =>
                have hlow : w.heap.size ≤ BB := by have := KB.1.size; omega
                go_wp2_with fail
                refine (apartLimb_bk BB w.heap.size [(Ag, ng, cg), (Bg, mg, dg), (Ah, nh, ch), (Bh, mh, dh), (Ai, ni, ci), (Bi, mi, di), (At, nt, ct), (Bt, mt, dt), (some ⟨ga, 0, none⟩, na, ea), (some ⟨ja, 0, none⟩, ma, fa), (some ⟨gb, 0, none⟩, nb, eb), (some ⟨jb, 0, none⟩, mb, fb), (some ⟨gc, 0, none⟩, nc, ec), (some ⟨jc, 0, none⟩, mc, fc), (some ⟨gd, 0, none⟩, nd, ed), (some ⟨jd, 0, none⟩, md, fd), (some ⟨gu, 0, none⟩, nu, eu), (some ⟨ju, 0, none⟩, mu, fu), (some ⟨gv, 0, none⟩, nv, ev), (some ⟨jv, 0, none⟩, mv, fv)] w26 b4 k4 (by simp) (by simp) OB z4 hBB.symm hlow).mono ?_
                rintro e40 b8 ⟨rfl, zz⟩
                have hend := (KB.1.trans (z4.mono hlow)).trans zz
                clear KB k4 z4 zz OB
                go_wp2_with fail
                refine (alive15 _).mono ?_
                rintro e41 b9 ⟨rfl, hb9⟩
                go_wp2_with fail
                go_ret
                exact ⟨rfl, below_next hend hb9⟩
end Go.Proofs.YtgekmbfmfiikkaaGreatDoor
