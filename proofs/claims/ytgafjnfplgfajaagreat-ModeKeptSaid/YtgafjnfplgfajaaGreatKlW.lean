/-
  ModeKept answers true.
-/
import Derived.Test.YtgafjnfplgfajaaGreatBey
import Derived.Test.YtgafjnfplgfajaaGreatKlT
import Derived.Test.YtgafjnfplgfajaaGreatKlL
import Derived.Test.YtgafjnfplgfajaaGreatKpM
import Derived.Test.YtgafjnfplgfajaaGreatKpR
namespace Go.Proofs.YtgafjnfplgfajaaGreat
open Go.RowKit

theorem matrix_cost_of (sa za : Bool) (Aa Ba : Option Addr) (na ca ma da : Nat) (sb zb : Bool) (Ab Bb : Option Addr) (nb cb mb db : Nat) (sc zc : Bool) (Ac Bc : Option Addr) (nc cc mc dc : Nat) (sd zd : Bool) (Ad Bd : Option Addr) (nd cd md dd : Nat) (p : Nat) (w : World) (hna : na ≤ 281474976710656) (hma : ma ≤ 281474976710656) (hnb : nb ≤ 281474976710656) (hmb : mb ≤ 281474976710656) (hnc : nc ≤ 281474976710656) (hmc : mc ≤ 281474976710656) (hnd : nd ≤ 281474976710656) (hmd : md ≤ 281474976710656) (hp : Hid (costFr na ma + costFr nb mb + costFr nc mc + costFr nd md = p)) :
    Calls Tryz.prog 5 #[.agg #[.bool sa, .slice Aa na ca, .bool za, .slice Ba ma da, .bool sb, .slice Ab nb cb, .bool zb, .slice Bb mb db, .bool sc, .slice Ac nc cc, .bool zc, .slice Bc mc dc, .bool sd, .slice Ad nd cd, .bool zd, .slice Bd md dd]] w (RetV w (.int .i64 ((p : Nat) : Int))) := by
  have h := matrix_cost_any sa za Aa Ba na ca ma da sb zb Ab Bb nb cb mb db sc zc Ac Bc nc cc mc dc sd zd Ad Bd nd cd md dd w hna hma hnb hmb hnc hmc hnd hmd
  rwa [hp.out] at h
theorem gauss_cost_of (su zu : Bool) (Au Bu : Option Addr) (nu cu mu du : Nat) (sv zv : Bool) (Av Bv : Option Addr) (nv cv mv dv : Nat) (p : Nat) (w : World) (hnu : nu ≤ 281474976710656) (hmu : mu ≤ 281474976710656) (hnv : nv ≤ 281474976710656) (hmv : mv ≤ 281474976710656) (hp : Hid (costFr nu mu + costFr nv mv = p)) :
    Calls Tryz.prog 6 #[.agg #[.bool su, .slice Au nu cu, .bool zu, .slice Bu mu du, .bool sv, .slice Av nv cv, .bool zv, .slice Bv mv dv]] w (RetV w (.int .i64 ((p : Nat) : Int))) := by
  have h := gauss_cost_any su zu Au Bu nu cu mu du sv zv Av Bv nv cv mv dv w hnu hmu hnv hmv
  rwa [hp.out] at h
theorem beyond_two (g p1 p2 : Nat) (b : Bool) (w : World) (hR : Reads w w.heap.size (some ⟨g, 0, none⟩) 2 (nats [p1, p2])) (hs : p1 + p2 ≤ 9223372036854775807) (hb : Hid (decide (1048576 < p1 + p2) = b)) :
    Calls Tryz.prog 4 #[.slice (some ⟨g, 0, none⟩) 2 2] w (RetV w (.bool b)) := by
  have e : [p1, p2].sum = p1 + p2 := by simp
  refine (beyond_any (some ⟨g, 0, none⟩) 2 2 [p1, p2] w hR (by decide) (by rw [e]; exact hs)).mono ?_
  rintro e1 w1 ⟨rfl, rfl⟩
  exact ⟨by rw [e, hb.out], Below.refl _ _⟩
theorem cost_low {n m : Nat} (h : costFr n m ≤ 1048576) : n ≤ 1000000000 ∧ m ≤ 1000000000 := by
  unfold costFr at h
  omega

set_option maxRecDepth 100000 in
set_option maxHeartbeats 6400000 in
theorem law_modeKept (sa : Bool) (Aa : Option Addr) (na ca : Nat) (la : List Nat) (za : Bool) (Ba : Option Addr) (ma da : Nat) (ka : List Nat) (sb : Bool) (Ab : Option Addr) (nb cb : Nat) (lb : List Nat) (zb : Bool) (Bb : Option Addr) (mb db : Nat) (kb : List Nat) (sc : Bool) (Ac : Option Addr) (nc cc : Nat) (lc : List Nat) (zc : Bool) (Bc : Option Addr) (mc dc : Nat) (kc : List Nat) (sd : Bool) (Ad : Option Addr) (nd cd : Nat) (ld : List Nat) (zd : Bool) (Bd : Option Addr) (md dd : Nat) (kd : List Nat) (su : Bool) (Au : Option Addr) (nu cu : Nat) (lu : List Nat) (zu : Bool) (Bu : Option Addr) (mu du : Nat) (ku : List Nat) (sv : Bool) (Av : Option Addr) (nv cv : Nat) (lv : List Nat) (zv : Bool) (Bv : Option Addr) (mv dv : Nat) (kv : List Nat) (w : World) (ha : Sl w Aa na ca la) (ia : Sl w Ba ma da ka) (hna : na ≤ 281474976710656) (hma : ma ≤ 281474976710656) (hb : Sl w Ab nb cb lb) (ib : Sl w Bb mb db kb) (hnb : nb ≤ 281474976710656) (hmb : mb ≤ 281474976710656) (hc : Sl w Ac nc cc lc) (ic : Sl w Bc mc dc kc) (hnc : nc ≤ 281474976710656) (hmc : mc ≤ 281474976710656) (hd : Sl w Ad nd cd ld) (id : Sl w Bd md dd kd) (hnd : nd ≤ 281474976710656) (hmd : md ≤ 281474976710656) (hu : Sl w Au nu cu lu) (iu : Sl w Bu mu du ku) (hnu : nu ≤ 281474976710656) (hmu : mu ≤ 281474976710656) (hv : Sl w Av nv cv lv) (iv : Sl w Bv mv dv kv) (hnv : nv ≤ 281474976710656) (hmv : mv ≤ 281474976710656) :
    Calls Tryz.prog 3 #[.agg #[.bool sa, .slice Aa na ca, .bool za, .slice Ba ma da, .bool sb, .slice Ab nb cb, .bool zb, .slice Bb mb db, .bool sc, .slice Ac nc cc, .bool zc, .slice Bc mc dc, .bool sd, .slice Ad nd cd, .bool zd, .slice Bd md dd], .agg #[.bool su, .slice Au nu cu, .bool zu, .slice Bu mu du, .bool sv, .slice Av nv cv, .bool zv, .slice Bv mv dv]] w (RetV w (.bool true)) := by
  have K0 := ((Mm.nil w).var (g := w.heap.size) rfl [.bool sa, .slice Aa na ca, .bool za, .slice Ba ma da, .bool sb, .slice Ab nb cb, .bool zb, .slice Bb mb db, .bool sc, .slice Ac nc cc, .bool zc, .slice Bc mc dc, .bool sd, .slice Ad nd cd, .bool zd, .slice Bd md dd] 28).var (g := w.heap.size + 1) (by simp) [.bool su, .slice Au nu cu, .bool zu, .slice Bu mu du, .bool sv, .slice Av nv cv, .bool zv, .slice Bv mv dv] 30
  have ha0 := ha.below K0.1
  have ia0 := ia.below K0.1
  have qa := cost_bound hna hma
  have hb0 := hb.below K0.1
  have ib0 := ib.below K0.1
  have qb := cost_bound hnb hmb
  have hc0 := hc.below K0.1
  have ic0 := ic.below K0.1
  have qc := cost_bound hnc hmc
  have hd0 := hd.below K0.1
  have id0 := id.below K0.1
  have qd := cost_bound hnd hmd
  have hu0 := hu.below K0.1
  have iu0 := iu.below K0.1
  have qu := cost_bound hnu hmu
  have hv0 := hv.below K0.1
  have iv0 := iv.below K0.1
  have qv := cost_bound hnv hmv
  clear ha ia hb ib hc ic hd id hu iu hv iv
  obtain ⟨p1, hp1⟩ : ∃ p, costFr na ma + costFr nb mb + costFr nc mc + costFr nd md = p := ⟨_, rfl⟩
  obtain ⟨p2, hp2⟩ : ∃ p, costFr nu mu + costFr nv mv = p := ⟨_, rfl⟩
  obtain ⟨big, hbig⟩ : ∃ b, decide (1048576 < p1 + p2) = b := ⟨_, rfl⟩
  have HP1 := Lib.hid hp1
  have HP2 := Lib.hid hp2
  have HBIG := Lib.hid hbig
  have HSUM : Hid (p1 + p2 ≤ 9223372036854775807) := Lib.hid (by omega)
  have SMa : Hid (big = false → na ≤ 1000000000 ∧ ma ≤ 1000000000) := Lib.hid (fun hb => cost_low (by rw [hb] at hbig; have := of_decide_eq_false hbig; omega))
  have SMb : Hid (big = false → nb ≤ 1000000000 ∧ mb ≤ 1000000000) := Lib.hid (fun hb => cost_low (by rw [hb] at hbig; have := of_decide_eq_false hbig; omega))
  have SMc : Hid (big = false → nc ≤ 1000000000 ∧ mc ≤ 1000000000) := Lib.hid (fun hb => cost_low (by rw [hb] at hbig; have := of_decide_eq_false hbig; omega))
  have SMd : Hid (big = false → nd ≤ 1000000000 ∧ md ≤ 1000000000) := Lib.hid (fun hb => cost_low (by rw [hb] at hbig; have := of_decide_eq_false hbig; omega))
  have SMu : Hid (big = false → nu ≤ 1000000000 ∧ mu ≤ 1000000000) := Lib.hid (fun hb => cost_low (by rw [hb] at hbig; have := of_decide_eq_false hbig; omega))
  have SMv : Hid (big = false → nv ≤ 1000000000 ∧ mv ≤ 1000000000) := Lib.hid (fun hb => cost_low (by rw [hb] at hbig; have := of_decide_eq_false hbig; omega))
  clear hp1 hp2 hbig qa qb qc qd qu qv
  have ne01 : ¬ w.heap.size = w.heap.size + 1 := by omega
  have ne10 : ¬ w.heap.size + 1 = w.heap.size := by omega
  go_enter Tryz.func3, Tryz.ntmps3
  go_wp2_with fail
  generalize (w.alloc (.cells #[.bool sa, .slice Aa na ca, .bool za, .slice Ba ma da, .bool sb, .slice Ab nb cb, .bool zb, .slice Bb mb db, .bool sc, .slice Ac nc cc, .bool zc, .slice Bc mc dc, .bool sd, .slice Ad nd cd, .bool zd, .slice Bd md dd] 28)).alloc (.cells #[.bool su, .slice Au nu cu, .bool zu, .slice Bu mu du, .bool sv, .slice Av nv cv, .bool zv, .slice Bv mv dv] 30) = w0 at K0 ha0 ia0 hb0 ib0 hc0 ic0 hd0 id0 hu0 iu0 hv0 iv0 ⊢
  obtain ⟨q0_0x, q1_0x, q2_0x, q3_0x, q4_0x, q5_0x, q6_0x, q7_0x, q8_0x, q9_0x, q10_0x, q11_0x, q12_0x, q13_0x, q14_0x, q15_0x⟩ := (K0.blk (g := w.heap.size) (vs := [.bool sa, .slice Aa na ca, .bool za, .slice Ba ma da, .bool sb, .slice Ab nb cb, .bool zb, .slice Bb mb db, .bool sc, .slice Ac nc cc, .bool zc, .slice Bc mc dc, .bool sd, .slice Ad nd cd, .bool zd, .slice Bd md dd]) (List.mem_of_getElem? (i := 1) rfl)).c16
  obtain ⟨q0_0y, q1_0y, q2_0y, q3_0y, q4_0y, q5_0y, q6_0y, q7_0y⟩ := (K0.blk (g := w.heap.size + 1) (vs := [.bool su, .slice Au nu cu, .bool zu, .slice Bu mu du, .bool sv, .slice Av nv cv, .bool zv, .slice Bv mv dv]) (List.mem_of_getElem? (i := 0) rfl)).c8
  go_region_held3 (fun w' => w'.cell? ⟨w.heap.size, 0, none⟩ = some (.bool sa) ∧ w'.cell? ⟨w.heap.size, 1, none⟩ = some (.slice Aa na ca) ∧ w'.cell? ⟨w.heap.size, 2, none⟩ = some (.bool za) ∧ w'.cell? ⟨w.heap.size, 3, none⟩ = some (.slice Ba ma da) ∧ w'.cell? ⟨w.heap.size, 4, none⟩ = some (.bool sb) ∧ w'.cell? ⟨w.heap.size, 5, none⟩ = some (.slice Ab nb cb) ∧ w'.cell? ⟨w.heap.size, 6, none⟩ = some (.bool zb) ∧ w'.cell? ⟨w.heap.size, 7, none⟩ = some (.slice Bb mb db) ∧ w'.cell? ⟨w.heap.size, 8, none⟩ = some (.bool sc) ∧ w'.cell? ⟨w.heap.size, 9, none⟩ = some (.slice Ac nc cc) ∧ w'.cell? ⟨w.heap.size, 10, none⟩ = some (.bool zc) ∧ w'.cell? ⟨w.heap.size, 11, none⟩ = some (.slice Bc mc dc) ∧ w'.cell? ⟨w.heap.size, 12, none⟩ = some (.bool sd) ∧ w'.cell? ⟨w.heap.size, 13, none⟩ = some (.slice Ad nd cd) ∧ w'.cell? ⟨w.heap.size, 14, none⟩ = some (.bool zd) ∧ w'.cell? ⟨w.heap.size, 15, none⟩ = some (.slice Bd md dd) ∧ w'.cell? ⟨w.heap.size + 1, 0, none⟩ = some (.bool su) ∧ w'.cell? ⟨w.heap.size + 1, 1, none⟩ = some (.slice Au nu cu) ∧ w'.cell? ⟨w.heap.size + 1, 2, none⟩ = some (.bool zu) ∧ w'.cell? ⟨w.heap.size + 1, 3, none⟩ = some (.slice Bu mu du) ∧ w'.cell? ⟨w.heap.size + 1, 4, none⟩ = some (.bool sv) ∧ w'.cell? ⟨w.heap.size + 1, 5, none⟩ = some (.slice Av nv cv) ∧ w'.cell? ⟨w.heap.size + 1, 6, none⟩ = some (.bool zv) ∧ w'.cell? ⟨w.heap.size + 1, 7, none⟩ = some (.slice Bv mv dv))
    (go_keep)
    (first
      | (go_at_call 5; (with_reducible refine (matrix_cost_of sa za Aa Ba na ca ma da sb zb Ab Bb nb cb mb db sc zc Ac Bc nc cc mc dc sd zd Ad Bd nd cd md dd p1 _ hna hma hnb hmb hnc hmc hnd hmd HP1).mono ?_); rintro e1 w1 ⟨rfl, hB1⟩; (first | (with_reducible have K1 := K0.next hB1) | (with_reducible have K1 := K0.drew.next hB1) | (with_reducible have K1 := (K0.drewN _).next hB1)); obtain ⟨q0_1x, q1_1x, q2_1x, q3_1x, q4_1x, q5_1x, q6_1x, q7_1x, q8_1x, q9_1x, q10_1x, q11_1x, q12_1x, q13_1x, q14_1x, q15_1x⟩ := (K1.blk (g := w.heap.size) (vs := [.bool sa, .slice Aa na ca, .bool za, .slice Ba ma da, .bool sb, .slice Ab nb cb, .bool zb, .slice Bb mb db, .bool sc, .slice Ac nc cc, .bool zc, .slice Bc mc dc, .bool sd, .slice Ad nd cd, .bool zd, .slice Bd md dd]) (List.mem_of_getElem? (i := 1) rfl)).c16; obtain ⟨q0_1y, q1_1y, q2_1y, q3_1y, q4_1y, q5_1y, q6_1y, q7_1y⟩ := (K1.blk (g := w.heap.size + 1) (vs := [.bool su, .slice Au nu cu, .bool zu, .slice Bu mu du, .bool sv, .slice Av nv cv, .bool zv, .slice Bv mv dv]) (List.mem_of_getElem? (i := 0) rfl)).c8; have HB1 : Below w0.heap.size w0 w1 := (by first | exact hB1 | exact below_of_drew hB1 | exact below_of_drewN hB1); clear hB1)
      | (go_at_call 6; (with_reducible refine (gauss_cost_of su zu Au Bu nu cu mu du sv zv Av Bv nv cv mv dv p2 _ hnu hmu hnv hmv HP2).mono ?_); rintro e2 w2 ⟨rfl, hB2⟩; (first | (with_reducible have K2 := K1.next hB2) | (with_reducible have K2 := K1.drew.next hB2) | (with_reducible have K2 := (K1.drewN _).next hB2)); obtain ⟨q0_2x, q1_2x, q2_2x, q3_2x, q4_2x, q5_2x, q6_2x, q7_2x, q8_2x, q9_2x, q10_2x, q11_2x, q12_2x, q13_2x, q14_2x, q15_2x⟩ := (K2.blk (g := w.heap.size) (vs := [.bool sa, .slice Aa na ca, .bool za, .slice Ba ma da, .bool sb, .slice Ab nb cb, .bool zb, .slice Bb mb db, .bool sc, .slice Ac nc cc, .bool zc, .slice Bc mc dc, .bool sd, .slice Ad nd cd, .bool zd, .slice Bd md dd]) (List.mem_of_getElem? (i := 1) rfl)).c16; obtain ⟨q0_2y, q1_2y, q2_2y, q3_2y, q4_2y, q5_2y, q6_2y, q7_2y⟩ := (K2.blk (g := w.heap.size + 1) (vs := [.bool su, .slice Au nu cu, .bool zu, .slice Bu mu du, .bool sv, .slice Av nv cv, .bool zv, .slice Bv mv dv]) (List.mem_of_getElem? (i := 0) rfl)).c8; have HB2 : Below w0.heap.size w0 w2 := below_next HB1 (by first | exact hB2 | exact below_of_drew hB2 | exact below_of_drewN hB2); clear hB2)
      | (go_at_call 4; (with_reducible refine (beyond_two w2.heap.size p1 p2 big _ ?_ HSUM.out HBIG).mono ?_); (first | exact nats_new w2 _ [p1, p2] | exact nats_new w2.drew _ [p1, p2] | exact nats_new (w2.drewN _) _ [p1, p2]); rintro e3 w3 ⟨rfl, hB3⟩; (first | (with_reducible have K3 := (K2.box _).next hB3) | (with_reducible have K3 := (K2.drew.box _).next hB3) | (with_reducible have K3 := ((K2.drewN _).box _).next hB3) | (with_reducible have K3 := (K2.box _).drew.next hB3) | (with_reducible have K3 := (K2.drew.box _).drew.next hB3) | (with_reducible have K3 := ((K2.drewN _).box _).drew.next hB3) | (with_reducible have K3 := ((K2.box _).drewN _).next hB3) | (with_reducible have K3 := ((K2.drew.box _).drewN _).next hB3) | (with_reducible have K3 := (((K2.drewN _).box _).drewN _).next hB3)); obtain ⟨q0_3x, q1_3x, q2_3x, q3_3x, q4_3x, q5_3x, q6_3x, q7_3x, q8_3x, q9_3x, q10_3x, q11_3x, q12_3x, q13_3x, q14_3x, q15_3x⟩ := (K3.blk (g := w.heap.size) (vs := [.bool sa, .slice Aa na ca, .bool za, .slice Ba ma da, .bool sb, .slice Ab nb cb, .bool zb, .slice Bb mb db, .bool sc, .slice Ac nc cc, .bool zc, .slice Bc mc dc, .bool sd, .slice Ad nd cd, .bool zd, .slice Bd md dd]) (List.mem_of_getElem? (i := 1) rfl)).c16; obtain ⟨q0_3y, q1_3y, q2_3y, q3_3y, q4_3y, q5_3y, q6_3y, q7_3y⟩ := (K3.blk (g := w.heap.size + 1) (vs := [.bool su, .slice Au nu cu, .bool zu, .slice Bu mu du, .bool sv, .slice Av nv cv, .bool zv, .slice Bv mv dv]) (List.mem_of_getElem? (i := 0) rfl)).c8; have HB3 : Below w0.heap.size w0 w3 := (by first | exact below_next HB2 (below_box hB3) | exact below_next HB2 (below_box (below_of_drew hB3)) | exact below_next HB2 (below_of_drew (below_box hB3)) | exact below_next HB2 (below_of_drewN (below_box hB3))); clear hB3)
      | fail)
  all_goals
   cases big with
   | true =>
     go_wp2_with fail
     go_ret
     exact ⟨rfl, K3.1⟩
   | false =>
     obtain ⟨bna, bma⟩ := SMa.out rfl
     have Ea3 : LmE.at_ w3 ((sa, Aa, na, ca, la), (za, Ba, ma, da, ka)) := ⟨ha0.below HB3, ia0.below HB3, bna, bma⟩
     obtain ⟨bnb, bmb⟩ := SMb.out rfl
     have Eb3 : LmE.at_ w3 ((sb, Ab, nb, cb, lb), (zb, Bb, mb, db, kb)) := ⟨hb0.below HB3, ib0.below HB3, bnb, bmb⟩
     obtain ⟨bnc, bmc⟩ := SMc.out rfl
     have Ec3 : LmE.at_ w3 ((sc, Ac, nc, cc, lc), (zc, Bc, mc, dc, kc)) := ⟨hc0.below HB3, ic0.below HB3, bnc, bmc⟩
     obtain ⟨bnd, bmd⟩ := SMd.out rfl
     have Ed3 : LmE.at_ w3 ((sd, Ad, nd, cd, ld), (zd, Bd, md, dd, kd)) := ⟨hd0.below HB3, id0.below HB3, bnd, bmd⟩
     obtain ⟨bnu, bmu⟩ := SMu.out rfl
     have Eu3 : LmE.at_ w3 ((su, Au, nu, cu, lu), (zu, Bu, mu, du, ku)) := ⟨hu0.below HB3, iu0.below HB3, bnu, bmu⟩
     obtain ⟨bnv, bmv⟩ := SMv.out rfl
     have Ev3 : LmE.at_ w3 ((sv, Av, nv, cv, lv), (zv, Bv, mv, dv, kv)) := ⟨hv0.below HB3, iv0.below HB3, bnv, bmv⟩
     clear HB1 HB2 HB3 K0 K1 K2 ha0 ia0 SMa hb0 ib0 SMb hc0 ic0 SMc hd0 id0 SMd hu0 iu0 SMu hv0 iv0 SMv
     as_aux_lemma =>
       go_wp2_with fail
       refine (twin_matrix_any sa Aa na ca la za Ba ma da ka sb Ab nb cb lb zb Bb mb db kb sc Ac nc cc lc zc Bc mc dc kc sd Ad nd cd ld zd Bd md dd kd _ Ea3 Eb3 Ec3 Ed3).mono ?_
       rintro e4 w4 ⟨ga, ea, ha, fa, gb, eb, hb, fb, gc, ec, hc, fc, gd, ed, hd, fd, rfl, Ta4, Ua4, Tb4, Ub4, Tc4, Uc4, Td4, Ud4, hB4⟩
       have sz4 : w.heap.size + 1 < w4.heap.size := by have := hB4.size; have := (K3.blk (g := w.heap.size + 1) (vs := [.bool su, .slice Au nu cu, .bool zu, .slice Bu mu du, .bool sv, .slice Av nv cv, .bool zv, .slice Bv mv dv]) (List.mem_of_getElem? (i := 0) rfl)).1; omega
       have Kp4 := K3.next hB4
       obtain ⟨q0_4y, q1_4y, q2_4y, q3_4y, q4_4y, q5_4y, q6_4y, q7_4y⟩ := (Kp4.blk (g := w.heap.size + 1) (vs := [.bool su, .slice Au nu cu, .bool zu, .slice Bu mu du, .bool sv, .slice Av nv cv, .bool zv, .slice Bv mv dv]) (List.mem_of_getElem? (i := 0) rfl)).c8
       have x41 : ¬ w.heap.size + 1 = w4.heap.size := by omega
       have x42 : ¬ w4.heap.size = w.heap.size + 1 := by omega
       have K4 := Kp4.var (g := w4.heap.size) rfl [.bool sa, .slice (some ⟨ga, 0, none⟩) na ea, .bool za, .slice (some ⟨ha, 0, none⟩) ma fa, .bool sb, .slice (some ⟨gb, 0, none⟩) nb eb, .bool zb, .slice (some ⟨hb, 0, none⟩) mb fb, .bool sc, .slice (some ⟨gc, 0, none⟩) nc ec, .bool zc, .slice (some ⟨hc, 0, none⟩) mc fc, .bool sd, .slice (some ⟨gd, 0, none⟩) nd ed, .bool zd, .slice (some ⟨hd, 0, none⟩) md fd] 28
       have al4 : Below w4.heap.size w4 (w4.alloc (.cells #[.bool sa, .slice (some ⟨ga, 0, none⟩) na ea, .bool za, .slice (some ⟨ha, 0, none⟩) ma fa, .bool sb, .slice (some ⟨gb, 0, none⟩) nb eb, .bool zb, .slice (some ⟨hb, 0, none⟩) mb fb, .bool sc, .slice (some ⟨gc, 0, none⟩) nc ec, .bool zc, .slice (some ⟨hc, 0, none⟩) mc fc, .bool sd, .slice (some ⟨gd, 0, none⟩) nd ed, .bool zd, .slice (some ⟨hd, 0, none⟩) md fd] 28)) := (Below.refl _ _).alloc (Nat.le_refl _) _
       have Ea4 := LmE.at_.below (LmE.at_.below Ea3 hB4) al4
       have Eb4 := LmE.at_.below (LmE.at_.below Eb3 hB4) al4
       have Ec4 := LmE.at_.below (LmE.at_.below Ec3 hB4) al4
       have Ed4 := LmE.at_.below (LmE.at_.below Ed3 hB4) al4
       have Eu4 := LmE.at_.below (LmE.at_.below Eu3 hB4) al4
       have Ev4 := LmE.at_.below (LmE.at_.below Ev3 hB4) al4
       have Ta5 := Twl.below Ta4 al4
       have Ua5 := Twl.below Ua4 al4
       have Tb5 := Twl.below Tb4 al4
       have Ub5 := Twl.below Ub4 al4
       have Tc5 := Twl.below Tc4 al4
       have Uc5 := Twl.below Uc4 al4
       have Td5 := Twl.below Td4 al4
       have Ud5 := Twl.below Ud4 al4
       clear hB4 al4 K3 Kp4 Ea3 Eb3 Ec3 Ed3 Eu3 Ev3 Ta4 Ua4 Tb4 Ub4 Tc4 Uc4 Td4 Ud4
       go_wp2_with fail
       generalize hg4 : w4.heap.size = gm at K4 sz4 x41 x42
       generalize w4.alloc (.cells #[.bool sa, .slice (some ⟨ga, 0, none⟩) na ea, .bool za, .slice (some ⟨ha, 0, none⟩) ma fa, .bool sb, .slice (some ⟨gb, 0, none⟩) nb eb, .bool zb, .slice (some ⟨hb, 0, none⟩) mb fb, .bool sc, .slice (some ⟨gc, 0, none⟩) nc ec, .bool zc, .slice (some ⟨hc, 0, none⟩) mc fc, .bool sd, .slice (some ⟨gd, 0, none⟩) nd ed, .bool zd, .slice (some ⟨hd, 0, none⟩) md fd] 28) = w5 at K4 Ea4 Eb4 Ec4 Ed4 Eu4 Ev4 Ta5 Ua5 Tb5 Ub5 Tc5 Uc5 Td5 Ud5 ⊢
       clear hg4
       as_aux_lemma =>
         refine (twin_gauss_any su Au nu cu lu zu Bu mu du ku sv Av nv cv lv zv Bv mv dv kv _ Eu4 Ev4).mono ?_
         rintro e6 w6 ⟨gu, eu, hu, fu, gv, ev, hv, fv, rfl, Tu6, Uu6, Tv6, Uv6, hB6⟩
         have sz6 : gm < w6.heap.size := by have := hB6.size; have := (K4.blk (g := gm) (vs := [.bool sa, .slice (some ⟨ga, 0, none⟩) na ea, .bool za, .slice (some ⟨ha, 0, none⟩) ma fa, .bool sb, .slice (some ⟨gb, 0, none⟩) nb eb, .bool zb, .slice (some ⟨hb, 0, none⟩) mb fb, .bool sc, .slice (some ⟨gc, 0, none⟩) nc ec, .bool zc, .slice (some ⟨hc, 0, none⟩) mc fc, .bool sd, .slice (some ⟨gd, 0, none⟩) nd ed, .bool zd, .slice (some ⟨hd, 0, none⟩) md fd]) (List.mem_of_getElem? (i := 0) rfl)).1; omega
         have Kp6 := K4.next hB6
         obtain ⟨q0_6m, q1_6m, q2_6m, q3_6m, q4_6m, q5_6m, q6_6m, q7_6m, q8_6m, q9_6m, q10_6m, q11_6m, q12_6m, q13_6m, q14_6m, q15_6m⟩ := (Kp6.blk (g := gm) (vs := [.bool sa, .slice (some ⟨ga, 0, none⟩) na ea, .bool za, .slice (some ⟨ha, 0, none⟩) ma fa, .bool sb, .slice (some ⟨gb, 0, none⟩) nb eb, .bool zb, .slice (some ⟨hb, 0, none⟩) mb fb, .bool sc, .slice (some ⟨gc, 0, none⟩) nc ec, .bool zc, .slice (some ⟨hc, 0, none⟩) mc fc, .bool sd, .slice (some ⟨gd, 0, none⟩) nd ed, .bool zd, .slice (some ⟨hd, 0, none⟩) md fd]) (List.mem_of_getElem? (i := 0) rfl)).c16
         have x61 : ¬ gm = w6.heap.size := by omega
         have x62 : ¬ w6.heap.size = gm := by omega
         have K6 := Kp6.var (g := w6.heap.size) rfl [.bool su, .slice (some ⟨gu, 0, none⟩) nu eu, .bool zu, .slice (some ⟨hu, 0, none⟩) mu fu, .bool sv, .slice (some ⟨gv, 0, none⟩) nv ev, .bool zv, .slice (some ⟨hv, 0, none⟩) mv fv] 30
         have al6 : Below w6.heap.size w6 (w6.alloc (.cells #[.bool su, .slice (some ⟨gu, 0, none⟩) nu eu, .bool zu, .slice (some ⟨hu, 0, none⟩) mu fu, .bool sv, .slice (some ⟨gv, 0, none⟩) nv ev, .bool zv, .slice (some ⟨hv, 0, none⟩) mv fv] 30)) := (Below.refl _ _).alloc (Nat.le_refl _) _
         have Ea6 := LmE.at_.below (LmE.at_.below Ea4 hB6) al6
         have Eb6 := LmE.at_.below (LmE.at_.below Eb4 hB6) al6
         have Ec6 := LmE.at_.below (LmE.at_.below Ec4 hB6) al6
         have Ed6 := LmE.at_.below (LmE.at_.below Ed4 hB6) al6
         have Eu6 := LmE.at_.below (LmE.at_.below Eu4 hB6) al6
         have Ev6 := LmE.at_.below (LmE.at_.below Ev4 hB6) al6
         have Ta7 := Twl.below (Twl.below Ta5 hB6) al6
         have Ua7 := Twl.below (Twl.below Ua5 hB6) al6
         have Tb7 := Twl.below (Twl.below Tb5 hB6) al6
         have Ub7 := Twl.below (Twl.below Ub5 hB6) al6
         have Tc7 := Twl.below (Twl.below Tc5 hB6) al6
         have Uc7 := Twl.below (Twl.below Uc5 hB6) al6
         have Td7 := Twl.below (Twl.below Td5 hB6) al6
         have Ud7 := Twl.below (Twl.below Ud5 hB6) al6
         have Tu7 := Twl.below Tu6 al6
         have Uu7 := Twl.below Uu6 al6
         have Tv7 := Twl.below Tv6 al6
         have Uv7 := Twl.below Uv6 al6
         clear hB6 al6 K4 Kp6 Ea4 Eb4 Ec4 Ed4 Eu4 Ev4 Ta5 Ua5 Tb5 Ub5 Tc5 Uc5 Td5 Ud5 Tu6 Uu6 Tv6 Uv6
         go_wp2_with fail
         generalize hg6 : w6.heap.size = gq at K6 sz6 x61 x62
         generalize w6.alloc (.cells #[.bool su, .slice (some ⟨gu, 0, none⟩) nu eu, .bool zu, .slice (some ⟨hu, 0, none⟩) mu fu, .bool sv, .slice (some ⟨gv, 0, none⟩) nv ev, .bool zv, .slice (some ⟨hv, 0, none⟩) mv fv] 30) = w7 at K6 Ea6 Ta7 Ua7 Eb6 Tb7 Ub7 Ec6 Tc7 Uc7 Ed6 Td7 Ud7 Eu6 Tu7 Uu7 Ev6 Tv7 Uv7 ⊢
         clear hg6
         as_aux_lemma =>
           have Wa7 : LmE.at_ w7 ((sa, some ⟨ga, 0, none⟩, na, ea, la), (za, some ⟨ha, 0, none⟩, ma, fa, ka)) := ⟨Ta7.2.1, Ua7.2.1, bna, bma⟩
           have Wb7 : LmE.at_ w7 ((sb, some ⟨gb, 0, none⟩, nb, eb, lb), (zb, some ⟨hb, 0, none⟩, mb, fb, kb)) := ⟨Tb7.2.1, Ub7.2.1, bnb, bmb⟩
           have Wc7 : LmE.at_ w7 ((sc, some ⟨gc, 0, none⟩, nc, ec, lc), (zc, some ⟨hc, 0, none⟩, mc, fc, kc)) := ⟨Tc7.2.1, Uc7.2.1, bnc, bmc⟩
           have Wd7 : LmE.at_ w7 ((sd, some ⟨gd, 0, none⟩, nd, ed, ld), (zd, some ⟨hd, 0, none⟩, md, fd, kd)) := ⟨Td7.2.1, Ud7.2.1, bnd, bmd⟩
           have Wu7 : LmE.at_ w7 ((su, some ⟨gu, 0, none⟩, nu, eu, lu), (zu, some ⟨hu, 0, none⟩, mu, fu, ku)) := ⟨Tu7.2.1, Uu7.2.1, bnu, bmu⟩
           have Wv7 : LmE.at_ w7 ((sv, some ⟨gv, 0, none⟩, nv, ev, lv), (zv, some ⟨hv, 0, none⟩, mv, fv, kv)) := ⟨Tv7.2.1, Uv7.2.1, bnv, bmv⟩
           obtain ⟨⟨pb, pe⟩, hP⟩ : ∃ P, keepsV ((sa, Aa, na, ca, la), (za, Ba, ma, da, ka)) ((sb, Ab, nb, cb, lb), (zb, Bb, mb, db, kb)) ((sc, Ac, nc, cc, lc), (zc, Bc, mc, dc, kc)) ((sd, Ad, nd, cd, ld), (zd, Bd, md, dd, kd)) ((su, Au, nu, cu, lu), (zu, Bu, mu, du, ku)) ((sv, Av, nv, cv, lv), (zv, Bv, mv, dv, kv)) = P := ⟨_, rfl⟩
           have hP2 : keepsV ((sa, some ⟨ga, 0, none⟩, na, ea, la), (za, some ⟨ha, 0, none⟩, ma, fa, ka)) ((sb, some ⟨gb, 0, none⟩, nb, eb, lb), (zb, some ⟨hb, 0, none⟩, mb, fb, kb)) ((sc, some ⟨gc, 0, none⟩, nc, ec, lc), (zc, some ⟨hc, 0, none⟩, mc, fc, kc)) ((sd, some ⟨gd, 0, none⟩, nd, ed, ld), (zd, some ⟨hd, 0, none⟩, md, fd, kd)) ((su, some ⟨gu, 0, none⟩, nu, eu, lu), (zu, some ⟨hu, 0, none⟩, mu, fu, ku)) ((sv, some ⟨gv, 0, none⟩, nv, ev, lv), (zv, some ⟨hv, 0, none⟩, mv, fv, kv)) = (pb, pe) := hP
           have HPP := Lib.hid hP
           have HPP2 := Lib.hid hP2
           clear hP hP2
           refine (mode_keeps_any sa (some ⟨ga, 0, none⟩) na ea la za (some ⟨ha, 0, none⟩) ma fa ka sb (some ⟨gb, 0, none⟩) nb eb lb zb (some ⟨hb, 0, none⟩) mb fb kb sc (some ⟨gc, 0, none⟩) nc ec lc zc (some ⟨hc, 0, none⟩) mc fc kc sd (some ⟨gd, 0, none⟩) nd ed ld zd (some ⟨hd, 0, none⟩) md fd kd su (some ⟨gu, 0, none⟩) nu eu lu zu (some ⟨hu, 0, none⟩) mu fu ku sv (some ⟨gv, 0, none⟩) nv ev lv zv (some ⟨hv, 0, none⟩) mv fv kv _ Wa7 Wb7 Wc7 Wd7 Wu7 Wv7).mono ?_
           rw [HPP2.out]
           rintro e8 w8 ⟨rfl, hB8⟩
           have K8 := K6.next hB8
           have Ea8 := LmE.at_.below Ea6 hB8
           have Ta8 := Twl.below Ta7 hB8
           have Ua8 := Twl.below Ua7 hB8
           have Eb8 := LmE.at_.below Eb6 hB8
           have Tb8 := Twl.below Tb7 hB8
           have Ub8 := Twl.below Ub7 hB8
           have Ec8 := LmE.at_.below Ec6 hB8
           have Tc8 := Twl.below Tc7 hB8
           have Uc8 := Twl.below Uc7 hB8
           have Ed8 := LmE.at_.below Ed6 hB8
           have Td8 := Twl.below Td7 hB8
           have Ud8 := Twl.below Ud7 hB8
           have Eu8 := LmE.at_.below Eu6 hB8
           have Tu8 := Twl.below Tu7 hB8
           have Uu8 := Twl.below Uu7 hB8
           have Ev8 := LmE.at_.below Ev6 hB8
           have Tv8 := Twl.below Tv7 hB8
           have Uv8 := Twl.below Uv7 hB8
           clear hB8 K6 Ea6 Ta7 Ua7 Wa7 Eb6 Tb7 Ub7 Wb7 Ec6 Tc7 Uc7 Wc7 Ed6 Td7 Ud7 Wd7 Eu6 Tu7 Uu7 Wu7 Ev6 Tv7 Uv7 Wv7
           as_aux_lemma =>
             obtain ⟨q0_8x, q1_8x, q2_8x, q3_8x, q4_8x, q5_8x, q6_8x, q7_8x, q8_8x, q9_8x, q10_8x, q11_8x, q12_8x, q13_8x, q14_8x, q15_8x⟩ := (K8.blk (g := w.heap.size) (vs := [.bool sa, .slice Aa na ca, .bool za, .slice Ba ma da, .bool sb, .slice Ab nb cb, .bool zb, .slice Bb mb db, .bool sc, .slice Ac nc cc, .bool zc, .slice Bc mc dc, .bool sd, .slice Ad nd cd, .bool zd, .slice Bd md dd]) (List.mem_of_getElem? (i := 3) rfl)).c16
             obtain ⟨q0_8y, q1_8y, q2_8y, q3_8y, q4_8y, q5_8y, q6_8y, q7_8y⟩ := (K8.blk (g := w.heap.size + 1) (vs := [.bool su, .slice Au nu cu, .bool zu, .slice Bu mu du, .bool sv, .slice Av nv cv, .bool zv, .slice Bv mv dv]) (List.mem_of_getElem? (i := 2) rfl)).c8
             go_wp2_with fail
             refine (ref16_keeps_any sa Aa na ca la za Ba ma da ka sb Ab nb cb lb zb Bb mb db kb sc Ac nc cc lc zc Bc mc dc kc sd Ad nd cd ld zd Bd md dd kd su Au nu cu lu zu Bu mu du ku sv Av nv cv lv zv Bv mv dv kv _ Ea8 Eb8 Ec8 Ed8 Eu8 Ev8).mono ?_
             rw [HPP.out]
             rintro e9 w9 ⟨rfl, hB9⟩
             have K9 := K8.next hB9
             have Ea9 := LmE.at_.below Ea8 hB9
             have Ta9 := Twl.below Ta8 hB9
             have Ua9 := Twl.below Ua8 hB9
             have Eb9 := LmE.at_.below Eb8 hB9
             have Tb9 := Twl.below Tb8 hB9
             have Ub9 := Twl.below Ub8 hB9
             have Ec9 := LmE.at_.below Ec8 hB9
             have Tc9 := Twl.below Tc8 hB9
             have Uc9 := Twl.below Uc8 hB9
             have Ed9 := LmE.at_.below Ed8 hB9
             have Td9 := Twl.below Td8 hB9
             have Ud9 := Twl.below Ud8 hB9
             have Eu9 := LmE.at_.below Eu8 hB9
             have Tu9 := Twl.below Tu8 hB9
             have Uu9 := Twl.below Uu8 hB9
             have Ev9 := LmE.at_.below Ev8 hB9
             have Tv9 := Twl.below Tv8 hB9
             have Uv9 := Twl.below Uv8 hB9
             clear hB9 K8 Ea8 Ta8 Ua8 Eb8 Tb8 Ub8 Ec8 Tc8 Uc8 Ed8 Td8 Ud8 Eu8 Tu8 Uu8 Ev8 Tv8 Uv8
             as_aux_lemma =>
               obtain ⟨q0_9x, q1_9x, q2_9x, q3_9x, q4_9x, q5_9x, q6_9x, q7_9x, q8_9x, q9_9x, q10_9x, q11_9x, q12_9x, q13_9x, q14_9x, q15_9x⟩ := (K9.blk (g := w.heap.size) (vs := [.bool sa, .slice Aa na ca, .bool za, .slice Ba ma da, .bool sb, .slice Ab nb cb, .bool zb, .slice Bb mb db, .bool sc, .slice Ac nc cc, .bool zc, .slice Bc mc dc, .bool sd, .slice Ad nd cd, .bool zd, .slice Bd md dd]) (List.mem_of_getElem? (i := 3) rfl)).c16
               obtain ⟨q0_9y, q1_9y, q2_9y, q3_9y, q4_9y, q5_9y, q6_9y, q7_9y⟩ := (K9.blk (g := w.heap.size + 1) (vs := [.bool su, .slice Au nu cu, .bool zu, .slice Bu mu du, .bool sv, .slice Av nv cv, .bool zv, .slice Bv mv dv]) (List.mem_of_getElem? (i := 2) rfl)).c8
               obtain ⟨q0_9m, q1_9m, q2_9m, q3_9m, q4_9m, q5_9m, q6_9m, q7_9m, q8_9m, q9_9m, q10_9m, q11_9m, q12_9m, q13_9m, q14_9m, q15_9m⟩ := (K9.blk (g := gm) (vs := [.bool sa, .slice (some ⟨ga, 0, none⟩) na ea, .bool za, .slice (some ⟨ha, 0, none⟩) ma fa, .bool sb, .slice (some ⟨gb, 0, none⟩) nb eb, .bool zb, .slice (some ⟨hb, 0, none⟩) mb fb, .bool sc, .slice (some ⟨gc, 0, none⟩) nc ec, .bool zc, .slice (some ⟨hc, 0, none⟩) mc fc, .bool sd, .slice (some ⟨gd, 0, none⟩) nd ed, .bool zd, .slice (some ⟨hd, 0, none⟩) md fd]) (List.mem_of_getElem? (i := 1) rfl)).c16
               obtain ⟨q0_9q, q1_9q, q2_9q, q3_9q, q4_9q, q5_9q, q6_9q, q7_9q⟩ := (K9.blk (g := gq) (vs := [.bool su, .slice (some ⟨gu, 0, none⟩) nu eu, .bool zu, .slice (some ⟨hu, 0, none⟩) mu fu, .bool sv, .slice (some ⟨gv, 0, none⟩) nv ev, .bool zv, .slice (some ⟨hv, 0, none⟩) mv fv]) (List.mem_of_getElem? (i := 0) rfl)).c8
               go_wp2_with fail
               refine (left_matrix_any sa Aa na ca la za Ba ma da ka sb Ab nb cb lb zb Bb mb db kb sc Ac nc cc lc zc Bc mc dc kc sd Ad nd cd ld zd Bd md dd kd ga ea ha fa gb eb hb fb gc ec hc fc gd ed hd fd _ Ea9 Ta9 Ua9 Eb9 Tb9 Ub9 Ec9 Tc9 Uc9 Ed9 Td9 Ud9).mono ?_
               rintro ea wa ⟨rfl, hBa⟩
               have Ka := K9.next hBa
               have Eua := LmE.at_.below Eu9 hBa
               have Tua := Twl.below Tu9 hBa
               have Uua := Twl.below Uu9 hBa
               have Eva := LmE.at_.below Ev9 hBa
               have Tva := Twl.below Tv9 hBa
               have Uva := Twl.below Uv9 hBa
               obtain ⟨q0_ay, q1_ay, q2_ay, q3_ay, q4_ay, q5_ay, q6_ay, q7_ay⟩ := (Ka.blk (g := w.heap.size + 1) (vs := [.bool su, .slice Au nu cu, .bool zu, .slice Bu mu du, .bool sv, .slice Av nv cv, .bool zv, .slice Bv mv dv]) (List.mem_of_getElem? (i := 2) rfl)).c8
               obtain ⟨q0_aq, q1_aq, q2_aq, q3_aq, q4_aq, q5_aq, q6_aq, q7_aq⟩ := (Ka.blk (g := gq) (vs := [.bool su, .slice (some ⟨gu, 0, none⟩) nu eu, .bool zu, .slice (some ⟨hu, 0, none⟩) mu fu, .bool sv, .slice (some ⟨gv, 0, none⟩) nv ev, .bool zv, .slice (some ⟨hv, 0, none⟩) mv fv]) (List.mem_of_getElem? (i := 0) rfl)).c8
               clear hBa K9
               go_wp2_with fail
               refine (left_gauss_any su Au nu cu lu zu Bu mu du ku sv Av nv cv lv zv Bv mv dv kv gu eu hu fu gv ev hv fv _ Eua Tua Uua Eva Tva Uva).mono ?_
               rintro eb wb ⟨rfl, hBb⟩
               have Kb := Ka.next hBb
               go_wp2_with fail
               go_ret
               exact ⟨rfl, Kb.1⟩
end Go.Proofs.YtgafjnfplgfajaaGreat
