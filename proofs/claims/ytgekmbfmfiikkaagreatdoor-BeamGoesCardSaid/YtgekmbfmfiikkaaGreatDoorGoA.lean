/-
  Of the references: a complex number as an answer (polestarref03.Answer), a beam through a matrix (polestarref15.Through).
-/
import Derived.Test.YtgekmbfmfiikkaaGreatDoorOwN
import Derived.Test.YtgekmbfmfiikkaaGreatDoorGaB
import Derived.Test.YtgekmbfmfiikkaaGreatDoorRlA
import Derived.Test.YtgekmbfmfiikkaaGreatDoorLnB
set_option maxHeartbeats 6400000
set_option maxRecDepth 100000
namespace Go.Proofs.YtgekmbfmfiikkaaGreatDoor
open Go.RowKit
def RetNG (W : World) (x y x' y' v : Int) (e : Ending) (w' : World) : Prop :=
 ∃ (sa : Bool) (Aa : Option Addr) (na ca : Nat) (za : Bool) (Ba : Option Addr) (ma da : Nat) (sb : Bool) (Ab : Option Addr) (nb cb : Nat) (zb : Bool) (Bb : Option Addr) (mb db : Nat), e = .returned (.tuple #[.agg #[.bool sa, .slice Aa na ca, .bool za, .slice Ba ma da, .bool sb, .slice Ab nb cb, .bool zb, .slice Bb mb db], .int .i64 v]) ∧
  IsInt w' sa Aa na ca x ∧ IsInt w' za Ba ma da y ∧ IsInt w' sb Ab nb cb x' ∧ IsInt w' zb Bb mb db y' ∧ Below W.heap.size W w'
theorem ref03_answer_ok (sa za : Bool) (Aa Ba : Option Addr) (na ca ma da : Nat) (xa : Rat) (sb zb : Bool) (Ab Bb : Option Addr) (nb cb mb db : Nat) (xb : Rat) (w : World) (ia : IsInt w sa Aa na ca xa.num) (ja : IsInt w za Ba ma da (xa.den : Int)) (ya : Sz xa 2048) (ib : IsInt w sb Ab nb cb xb.num) (jb : IsInt w zb Bb mb db (xb.den : Int)) (yb : Sz xb 2048) :
  Calls Tryz.prog 53 #[.agg #[.bool sa, .slice Aa na ca, .bool za, .slice Ba ma da, .bool sb, .slice Ab nb cb, .bool zb, .slice Bb mb db]] w (fun e w' => e = .returned (.tuple #[.agg #[.bool sa, .slice Aa na ca, .bool za, .slice Ba ma da, .bool sb, .slice Ab nb cb, .bool zb, .slice Bb mb db], .int .i64 0]) ∧ Below w.heap.size w w') := by
 have hna : na ≤ 1000000 ∧ ma ≤ 1000000 ∧ nb ≤ 1000000 ∧ mb ≤ 1000000 := by
  have e1 := int_len ia ya.1
  have e2 := int_len ja ya.2
  have e3 := int_len ib yb.1
  have e4 := int_len jb yb.2
  omega
 obtain ⟨la, S1, c1, g1, z1⟩ := id ia
 obtain ⟨ka, S2, c2, g2, z2⟩ := id ja
 obtain ⟨lb, S3, c3, g3, z3⟩ := id ib
 obtain ⟨kb, S4, c4, g4, z4⟩ := id jb
 have oa : LmE.at_ w ((sa, Aa, na, ca, la), (za, Ba, ma, da, ka)) := ⟨S1, S2, by show na ≤ _; omega, by show ma ≤ _; omega⟩
 have ob : LmE.at_ w ((sb, Ab, nb, cb, lb), (zb, Bb, mb, db, kb)) := ⟨S3, S4, by show nb ≤ _; omega, by show mb ≤ _; omega⟩
 have A1 : lgB ((sa, Aa, na, ca, la), (za, Ba, ma, da, ka)) = false := by unfold lgB; have e1 := int_len ia ya.1; have e2 := int_len ja ya.2; simp only [Bool.or_eq_false_iff, decide_eq_false_iff_not]; omega
 have A2 : lgB ((sb, Ab, nb, cb, lb), (zb, Bb, mb, db, kb)) = false := by unfold lgB; have e1 := int_len ib yb.1; have e2 := int_len jb yb.2; simp only [Bool.or_eq_false_iff, decide_eq_false_iff_not]; omega
 have HLG : Hid ((if lgAll (two ((sa, Aa, na, ca, la), (za, Ba, ma, da, ka)) ((sb, Ab, nb, cb, lb), (zb, Bb, mb, db, kb))) 2 then (4 : Int) else 0) = 0) := Lib.hid (by rw [show lgAll (two ((sa, Aa, na, ca, la), (za, Ba, ma, da, ka)) ((sb, Ab, nb, cb, lb), (zb, Bb, mb, db, kb))) 2 = false by unfold lgAll lgAll lgAll; unfold two; simp [A1, A2]]; rfl)
 clear A1 A2 ya yb
 have K0 := ((Mm.nil w).var (g := w.heap.size) rfl [.bool sa, .slice Aa na ca, .bool za, .slice Ba ma da, .bool sb, .slice Ab nb cb, .bool zb, .slice Bb mb db] 30).var (g := w.heap.size + 1) (by simp) [.bool false, .slice none 0 0, .bool false, .slice none 0 0, .bool false, .slice none 0 0, .bool false, .slice none 0 0] 30
 replace oa := LmE.at_.below oa K0.1
 replace ob := LmE.at_.below ob K0.1
 clear ia ja ib jb S1 S2 S3 S4 z1 z2 z3 z4 c1 c2 c3 c4 g1 g2 g3 g4 hna
 have h01 : ¬ w.heap.size = w.heap.size + 1 := by omega
 have h10 : ¬ w.heap.size + 1 = w.heap.size := by omega
 go_enter Tryz.func53, Tryz.ntmps53
 go_upto_region 1 with (fail)
 generalize (w.alloc (.cells #[.bool sa, .slice Aa na ca, .bool za, .slice Ba ma da, .bool sb, .slice Ab nb cb, .bool zb, .slice Bb mb db] 30)).alloc (.cells #[.bool false, .slice none 0 0, .bool false, .slice none 0 0, .bool false, .slice none 0 0, .bool false, .slice none 0 0] 30) = w0 at K0 oa ob ⊢
 have hL := Lib.hid (lfs_two w0 rfl 26 oa ob)
 obtain ⟨q0, q1, q2, q3, q4, q5, q6, q7⟩ := (K0.blk (g := w.heap.size) (by repeat constructor)).c8
 go_wp2_with fail
 refine (ref2_answer_any w0.heap.size 2 2 (two ((sa, Aa, na, ca, la), (za, Ba, ma, da, ka)) ((sb, Ab, nb, cb, lb), (zb, Bb, mb, db, kb))) 0 _ hL.out (by decide) (by decide) HLG).mono ?_
 rintro e1 w1 ⟨rfl, hb1⟩
 have K2 := K0.next (below_box hb1)
 clear K0 hb1 hL oa ob q0 q1 q2 q3 q4 q5 q6 q7
 obtain ⟨q0, q1, q2, q3, q4, q5, q6, q7⟩ := (K2.blk (g := w.heap.size) (by repeat constructor)).c8
 obtain ⟨f0, f1, f2, f3, f4, f5, f6, f7⟩ := (K2.blk (g := w.heap.size + 1) (by repeat constructor)).c8
 obtain ⟨ff0, ff1, ff2, ff3, ff4, ff5, ff6, ff7, _⟩ := (K2.blk (g := w.heap.size + 1) (by repeat constructor)).f8
 go_wp2_with fail
 have K3 := (K2.pick (L' := [(w.heap.size + 1, [.bool false, .slice none 0 0, .bool false, .slice none 0 0, .bool false, .slice none 0 0, .bool false, .slice none 0 0])]) (l' := []) (by simp) (by simp)).set8 (by simp) sa Aa na ca za Ba ma da sb Ab nb cb zb Bb mb db
 exact bodyPost_ret (v := .tuple #[.agg #[.bool sa, .slice Aa na ca, .bool za, .slice Ba ma da, .bool sb, .slice Ab nb cb, .bool zb, .slice Bb mb db], .int .i64 0]) (by simp [results, Tryz.results53, go_sem, f0, f1, f2, f3, f4, f5, f6, f7]) rfl ⟨rfl, K3.1⟩
theorem ref03_answer_long (sa za : Bool) (Aa Ba : Option Addr) (na ca ma da : Nat) (xa : Rat) (sb zb : Bool) (Ab Bb : Option Addr) (nb cb mb db : Nat) (xb : Rat) (w : World) (ia : IsInt w sa Aa na ca xa.num) (ja : IsInt w za Ba ma da (xa.den : Int)) (ib : IsInt w sb Ab nb cb xb.num) (jb : IsInt w zb Bb mb db (xb.den : Int)) (hna : na ≤ 1000000 ∧ ma ≤ 1000000 ∧ nb ≤ 1000000 ∧ mb ≤ 1000000) (hl : ¬ (Sz xa 2048 ∧ Sz xb 2048)) :
  Calls Tryz.prog 53 #[.agg #[.bool sa, .slice Aa na ca, .bool za, .slice Ba ma da, .bool sb, .slice Ab nb cb, .bool zb, .slice Bb mb db]] w (RetGx w 4) := by
 obtain ⟨la, S1, c1, g1, z1⟩ := id ia
 obtain ⟨ka, S2, c2, g2, z2⟩ := id ja
 obtain ⟨lb, S3, c3, g3, z3⟩ := id ib
 obtain ⟨kb, S4, c4, g4, z4⟩ := id jb
 have oa : LmE.at_ w ((sa, Aa, na, ca, la), (za, Ba, ma, da, ka)) := ⟨S1, S2, by show na ≤ _; omega, by show ma ≤ _; omega⟩
 have ob : LmE.at_ w ((sb, Ab, nb, cb, lb), (zb, Bb, mb, db, kb)) := ⟨S3, S4, by show nb ≤ _; omega, by show mb ≤ _; omega⟩
 have HLG : Hid ((if lgAll (two ((sa, Aa, na, ca, la), (za, Ba, ma, da, ka)) ((sb, Ab, nb, cb, lb), (zb, Bb, mb, db, kb))) 2 then (4 : Int) else 0) = 4) := Lib.hid (by
  rw [lg_two (a := ((sa, Aa, na, ca, la), (za, Ba, ma, da, ka))) (b := ((sb, Ab, nb, cb, lb), (zb, Bb, mb, db, kb))) (by
   rw [Bool.or_eq_true]
   by_cases h : Sz xa 2048
   ·exact .inr (lg_of ib jb (fun k => hl ⟨h, k⟩))
   ·exact .inl (lg_of ia ja h))]
  rfl)
 clear hl
 have K0 := ((Mm.nil w).var (g := w.heap.size) rfl [.bool sa, .slice Aa na ca, .bool za, .slice Ba ma da, .bool sb, .slice Ab nb cb, .bool zb, .slice Bb mb db] 30).var (g := w.heap.size + 1) (by simp) [.bool false, .slice none 0 0, .bool false, .slice none 0 0, .bool false, .slice none 0 0, .bool false, .slice none 0 0] 30
 replace oa := LmE.at_.below oa K0.1
 replace ob := LmE.at_.below ob K0.1
 clear ia ja ib jb S1 S2 S3 S4 z1 z2 z3 z4 c1 c2 c3 c4 g1 g2 g3 g4 hna
 have h01 : ¬ w.heap.size = w.heap.size + 1 := by omega
 have h10 : ¬ w.heap.size + 1 = w.heap.size := by omega
 go_enter Tryz.func53, Tryz.ntmps53
 go_upto_region 1 with (fail)
 generalize (w.alloc (.cells #[.bool sa, .slice Aa na ca, .bool za, .slice Ba ma da, .bool sb, .slice Ab nb cb, .bool zb, .slice Bb mb db] 30)).alloc (.cells #[.bool false, .slice none 0 0, .bool false, .slice none 0 0, .bool false, .slice none 0 0, .bool false, .slice none 0 0] 30) = w0 at K0 oa ob ⊢
 have hL := Lib.hid (lfs_two w0 rfl 26 oa ob)
 obtain ⟨q0, q1, q2, q3, q4, q5, q6, q7⟩ := (K0.blk (g := w.heap.size) (by repeat constructor)).c8
 go_wp2_with fail
 refine (ref2_answer_any w0.heap.size 2 2 (two ((sa, Aa, na, ca, la), (za, Ba, ma, da, ka)) ((sb, Ab, nb, cb, lb), (zb, Bb, mb, db, kb))) 4 _ hL.out (by decide) (by decide) HLG).mono ?_
 rintro e1 w1 ⟨rfl, hb1⟩
 have K2 := K0.next (below_box hb1)
 clear K0 hb1 hL oa ob q0 q1 q2 q3 q4 q5 q6 q7
 obtain ⟨q0, q1, q2, q3, q4, q5, q6, q7⟩ := (K2.blk (g := w.heap.size) (by repeat constructor)).c8
 obtain ⟨f0, f1, f2, f3, f4, f5, f6, f7⟩ := (K2.blk (g := w.heap.size + 1) (by repeat constructor)).c8
 obtain ⟨ff0, ff1, ff2, ff3, ff4, ff5, ff6, ff7, _⟩ := (K2.blk (g := w.heap.size + 1) (by repeat constructor)).f8
 go_wp2_with fail
 have K3 := (K2.pick (L' := [(w.heap.size + 1, [.bool false, .slice none 0 0, .bool false, .slice none 0 0, .bool false, .slice none 0 0, .bool false, .slice none 0 0])]) (l' := []) (by simp) (by simp)).set8 (by simp) false none 0 0 false none 0 0 false none 0 0 false none 0 0
 exact bodyPost_ret (v := .tuple #[.agg #[.bool false, .slice none 0 0, .bool false, .slice none 0 0, .bool false, .slice none 0 0, .bool false, .slice none 0 0], .int .i64 4]) (by simp [results, Tryz.results53, go_sem, f0, f1, f2, f3, f4, f5, f6, f7]) rfl ⟨rfl, K3.1⟩
theorem ref15_through_yes (sa : Bool) (Aa : Option Addr) (na ca : Nat) (la : List Nat) (za : Bool) (Ba : Option Addr) (ma da : Nat) (ka : List Nat) (xa : Rat) (sb : Bool) (Ab : Option Addr) (nb cb : Nat) (lb : List Nat) (zb : Bool) (Bb : Option Addr) (mb db : Nat) (kb : List Nat) (xb : Rat) (sc : Bool) (Ac : Option Addr) (nc cc : Nat) (lc : List Nat) (zc : Bool) (Bc : Option Addr) (mc dc : Nat) (kc : List Nat) (xc : Rat) (sd : Bool) (Ad : Option Addr) (nd cd : Nat) (ld : List Nat) (zd : Bool) (Bd : Option Addr) (md dd : Nat) (kd : List Nat) (xd : Rat) (su : Bool) (Au : Option Addr) (nu cu : Nat) (lu : List Nat) (zu : Bool) (Bu : Option Addr) (mu du : Nat) (ku : List Nat) (xu : Rat) (sv : Bool) (Av : Option Addr) (nv cv : Nat) (lv : List Nat) (zv : Bool) (Bv : Option Addr) (mv dv : Nat) (kv : List Nat) (xv : Rat) (M : Nat) (r1 r2 : Rat) (x y x' y' v : Int) (w : World) (oa : OkF w ((sa, Aa, na, ca, la), (za, Ba, ma, da, ka)) xa) (ya : Sz xa M) (ob : OkF w ((sb, Ab, nb, cb, lb), (zb, Bb, mb, db, kb)) xb) (yb : Sz xb M) (oc : OkF w ((sc, Ac, nc, cc, lc), (zc, Bc, mc, dc, kc)) xc) (yc : Sz xc M) (od : OkF w ((sd, Ad, nd, cd, ld), (zd, Bd, md, dd, kd)) xd) (yd : Sz xd M) (ou : OkF w ((su, Au, nu, cu, lu), (zu, Bu, mu, du, ku)) xu) (yu : Sz xu M) (ov : OkF w ((sv, Av, nv, cv, lv), (zv, Bv, mv, dv, kv)) xv) (yv : Sz xv M) (hM : M ≤ 2400) (hdet : xa * xd - xb * xc = 1) (hv : 0 < xv)
  (h0 : ((((((xc + 0) * xu) - (0 * xv)) + (xd + 0)) * ((((xc + 0) * xu) - (0 * xv)) + (xd + 0))) + (((((xc + 0) * xv) + (0 * xu)) + 0) * ((((xc + 0) * xv) + (0 * xu)) + 0))) ≠ 0) (e1 : Hid ((((((((xa + 0) * xu) - (0 * xv)) + (xb + 0)) * (((((xc + 0) * xu) - (0 * xv)) + (xd + 0)) + 0)) - (((((xa + 0) * xv) + (0 * xu)) + 0) * (0 - ((((xc + 0) * xv) + (0 * xu)) + 0)))) / ((((((xc + 0) * xu) - (0 * xv)) + (xd + 0)) * ((((xc + 0) * xu) - (0 * xv)) + (xd + 0))) + (((((xc + 0) * xv) + (0 * xu)) + 0) * ((((xc + 0) * xv) + (0 * xu)) + 0)))) = r1)) (e2 : Hid ((((((((xa + 0) * xu) - (0 * xv)) + (xb + 0)) * (0 - ((((xc + 0) * xv) + (0 * xu)) + 0))) + (((((xa + 0) * xv) + (0 * xu)) + 0) * (((((xc + 0) * xu) - (0 * xv)) + (xd + 0)) + 0))) / ((((((xc + 0) * xu) - (0 * xv)) + (xd + 0)) * ((((xc + 0) * xu) - (0 * xv)) + (xd + 0))) + (((((xc + 0) * xv) + (0 * xu)) + 0) * ((((xc + 0) * xv) + (0 * xu)) + 0)))) = r2)) (z1 : Sz r1 100000) (z2 : Sz r2 100000) (hA : AnsG r1 r2 x y x' y' v) :
  Calls Tryz.prog 14 #[.agg #[.bool sa, .slice Aa na ca, .bool za, .slice Ba ma da, .bool sb, .slice Ab nb cb, .bool zb, .slice Bb mb db, .bool sc, .slice Ac nc cc, .bool zc, .slice Bc mc dc, .bool sd, .slice Ad nd cd, .bool zd, .slice Bd md dd], .agg #[.bool su, .slice Au nu cu, .bool zu, .slice Bu mu du, .bool sv, .slice Av nv cv, .bool zv, .slice Bv mv dv]] w (RetNG w x y x' y' v) := by
 have K0 := (((Mm.nil w).var (g := w.heap.size) rfl [.bool sa, .slice Aa na ca, .bool za, .slice Ba ma da, .bool sb, .slice Ab nb cb, .bool zb, .slice Bb mb db, .bool sc, .slice Ac nc cc, .bool zc, .slice Bc mc dc, .bool sd, .slice Ad nd cd, .bool zd, .slice Bd md dd] 28).var (g := w.heap.size + 1) (by simp) [.bool su, .slice Au nu cu, .bool zu, .slice Bu mu du, .bool sv, .slice Av nv cv, .bool zv, .slice Bv mv dv] 30).var (g := w.heap.size + 1 + 1) (by simp) [.bool false, .slice none 0 0, .bool false, .slice none 0 0, .bool false, .slice none 0 0, .bool false, .slice none 0 0] 30
 have HM := Lib.hid (okM_ok oa ob oc od hdet)
 have HC := Lib.hid (chkBm_ok ou ov hv)
 replace oa := oa.next K0.1
 replace ob := ob.next K0.1
 replace oc := oc.next K0.1
 replace od := od.next K0.1
 replace ou := ou.next K0.1
 replace ov := ov.next K0.1
 have H0 := Lib.hid h0
 have HV := Lib.hid hv
 have Ya := Lib.hid ya
 have Yb := Lib.hid yb
 have Yc := Lib.hid yc
 have Yd := Lib.hid yd
 have Yu := Lib.hid yu
 have Yv := Lib.hid yv
 have S1 := Lib.hid z1
 have S2 := Lib.hid z2
 clear hdet hv h0 z1 z2 ya yb yc yd yu yv
 have g01 : ¬ w.heap.size = w.heap.size + 1 := by omega
 have g02 : ¬ w.heap.size = w.heap.size + 1 + 1 := by omega
 have g12 : ¬ w.heap.size + 1 = w.heap.size + 1 + 1 := by omega
 go_enter Tryz.func14, Tryz.ntmps14
 go_upto_region 1 with (fail)
 generalize ((w.alloc (.cells #[.bool sa, .slice Aa na ca, .bool za, .slice Ba ma da, .bool sb, .slice Ab nb cb, .bool zb, .slice Bb mb db, .bool sc, .slice Ac nc cc, .bool zc, .slice Bc mc dc, .bool sd, .slice Ad nd cd, .bool zd, .slice Bd md dd] 28)).alloc (.cells #[.bool su, .slice Au nu cu, .bool zu, .slice Bu mu du, .bool sv, .slice Av nv cv, .bool zv, .slice Bv mv dv] 30)).alloc (.cells #[.bool false, .slice none 0 0, .bool false, .slice none 0 0, .bool false, .slice none 0 0, .bool false, .slice none 0 0] 30) = w0 at K0 oa ob oc od ou ov ⊢
 obtain ⟨p0, p1, p2, p3, p4, p5, p6, p7, p8, p9, p10, p11, p12, p13, p14, p15⟩ := (K0.blk (g := w.heap.size) (by repeat constructor)).c16
 go_wp2_with fail
 refine (ref9_may_any sa Aa na ca la za Ba ma da ka sb Ab nb cb lb zb Bb mb db kb sc Ac nc cc lc zc Bc mc dc kc sd Ad nd cd ld zd Bd md dd kd _ oa.1 ob.1 oc.1 od.1).mono ?_
 rintro e3 w3 ⟨rfl, hb3⟩
 rw [HM.out]
 have K1 := K0.next hb3
 replace oa := oa.next hb3
 replace ob := ob.next hb3
 replace oc := oc.next hb3
 replace od := od.next hb3
 replace ou := ou.next hb3
 replace ov := ov.next hb3
 clear K0 hb3 p0 p1 p2 p3 p4 p5 p6 p7 p8 p9 p10 p11 p12 p13 p14 p15
 obtain ⟨q0, q1, q2, q3, q4, q5, q6, q7⟩ := (K1.blk (g := w.heap.size + 1) (by repeat constructor)).c8
 go_wp2_with fail
 refine (ref15_check_any su Au nu cu lu zu Bu mu du ku sv Av nv cv lv zv Bv mv dv kv _ ou.1 ov.1).mono ?_
 rintro e4 w4 ⟨rfl, hb4⟩
 rw [HC.out]
 have K2 := K1.next hb4
 replace oa := oa.next hb4
 replace ob := ob.next hb4
 replace oc := oc.next hb4
 replace od := od.next hb4
 replace ou := ou.next hb4
 replace ov := ov.next hb4
 clear K1 hb4 q0 q1 q2 q3 q4 q5 q6 q7
 obtain ⟨p0, p1, p2, p3, p4, p5, p6, p7, p8, p9, p10, p11, p12, p13, p14, p15⟩ := (K2.blk (g := w.heap.size) (by repeat constructor)).c16
 obtain ⟨q0, q1, q2, q3, q4, q5, q6, q7⟩ := (K2.blk (g := w.heap.size + 1) (by repeat constructor)).c8
 go_wp2_with fail
 refine (ref15_behind_any sa za Aa Ba na ca ma da xa sb zb Ab Bb nb cb mb db xb sc zc Ac Bc nc cc mc dc xc sd zd Ad Bd nd cd md dd xd su zu Au Bu nu cu mu du xu sv zv Av Bv nv cv mv dv xv M _ oa.ints.1 oa.ints.2.1 Ya.out ob.ints.1 ob.ints.2.1 Yb.out oc.ints.1 oc.ints.2.1 Yc.out od.ints.1 od.ints.2.1 Yd.out ou.ints.1 ou.ints.2.1 Yu.out ov.ints.1 ov.ints.2.1 Yv.out hM H0.out).mono ?_
 rintro e5 w5 ⟨si, Ai, ni, ci, zi, Bi, mi, di, sj, Aj, nj, cj, zj, Bj, mj, dj, rfl, I1, J1, I2, J2, hb5⟩
 rw [e1.out] at I1 J1
 rw [e2.out] at I2 J2
 have K3 := ((((K2.next hb5).int J2).int I2).int J1).int I1
 clear K2 hb5 p0 p1 p2 p3 p4 p5 p6 p7 p8 p9 p10 p11 p12 p13 p14 p15 q0 q1 q2 q3 q4 q5 q6 q7 oa ob oc od ou ov
 go_wp2_with fail
 rcases hA with ⟨hs, rfl, rfl, rfl, rfl, rfl⟩ | ⟨hs, rfl, rfl, rfl, rfl, rfl⟩
 ·refine (ref03_answer_ok si zi Ai Bi ni ci mi di r1 sj zj Aj Bj nj cj mj dj r2 _ I1 J1 hs.1 I2 J2 hs.2).mono ?_
  rintro e6 w6 ⟨rfl, hb6⟩
  have K4 := K3.next hb6
  clear K3 hb6 I1 J1 I2 J2
  obtain ⟨f0, f1, f2, f3, f4, f5, f6, f7⟩ := (K4.blk (g := w.heap.size + 1 + 1) (by repeat constructor)).c8
  obtain ⟨ff0, ff1, ff2, ff3, ff4, ff5, ff6, ff7, _⟩ := (K4.blk (g := w.heap.size + 1 + 1) (by repeat constructor)).f8
  go_wp2_with fail
  have K9 := (K4.pick (L' := [(w.heap.size + 1 + 1, [.bool false, .slice none 0 0, .bool false, .slice none 0 0, .bool false, .slice none 0 0, .bool false, .slice none 0 0])]) (l' := [(si, Ai, ni, ci, r1.num), (zi, Bi, mi, di, (r1.den : Int)), (sj, Aj, nj, cj, r2.num), (zj, Bj, mj, dj, (r2.den : Int))]) (by simp) (by simp)).set8 (by simp) si Ai ni ci zi Bi mi di sj Aj nj cj zj Bj mj dj
  exact bodyPost_ret (v := .tuple #[.agg #[.bool si, .slice Ai ni ci, .bool zi, .slice Bi mi di, .bool sj, .slice Aj nj cj, .bool zj, .slice Bj mj dj], .int .i64 0]) (by simp [results, Tryz.results14, go_sem, f0, f1, f2, f3, f4, f5, f6, f7]) rfl ⟨_, _, _, _, _, _, _, _, _, _, _, _, _, _, _, _, rfl, K9.at_ (by simp), K9.at_ (by simp), K9.at_ (by simp), K9.at_ (by simp), K9.1⟩
 ·refine (ref03_answer_long si zi Ai Bi ni ci mi di r1 sj zj Aj Bj nj cj mj dj r2 _ I1 J1 I2 J2 ⟨Nat.le_trans (int_len I1 S1.out.1) (by decide), Nat.le_trans (int_len J1 (by rw [Int.natAbs_natCast]; exact S1.out.2)) (by decide), Nat.le_trans (int_len I2 S2.out.1) (by decide), Nat.le_trans (int_len J2 (by rw [Int.natAbs_natCast]; exact S2.out.2)) (by decide)⟩ hs).mono ?_
  rintro e6 w6 ⟨rfl, hb6⟩
  have K4 := K3.next hb6
  clear K3 hb6 I1 J1 I2 J2
  obtain ⟨f0, f1, f2, f3, f4, f5, f6, f7⟩ := (K4.blk (g := w.heap.size + 1 + 1) (by repeat constructor)).c8
  obtain ⟨ff0, ff1, ff2, ff3, ff4, ff5, ff6, ff7, _⟩ := (K4.blk (g := w.heap.size + 1 + 1) (by repeat constructor)).f8
  go_wp2_with fail
  have K9 := (K4.pick (L' := [(w.heap.size + 1 + 1, [.bool false, .slice none 0 0, .bool false, .slice none 0 0, .bool false, .slice none 0 0, .bool false, .slice none 0 0])]) (l' := []) (by simp) (by simp)).set8 (by simp) false none 0 0 false none 0 0 false none 0 0 false none 0 0
  exact bodyPost_ret (v := .tuple #[.agg #[.bool false, .slice none 0 0, .bool false, .slice none 0 0, .bool false, .slice none 0 0, .bool false, .slice none 0 0], .int .i64 4]) (by simp [results, Tryz.results14, go_sem, f0, f1, f2, f3, f4, f5, f6, f7]) rfl ⟨false, none, 0, 0, false, none, 0, 0, false, none, 0, 0, false, none, 0, 0, rfl, isInt_nought, isInt_nought, isInt_nought, isInt_nought, K9.1⟩
theorem ref15_through_no (sa : Bool) (Aa : Option Addr) (na ca : Nat) (la : List Nat) (za : Bool) (Ba : Option Addr) (ma da : Nat) (ka : List Nat) (sb : Bool) (Ab : Option Addr) (nb cb : Nat) (lb : List Nat) (zb : Bool) (Bb : Option Addr) (mb db : Nat) (kb : List Nat) (sc : Bool) (Ac : Option Addr) (nc cc : Nat) (lc : List Nat) (zc : Bool) (Bc : Option Addr) (mc dc : Nat) (kc : List Nat) (sd : Bool) (Ad : Option Addr) (nd cd : Nat) (ld : List Nat) (zd : Bool) (Bd : Option Addr) (md dd : Nat) (kd : List Nat) (su : Bool) (Au : Option Addr) (nu cu : Nat) (lu : List Nat) (zu : Bool) (Bu : Option Addr) (mu du : Nat) (ku : List Nat) (sv : Bool) (Av : Option Addr) (nv cv : Nat) (lv : List Nat) (zv : Bool) (Bv : Option Addr) (mv dv : Nat) (kv : List Nat) (v : Int) (w : World) (aa : LmE.at_ w ((sa, Aa, na, ca, la), (za, Ba, ma, da, ka))) (ab : LmE.at_ w ((sb, Ab, nb, cb, lb), (zb, Bb, mb, db, kb))) (ac : LmE.at_ w ((sc, Ac, nc, cc, lc), (zc, Bc, mc, dc, kc))) (ad : LmE.at_ w ((sd, Ad, nd, cd, ld), (zd, Bd, md, dd, kd))) (au : LmE.at_ w ((su, Au, nu, cu, lu), (zu, Bu, mu, du, ku))) (av : LmE.at_ w ((sv, Av, nv, cv, lv), (zv, Bv, mv, dv, kv))) (hm : okM ((sa, Aa, na, ca, la), (za, Ba, ma, da, ka)) ((sb, Ab, nb, cb, lb), (zb, Bb, mb, db, kb)) ((sc, Ac, nc, cc, lc), (zc, Bc, mc, dc, kc)) ((sd, Ad, nd, cd, ld), (zd, Bd, md, dd, kd)) = true) (hv : Hid (chkBm ((su, Au, nu, cu, lu), (zu, Bu, mu, du, ku)) ((sv, Av, nv, cv, lv), (zv, Bv, mv, dv, kv)) = v)) (h0 : v ≠ 0) :
  Calls Tryz.prog 14 #[.agg #[.bool sa, .slice Aa na ca, .bool za, .slice Ba ma da, .bool sb, .slice Ab nb cb, .bool zb, .slice Bb mb db, .bool sc, .slice Ac nc cc, .bool zc, .slice Bc mc dc, .bool sd, .slice Ad nd cd, .bool zd, .slice Bd md dd], .agg #[.bool su, .slice Au nu cu, .bool zu, .slice Bu mu du, .bool sv, .slice Av nv cv, .bool zv, .slice Bv mv dv]] w (RetNG w 0 0 0 0 v) := by
 have K0 := (((Mm.nil w).var (g := w.heap.size) rfl [.bool sa, .slice Aa na ca, .bool za, .slice Ba ma da, .bool sb, .slice Ab nb cb, .bool zb, .slice Bb mb db, .bool sc, .slice Ac nc cc, .bool zc, .slice Bc mc dc, .bool sd, .slice Ad nd cd, .bool zd, .slice Bd md dd] 28).var (g := w.heap.size + 1) (by simp) [.bool su, .slice Au nu cu, .bool zu, .slice Bu mu du, .bool sv, .slice Av nv cv, .bool zv, .slice Bv mv dv] 30).var (g := w.heap.size + 1 + 1) (by simp) [.bool false, .slice none 0 0, .bool false, .slice none 0 0, .bool false, .slice none 0 0, .bool false, .slice none 0 0] 30
 have HM := Lib.hid hm
 have hv0 : (v == 0) = false := by rw [beq_eq_false_iff_ne]; exact h0
 clear h0
 replace aa := LmE.at_.below aa K0.1
 replace ab := LmE.at_.below ab K0.1
 replace ac := LmE.at_.below ac K0.1
 replace ad := LmE.at_.below ad K0.1
 replace au := LmE.at_.below au K0.1
 replace av := LmE.at_.below av K0.1
 clear hm
 have g01 : ¬ w.heap.size = w.heap.size + 1 := by omega
 have g02 : ¬ w.heap.size = w.heap.size + 1 + 1 := by omega
 have g12 : ¬ w.heap.size + 1 = w.heap.size + 1 + 1 := by omega
 go_enter Tryz.func14, Tryz.ntmps14
 go_upto_region 1 with (fail)
 generalize ((w.alloc (.cells #[.bool sa, .slice Aa na ca, .bool za, .slice Ba ma da, .bool sb, .slice Ab nb cb, .bool zb, .slice Bb mb db, .bool sc, .slice Ac nc cc, .bool zc, .slice Bc mc dc, .bool sd, .slice Ad nd cd, .bool zd, .slice Bd md dd] 28)).alloc (.cells #[.bool su, .slice Au nu cu, .bool zu, .slice Bu mu du, .bool sv, .slice Av nv cv, .bool zv, .slice Bv mv dv] 30)).alloc (.cells #[.bool false, .slice none 0 0, .bool false, .slice none 0 0, .bool false, .slice none 0 0, .bool false, .slice none 0 0] 30) = w0 at K0 aa ab ac ad au av ⊢
 obtain ⟨p0, p1, p2, p3, p4, p5, p6, p7, p8, p9, p10, p11, p12, p13, p14, p15⟩ := (K0.blk (g := w.heap.size) (by repeat constructor)).c16
 go_wp2_with fail
 refine (ref9_may_any sa Aa na ca la za Ba ma da ka sb Ab nb cb lb zb Bb mb db kb sc Ac nc cc lc zc Bc mc dc kc sd Ad nd cd ld zd Bd md dd kd _ aa ab ac ad).mono ?_
 rintro e3 w3 ⟨rfl, hb3⟩
 rw [HM.out]
 have K1 := K0.next hb3
 replace au := LmE.at_.below au hb3
 replace av := LmE.at_.below av hb3
 clear K0 hb3 aa ab ac ad p0 p1 p2 p3 p4 p5 p6 p7 p8 p9 p10 p11 p12 p13 p14 p15
 obtain ⟨q0, q1, q2, q3, q4, q5, q6, q7⟩ := (K1.blk (g := w.heap.size + 1) (by repeat constructor)).c8
 go_wp2_with fail
 refine (ref15_check_any su Au nu cu lu zu Bu mu du ku sv Av nv cv lv zv Bv mv dv kv _ au av).mono ?_
 rintro e4 w4 ⟨rfl, hb4⟩
 rw [hv.out]
 have K4 := K1.next hb4
 clear K1 hb4 au av q0 q1 q2 q3 q4 q5 q6 q7
 obtain ⟨f0, f1, f2, f3, f4, f5, f6, f7⟩ := (K4.blk (g := w.heap.size + 1 + 1) (by repeat constructor)).c8
 obtain ⟨ff0, ff1, ff2, ff3, ff4, ff5, ff6, ff7, _⟩ := (K4.blk (g := w.heap.size + 1 + 1) (by repeat constructor)).f8
 go_wp2_with fail
 have K9 := (K4.pick (L' := [(w.heap.size + 1 + 1, [.bool false, .slice none 0 0, .bool false, .slice none 0 0, .bool false, .slice none 0 0, .bool false, .slice none 0 0])]) (l' := []) (by simp) (by simp)).set8 (by simp) false none 0 0 false none 0 0 false none 0 0 false none 0 0
 exact bodyPost_ret (v := .tuple #[.agg #[.bool false, .slice none 0 0, .bool false, .slice none 0 0, .bool false, .slice none 0 0, .bool false, .slice none 0 0], .int .i64 v]) (by simp [results, Tryz.results14, go_sem, f0, f1, f2, f3, f4, f5, f6, f7]) rfl ⟨false, none, 0, 0, false, none, 0, 0, false, none, 0, 0, false, none, 0, 0, rfl, isInt_nought, isInt_nought, isInt_nought, isInt_nought, K9.1⟩
theorem ref15_through_arg (sa : Bool) (Aa : Option Addr) (na ca : Nat) (la : List Nat) (za : Bool) (Ba : Option Addr) (ma da : Nat) (ka : List Nat) (sb : Bool) (Ab : Option Addr) (nb cb : Nat) (lb : List Nat) (zb : Bool) (Bb : Option Addr) (mb db : Nat) (kb : List Nat) (sc : Bool) (Ac : Option Addr) (nc cc : Nat) (lc : List Nat) (zc : Bool) (Bc : Option Addr) (mc dc : Nat) (kc : List Nat) (sd : Bool) (Ad : Option Addr) (nd cd : Nat) (ld : List Nat) (zd : Bool) (Bd : Option Addr) (md dd : Nat) (kd : List Nat) (su : Bool) (Au : Option Addr) (nu cu : Nat) (lu : List Nat) (zu : Bool) (Bu : Option Addr) (mu du : Nat) (ku : List Nat) (sv : Bool) (Av : Option Addr) (nv cv : Nat) (lv : List Nat) (zv : Bool) (Bv : Option Addr) (mv dv : Nat) (kv : List Nat) (v : Int) (w : World) (aa : LmE.at_ w ((sa, Aa, na, ca, la), (za, Ba, ma, da, ka))) (ab : LmE.at_ w ((sb, Ab, nb, cb, lb), (zb, Bb, mb, db, kb))) (ac : LmE.at_ w ((sc, Ac, nc, cc, lc), (zc, Bc, mc, dc, kc))) (ad : LmE.at_ w ((sd, Ad, nd, cd, ld), (zd, Bd, md, dd, kd))) (au : LmE.at_ w ((su, Au, nu, cu, lu), (zu, Bu, mu, du, ku))) (av : LmE.at_ w ((sv, Av, nv, cv, lv), (zv, Bv, mv, dv, kv))) (hm : okM ((sa, Aa, na, ca, la), (za, Ba, ma, da, ka)) ((sb, Ab, nb, cb, lb), (zb, Bb, mb, db, kb)) ((sc, Ac, nc, cc, lc), (zc, Bc, mc, dc, kc)) ((sd, Ad, nd, cd, ld), (zd, Bd, md, dd, kd)) = false) (hv : Hid ((1 : Int) = v)) :
  Calls Tryz.prog 14 #[.agg #[.bool sa, .slice Aa na ca, .bool za, .slice Ba ma da, .bool sb, .slice Ab nb cb, .bool zb, .slice Bb mb db, .bool sc, .slice Ac nc cc, .bool zc, .slice Bc mc dc, .bool sd, .slice Ad nd cd, .bool zd, .slice Bd md dd], .agg #[.bool su, .slice Au nu cu, .bool zu, .slice Bu mu du, .bool sv, .slice Av nv cv, .bool zv, .slice Bv mv dv]] w (RetNG w 0 0 0 0 v) := by
 have K0 := (((Mm.nil w).var (g := w.heap.size) rfl [.bool sa, .slice Aa na ca, .bool za, .slice Ba ma da, .bool sb, .slice Ab nb cb, .bool zb, .slice Bb mb db, .bool sc, .slice Ac nc cc, .bool zc, .slice Bc mc dc, .bool sd, .slice Ad nd cd, .bool zd, .slice Bd md dd] 28).var (g := w.heap.size + 1) (by simp) [.bool su, .slice Au nu cu, .bool zu, .slice Bu mu du, .bool sv, .slice Av nv cv, .bool zv, .slice Bv mv dv] 30).var (g := w.heap.size + 1 + 1) (by simp) [.bool false, .slice none 0 0, .bool false, .slice none 0 0, .bool false, .slice none 0 0, .bool false, .slice none 0 0] 30
 have HM := Lib.hid hm
 replace aa := LmE.at_.below aa K0.1
 replace ab := LmE.at_.below ab K0.1
 replace ac := LmE.at_.below ac K0.1
 replace ad := LmE.at_.below ad K0.1
 replace au := LmE.at_.below au K0.1
 replace av := LmE.at_.below av K0.1
 clear hm
 have g01 : ¬ w.heap.size = w.heap.size + 1 := by omega
 have g02 : ¬ w.heap.size = w.heap.size + 1 + 1 := by omega
 have g12 : ¬ w.heap.size + 1 = w.heap.size + 1 + 1 := by omega
 go_enter Tryz.func14, Tryz.ntmps14
 go_upto_region 1 with (fail)
 generalize ((w.alloc (.cells #[.bool sa, .slice Aa na ca, .bool za, .slice Ba ma da, .bool sb, .slice Ab nb cb, .bool zb, .slice Bb mb db, .bool sc, .slice Ac nc cc, .bool zc, .slice Bc mc dc, .bool sd, .slice Ad nd cd, .bool zd, .slice Bd md dd] 28)).alloc (.cells #[.bool su, .slice Au nu cu, .bool zu, .slice Bu mu du, .bool sv, .slice Av nv cv, .bool zv, .slice Bv mv dv] 30)).alloc (.cells #[.bool false, .slice none 0 0, .bool false, .slice none 0 0, .bool false, .slice none 0 0, .bool false, .slice none 0 0] 30) = w0 at K0 aa ab ac ad au av ⊢
 obtain ⟨p0, p1, p2, p3, p4, p5, p6, p7, p8, p9, p10, p11, p12, p13, p14, p15⟩ := (K0.blk (g := w.heap.size) (by repeat constructor)).c16
 go_wp2_with fail
 refine (ref9_may_any sa Aa na ca la za Ba ma da ka sb Ab nb cb lb zb Bb mb db kb sc Ac nc cc lc zc Bc mc dc kc sd Ad nd cd ld zd Bd md dd kd _ aa ab ac ad).mono ?_
 rintro e3 w3 ⟨rfl, hb3⟩
 rw [HM.out]
 have K1 := K0.next hb3
 have K4 := K1
 clear K0 K1 hb3 aa ab ac ad au av p0 p1 p2 p3 p4 p5 p6 p7 p8 p9 p10 p11 p12 p13 p14 p15
 obtain rfl : (1 : Int) = v := hv.out
 obtain ⟨f0, f1, f2, f3, f4, f5, f6, f7⟩ := (K4.blk (g := w.heap.size + 1 + 1) (by repeat constructor)).c8
 obtain ⟨ff0, ff1, ff2, ff3, ff4, ff5, ff6, ff7, _⟩ := (K4.blk (g := w.heap.size + 1 + 1) (by repeat constructor)).f8
 go_wp2_with fail
 have K9 := (K4.pick (L' := [(w.heap.size + 1 + 1, [.bool false, .slice none 0 0, .bool false, .slice none 0 0, .bool false, .slice none 0 0, .bool false, .slice none 0 0])]) (l' := []) (by simp) (by simp)).set8 (by simp) false none 0 0 false none 0 0 false none 0 0 false none 0 0
 exact bodyPost_ret (v := .tuple #[.agg #[.bool false, .slice none 0 0, .bool false, .slice none 0 0, .bool false, .slice none 0 0, .bool false, .slice none 0 0], .int .i64 1]) (by simp [results, Tryz.results14, go_sem, f0, f1, f2, f3, f4, f5, f6, f7]) rfl ⟨false, none, 0, 0, false, none, 0, 0, false, none, 0, 0, false, none, 0, 0, rfl, isInt_nought, isInt_nought, isInt_nought, isInt_nought, K9.1⟩
end Go.Proofs.YtgekmbfmfiikkaaGreatDoor
