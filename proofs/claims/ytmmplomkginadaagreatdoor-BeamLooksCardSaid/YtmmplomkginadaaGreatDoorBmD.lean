/-
  A beam that may be behind a matrix that may be (beam.Through).
-/
import Derived.Test.YtmmplomkginadaaGreatDoorBmB
import Derived.Test.YtmmplomkginadaaGreatDoorBmC
namespace Go.Proofs.YtmmplomkginadaaGreatDoor
open Go.RowKit

theorem okM_ok {w : World} {a b c d : LmE} {x y z t : Rat} (ha : OkF w a x) (hb : OkF w b y) (hc : OkF w c z) (hd : OkF w d t) (h : x * t - y * z = 1) : okM a b c d = true := by
  unfold okM
  rw [ha.2.1, hb.2.1, hc.2.1, hd.2.1, ha.2.2, hb.2.2, hc.2.2, hd.2.2, decide_eq_true h]
  rfl
theorem chkBm_ok {w : World} {a b : LmE} {x y : Rat} (ha : OkF w a x) (hb : OkF w b y) (h : 0 < y) : chkBm a b = 0 := by
  unfold chkBm
  rw [ha.2.1, hb.2.1, hb.2.2, if_pos h]
  rfl

set_option maxRecDepth 100000 in
set_option maxHeartbeats 6400000 in
theorem beam_through_ok (sa : Bool) (Aa : Option Addr) (na ca : Nat) (la : List Nat) (za : Bool) (Ba : Option Addr) (ma da : Nat) (ka : List Nat) (xa : Rat) (sb : Bool) (Ab : Option Addr) (nb cb : Nat) (lb : List Nat) (zb : Bool) (Bb : Option Addr) (mb db : Nat) (kb : List Nat) (xb : Rat) (sc : Bool) (Ac : Option Addr) (nc cc : Nat) (lc : List Nat) (zc : Bool) (Bc : Option Addr) (mc dc : Nat) (kc : List Nat) (xc : Rat) (sd : Bool) (Ad : Option Addr) (nd cd : Nat) (ld : List Nat) (zd : Bool) (Bd : Option Addr) (md dd : Nat) (kd : List Nat) (xd : Rat) (su : Bool) (Au : Option Addr) (nu cu : Nat) (lu : List Nat) (zu : Bool) (Bu : Option Addr) (mu du : Nat) (ku : List Nat) (xu : Rat) (sv : Bool) (Av : Option Addr) (nv cv : Nat) (lv : List Nat) (zv : Bool) (Bv : Option Addr) (mv dv : Nat) (kv : List Nat) (xv : Rat) (M : Nat) (r1 r2 : Rat) (w : World) (oa : OkF w ((sa, Aa, na, ca, la), (za, Ba, ma, da, ka)) xa) (ya : Sz xa M) (ob : OkF w ((sb, Ab, nb, cb, lb), (zb, Bb, mb, db, kb)) xb) (yb : Sz xb M) (oc : OkF w ((sc, Ac, nc, cc, lc), (zc, Bc, mc, dc, kc)) xc) (yc : Sz xc M) (od : OkF w ((sd, Ad, nd, cd, ld), (zd, Bd, md, dd, kd)) xd) (yd : Sz xd M) (ou : OkF w ((su, Au, nu, cu, lu), (zu, Bu, mu, du, ku)) xu) (yu : Sz xu M) (ov : OkF w ((sv, Av, nv, cv, lv), (zv, Bv, mv, dv, kv)) xv) (yv : Sz xv M) (hM : M ≤ 9000) (hdet : xa * xd - xb * xc = 1) (hv : 0 < xv)
    (h0 : ((((xc * xu) + xd) * ((xc * xu) + xd)) + ((xc * xv) * (xc * xv))) ≠ 0) (e1 : Hid ((((((xa * xu) + xb) * ((xc * xu) + xd)) + ((xa * xv) * (xc * xv))) / ((((xc * xu) + xd) * ((xc * xu) + xd)) + ((xc * xv) * (xc * xv)))) = r1)) (e2 : Hid ((xv / ((((xc * xu) + xd) * ((xc * xu) + xd)) + ((xc * xv) * (xc * xv)))) = r2)) (s1 : Sz r1 2048) (s2 : Sz r2 2048) :
    Calls Tryz.prog 14 #[.agg #[.bool sa, .slice Aa na ca, .bool za, .slice Ba ma da, .bool sb, .slice Ab nb cb, .bool zb, .slice Bb mb db, .bool sc, .slice Ac nc cc, .bool zc, .slice Bc mc dc, .bool sd, .slice Ad nd cd, .bool zd, .slice Bd md dd], .agg #[.bool su, .slice Au nu cu, .bool zu, .slice Bu mu du, .bool sv, .slice Av nv cv, .bool zv, .slice Bv mv dv]] w (RetGk w r1 r2) := by
  have K0 := (((Mm.nil w).var (g := w.heap.size) rfl [.bool sa, .slice Aa na ca, .bool za, .slice Ba ma da, .bool sb, .slice Ab nb cb, .bool zb, .slice Bb mb db, .bool sc, .slice Ac nc cc, .bool zc, .slice Bc mc dc, .bool sd, .slice Ad nd cd, .bool zd, .slice Bd md dd] 28).var (g := w.heap.size + 1) (by simp) [.bool su, .slice Au nu cu, .bool zu, .slice Bu mu du, .bool sv, .slice Av nv cv, .bool zv, .slice Bv mv dv] 30).var (g := w.heap.size + 1 + 1) (by simp) [.bool false, .slice none 0 0, .bool false, .slice none 0 0, .bool false, .slice none 0 0, .bool false, .slice none 0 0] 30
  have HM := Lib.hid (okM_ok oa ob oc od hdet)
  have HC := Lib.hid (chkBm_ok ou ov hv)
  replace oa := oa.next K0.1
  replace ob := ob.next K0.1
  replace oc := oc.next K0.1
  replace od := od.next K0.1
  replace ou := ou.next K0.1
  replace ov := ov.next K0.1
  have H0 := Lib.hid h0
  have HV := Lib.hid hv
  have Ya := Lib.hid ya
  have Yb := Lib.hid yb
  have Yc := Lib.hid yc
  have Yd := Lib.hid yd
  have Yu := Lib.hid yu
  have Yv := Lib.hid yv
  have S1 := Lib.hid s1
  have S2 := Lib.hid s2
  clear hdet hv h0 s1 s2 ya yb yc yd yu yv
  have g01 : ¬ w.heap.size = w.heap.size + 1 := by omega
  have g02 : ¬ w.heap.size = w.heap.size + 1 + 1 := by omega
  have g12 : ¬ w.heap.size + 1 = w.heap.size + 1 + 1 := by omega
  go_enter Tryz.func14, Tryz.ntmps14
  go_upto_region 1 with (fail)
  generalize ((w.alloc (.cells #[.bool sa, .slice Aa na ca, .bool za, .slice Ba ma da, .bool sb, .slice Ab nb cb, .bool zb, .slice Bb mb db, .bool sc, .slice Ac nc cc, .bool zc, .slice Bc mc dc, .bool sd, .slice Ad nd cd, .bool zd, .slice Bd md dd] 28)).alloc (.cells #[.bool su, .slice Au nu cu, .bool zu, .slice Bu mu du, .bool sv, .slice Av nv cv, .bool zv, .slice Bv mv dv] 30)).alloc (.cells #[.bool false, .slice none 0 0, .bool false, .slice none 0 0, .bool false, .slice none 0 0, .bool false, .slice none 0 0] 30) = w0 at K0 oa ob oc od ou ov ⊢
  obtain ⟨p0, p1, p2, p3, p4, p5, p6, p7, p8, p9, p10, p11, p12, p13, p14, p15⟩ := (K0.blk (g := w.heap.size) (vs := [.bool sa, .slice Aa na ca, .bool za, .slice Ba ma da, .bool sb, .slice Ab nb cb, .bool zb, .slice Bb mb db, .bool sc, .slice Ac nc cc, .bool zc, .slice Bc mc dc, .bool sd, .slice Ad nd cd, .bool zd, .slice Bd md dd]) (by simp)).c16
  go_wp2_with fail
  refine (row_may_any sa Aa na ca la za Ba ma da ka sb Ab nb cb lb zb Bb mb db kb sc Ac nc cc lc zc Bc mc dc kc sd Ad nd cd ld zd Bd md dd kd _ oa.1 ob.1 oc.1 od.1).mono ?_
  rintro e3 w3 ⟨rfl, hb3⟩
  rw [HM.out]
  have K1 := K0.next hb3
  replace oa := oa.next hb3
  replace ob := ob.next hb3
  replace oc := oc.next hb3
  replace od := od.next hb3
  replace ou := ou.next hb3
  replace ov := ov.next hb3
  clear K0 hb3 p0 p1 p2 p3 p4 p5 p6 p7 p8 p9 p10 p11 p12 p13 p14 p15
  obtain ⟨q0, q1, q2, q3, q4, q5, q6, q7⟩ := (K1.blk (g := w.heap.size + 1) (vs := [.bool su, .slice Au nu cu, .bool zu, .slice Bu mu du, .bool sv, .slice Av nv cv, .bool zv, .slice Bv mv dv]) (by simp)).c8
  go_wp2_with fail
  refine (beam_check_any su Au nu cu lu zu Bu mu du ku sv Av nv cv lv zv Bv mv dv kv _ ou.1 ov.1).mono ?_
  rintro e4 w4 ⟨rfl, hb4⟩
  rw [HC.out]
  have K2 := K1.next hb4
  replace oa := oa.next hb4
  replace ob := ob.next hb4
  replace oc := oc.next hb4
  replace od := od.next hb4
  replace ou := ou.next hb4
  replace ov := ov.next hb4
  clear K1 hb4 q0 q1 q2 q3 q4 q5 q6 q7
  obtain ⟨p0, p1, p2, p3, p4, p5, p6, p7, p8, p9, p10, p11, p12, p13, p14, p15⟩ := (K2.blk (g := w.heap.size) (vs := [.bool sa, .slice Aa na ca, .bool za, .slice Ba ma da, .bool sb, .slice Ab nb cb, .bool zb, .slice Bb mb db, .bool sc, .slice Ac nc cc, .bool zc, .slice Bc mc dc, .bool sd, .slice Ad nd cd, .bool zd, .slice Bd md dd]) (by simp)).c16
  obtain ⟨q0, q1, q2, q3, q4, q5, q6, q7⟩ := (K2.blk (g := w.heap.size + 1) (vs := [.bool su, .slice Au nu cu, .bool zu, .slice Bu mu du, .bool sv, .slice Av nv cv, .bool zv, .slice Bv mv dv]) (by simp)).c8
  go_wp2_with fail
  refine (beam_behind_any sa za Aa Ba na ca ma da xa sb zb Ab Bb nb cb mb db xb sc zc Ac Bc nc cc mc dc xc sd zd Ad Bd nd cd md dd xd su zu Au Bu nu cu mu du xu sv zv Av Bv nv cv mv dv xv M _ oa.ints.1 oa.ints.2.1 Ya.out ob.ints.1 ob.ints.2.1 Yb.out oc.ints.1 oc.ints.2.1 Yc.out od.ints.1 od.ints.2.1 Yd.out ou.ints.1 ou.ints.2.1 Yu.out ov.ints.1 ov.ints.2.1 Yv.out hM H0.out).mono ?_
  rintro e5 w5 ⟨si, Ai, ni, ci, zi, Bi, mi, di, sj, Aj, nj, cj, zj, Bj, mj, dj, rfl, I1, J1, I2, J2, hb5⟩
  rw [e1.out] at I1 J1
  rw [e2.out] at I2 J2
  have K3 := K2.next hb5
  clear K2 hb5 p0 p1 p2 p3 p4 p5 p6 p7 p8 p9 p10 p11 p12 p13 p14 p15 q0 q1 q2 q3 q4 q5 q6 q7 oa ob oc od ou ov
  go_wp2_with fail
  refine (beam_answered_ok si zi Ai Bi ni ci mi di r1 sj zj Aj Bj nj cj mj dj r2 _ I1 J1 S1.out I2 J2 S2.out).mono ?_
  rintro e6 w6 ⟨sg, Ag, ng, cg, lg, zg, Bg, mg, dg, kg, sh, Ah, nh, ch, lh, zh, Bh, mh, dh, kh, rfl, og, oh, hb6⟩
  have K4 := K3.next hb6
  clear K3 hb6 I1 J1 I2 J2
  obtain ⟨f0, f1, f2, f3, f4, f5, f6, f7⟩ := (K4.blk (g := w.heap.size + 1 + 1) (vs := [.bool false, .slice none 0 0, .bool false, .slice none 0 0, .bool false, .slice none 0 0, .bool false, .slice none 0 0]) (by simp)).c8
  obtain ⟨ff0, ff1, ff2, ff3, ff4, ff5, ff6, ff7, _⟩ := (K4.blk (g := w.heap.size + 1 + 1) (vs := [.bool false, .slice none 0 0, .bool false, .slice none 0 0, .bool false, .slice none 0 0, .bool false, .slice none 0 0]) (by simp)).f8
  go_wp2_with fail
  have K9 := (((((K4.int og.ints.1).int og.ints.2.1).int oh.ints.1).int oh.ints.2.1).pick (L' := [(w.heap.size + 1 + 1, [.bool false, .slice none 0 0, .bool false, .slice none 0 0, .bool false, .slice none 0 0, .bool false, .slice none 0 0])]) (l' := [(sg, Ag, ng, cg, r1.num), (zg, Bg, mg, dg, (r1.den : Int)), (sh, Ah, nh, ch, r2.num), (zh, Bh, mh, dh, (r2.den : Int))]) (by simp) (by simp)).set8 (by simp) sg Ag ng cg zg Bg mg dg sh Ah nh ch zh Bh mh dh
  obtain ⟨l9g, k9g, o9g⟩ := okF_of (K9.at_ (neg := sg) (A := Ag) (n := ng) (c := cg) (z := r1.num) (by simp)) (K9.at_ (neg := zg) (A := Bg) (n := mg) (c := dg) (z := (r1.den : Int)) (by simp)) og.ints.2.2
  obtain ⟨l9h, k9h, o9h⟩ := okF_of (K9.at_ (neg := sh) (A := Ah) (n := nh) (c := ch) (z := r2.num) (by simp)) (K9.at_ (neg := zh) (A := Bh) (n := mh) (c := dh) (z := (r2.den : Int)) (by simp)) oh.ints.2.2
  exact bodyPost_ret (v := .tuple #[.agg #[.bool sg, .slice Ag ng cg, .bool zg, .slice Bg mg dg, .bool sh, .slice Ah nh ch, .bool zh, .slice Bh mh dh], .int .i64 0]) (by simp [results, Tryz.results14, go_sem, f0, f1, f2, f3, f4, f5, f6, f7]) rfl ⟨_, _, _, _, _, _, _, _, _, _, _, _, _, _, _, _, _, _, _, _, rfl, o9g, o9h, K9.1⟩
end Go.Proofs.YtmmplomkginadaaGreatDoor
