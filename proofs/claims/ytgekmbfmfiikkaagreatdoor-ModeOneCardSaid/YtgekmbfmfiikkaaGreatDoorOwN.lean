/-
  Beams through matrices: any, the answers in memory of their own (beam.answered, Through).
-/
import Derived.Test.YtgekmbfmfiikkaaGreatDoorBmB
import Derived.Test.YtgekmbfmfiikkaaGreatDoorLnB
set_option maxHeartbeats 6400000
set_option maxRecDepth 100000
namespace Go.Proofs.YtgekmbfmfiikkaaGreatDoor
open Go.RowKit
theorem okM_ok {w : World} {a b c d : LmE} {x y z t : Rat} (ha : OkF w a x) (hb : OkF w b y) (hc : OkF w c z) (hd : OkF w d t) (h : x * t - y * z = 1) : okM a b c d = true := by
 unfold okM
 rw [ha.2.1, hb.2.1, hc.2.1, hd.2.1, ha.2.2, hb.2.2, hc.2.2, hd.2.2, decide_eq_true h]
 rfl
theorem chkBm_ok {w : World} {a b : LmE} {x y : Rat} (ha : OkF w a x) (hb : OkF w b y) (h : 0 < y) : chkBm a b = 0 := by
 unfold chkBm
 rw [ha.2.1, hb.2.1, hb.2.2, if_pos h]
 rfl
def RetG2 (W : World) (x y x' y' v : Int) (e : Ending) (w' : World) : Prop :=
 ∃ (sa : Bool) (Aa : Option Addr) (na ca : Nat) (za : Bool) (Ba : Option Addr) (ma da : Nat) (sb : Bool) (Ab : Option Addr) (nb cb : Nat) (zb : Bool) (Bb : Option Addr) (mb db : Nat), e = .returned (.tuple #[.agg #[.bool sa, .slice Aa na ca, .bool za, .slice Ba ma da, .bool sb, .slice Ab nb cb, .bool zb, .slice Bb mb db], .int .i64 v]) ∧
  IsInt w' sa Aa na ca x ∧ IsInt w' za Ba ma da y ∧ IsInt w' sb Ab nb cb x' ∧ IsInt w' zb Bb mb db y' ∧ Owns W.heap.size w' [(Aa, na, ca), (Ba, ma, da), (Ab, nb, cb), (Bb, mb, db)] ∧ Below W.heap.size W w'
theorem owns_nilG (B : Nat) (w : World) : Owns B w [(none, 0, 0), (none, 0, 0), (none, 0, 0), (none, 0, 0)] := by
 refine ⟨fun q hq => ?_, ?_⟩
 ·have : q = (none, 0, 0) := by simpa using hq
  rw [this]
  exact OwnR.nil _ _
 ·have hf : FarQ (none, 0, 0) (none, 0, 0) := fun g hg => by cases hg
  simp [hf]
def AnsG (r s : Rat) (x y x' y' v : Int) : Prop := ((Sz r 2048 ∧ Sz s 2048) ∧ x = r.num ∧ y = (r.den : Int) ∧ x' = s.num ∧ y' = (s.den : Int) ∧ v = 0) ∨ (¬ (Sz r 2048 ∧ Sz s 2048) ∧ x = 0 ∧ y = 0 ∧ x' = 0 ∧ y' = 0 ∧ v = 4)
theorem owb_answered_ok (sa za : Bool) (Aa Ba : Option Addr) (na ca ma da : Nat) (xa : Rat) (sb zb : Bool) (Ab Bb : Option Addr) (nb cb mb db : Nat) (xb : Rat) (w : World) (ia : IsInt w sa Aa na ca xa.num) (ja : IsInt w za Ba ma da (xa.den : Int)) (ya : Sz xa 2048) (ib : IsInt w sb Ab nb cb xb.num) (jb : IsInt w zb Bb mb db (xb.den : Int)) (yb : Sz xb 2048) :
  Calls Tryz.prog 50 #[.agg #[.bool sa, .slice Aa na ca, .bool za, .slice Ba ma da, .bool sb, .slice Ab nb cb, .bool zb, .slice Bb mb db]] w (fun e w' => e = .returned (.tuple #[.agg #[.bool sa, .slice Aa na ca, .bool za, .slice Ba ma da, .bool sb, .slice Ab nb cb, .bool zb, .slice Bb mb db], .int .i64 0]) ∧ Below w.heap.size w w') := by
 obtain ⟨la, ka, oa⟩ := okF_of ia ja ya
 obtain ⟨lb, kb, ob⟩ := okF_of ib jb yb
 have na2 := int_len ia ya.1
 have ma2 := int_len ja (by rw [Int.natAbs_natCast]; exact ya.2)
 have nb2 := int_len ib yb.1
 have mb2 := int_len jb (by rw [Int.natAbs_natCast]; exact yb.2)
 have K0 := ((Mm.nil w).var (g := w.heap.size) rfl [.bool sa, .slice Aa na ca, .bool za, .slice Ba ma da, .bool sb, .slice Ab nb cb, .bool zb, .slice Bb mb db] 30).var (g := w.heap.size + 1) (by simp) [.bool false, .slice none 0 0, .bool false, .slice none 0 0, .bool false, .slice none 0 0, .bool false, .slice none 0 0] 30
 have o1 := oa.next (K0.1.trans (((Below.refl _ _).alloc (Nat.le_refl _) (.cells #[.bool sa, .slice Aa na ca, .bool za, .slice Ba ma da, .bool sb, .slice Ab nb cb, .bool zb, .slice Bb mb db] 30)).mono K0.1.size))
 have o2 := ob.next (K0.1.trans (((Below.refl _ _).alloc (Nat.le_refl _) (.cells #[.bool sa, .slice Aa na ca, .bool za, .slice Ba ma da, .bool sb, .slice Ab nb cb, .bool zb, .slice Bb mb db] 30)).mono K0.1.size))
 have hA := Lib.hid (fun W (K : Blk W (w.heap.size + 1 + 1) [.bool sa, .slice Aa na ca, .bool za, .slice Ba ma da, .bool sb, .slice Ab nb cb, .bool zb, .slice Bb mb db]) (a1 : OkF W ((sa, Aa, na, ca, la), (za, Ba, ma, da, ka)) xa) (b1 : OkF W ((sb, Ab, nb, cb, lb), (zb, Bb, mb, db, kb)) xb) => arg_answer_one (w.heap.size + 1 + 1) sa Aa na ca la za Ba ma da ka sb Ab nb cb lb zb Bb mb db kb W a1.1 b1.1 na2 ma2 nb2 mb2 K)
 clear ia ja ya ib jb yb na2 ma2 nb2 mb2 oa ob
 have h01 : ¬ w.heap.size = w.heap.size + 1 := by omega
 have h10 : ¬ w.heap.size + 1 = w.heap.size := by omega
 go_enter Tryz.func50, Tryz.ntmps50
 go_wp2_with fail
 have K1 := K0.var (g := w.heap.size + 1 + 1) (by simp) [.bool sa, .slice Aa na ca, .bool za, .slice Ba ma da, .bool sb, .slice Ab nb cb, .bool zb, .slice Bb mb db] 30
 generalize ((w.alloc (.cells #[.bool sa, .slice Aa na ca, .bool za, .slice Ba ma da, .bool sb, .slice Ab nb cb, .bool zb, .slice Bb mb db] 30)).alloc (.cells #[.bool false, .slice none 0 0, .bool false, .slice none 0 0, .bool false, .slice none 0 0, .bool false, .slice none 0 0] 30)).alloc (.cells #[.bool sa, .slice Aa na ca, .bool za, .slice Ba ma da, .bool sb, .slice Ab nb cb, .bool zb, .slice Bb mb db] 30) = w0 at K1 o1 o2 ⊢
 clear K0
 refine (hA.out _ (K1.blk (by simp)) o1 o2).mono ?_
 rintro e1 w1 ⟨rfl, hb1⟩
 have K2 := K1.next hb1
 replace o1 := o1.next hb1
 replace o2 := o2.next hb1
 clear K1 hb1 hA
 obtain ⟨e0, e1, e2, e3, e4, e5, e6, e7⟩ := (K2.blk (g := w.heap.size) (by repeat constructor)).c8
 obtain ⟨f0, f1, f2, f3, f4, f5, f6, f7⟩ := (K2.blk (g := w.heap.size + 1) (by repeat constructor)).c8
 obtain ⟨g0, g1, g2, g3, g4, g5, g6, g7, _⟩ := (K2.blk (g := w.heap.size + 1) (by repeat constructor)).f8
 go_wp2_with fail
 have KE := ((((K2.int o1.ints.1).int o1.ints.2.1).int o2.ints.1).int o2.ints.2.1)
 have K3 := (KE.pick (L' := [(w.heap.size + 1, [.bool false, .slice none 0 0, .bool false, .slice none 0 0, .bool false, .slice none 0 0, .bool false, .slice none 0 0])]) (l' := [(sa, Aa, na, ca, xa.num), (za, Ba, ma, da, (xa.den : Int)), (sb, Ab, nb, cb, xb.num), (zb, Bb, mb, db, (xb.den : Int))]) (by simp) (by simp)).set8 (by simp) sa Aa na ca za Ba ma da sb Ab nb cb zb Bb mb db
 exact bodyPost_ret (v := .tuple #[.agg #[.bool sa, .slice Aa na ca, .bool za, .slice Ba ma da, .bool sb, .slice Ab nb cb, .bool zb, .slice Bb mb db], .int .i64 0]) (by simp [results, Tryz.results50, go_sem, f0, f1, f2, f3, f4, f5, f6, f7]) rfl ⟨rfl, K3.1⟩
theorem owb_through_yes (sa : Bool) (Aa : Option Addr) (na ca : Nat) (la : List Nat) (za : Bool) (Ba : Option Addr) (ma da : Nat) (ka : List Nat) (xa : Rat) (sb : Bool) (Ab : Option Addr) (nb cb : Nat) (lb : List Nat) (zb : Bool) (Bb : Option Addr) (mb db : Nat) (kb : List Nat) (xb : Rat) (sc : Bool) (Ac : Option Addr) (nc cc : Nat) (lc : List Nat) (zc : Bool) (Bc : Option Addr) (mc dc : Nat) (kc : List Nat) (xc : Rat) (sd : Bool) (Ad : Option Addr) (nd cd : Nat) (ld : List Nat) (zd : Bool) (Bd : Option Addr) (md dd : Nat) (kd : List Nat) (xd : Rat) (su : Bool) (Au : Option Addr) (nu cu : Nat) (lu : List Nat) (zu : Bool) (Bu : Option Addr) (mu du : Nat) (ku : List Nat) (xu : Rat) (sv : Bool) (Av : Option Addr) (nv cv : Nat) (lv : List Nat) (zv : Bool) (Bv : Option Addr) (mv dv : Nat) (kv : List Nat) (xv : Rat) (M : Nat) (r1 r2 : Rat) (x y x' y' v : Int) (w : World) (oa : OkF w ((sa, Aa, na, ca, la), (za, Ba, ma, da, ka)) xa) (ya : Sz xa M) (ob : OkF w ((sb, Ab, nb, cb, lb), (zb, Bb, mb, db, kb)) xb) (yb : Sz xb M) (oc : OkF w ((sc, Ac, nc, cc, lc), (zc, Bc, mc, dc, kc)) xc) (yc : Sz xc M) (od : OkF w ((sd, Ad, nd, cd, ld), (zd, Bd, md, dd, kd)) xd) (yd : Sz xd M) (ou : OkF w ((su, Au, nu, cu, lu), (zu, Bu, mu, du, ku)) xu) (yu : Sz xu M) (ov : OkF w ((sv, Av, nv, cv, lv), (zv, Bv, mv, dv, kv)) xv) (yv : Sz xv M) (hM : M ≤ 9000) (hdet : xa * xd - xb * xc = 1) (hv : 0 < xv)
  (h0 : ((((xc * xu) + xd) * ((xc * xu) + xd)) + ((xc * xv) * (xc * xv))) ≠ 0) (e1 : Hid ((((((xa * xu) + xb) * ((xc * xu) + xd)) + ((xa * xv) * (xc * xv))) / ((((xc * xu) + xd) * ((xc * xu) + xd)) + ((xc * xv) * (xc * xv)))) = r1)) (e2 : Hid ((xv / ((((xc * xu) + xd) * ((xc * xu) + xd)) + ((xc * xv) * (xc * xv)))) = r2)) (z1 : Sz r1 100000) (z2 : Sz r2 100000) (hA : AnsG r1 r2 x y x' y' v) :
  Calls Tryz.prog 13 #[.agg #[.bool sa, .slice Aa na ca, .bool za, .slice Ba ma da, .bool sb, .slice Ab nb cb, .bool zb, .slice Bb mb db, .bool sc, .slice Ac nc cc, .bool zc, .slice Bc mc dc, .bool sd, .slice Ad nd cd, .bool zd, .slice Bd md dd], .agg #[.bool su, .slice Au nu cu, .bool zu, .slice Bu mu du, .bool sv, .slice Av nv cv, .bool zv, .slice Bv mv dv]] w (RetG2 w x y x' y' v) := by
 have K0 := (((Mm.nil w).var (g := w.heap.size) rfl [.bool sa, .slice Aa na ca, .bool za, .slice Ba ma da, .bool sb, .slice Ab nb cb, .bool zb, .slice Bb mb db, .bool sc, .slice Ac nc cc, .bool zc, .slice Bc mc dc, .bool sd, .slice Ad nd cd, .bool zd, .slice Bd md dd] 28).var (g := w.heap.size + 1) (by simp) [.bool su, .slice Au nu cu, .bool zu, .slice Bu mu du, .bool sv, .slice Av nv cv, .bool zv, .slice Bv mv dv] 30).var (g := w.heap.size + 1 + 1) (by simp) [.bool false, .slice none 0 0, .bool false, .slice none 0 0, .bool false, .slice none 0 0, .bool false, .slice none 0 0] 30
 have HM := Lib.hid (okM_ok oa ob oc od hdet)
 have HC := Lib.hid (chkBm_ok ou ov hv)
 replace oa := oa.next K0.1
 replace ob := ob.next K0.1
 replace oc := oc.next K0.1
 replace od := od.next K0.1
 replace ou := ou.next K0.1
 replace ov := ov.next K0.1
 have H0 := Lib.hid h0
 have HV := Lib.hid hv
 have Ya := Lib.hid ya
 have Yb := Lib.hid yb
 have Yc := Lib.hid yc
 have Yd := Lib.hid yd
 have Yu := Lib.hid yu
 have Yv := Lib.hid yv
 have S1 := Lib.hid z1
 have S2 := Lib.hid z2
 clear hdet hv h0 z1 z2 ya yb yc yd yu yv
 have g01 : ¬ w.heap.size = w.heap.size + 1 := by omega
 have g02 : ¬ w.heap.size = w.heap.size + 1 + 1 := by omega
 have g12 : ¬ w.heap.size + 1 = w.heap.size + 1 + 1 := by omega
 go_enter Tryz.func13, Tryz.ntmps13
 go_upto_region 1 with (fail)
 generalize ((w.alloc (.cells #[.bool sa, .slice Aa na ca, .bool za, .slice Ba ma da, .bool sb, .slice Ab nb cb, .bool zb, .slice Bb mb db, .bool sc, .slice Ac nc cc, .bool zc, .slice Bc mc dc, .bool sd, .slice Ad nd cd, .bool zd, .slice Bd md dd] 28)).alloc (.cells #[.bool su, .slice Au nu cu, .bool zu, .slice Bu mu du, .bool sv, .slice Av nv cv, .bool zv, .slice Bv mv dv] 30)).alloc (.cells #[.bool false, .slice none 0 0, .bool false, .slice none 0 0, .bool false, .slice none 0 0, .bool false, .slice none 0 0] 30) = w0 at K0 oa ob oc od ou ov ⊢
 obtain ⟨p0, p1, p2, p3, p4, p5, p6, p7, p8, p9, p10, p11, p12, p13, p14, p15⟩ := (K0.blk (g := w.heap.size) (by repeat constructor)).c16
 go_wp2_with fail
 refine (row_may_any sa Aa na ca la za Ba ma da ka sb Ab nb cb lb zb Bb mb db kb sc Ac nc cc lc zc Bc mc dc kc sd Ad nd cd ld zd Bd md dd kd _ oa.1 ob.1 oc.1 od.1).mono ?_
 rintro e3 w3 ⟨rfl, hb3⟩
 rw [HM.out]
 have K1 := K0.next hb3
 replace oa := oa.next hb3
 replace ob := ob.next hb3
 replace oc := oc.next hb3
 replace od := od.next hb3
 replace ou := ou.next hb3
 replace ov := ov.next hb3
 clear K0 hb3 p0 p1 p2 p3 p4 p5 p6 p7 p8 p9 p10 p11 p12 p13 p14 p15
 obtain ⟨q0, q1, q2, q3, q4, q5, q6, q7⟩ := (K1.blk (g := w.heap.size + 1) (by repeat constructor)).c8
 go_wp2_with fail
 refine (beam_check_any su Au nu cu lu zu Bu mu du ku sv Av nv cv lv zv Bv mv dv kv _ ou.1 ov.1).mono ?_
 rintro e4 w4 ⟨rfl, hb4⟩
 rw [HC.out]
 have K2 := K1.next hb4
 replace oa := oa.next hb4
 replace ob := ob.next hb4
 replace oc := oc.next hb4
 replace od := od.next hb4
 replace ou := ou.next hb4
 replace ov := ov.next hb4
 clear K1 hb4 q0 q1 q2 q3 q4 q5 q6 q7
 obtain ⟨p0, p1, p2, p3, p4, p5, p6, p7, p8, p9, p10, p11, p12, p13, p14, p15⟩ := (K2.blk (g := w.heap.size) (by repeat constructor)).c16
 obtain ⟨q0, q1, q2, q3, q4, q5, q6, q7⟩ := (K2.blk (g := w.heap.size + 1) (by repeat constructor)).c8
 go_wp2_with fail
 refine (owb_behind_any sa za Aa Ba na ca ma da xa sb zb Ab Bb nb cb mb db xb sc zc Ac Bc nc cc mc dc xc sd zd Ad Bd nd cd md dd xd su zu Au Bu nu cu mu du xu sv zv Av Bv nv cv mv dv xv M _ oa.ints.1 oa.ints.2.1 Ya.out ob.ints.1 ob.ints.2.1 Yb.out oc.ints.1 oc.ints.2.1 Yc.out od.ints.1 od.ints.2.1 Yd.out ou.ints.1 ou.ints.2.1 Yu.out ov.ints.1 ov.ints.2.1 Yv.out hM H0.out).mono ?_
 rintro e5 w5 ⟨si, Ai, ni, ci, zi, Bi, mi, di, sj, Aj, nj, cj, zj, Bj, mj, dj, rfl, I1, J1, I2, J2, O5, hb5⟩
 rw [e1.out] at I1 J1
 rw [e2.out] at I2 J2
 have K3 := ((((K2.mo.call4 hb5 O5).int J2).int I2).int J1).int I1
 clear K2 hb5 O5 p0 p1 p2 p3 p4 p5 p6 p7 p8 p9 p10 p11 p12 p13 p14 p15 q0 q1 q2 q3 q4 q5 q6 q7 oa ob oc od ou ov
 go_wp2_with fail
 rcases hA with ⟨hs, rfl, rfl, rfl, rfl, rfl⟩ | ⟨hs, rfl, rfl, rfl, rfl, rfl⟩
 ·refine (owb_answered_ok si zi Ai Bi ni ci mi di r1 sj zj Aj Bj nj cj mj dj r2 _ I1 J1 hs.1 I2 J2 hs.2).mono ?_
  rintro e6 w6 ⟨rfl, hb6⟩
  have K4 := K3.next hb6
  clear K3 hb6 I1 J1 I2 J2
  obtain ⟨f0, f1, f2, f3, f4, f5, f6, f7⟩ := (K4.blk (g := w.heap.size + 1 + 1) (by repeat constructor)).c8
  obtain ⟨ff0, ff1, ff2, ff3, ff4, ff5, ff6, ff7, _⟩ := (K4.blk (g := w.heap.size + 1 + 1) (by repeat constructor)).f8
  go_wp2_with fail
  have K9 := (K4.pick (L' := [(w.heap.size + 1 + 1, [.bool false, .slice none 0 0, .bool false, .slice none 0 0, .bool false, .slice none 0 0, .bool false, .slice none 0 0])]) (l' := [(si, Ai, ni, ci, r1.num), (zi, Bi, mi, di, (r1.den : Int)), (sj, Aj, nj, cj, r2.num), (zj, Bj, mj, dj, (r2.den : Int))]) (by simp) (by simp)).set8 (by simp) si Ai ni ci zi Bi mi di sj Aj nj cj zj Bj mj dj
  exact bodyPost_ret (v := .tuple #[.agg #[.bool si, .slice Ai ni ci, .bool zi, .slice Bi mi di, .bool sj, .slice Aj nj cj, .bool zj, .slice Bj mj dj], .int .i64 0]) (by simp [results, Tryz.results13, go_sem, f0, f1, f2, f3, f4, f5, f6, f7]) rfl ⟨_, _, _, _, _, _, _, _, _, _, _, _, _, _, _, _, rfl, K9.at_ (by simp), K9.at_ (by simp), K9.at_ (by simp), K9.at_ (by simp), K9.own4 0 1 2 3 rfl rfl rfl rfl (by decide), K9.1⟩
 ·refine (beam_answered_long si zi Ai Bi ni ci mi di r1 sj zj Aj Bj nj cj mj dj r2 _ I1 J1 I2 J2 ⟨Nat.le_trans (int_len I1 S1.out.1) (by decide), Nat.le_trans (int_len J1 (by rw [Int.natAbs_natCast]; exact S1.out.2)) (by decide), Nat.le_trans (int_len I2 S2.out.1) (by decide), Nat.le_trans (int_len J2 (by rw [Int.natAbs_natCast]; exact S2.out.2)) (by decide)⟩ hs).mono ?_
  rintro e6 w6 ⟨rfl, hb6⟩
  have K4 := K3.next hb6
  clear K3 hb6 I1 J1 I2 J2
  obtain ⟨f0, f1, f2, f3, f4, f5, f6, f7⟩ := (K4.blk (g := w.heap.size + 1 + 1) (by repeat constructor)).c8
  obtain ⟨ff0, ff1, ff2, ff3, ff4, ff5, ff6, ff7, _⟩ := (K4.blk (g := w.heap.size + 1 + 1) (by repeat constructor)).f8
  go_wp2_with fail
  have K9 := (K4.pick (L' := [(w.heap.size + 1 + 1, [.bool false, .slice none 0 0, .bool false, .slice none 0 0, .bool false, .slice none 0 0, .bool false, .slice none 0 0])]) (l' := []) (by simp) (by simp)).set8 (by simp) false none 0 0 false none 0 0 false none 0 0 false none 0 0
  exact bodyPost_ret (v := .tuple #[.agg #[.bool false, .slice none 0 0, .bool false, .slice none 0 0, .bool false, .slice none 0 0, .bool false, .slice none 0 0], .int .i64 4]) (by simp [results, Tryz.results13, go_sem, f0, f1, f2, f3, f4, f5, f6, f7]) rfl ⟨false, none, 0, 0, false, none, 0, 0, false, none, 0, 0, false, none, 0, 0, rfl, isInt_nought, isInt_nought, isInt_nought, isInt_nought, owns_nilG _ _, K9.1⟩
end Go.Proofs.YtgekmbfmfiikkaaGreatDoor
