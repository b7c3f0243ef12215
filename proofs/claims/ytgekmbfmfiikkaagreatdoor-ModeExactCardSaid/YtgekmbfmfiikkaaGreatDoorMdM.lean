/-
  The depth of a cavity, by the reference (polestarref16.Depth).
-/
import Derived.Test.YtgekmbfmfiikkaaGreatDoorMdL
import Derived.Test.YtgekmbfmfiikkaaGreatDoorRlB
import Derived.Test.YtgekmbfmfiikkaaGreatDoorOwI
namespace Go.Proofs.YtgekmbfmfiikkaaGreatDoor
open Go.RowKit

set_option maxRecDepth 100000 in
set_option maxHeartbeats 6400000 in
theorem ref16_depth_no1 (sa za : Bool) (Aa Ba : Option Addr) (na ca ma da : Nat) (sb zb : Bool) (Ab Bb : Option Addr) (nb cb mb db : Nat) (sc zc : Bool) (Ac Bc : Option Addr) (nc cc mc dc : Nat) (sd zd : Bool) (Ad Bd : Option Addr) (nd cd md dd : Nat) (w : World) (hg : Hid (∀ W, Below w.heap.size w W → Calls Tryz.prog 118 #[.agg #[.bool sa, .slice Aa na ca, .bool za, .slice Ba ma da, .bool sb, .slice Ab nb cb, .bool zb, .slice Bb mb db, .bool sc, .slice Ac nc cc, .bool zc, .slice Bc mc dc, .bool sd, .slice Ad nd cd, .bool zd, .slice Bd md dd]] W (RetV W (.int .i64 1)))) :
  Calls Tryz.prog 27 #[.agg #[.bool sa, .slice Aa na ca, .bool za, .slice Ba ma da, .bool sb, .slice Ab nb cb, .bool zb, .slice Bb mb db, .bool sc, .slice Ac nc cc, .bool zc, .slice Bc mc dc, .bool sd, .slice Ad nd cd, .bool zd, .slice Bd md dd]] w (RetN2 w 0 0 1) := by
 have K0 := ((Mm.nil w).var (g := w.heap.size) rfl [.bool sa, .slice Aa na ca, .bool za, .slice Ba ma da, .bool sb, .slice Ab nb cb, .bool zb, .slice Bb mb db, .bool sc, .slice Ac nc cc, .bool zc, .slice Bc mc dc, .bool sd, .slice Ad nd cd, .bool zd, .slice Bd md dd] 28).var (g := w.heap.size + 1) (by simp) [.bool false, .slice none 0 0, .bool false, .slice none 0 0] 26
 have g01 : ¬ w.heap.size = w.heap.size + 1 := by omega
 have g10 : ¬ w.heap.size + 1 = w.heap.size := by omega
 go_enter Tryz.func27, Tryz.ntmps27
 go_upto_region 1 with (fail)
 generalize (w.alloc (.cells #[.bool sa, .slice Aa na ca, .bool za, .slice Ba ma da, .bool sb, .slice Ab nb cb, .bool zb, .slice Bb mb db, .bool sc, .slice Ac nc cc, .bool zc, .slice Bc mc dc, .bool sd, .slice Ad nd cd, .bool zd, .slice Bd md dd] 28)).alloc (.cells #[.bool false, .slice none 0 0, .bool false, .slice none 0 0] 26) = w0 at K0 ⊢
 obtain ⟨p0, p1, p2, p3, p4, p5, p6, p7, p8, p9, p10, p11, p12, p13, p14, p15⟩ := (K0.blk (g := w.heap.size) (by repeat constructor)).c16
 go_wp2_with fail
 refine (hg.out _ K0.1).mono ?_
 rintro e1 w1 ⟨rfl, hb⟩
 have K1 := K0.next hb
 clear K0 hb hg p0 p1 p2 p3 p4 p5 p6 p7 p8 p9 p10 p11 p12 p13 p14 p15
 obtain ⟨⟨f0, f1, f2, f3⟩, ⟨ff0, ff1, ff2, ff3⟩, _⟩ := (K1.blk (g := w.heap.size + 1) (by repeat constructor)).four
 go_wp2_with fail
 have K9 := (K1.pick (L' := [(w.heap.size + 1, [.bool false, .slice none 0 0, .bool false, .slice none 0 0])]) (l' := []) (by simp) (by simp)).set4 (by simp) false none 0 0 false none 0 0
 exact bodyPost_ret (v := .tuple #[.agg #[.bool false, .slice none 0 0, .bool false, .slice none 0 0], .int .i64 1]) (by simp [results, Tryz.results27, go_sem, f0, f1, f2, f3]) rfl ⟨false, none, 0, 0, false, none, 0, 0, rfl, isInt_nought, isInt_nought, K9.1⟩

set_option maxRecDepth 100000 in
set_option maxHeartbeats 6400000 in
theorem ref16_depth_no8 (sa za : Bool) (Aa Ba : Option Addr) (na ca ma da : Nat) (sb zb : Bool) (Ab Bb : Option Addr) (nb cb mb db : Nat) (sc zc : Bool) (Ac Bc : Option Addr) (nc cc mc dc : Nat) (sd zd : Bool) (Ad Bd : Option Addr) (nd cd md dd : Nat) (w : World) (hg : Hid (∀ W, Below w.heap.size w W → Calls Tryz.prog 118 #[.agg #[.bool sa, .slice Aa na ca, .bool za, .slice Ba ma da, .bool sb, .slice Ab nb cb, .bool zb, .slice Bb mb db, .bool sc, .slice Ac nc cc, .bool zc, .slice Bc mc dc, .bool sd, .slice Ad nd cd, .bool zd, .slice Bd md dd]] W (RetV W (.int .i64 8)))) :
  Calls Tryz.prog 27 #[.agg #[.bool sa, .slice Aa na ca, .bool za, .slice Ba ma da, .bool sb, .slice Ab nb cb, .bool zb, .slice Bb mb db, .bool sc, .slice Ac nc cc, .bool zc, .slice Bc mc dc, .bool sd, .slice Ad nd cd, .bool zd, .slice Bd md dd]] w (RetN2 w 0 0 8) := by
 have K0 := ((Mm.nil w).var (g := w.heap.size) rfl [.bool sa, .slice Aa na ca, .bool za, .slice Ba ma da, .bool sb, .slice Ab nb cb, .bool zb, .slice Bb mb db, .bool sc, .slice Ac nc cc, .bool zc, .slice Bc mc dc, .bool sd, .slice Ad nd cd, .bool zd, .slice Bd md dd] 28).var (g := w.heap.size + 1) (by simp) [.bool false, .slice none 0 0, .bool false, .slice none 0 0] 26
 have g01 : ¬ w.heap.size = w.heap.size + 1 := by omega
 have g10 : ¬ w.heap.size + 1 = w.heap.size := by omega
 go_enter Tryz.func27, Tryz.ntmps27
 go_upto_region 1 with (fail)
 generalize (w.alloc (.cells #[.bool sa, .slice Aa na ca, .bool za, .slice Ba ma da, .bool sb, .slice Ab nb cb, .bool zb, .slice Bb mb db, .bool sc, .slice Ac nc cc, .bool zc, .slice Bc mc dc, .bool sd, .slice Ad nd cd, .bool zd, .slice Bd md dd] 28)).alloc (.cells #[.bool false, .slice none 0 0, .bool false, .slice none 0 0] 26) = w0 at K0 ⊢
 obtain ⟨p0, p1, p2, p3, p4, p5, p6, p7, p8, p9, p10, p11, p12, p13, p14, p15⟩ := (K0.blk (g := w.heap.size) (by repeat constructor)).c16
 go_wp2_with fail
 refine (hg.out _ K0.1).mono ?_
 rintro e1 w1 ⟨rfl, hb⟩
 have K1 := K0.next hb
 clear K0 hb hg p0 p1 p2 p3 p4 p5 p6 p7 p8 p9 p10 p11 p12 p13 p14 p15
 obtain ⟨⟨f0, f1, f2, f3⟩, ⟨ff0, ff1, ff2, ff3⟩, _⟩ := (K1.blk (g := w.heap.size + 1) (by repeat constructor)).four
 go_wp2_with fail
 have K9 := (K1.pick (L' := [(w.heap.size + 1, [.bool false, .slice none 0 0, .bool false, .slice none 0 0])]) (l' := []) (by simp) (by simp)).set4 (by simp) false none 0 0 false none 0 0
 exact bodyPost_ret (v := .tuple #[.agg #[.bool false, .slice none 0 0, .bool false, .slice none 0 0], .int .i64 8]) (by simp [results, Tryz.results27, go_sem, f0, f1, f2, f3]) rfl ⟨false, none, 0, 0, false, none, 0, 0, rfl, isInt_nought, isInt_nought, K9.1⟩

set_option maxRecDepth 100000 in
set_option maxHeartbeats 6400000 in
theorem ref16_depth_ok (sa za : Bool) (Aa Ba : Option Addr) (na ca ma da : Nat) (xa : Rat) (sb zb : Bool) (Ab Bb : Option Addr) (nb cb mb db : Nat) (xb : Rat) (sc zc : Bool) (Ac Bc : Option Addr) (nc cc mc dc : Nat) (xc : Rat) (sd zd : Bool) (Ad Bd : Option Addr) (nd cd md dd : Nat) (xd : Rat) (M : Nat) (w : World) (ha : IsInt w sa Aa na ca xa.num) (ia : IsInt w za Ba ma da (xa.den : Int)) (ya : Sz xa M) (hb : IsInt w sb Ab nb cb xb.num) (ib : IsInt w zb Bb mb db (xb.den : Int)) (yb : Sz xb M) (hc : IsInt w sc Ac nc cc xc.num) (ic : IsInt w zc Bc mc dc (xc.den : Int)) (yc : Sz xc M) (hd : IsInt w sd Ad nd cd xd.num) (id : IsInt w zd Bd md dd (xd.den : Int)) (yd : Sz xd M) (hM : M = 2048) (nc0 : xc ≠ 0) (hg : Hid (∀ W, Below w.heap.size w W → Calls Tryz.prog 118 #[.agg #[.bool sa, .slice Aa na ca, .bool za, .slice Ba ma da, .bool sb, .slice Ab nb cb, .bool zb, .slice Bb mb db, .bool sc, .slice Ac nc cc, .bool zc, .slice Bc mc dc, .bool sd, .slice Ad nd cd, .bool zd, .slice Bd md dd]] W (RetV W (.int .i64 0)))) (hs : Sz (((4 : Rat) - ((xa + xd) * (xa + xd))) / ((4 : Rat) * (xc * xc))) 2048) :
  Calls Tryz.prog 27 #[.agg #[.bool sa, .slice Aa na ca, .bool za, .slice Ba ma da, .bool sb, .slice Ab nb cb, .bool zb, .slice Bb mb db, .bool sc, .slice Ac nc cc, .bool zc, .slice Bc mc dc, .bool sd, .slice Ad nd cd, .bool zd, .slice Bd md dd]] w (RetN2 w (((4 : Rat) - ((xa + xd) * (xa + xd))) / ((4 : Rat) * (xc * xc))).num ((((4 : Rat) - ((xa + xd) * (xa + xd))) / ((4 : Rat) * (xc * xc))).den : Int) 0) := by
 have Ya := Lib.hid ya
 have Yb := Lib.hid yb
 have Yc := Lib.hid yc
 have Yd := Lib.hid yd
 have S4 : Hid (Sz (4 : Rat) 1) := Lib.hid ⟨by decide, by decide⟩
 have ST := Sz.add ya yd
 have hd0 : ((4 : Rat) * (xc * xc)) ≠ 0 := fun e => by have := st_sq nc0; rw [e] at this; exact absurd this (by decide)
 have SV : Hid (Sz (((4 : Rat) - ((xa + xd) * (xa + xd))) / ((4 : Rat) * (xc * xc))) 100000) := Lib.hid ((Sz.div (Sz.sub S4.out (Sz.mul ST ST)) (Sz.mul S4.out (Sz.mul yc yc)) hd0).mono (by omega))
 have HS := Lib.hid hs
 clear S4 ST hd0 hs
 have K0 := ((((((((((Mm.nil w).int ha).int ia).int hb).int ib).int hc).int ic).int hd).int id).var (g := w.heap.size) rfl [.bool sa, .slice Aa na ca, .bool za, .slice Ba ma da, .bool sb, .slice Ab nb cb, .bool zb, .slice Bb mb db, .bool sc, .slice Ac nc cc, .bool zc, .slice Bc mc dc, .bool sd, .slice Ad nd cd, .bool zd, .slice Bd md dd] 28).var (g := w.heap.size + 1) (by simp) [.bool false, .slice none 0 0, .bool false, .slice none 0 0] 26
 have g01 : ¬ w.heap.size = w.heap.size + 1 := by omega
 have g10 : ¬ w.heap.size + 1 = w.heap.size := by omega
 go_enter Tryz.func27, Tryz.ntmps27
 go_upto_region 1 with (fail)
 generalize (w.alloc (.cells #[.bool sa, .slice Aa na ca, .bool za, .slice Ba ma da, .bool sb, .slice Ab nb cb, .bool zb, .slice Bb mb db, .bool sc, .slice Ac nc cc, .bool zc, .slice Bc mc dc, .bool sd, .slice Ad nd cd, .bool zd, .slice Bd md dd] 28)).alloc (.cells #[.bool false, .slice none 0 0, .bool false, .slice none 0 0] 26) = w0 at K0 ⊢
 obtain ⟨p0, p1, p2, p3, p4, p5, p6, p7, p8, p9, p10, p11, p12, p13, p14, p15⟩ := (K0.blk (g := w.heap.size) (by repeat constructor)).c16
 go_wp2_with fail
 refine (hg.out _ K0.1).mono ?_
 rintro e1 w1 ⟨rfl, hb⟩
 have K1 := K0.next hb
 clear K0 hb hg p0 p1 p2 p3 p4 p5 p6 p7 p8 p9 p10 p11 p12 p13 p14 p15
 obtain ⟨p0, p1, p2, p3, p4, p5, p6, p7, p8, p9, p10, p11, p12, p13, p14, p15⟩ := (K1.blk (g := w.heap.size) (by repeat constructor)).c16
 go_wp2_with fail
 refine (ref16_depth_any sa za Aa Ba na ca ma da xa sb zb Ab Bb nb cb mb db xb sc zc Ac Bc nc cc mc dc xc sd zd Ad Bd nd cd md dd xd M _ (K1.at_ (mE 7 rfl)) (K1.at_ (mE 6 rfl)) Ya.out (K1.at_ (mE 5 rfl)) (K1.at_ (mE 4 rfl)) Yb.out (K1.at_ (mE 3 rfl)) (K1.at_ (mE 2 rfl)) Yc.out (K1.at_ (mE 1 rfl)) (K1.at_ (mE 0 rfl)) Yd.out (by omega) nc0).mono ?_
 rintro e2 w2 ⟨sx, Ax, nx, cx, zx, Bx, mx, dx, rfl, ix, jx, hb⟩
 have hn1 := int_len ix SV.out.1
 have hn2 := int_len jx SV.out.2
 have ix0 := ix
 have jx0 := jx
 obtain ⟨lx, S1, _⟩ := ix0
 obtain ⟨kx, S2, _⟩ := jx0
 have ox : LmE.at_ w2 ((sx, Ax, nx, cx, lx), (zx, Bx, mx, dx, kx)) := ⟨S1, S2, by show nx ≤ _; omega, by show mx ≤ _; omega⟩
 have HLG : Hid (lgAll (fun _ => ((sx, Ax, nx, cx, lx), (zx, Bx, mx, dx, kx))) 1 = false) := Lib.hid (by unfold lgAll lgAll lgB; have h1 := int_len ix HS.out.1; have h2 := int_len jx HS.out.2; simp only [Bool.false_or, Bool.or_eq_false_iff, decide_eq_false_iff_not]; omega)
 have K2 := (((K1.next hb).int jx).int ix).var (g := w2.heap.size) rfl [.bool sx, .slice Ax nx cx, .bool zx, .slice Bx mx dx] 26
 have hbx : Below w2.heap.size w2 (w2.alloc (.cells #[.bool sx, .slice Ax nx cx, .bool zx, .slice Bx mx dx] 26)) := (Below.refl _ _).alloc (Nat.le_refl _) _
 replace ox := LmE.at_.below ox hbx
 have z1 : w.heap.size + 1 < w2.heap.size := ((K1.next hb).blk (mE 0 rfl)).1
 clear K1 hb hbx ix jx S1 S2 hn1 hn2 HS SV p0 p1 p2 p3 p4 p5 p6 p7 p8 p9 p10 p11 p12 p13 p14 p15
 go_upto_region 5 with (fail)
 generalize w2.heap.size = g5 at K2 z1 ⊢
 generalize w2.alloc (.cells #[.bool sx, .slice Ax nx cx, .bool zx, .slice Bx mx dx] 26) = u2 at K2 ox ⊢
 have HLF := Lib.hid (lfs_one u2 (g := u2.heap.size) rfl 26 ox)
 obtain ⟨⟨q0, q1, q2, q3⟩, _, _⟩ := (K2.blk (g := g5) (by repeat constructor)).four
 go_wp2_with fail
 refine (ref2_long_any u2.heap.size 1 1 (fun _ => ((sx, Ax, nx, cx, lx), (zx, Bx, mx, dx, kx))) _ HLF.out (by decide) (by decide)).mono ?_
 rintro e3 w3 ⟨rfl, hb⟩
 rw [HLG.out]
 have K3 := K2.next (below_box hb)
 clear K2 hb ox HLF q0 q1 q2 q3
 obtain ⟨⟨q0, q1, q2, q3⟩, _, _⟩ := (K3.blk (g := g5) (by repeat constructor)).four
 obtain ⟨⟨f0, f1, f2, f3⟩, ⟨ff0, ff1, ff2, ff3⟩, _⟩ := (K3.blk (g := w.heap.size + 1) (by repeat constructor)).four
 go_wp2_with fail
 have K9 := (K3.pick (L' := [(w.heap.size + 1, [.bool false, .slice none 0 0, .bool false, .slice none 0 0])]) (l' := [(sx, Ax, nx, cx, (((4 : Rat) - ((xa + xd) * (xa + xd))) / ((4 : Rat) * (xc * xc))).num), (zx, Bx, mx, dx, ((((4 : Rat) - ((xa + xd) * (xa + xd))) / ((4 : Rat) * (xc * xc))).den : Int))]) (all_cons (mE 1 rfl) all_nil) (all_cons (mE 0 rfl) (all_cons (mE 1 rfl) all_nil))).set4 (by simp) sx Ax nx cx zx Bx mx dx
 exact bodyPost_ret (v := .tuple #[.agg #[.bool sx, .slice Ax nx cx, .bool zx, .slice Bx mx dx], .int .i64 0]) (by simp [results, Tryz.results27, go_sem, f0, f1, f2, f3]) rfl ⟨_, _, _, _, _, _, _, _, rfl, K9.at_ (by simp), K9.at_ (by simp), K9.1⟩

set_option maxRecDepth 100000 in
set_option maxHeartbeats 6400000 in
theorem ref16_depth_long (sa za : Bool) (Aa Ba : Option Addr) (na ca ma da : Nat) (xa : Rat) (sb zb : Bool) (Ab Bb : Option Addr) (nb cb mb db : Nat) (xb : Rat) (sc zc : Bool) (Ac Bc : Option Addr) (nc cc mc dc : Nat) (xc : Rat) (sd zd : Bool) (Ad Bd : Option Addr) (nd cd md dd : Nat) (xd : Rat) (M : Nat) (w : World) (ha : IsInt w sa Aa na ca xa.num) (ia : IsInt w za Ba ma da (xa.den : Int)) (ya : Sz xa M) (hb : IsInt w sb Ab nb cb xb.num) (ib : IsInt w zb Bb mb db (xb.den : Int)) (yb : Sz xb M) (hc : IsInt w sc Ac nc cc xc.num) (ic : IsInt w zc Bc mc dc (xc.den : Int)) (yc : Sz xc M) (hd : IsInt w sd Ad nd cd xd.num) (id : IsInt w zd Bd md dd (xd.den : Int)) (yd : Sz xd M) (hM : M = 2048) (nc0 : xc ≠ 0) (hg : Hid (∀ W, Below w.heap.size w W → Calls Tryz.prog 118 #[.agg #[.bool sa, .slice Aa na ca, .bool za, .slice Ba ma da, .bool sb, .slice Ab nb cb, .bool zb, .slice Bb mb db, .bool sc, .slice Ac nc cc, .bool zc, .slice Bc mc dc, .bool sd, .slice Ad nd cd, .bool zd, .slice Bd md dd]] W (RetV W (.int .i64 0)))) (hs : ¬ Sz (((4 : Rat) - ((xa + xd) * (xa + xd))) / ((4 : Rat) * (xc * xc))) 2048) :
  Calls Tryz.prog 27 #[.agg #[.bool sa, .slice Aa na ca, .bool za, .slice Ba ma da, .bool sb, .slice Ab nb cb, .bool zb, .slice Bb mb db, .bool sc, .slice Ac nc cc, .bool zc, .slice Bc mc dc, .bool sd, .slice Ad nd cd, .bool zd, .slice Bd md dd]] w (RetN2 w 0 0 4) := by
 have Ya := Lib.hid ya
 have Yb := Lib.hid yb
 have Yc := Lib.hid yc
 have Yd := Lib.hid yd
 have S4 : Hid (Sz (4 : Rat) 1) := Lib.hid ⟨by decide, by decide⟩
 have ST := Sz.add ya yd
 have hd0 : ((4 : Rat) * (xc * xc)) ≠ 0 := fun e => by have := st_sq nc0; rw [e] at this; exact absurd this (by decide)
 have SV : Hid (Sz (((4 : Rat) - ((xa + xd) * (xa + xd))) / ((4 : Rat) * (xc * xc))) 100000) := Lib.hid ((Sz.div (Sz.sub S4.out (Sz.mul ST ST)) (Sz.mul S4.out (Sz.mul yc yc)) hd0).mono (by omega))
 have HS := Lib.hid hs
 clear S4 ST hd0 hs
 have K0 := ((((((((((Mm.nil w).int ha).int ia).int hb).int ib).int hc).int ic).int hd).int id).var (g := w.heap.size) rfl [.bool sa, .slice Aa na ca, .bool za, .slice Ba ma da, .bool sb, .slice Ab nb cb, .bool zb, .slice Bb mb db, .bool sc, .slice Ac nc cc, .bool zc, .slice Bc mc dc, .bool sd, .slice Ad nd cd, .bool zd, .slice Bd md dd] 28).var (g := w.heap.size + 1) (by simp) [.bool false, .slice none 0 0, .bool false, .slice none 0 0] 26
 have g01 : ¬ w.heap.size = w.heap.size + 1 := by omega
 have g10 : ¬ w.heap.size + 1 = w.heap.size := by omega
 go_enter Tryz.func27, Tryz.ntmps27
 go_upto_region 1 with (fail)
 generalize (w.alloc (.cells #[.bool sa, .slice Aa na ca, .bool za, .slice Ba ma da, .bool sb, .slice Ab nb cb, .bool zb, .slice Bb mb db, .bool sc, .slice Ac nc cc, .bool zc, .slice Bc mc dc, .bool sd, .slice Ad nd cd, .bool zd, .slice Bd md dd] 28)).alloc (.cells #[.bool false, .slice none 0 0, .bool false, .slice none 0 0] 26) = w0 at K0 ⊢
 obtain ⟨p0, p1, p2, p3, p4, p5, p6, p7, p8, p9, p10, p11, p12, p13, p14, p15⟩ := (K0.blk (g := w.heap.size) (by repeat constructor)).c16
 go_wp2_with fail
 refine (hg.out _ K0.1).mono ?_
 rintro e1 w1 ⟨rfl, hb⟩
 have K1 := K0.next hb
 clear K0 hb hg p0 p1 p2 p3 p4 p5 p6 p7 p8 p9 p10 p11 p12 p13 p14 p15
 obtain ⟨p0, p1, p2, p3, p4, p5, p6, p7, p8, p9, p10, p11, p12, p13, p14, p15⟩ := (K1.blk (g := w.heap.size) (by repeat constructor)).c16
 go_wp2_with fail
 refine (ref16_depth_any sa za Aa Ba na ca ma da xa sb zb Ab Bb nb cb mb db xb sc zc Ac Bc nc cc mc dc xc sd zd Ad Bd nd cd md dd xd M _ (K1.at_ (mE 7 rfl)) (K1.at_ (mE 6 rfl)) Ya.out (K1.at_ (mE 5 rfl)) (K1.at_ (mE 4 rfl)) Yb.out (K1.at_ (mE 3 rfl)) (K1.at_ (mE 2 rfl)) Yc.out (K1.at_ (mE 1 rfl)) (K1.at_ (mE 0 rfl)) Yd.out (by omega) nc0).mono ?_
 rintro e2 w2 ⟨sx, Ax, nx, cx, zx, Bx, mx, dx, rfl, ix, jx, hb⟩
 have hn1 := int_len ix SV.out.1
 have hn2 := int_len jx SV.out.2
 have ix0 := ix
 have jx0 := jx
 obtain ⟨lx, S1, _⟩ := ix0
 obtain ⟨kx, S2, _⟩ := jx0
 have ox : LmE.at_ w2 ((sx, Ax, nx, cx, lx), (zx, Bx, mx, dx, kx)) := ⟨S1, S2, by show nx ≤ _; omega, by show mx ≤ _; omega⟩
 have HLG : Hid (lgAll (fun _ => ((sx, Ax, nx, cx, lx), (zx, Bx, mx, dx, kx))) 1 = true) := Lib.hid (by unfold lgAll lgAll; rw [lg_of ix jx HS.out]; rfl)
 have K2 := (((K1.next hb).int jx).int ix).var (g := w2.heap.size) rfl [.bool sx, .slice Ax nx cx, .bool zx, .slice Bx mx dx] 26
 have hbx : Below w2.heap.size w2 (w2.alloc (.cells #[.bool sx, .slice Ax nx cx, .bool zx, .slice Bx mx dx] 26)) := (Below.refl _ _).alloc (Nat.le_refl _) _
 replace ox := LmE.at_.below ox hbx
 have z1 : w.heap.size + 1 < w2.heap.size := ((K1.next hb).blk (mE 0 rfl)).1
 clear K1 hb hbx ix jx S1 S2 hn1 hn2 HS SV p0 p1 p2 p3 p4 p5 p6 p7 p8 p9 p10 p11 p12 p13 p14 p15
 go_upto_region 5 with (fail)
 generalize w2.heap.size = g5 at K2 z1 ⊢
 generalize w2.alloc (.cells #[.bool sx, .slice Ax nx cx, .bool zx, .slice Bx mx dx] 26) = u2 at K2 ox ⊢
 have HLF := Lib.hid (lfs_one u2 (g := u2.heap.size) rfl 26 ox)
 obtain ⟨⟨q0, q1, q2, q3⟩, _, _⟩ := (K2.blk (g := g5) (by repeat constructor)).four
 go_wp2_with fail
 refine (ref2_long_any u2.heap.size 1 1 (fun _ => ((sx, Ax, nx, cx, lx), (zx, Bx, mx, dx, kx))) _ HLF.out (by decide) (by decide)).mono ?_
 rintro e3 w3 ⟨rfl, hb⟩
 rw [HLG.out]
 have K3 := K2.next (below_box hb)
 clear K2 hb ox HLF q0 q1 q2 q3
 obtain ⟨⟨f0, f1, f2, f3⟩, ⟨ff0, ff1, ff2, ff3⟩, _⟩ := (K3.blk (g := w.heap.size + 1) (by repeat constructor)).four
 go_wp2_with fail
 have K9 := (K3.pick (L' := [(w.heap.size + 1, [.bool false, .slice none 0 0, .bool false, .slice none 0 0])]) (l' := []) (by simp) (by simp)).set4 (by simp) false none 0 0 false none 0 0
 exact bodyPost_ret (v := .tuple #[.agg #[.bool false, .slice none 0 0, .bool false, .slice none 0 0], .int .i64 4]) (by simp [results, Tryz.results27, go_sem, f0, f1, f2, f3]) rfl ⟨false, none, 0, 0, false, none, 0, 0, rfl, isInt_nought, isInt_nought, K9.1⟩
end Go.Proofs.YtgekmbfmfiikkaaGreatDoor
