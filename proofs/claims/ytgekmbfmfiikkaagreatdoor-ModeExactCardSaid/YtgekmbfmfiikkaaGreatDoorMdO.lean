/-
  The beam of a cavity, by the reference (polestarref16.Exact): refusals.
-/
import Derived.Test.YtgekmbfmfiikkaaGreatDoorMdM
namespace Go.Proofs.YtgekmbfmfiikkaaGreatDoor
open Go.RowKit

/-- The answer of polestarref16.Exact. -/
def RetN4 (W : World) (x y x' y' v : Int) (is : Bool) (e : Ending) (w' : World) : Prop :=
 ∃ (sa : Bool) (Aa : Option Addr) (na ca : Nat) (za : Bool) (Ba : Option Addr) (ma da : Nat) (sb : Bool) (Ab : Option Addr) (nb cb : Nat) (zb : Bool) (Bb : Option Addr) (mb db : Nat), e = .returned (.tuple #[.agg #[.bool sa, .slice Aa na ca, .bool za, .slice Ba ma da, .bool sb, .slice Ab nb cb, .bool zb, .slice Bb mb db], .bool is, .int .i64 v]) ∧
  IsInt w' sa Aa na ca x ∧ IsInt w' za Ba ma da y ∧ IsInt w' sb Ab nb cb x' ∧ IsInt w' zb Bb mb db y' ∧ Below W.heap.size W w'

set_option maxRecDepth 100000 in
set_option maxHeartbeats 6400000 in
theorem ref16_exact_no1 (sa za : Bool) (Aa Ba : Option Addr) (na ca ma da : Nat) (sb zb : Bool) (Ab Bb : Option Addr) (nb cb mb db : Nat) (sc zc : Bool) (Ac Bc : Option Addr) (nc cc mc dc : Nat) (sd zd : Bool) (Ad Bd : Option Addr) (nd cd md dd : Nat) (w : World) (hg : Hid (∀ W, Below w.heap.size w W → Calls Tryz.prog 118 #[.agg #[.bool sa, .slice Aa na ca, .bool za, .slice Ba ma da, .bool sb, .slice Ab nb cb, .bool zb, .slice Bb mb db, .bool sc, .slice Ac nc cc, .bool zc, .slice Bc mc dc, .bool sd, .slice Ad nd cd, .bool zd, .slice Bd md dd]] W (RetV W (.int .i64 1)))) :
  Calls Tryz.prog 26 #[.agg #[.bool sa, .slice Aa na ca, .bool za, .slice Ba ma da, .bool sb, .slice Ab nb cb, .bool zb, .slice Bb mb db, .bool sc, .slice Ac nc cc, .bool zc, .slice Bc mc dc, .bool sd, .slice Ad nd cd, .bool zd, .slice Bd md dd]] w (RetN4 w 0 0 0 0 1 false) := by
 have K0 := ((Mm.nil w).var (g := w.heap.size) rfl [.bool sa, .slice Aa na ca, .bool za, .slice Ba ma da, .bool sb, .slice Ab nb cb, .bool zb, .slice Bb mb db, .bool sc, .slice Ac nc cc, .bool zc, .slice Bc mc dc, .bool sd, .slice Ad nd cd, .bool zd, .slice Bd md dd] 28).var (g := w.heap.size + 1) (by simp) [.bool false, .slice none 0 0, .bool false, .slice none 0 0, .bool false, .slice none 0 0, .bool false, .slice none 0 0] 30
 have g01 : ¬ w.heap.size = w.heap.size + 1 := by omega
 have g10 : ¬ w.heap.size + 1 = w.heap.size := by omega
 go_enter Tryz.func26, Tryz.ntmps26
 go_upto_region 1 with (fail)
 generalize (w.alloc (.cells #[.bool sa, .slice Aa na ca, .bool za, .slice Ba ma da, .bool sb, .slice Ab nb cb, .bool zb, .slice Bb mb db, .bool sc, .slice Ac nc cc, .bool zc, .slice Bc mc dc, .bool sd, .slice Ad nd cd, .bool zd, .slice Bd md dd] 28)).alloc (.cells #[.bool false, .slice none 0 0, .bool false, .slice none 0 0, .bool false, .slice none 0 0, .bool false, .slice none 0 0] 30) = w0 at K0 ⊢
 obtain ⟨p0, p1, p2, p3, p4, p5, p6, p7, p8, p9, p10, p11, p12, p13, p14, p15⟩ := (K0.blk (g := w.heap.size) (by repeat constructor)).c16
 go_wp2_with fail
 refine (hg.out _ K0.1).mono ?_
 rintro e1 w1 ⟨rfl, hb⟩
 have K1 := K0.next hb
 clear K0 hb hg p0 p1 p2 p3 p4 p5 p6 p7 p8 p9 p10 p11 p12 p13 p14 p15
 obtain ⟨f0, f1, f2, f3, f4, f5, f6, f7⟩ := (K1.blk (g := w.heap.size + 1) (by repeat constructor)).c8
 obtain ⟨ff0, ff1, ff2, ff3, ff4, ff5, ff6, ff7, _⟩ := (K1.blk (g := w.heap.size + 1) (by repeat constructor)).f8
 go_wp2_with fail
 have K9 := (K1.pick (L' := [(w.heap.size + 1, [.bool false, .slice none 0 0, .bool false, .slice none 0 0, .bool false, .slice none 0 0, .bool false, .slice none 0 0])]) (l' := []) (by simp) (by simp)).set8 (by simp) false none 0 0 false none 0 0 false none 0 0 false none 0 0
 exact bodyPost_ret (v := .tuple #[.agg #[.bool false, .slice none 0 0, .bool false, .slice none 0 0, .bool false, .slice none 0 0, .bool false, .slice none 0 0], .bool false, .int .i64 1]) (by simp [results, Tryz.results26, go_sem, f0, f1, f2, f3, f4, f5, f6, f7]) rfl ⟨false, none, 0, 0, false, none, 0, 0, false, none, 0, 0, false, none, 0, 0, rfl, isInt_nought, isInt_nought, isInt_nought, isInt_nought, K9.1⟩

set_option maxRecDepth 100000 in
set_option maxHeartbeats 6400000 in
theorem ref16_exact_no8 (sa za : Bool) (Aa Ba : Option Addr) (na ca ma da : Nat) (sb zb : Bool) (Ab Bb : Option Addr) (nb cb mb db : Nat) (sc zc : Bool) (Ac Bc : Option Addr) (nc cc mc dc : Nat) (sd zd : Bool) (Ad Bd : Option Addr) (nd cd md dd : Nat) (w : World) (hg : Hid (∀ W, Below w.heap.size w W → Calls Tryz.prog 118 #[.agg #[.bool sa, .slice Aa na ca, .bool za, .slice Ba ma da, .bool sb, .slice Ab nb cb, .bool zb, .slice Bb mb db, .bool sc, .slice Ac nc cc, .bool zc, .slice Bc mc dc, .bool sd, .slice Ad nd cd, .bool zd, .slice Bd md dd]] W (RetV W (.int .i64 8)))) :
  Calls Tryz.prog 26 #[.agg #[.bool sa, .slice Aa na ca, .bool za, .slice Ba ma da, .bool sb, .slice Ab nb cb, .bool zb, .slice Bb mb db, .bool sc, .slice Ac nc cc, .bool zc, .slice Bc mc dc, .bool sd, .slice Ad nd cd, .bool zd, .slice Bd md dd]] w (RetN4 w 0 0 0 0 8 false) := by
 have K0 := ((Mm.nil w).var (g := w.heap.size) rfl [.bool sa, .slice Aa na ca, .bool za, .slice Ba ma da, .bool sb, .slice Ab nb cb, .bool zb, .slice Bb mb db, .bool sc, .slice Ac nc cc, .bool zc, .slice Bc mc dc, .bool sd, .slice Ad nd cd, .bool zd, .slice Bd md dd] 28).var (g := w.heap.size + 1) (by simp) [.bool false, .slice none 0 0, .bool false, .slice none 0 0, .bool false, .slice none 0 0, .bool false, .slice none 0 0] 30
 have g01 : ¬ w.heap.size = w.heap.size + 1 := by omega
 have g10 : ¬ w.heap.size + 1 = w.heap.size := by omega
 go_enter Tryz.func26, Tryz.ntmps26
 go_upto_region 1 with (fail)
 generalize (w.alloc (.cells #[.bool sa, .slice Aa na ca, .bool za, .slice Ba ma da, .bool sb, .slice Ab nb cb, .bool zb, .slice Bb mb db, .bool sc, .slice Ac nc cc, .bool zc, .slice Bc mc dc, .bool sd, .slice Ad nd cd, .bool zd, .slice Bd md dd] 28)).alloc (.cells #[.bool false, .slice none 0 0, .bool false, .slice none 0 0, .bool false, .slice none 0 0, .bool false, .slice none 0 0] 30) = w0 at K0 ⊢
 obtain ⟨p0, p1, p2, p3, p4, p5, p6, p7, p8, p9, p10, p11, p12, p13, p14, p15⟩ := (K0.blk (g := w.heap.size) (by repeat constructor)).c16
 go_wp2_with fail
 refine (hg.out _ K0.1).mono ?_
 rintro e1 w1 ⟨rfl, hb⟩
 have K1 := K0.next hb
 clear K0 hb hg p0 p1 p2 p3 p4 p5 p6 p7 p8 p9 p10 p11 p12 p13 p14 p15
 obtain ⟨f0, f1, f2, f3, f4, f5, f6, f7⟩ := (K1.blk (g := w.heap.size + 1) (by repeat constructor)).c8
 obtain ⟨ff0, ff1, ff2, ff3, ff4, ff5, ff6, ff7, _⟩ := (K1.blk (g := w.heap.size + 1) (by repeat constructor)).f8
 go_wp2_with fail
 have K9 := (K1.pick (L' := [(w.heap.size + 1, [.bool false, .slice none 0 0, .bool false, .slice none 0 0, .bool false, .slice none 0 0, .bool false, .slice none 0 0])]) (l' := []) (by simp) (by simp)).set8 (by simp) false none 0 0 false none 0 0 false none 0 0 false none 0 0
 exact bodyPost_ret (v := .tuple #[.agg #[.bool false, .slice none 0 0, .bool false, .slice none 0 0, .bool false, .slice none 0 0, .bool false, .slice none 0 0], .bool false, .int .i64 8]) (by simp [results, Tryz.results26, go_sem, f0, f1, f2, f3, f4, f5, f6, f7]) rfl ⟨false, none, 0, 0, false, none, 0, 0, false, none, 0, 0, false, none, 0, 0, rfl, isInt_nought, isInt_nought, isInt_nought, isInt_nought, K9.1⟩

set_option maxRecDepth 100000 in
set_option maxHeartbeats 6400000 in
theorem ref16_exact_noroot (sa za : Bool) (Aa Ba : Option Addr) (na ca ma da : Nat) (xa : Rat) (sb zb : Bool) (Ab Bb : Option Addr) (nb cb mb db : Nat) (xb : Rat) (sc zc : Bool) (Ac Bc : Option Addr) (nc cc mc dc : Nat) (xc : Rat) (sd zd : Bool) (Ad Bd : Option Addr) (nd cd md dd : Nat) (xd : Rat) (M : Nat) (k1 k2 : Nat) (w : World) (ha : IsInt w sa Aa na ca xa.num) (ia : IsInt w za Ba ma da (xa.den : Int)) (ya : Sz xa M) (hb : IsInt w sb Ab nb cb xb.num) (ib : IsInt w zb Bb mb db (xb.den : Int)) (yb : Sz xb M) (hc : IsInt w sc Ac nc cc xc.num) (ic : IsInt w zc Bc mc dc (xc.den : Int)) (yc : Sz xc M) (hd : IsInt w sd Ad nd cd xd.num) (id : IsInt w zd Bd md dd (xd.den : Int)) (yd : Sz xd M) (hM : M = 2048) (nc0 : xc ≠ 0) (h4 : 0 < ((4 : Rat) - ((xa + xd) * (xa + xd)))) (hg : Hid (∀ W, Below w.heap.size w W → Calls Tryz.prog 118 #[.agg #[.bool sa, .slice Aa na ca, .bool za, .slice Ba ma da, .bool sb, .slice Ab nb cb, .bool zb, .slice Bb mb db, .bool sc, .slice Ac nc cc, .bool zc, .slice Bc mc dc, .bool sd, .slice Ad nd cd, .bool zd, .slice Bd md dd]] W (RetV W (.int .i64 0)))) (h1 : IsRt (((4 : Rat) - ((xa + xd) * (xa + xd))) / ((4 : Rat) * (xc * xc))).num.natAbs k1) (h2 : IsRt (((4 : Rat) - ((xa + xd) * (xa + xd))) / ((4 : Rat) * (xc * xc))).den k2) (hr : (decide (k1 * k1 = (((4 : Rat) - ((xa + xd) * (xa + xd))) / ((4 : Rat) * (xc * xc))).num.natAbs) && decide (k2 * k2 = (((4 : Rat) - ((xa + xd) * (xa + xd))) / ((4 : Rat) * (xc * xc))).den)) = false) :
  Calls Tryz.prog 26 #[.agg #[.bool sa, .slice Aa na ca, .bool za, .slice Ba ma da, .bool sb, .slice Ab nb cb, .bool zb, .slice Bb mb db, .bool sc, .slice Ac nc cc, .bool zc, .slice Bc mc dc, .bool sd, .slice Ad nd cd, .bool zd, .slice Bd md dd]] w (RetN4 w 0 0 0 0 0 false) := by
 have Ya := Lib.hid ya
 have Yb := Lib.hid yb
 have Yc := Lib.hid yc
 have Yd := Lib.hid yd
 have S4 : Hid (Sz (4 : Rat) 1) := Lib.hid ⟨by decide, by decide⟩
 have ST := Sz.add ya yd
 have hd0 : ((4 : Rat) * (xc * xc)) ≠ 0 := fun e => by have := st_sq nc0; rw [e] at this; exact absurd this (by decide)
 have SV : Hid (Sz (((4 : Rat) - ((xa + xd) * (xa + xd))) / ((4 : Rat) * (xc * xc))) 100000) := Lib.hid ((Sz.div (Sz.sub S4.out (Sz.mul ST ST)) (Sz.mul S4.out (Sz.mul yc yc)) hd0).mono (by omega))
 have _SR : Hid (Sz ((xa - xd) / ((2 : Rat) * xc)) 100000) := Lib.hid ((Sz.div (Sz.sub ya yd) (Sz.mul (⟨by decide, by decide⟩ : Sz (2 : Rat) 1) yc) (st_two nc0)).mono (by omega))
 have HP : Hid (0 < (((4 : Rat) - ((xa + xd) * (xa + xd))) / ((4 : Rat) * (xc * xc))).num) := Lib.hid (Int.sign_eq_one_iff_pos.1 ((rat_num_sign _).1 (st_v h4 (st_sq nc0))))
 have HR := Lib.hid hr
 have H1 := Lib.hid h1
 have H2 := Lib.hid h2
 clear S4 ST hd0 hr h1 h2 h4
 have K0 := ((((((((((Mm.nil w).int ha).int ia).int hb).int ib).int hc).int ic).int hd).int id).var (g := w.heap.size) rfl [.bool sa, .slice Aa na ca, .bool za, .slice Ba ma da, .bool sb, .slice Ab nb cb, .bool zb, .slice Bb mb db, .bool sc, .slice Ac nc cc, .bool zc, .slice Bc mc dc, .bool sd, .slice Ad nd cd, .bool zd, .slice Bd md dd] 28).var (g := w.heap.size + 1) (by simp) [.bool false, .slice none 0 0, .bool false, .slice none 0 0, .bool false, .slice none 0 0, .bool false, .slice none 0 0] 30
 have g01 : ¬ w.heap.size = w.heap.size + 1 := by omega
 have g10 : ¬ w.heap.size + 1 = w.heap.size := by omega
 go_enter Tryz.func26, Tryz.ntmps26
 go_upto_region 1 with (fail)
 generalize (w.alloc (.cells #[.bool sa, .slice Aa na ca, .bool za, .slice Ba ma da, .bool sb, .slice Ab nb cb, .bool zb, .slice Bb mb db, .bool sc, .slice Ac nc cc, .bool zc, .slice Bc mc dc, .bool sd, .slice Ad nd cd, .bool zd, .slice Bd md dd] 28)).alloc (.cells #[.bool false, .slice none 0 0, .bool false, .slice none 0 0, .bool false, .slice none 0 0, .bool false, .slice none 0 0] 30) = w0 at K0 ⊢
 obtain ⟨p0, p1, p2, p3, p4, p5, p6, p7, p8, p9, p10, p11, p12, p13, p14, p15⟩ := (K0.blk (g := w.heap.size) (by repeat constructor)).c16
 go_wp2_with fail
 refine (hg.out _ K0.1).mono ?_
 rintro e1 w1 ⟨rfl, hb⟩
 have K1 := K0.next hb
 clear K0 hb hg p0 p1 p2 p3 p4 p5 p6 p7 p8 p9 p10 p11 p12 p13 p14 p15
 obtain ⟨p0, p1, p2, p3, p4, p5, p6, p7, p8, p9, p10, p11, p12, p13, p14, p15⟩ := (K1.blk (g := w.heap.size) (by repeat constructor)).c16
 go_upto_region 4 with (fail)
 go_wp2_with fail
 refine (ref16_depth_any sa za Aa Ba na ca ma da xa sb zb Ab Bb nb cb mb db xb sc zc Ac Bc nc cc mc dc xc sd zd Ad Bd nd cd md dd xd M _ (K1.at_ (mE 7 rfl)) (K1.at_ (mE 6 rfl)) Ya.out (K1.at_ (mE 5 rfl)) (K1.at_ (mE 4 rfl)) Yb.out (K1.at_ (mE 3 rfl)) (K1.at_ (mE 2 rfl)) Yc.out (K1.at_ (mE 1 rfl)) (K1.at_ (mE 0 rfl)) Yd.out (by omega) nc0).mono ?_
 rintro e2 w2 ⟨sx, Ax, nx, cx, zx, Bx, mx, dx, rfl, ix, jx, hb⟩
 have hn1 := int_len ix SV.out.1
 have hn2 := int_len jx SV.out.2
 have hX : ((((((4 : Rat) - ((xa + xd) * (xa + xd))) / ((4 : Rat) * (xc * xc))).num.natAbs : Nat)) : Int) = (((4 : Rat) - ((xa + xd) * (xa + xd))) / ((4 : Rat) * (xc * xc))).num := Int.natAbs_of_nonneg (Int.le_of_lt HP.out)
 obtain rfl : sx = false := by have := isInt_neg ix; rw [this]; exact decide_eq_false (by have := HP.out; omega)
 obtain rfl : zx = false := by have := isInt_neg jx; rw [this]; exact decide_eq_false (by omega)
 have ix' : IsInt w2 false Ax nx cx ((((((4 : Rat) - ((xa + xd) * (xa + xd))) / ((4 : Rat) * (xc * xc))).num.natAbs : Nat)) : Int) := by rw [hX]; exact ix
 have K2 := K1.next hb
 clear K1 hb ix hX p0 p1 p2 p3 p4 p5 p6 p7 p8 p9 p10 p11 p12 p13 p14 p15
 go_wp2_with fail
 refine (ref16_root_any Ax nx cx Bx mx dx (((4 : Rat) - ((xa + xd) * (xa + xd))) / ((4 : Rat) * (xc * xc))).num.natAbs (((4 : Rat) - ((xa + xd) * (xa + xd))) / ((4 : Rat) * (xc * xc))).den k1 k2 _ ix' jx (by have := HP.out; omega) (((4 : Rat) - ((xa + xd) * (xa + xd))) / ((4 : Rat) * (xc * xc))).den_pos hn1 hn2 H1.out H2.out).mono ?_
 rintro e3 w3 ⟨sr, Ar, nr, cr, zr, Br, mr, dr, rfl, I3, J3, hb⟩
 rw [HR.out]
 have K3 := (((K2.next hb).int J3).int I3).var (g := w3.heap.size) rfl [.bool sr, .slice Ar nr cr, .bool zr, .slice Br mr dr] 26
 have z1 : w.heap.size + 1 < w3.heap.size := ((K2.next hb).blk (mE 0 rfl)).1
 clear K2 hb I3 J3 ix' jx hn1 hn2
 go_upto_region 5 with (fail)
 generalize w3.heap.size = g6 at K3 z1 ⊢
 generalize w3.alloc (.cells #[.bool sr, .slice Ar nr cr, .bool zr, .slice Br mr dr] 26) = u3 at K3 ⊢
 obtain ⟨f0, f1, f2, f3, f4, f5, f6, f7⟩ := (K3.blk (g := w.heap.size + 1) (by repeat constructor)).c8
 obtain ⟨ff0, ff1, ff2, ff3, ff4, ff5, ff6, ff7, _⟩ := (K3.blk (g := w.heap.size + 1) (by repeat constructor)).f8
 go_wp2_with fail
 have K9 := (K3.pick (L' := [(w.heap.size + 1, [.bool false, .slice none 0 0, .bool false, .slice none 0 0, .bool false, .slice none 0 0, .bool false, .slice none 0 0])]) (l' := []) (by simp) (by simp)).set8 (by simp) false none 0 0 false none 0 0 false none 0 0 false none 0 0
 exact bodyPost_ret (v := .tuple #[.agg #[.bool false, .slice none 0 0, .bool false, .slice none 0 0, .bool false, .slice none 0 0, .bool false, .slice none 0 0], .bool false, .int .i64 0]) (by simp [results, Tryz.results26, go_sem, f0, f1, f2, f3, f4, f5, f6, f7]) rfl ⟨false, none, 0, 0, false, none, 0, 0, false, none, 0, 0, false, none, 0, 0, rfl, isInt_nought, isInt_nought, isInt_nought, isInt_nought, K9.1⟩
end Go.Proofs.YtgekmbfmfiikkaaGreatDoor
