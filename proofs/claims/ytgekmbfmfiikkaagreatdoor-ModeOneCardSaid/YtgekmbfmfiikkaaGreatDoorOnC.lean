/-
  Fractions made of two numbers (frac.Make, frac.Of).
  Of the laws of chapter 16: small numbers and matrices; nearest and distance at nought.
  Plainly: what floats about one and nought come to.
  Where the depth is one and the middle nought: what the disc is reckoned from.
-/
import Derived.Test.YtgekmbfmfiikkaaGreatDoorSfH
import Derived.Test.YtgekmbfmfiikkaaGreatDoorEyB
import Derived.Test.YtgekmbfmfiikkaaGreatDoorTzF
import Derived.Test.YtgekmbfmfiikkaaGreatDoorRootW
import Derived.Test.YtgekmbfmfiikkaaGreatDoorExZ
import Derived.Test.YtgekmbfmfiikkaaGreatDoorBey
import Derived.Test.YtgekmbfmfiikkaaGreatDoorLst
import Derived.Test.YtgekmbfmfiikkaaGreatDoorMay
import Derived.Test.YtgekmbfmfiikkaaGreatDoorRaM
import Derived.Test.YtgekmbfmfiikkaaGreatDoorLnB
import Derived.Test.YtgekmbfmfiikkaaGreatDoorExY
import Derived.Test.YtgekmbfmfiikkaaGreatDoorRndU
set_option maxHeartbeats 6400000
set_option maxRecDepth 100000
namespace Go.Proofs.YtgekmbfmfiikkaaGreatDoor
open Go.RowKit
theorem ex_check_int (neg : Bool) (A : Option Addr) (n c : Nat) (z : Int) (w : World) (h : IsInt w neg A n c z) (hn : n ≤ 2048) : Calls Tryz.prog 330 #[.agg #[.bool neg, .slice A n c]] w (RetV w (.int .i64 0)) := by
 obtain ⟨l, h1, h2, h3, _⟩ := h
 have hl := h1.len
 have := ex_check_sl neg A n c l w h1 (by omega)
 rw [chk_ok ⟨by omega, h2, h3⟩] at this
 exact this
theorem frac_make_any (neg neg' : Bool) (A A' : Option Addr) (n c n' c' : Nat) (x y : Int) (r : Rat) (w : World) (hx : IsInt w neg A n c x) (hy : IsInt w neg' A' n' c' y) (hn : n ≤ 2048) (hn' : n' ≤ 2048) (h0 : Hid (0 < y)) (hr : Hid (Rat.divInt x y = r)) (hs : Sz r 2048) :
  Calls Tryz.prog 255 #[.agg #[.bool neg, .slice A n c], .agg #[.bool neg', .slice A' n' c']] w (RetFo w r) := by
 have K0 := (((((Mm.nil w).int hx).int hy).var (g := w.heap.size) rfl [.bool neg, .slice A n c] 24).var (g := w.heap.size + 1) (by simp) [.bool neg', .slice A' n' c'] 24).var (g := w.heap.size + 1 + 1) (by simp) [.bool false, .slice none 0 0, .bool false, .slice none 0 0] 26
 have HS : Hid (y.sign = 1) := Lib.hid (Int.sign_eq_one_of_pos h0.out)
 have HY : Hid (y ≠ 0) := Lib.hid (by have := h0.out; omega)
 have HZ := Lib.hid hs
 clear hx hy h0 hs
 go_enter Tryz.func255, Tryz.ntmps255
 go_upto_region 1 with (fail)
 generalize ((w.alloc (.cells #[.bool neg, .slice A n c] 24)).alloc (.cells #[.bool neg', .slice A' n' c'] 24)).alloc (.cells #[.bool false, .slice none 0 0, .bool false, .slice none 0 0] 26) = w0 at K0 ⊢
 obtain ⟨qa, qb, _, _, _⟩ := (K0.blk (g := w.heap.size) (by repeat constructor)).two
 go_wp2_with fail
 refine (ex_check_int neg A n c x _ (K0.at_ (by simp)) hn).mono ?_
 rintro e1 w1 ⟨rfl, hb1⟩
 have K1 := K0.next hb1
 clear K0 hb1 qa qb
 obtain ⟨qa, qb, _, _, _⟩ := (K1.blk (g := w.heap.size + 1) (by repeat constructor)).two
 go_wp2_with fail
 refine (ex_check_int neg' A' n' c' y _ (K1.at_ (by simp)) hn').mono ?_
 rintro e2 w2 ⟨rfl, hb2⟩
 have K2 := K1.next hb2
 clear K1 hb2 qa qb
 obtain ⟨qa, qb, _, _, _⟩ := (K2.blk (g := w.heap.size + 1) (by repeat constructor)).two
 go_wp2_with fail
 refine (ex_sign_any neg' A' n' c' y _ (K2.at_ (by simp))).mono ?_
 rintro e3 w3 ⟨rfl, hb3⟩
 rw [HS.out]
 have K3 := K2.next hb3
 clear K2 hb3 qa qb
 obtain ⟨qa, qb, _, _, _⟩ := (K3.blk (g := w.heap.size + 1) (by repeat constructor)).two
 obtain ⟨pa, pb, _, _, _⟩ := (K3.blk (g := w.heap.size) (by repeat constructor)).two
 go_wp2_with fail
 refine (rat_low_any neg neg' A A' n c n' c' x y r _ (K3.at_ (by simp)) (K3.at_ (by simp)) (by omega) (by omega) HY.out hr).mono ?_
 rintro e4 w4 ⟨neg4, A4, n4, c4, ne4, B4, m4, d4, rfl, I4, J4, hb4⟩
 have K4 := ((K3.next hb4).int J4).int I4
 clear K3 hb4 I4 J4 qa qb pa pb
 go_wp2_with fail
 refine (frac_answered_any neg4 ne4 A4 B4 n4 c4 m4 d4 r _ (K4.at_ (by simp)) (K4.at_ (by simp)) HZ.out).mono ?_
 rintro e2 w2 ⟨neg2, A2, n2, c2, ne2, B2, m2, d2, rfl, I2, J2, hb2⟩
 have K2 := ((K4.next hb2).int J2).int I2
 clear K4 hb2 I2 J2
 obtain ⟨⟨ra2, rb2, rc2, rd2⟩, ⟨_, _, _, _⟩, _⟩ := (K2.blk (g := w.heap.size + 1 + 1) (by repeat constructor)).four
 go_wp2_with fail
 have KE := (K2.pick (L' := [(w.heap.size + 1 + 1, [.bool false, .slice none 0 0, .bool false, .slice none 0 0])]) (l' := [(neg2, A2, n2, c2, r.num), (ne2, B2, m2, d2, (r.den : Int))]) (by simp) (by simp)).set4 (by simp <;> omega) neg2 A2 n2 c2 ne2 B2 m2 d2
 exact bodyPost_ret (v := .tuple #[.agg #[.bool neg2, .slice A2 n2 c2, .bool ne2, .slice B2 m2 d2], .int .i64 0]) (by simp [results, Tryz.results255, go_sem, ra2, rb2, rc2, rd2]) rfl ⟨_, _, _, _, _, _, _, _, rfl, KE.at_ (by simp), KE.at_ (by simp), KE.1⟩
theorem frac_of_any (u v : Int) (r : Rat) (w : World) (hu : -9223372036854775808 ≤ u ∧ u ≤ 9223372036854775807) (hv : -9223372036854775808 ≤ v ∧ v ≤ 9223372036854775807) (h0 : 0 < v) (hr : Hid (Rat.divInt u v = r)) :
  Calls Tryz.prog 151 #[.int .i64 u, .int .i64 v] w (RetFk w r) := by
 have hs : Sz r 2048 := by
  rw [← hr.out]
  exact (Sz.divInt (m := 2) (by omega) (by omega) (by omega)).mono (by decide)
 have K0 := (Mm.nil w).var (g := w.heap.size) rfl [.bool false, .slice none 0 0, .bool false, .slice none 0 0] 26
 have H0 := Lib.hid h0
 have HS := Lib.hid hs
 clear h0 hs
 go_enter Tryz.func151, Tryz.ntmps151
 go_wp2_with fail
 refine (ex_of_any u _ hu).mono ?_
 rintro e1 w1 ⟨neg1, A1, n1, c1, rfl, I1, hb1⟩
 have hn1 : n1 ≤ 2 := int_len I1 (by omega)
 have K1 := (K0.next hb1).int I1
 clear K0 hb1 I1
 go_wp2_with fail
 refine (ex_of_any v _ hv).mono ?_
 rintro e2 w2 ⟨neg2, A2, n2, c2, rfl, I2, hb2⟩
 have hn2 : n2 ≤ 2 := int_len I2 (by omega)
 have K2 := (K1.next hb2).int I2
 clear K1 hb2 I2
 go_wp2_with fail
 refine (frac_make_any neg1 neg2 A1 A2 n1 c1 n2 c2 u v r _ (K2.at_ (by simp)) (K2.at_ (by simp)) (by omega) (by omega) H0 hr HS.out).mono ?_
 rintro e3 w3 ⟨neg3, A3, n3, c3, ne3, B3, m3, d3, rfl, I3, J3, hb3⟩
 have K3 := ((K2.next hb3).int J3).int I3
 clear K2 hb3 I3 J3
 obtain ⟨⟨ra, rb, rc, rd⟩, ⟨re, rf, rg, rh⟩, ri⟩ := (K3.blk (g := w.heap.size) (by repeat constructor)).four
 go_wp2_with fail
 have KE := (K3.pick (L' := [(w.heap.size, [.bool false, .slice none 0 0, .bool false, .slice none 0 0])]) (l' := [(neg3, A3, n3, c3, r.num), (ne3, B3, m3, d3, (r.den : Int))]) (by simp) (by simp)).set4 (by simp) neg3 A3 n3 c3 ne3 B3 m3 d3
 obtain ⟨l2, l3, O2⟩ := okF_of (KE.at_ (neg := neg3) (A := A3) (n := n3) (c := c3) (z := r.num) (by simp)) (KE.at_ (neg := ne3) (A := B3) (n := m3) (c := d3) (z := (r.den : Int)) (by simp)) HS.out
 exact bodyPost_ret (v := .tuple #[.agg #[.bool neg3, .slice A3 n3 c3, .bool ne3, .slice B3 m3 d3], .int .i64 0]) (by simp [results, Tryz.results151, go_sem, ra, rb, rc, rd]) rfl ⟨_, _, _, _, _, _, _, _, _, _, rfl, O2, KE.1⟩
/-! ### a quotient by nought -/
end Go.Proofs.YtgekmbfmfiikkaaGreatDoor
namespace Go.Proofs.YtgekmbfmfiikkaaGreatDoor
open Go.RowKit
def RetFv (W : World) (x : Rat) (e : Ending) (w' : World) : Prop :=
 ∃ (sa : Bool) (Aa : Option Addr) (na ca : Nat) (la : List Nat) (za : Bool) (Ba : Option Addr) (ma da : Nat) (ka : List Nat), e = .returned (.agg #[.bool sa, .slice Aa na ca, .bool za, .slice Ba ma da]) ∧ OkF w' ((sa, Aa, na, ca, la), (za, Ba, ma, da, ka)) x ∧ Below W.heap.size W w'
def RetMv (W : World) (xa xb xc xd : Rat) (e : Ending) (w' : World) : Prop :=
 ∃ (sa : Bool) (Aa : Option Addr) (na ca : Nat) (la : List Nat) (za : Bool) (Ba : Option Addr) (ma da : Nat) (ka : List Nat) (sb : Bool) (Ab : Option Addr) (nb cb : Nat) (lb : List Nat) (zb : Bool) (Bb : Option Addr) (mb db : Nat) (kb : List Nat) (sc : Bool) (Ac : Option Addr) (nc cc : Nat) (lc : List Nat) (zc : Bool) (Bc : Option Addr) (mc dc : Nat) (kc : List Nat) (sd : Bool) (Ad : Option Addr) (nd cd : Nat) (ld : List Nat) (zd : Bool) (Bd : Option Addr) (md dd : Nat) (kd : List Nat), e = .returned (.agg #[.bool sa, .slice Aa na ca, .bool za, .slice Ba ma da, .bool sb, .slice Ab nb cb, .bool zb, .slice Bb mb db, .bool sc, .slice Ac nc cc, .bool zc, .slice Bc mc dc, .bool sd, .slice Ad nd cd, .bool zd, .slice Bd md dd]) ∧ OkF w' ((sa, Aa, na, ca, la), (za, Ba, ma, da, ka)) xa ∧ OkF w' ((sb, Ab, nb, cb, lb), (zb, Bb, mb, db, kb)) xb ∧ OkF w' ((sc, Ac, nc, cc, lc), (zc, Bc, mc, dc, kc)) xc ∧ OkF w' ((sd, Ad, nd, cd, ld), (zd, Bd, md, dd, kd)) xd ∧ Below W.heap.size W w'
theorem small16_any (n : Int) (x : Rat) (w : World) (hn : -9223372036854775808 ≤ n ∧ n ≤ 9223372036854775807) (hx : Hid (Rat.divInt n 1 = x)) :
  Calls Tryz.prog 45 #[.int .i64 n] w (RetFv w x) := by
 have K0 := (Mm.nil w).var (g := w.heap.size) rfl [.bool false, .slice none 0 0, .bool false, .slice none 0 0] 26
 have HN := Lib.hid hn
 clear hn
 go_enter Tryz.func45, Tryz.ntmps45
 go_upto_region 1 with (fail)
 generalize w.alloc (.cells #[.bool false, .slice none 0 0, .bool false, .slice none 0 0] 26) = w0 at K0 ⊢
 go_wp2_with fail
 refine (frac_of_any n 1 x _ HN.out (by decide) (by decide) hx).mono ?_
 rintro e1 w1 ⟨sa, Aa, na, ca, la, za, Ba, ma, da, ka, rfl, oa, hb⟩
 have K1 := (K0.next hb).var (g := w1.heap.size) rfl [.bool sa, .slice Aa na ca, .bool za, .slice Ba ma da] 26
 have z1 : w.heap.size < w1.heap.size := ((K0.next hb).blk (mE 0 rfl)).1
 replace oa := oa.next ((Below.refl w1.heap.size w1).alloc (Nat.le_refl _) (.cells #[.bool sa, .slice Aa na ca, .bool za, .slice Ba ma da] 26))
 clear K0 hb
 go_upto_region 2 with (fail)
 generalize w1.heap.size = g1 at K1 z1 ⊢
 generalize w1.alloc (.cells #[.bool sa, .slice Aa na ca, .bool za, .slice Ba ma da] 26) = u1 at K1 oa ⊢
 have n1 : ¬ g1 = w.heap.size := by omega
 have n2 : ¬ w.heap.size = g1 := by omega
 obtain ⟨⟨_, _, _, _⟩, _, _⟩ := (K1.blk (g := g1) (by repeat constructor)).four
 obtain ⟨⟨f0, f1, f2, f3⟩, ⟨ff0, ff1, ff2, ff3⟩, _⟩ := (K1.blk (g := w.heap.size) (by repeat constructor)).four
 go_wp2_with fail
 have K9 := (((K1.int oa.ints.1).int oa.ints.2.1).pick (L' := [(w.heap.size, [.bool false, .slice none 0 0, .bool false, .slice none 0 0])]) (l' := [(sa, Aa, na, ca, x.num), (za, Ba, ma, da, (x.den : Int))]) (by simp) (by simp)).set4 (by simp) sa Aa na ca za Ba ma da
 obtain ⟨l9, k9, o9⟩ := okF_of (K9.at_ (neg := sa) (A := Aa) (n := na) (c := ca) (z := x.num) (by simp)) (K9.at_ (neg := za) (A := Ba) (n := ma) (c := da) (z := (x.den : Int)) (by simp)) oa.ints.2.2
 exact bodyPost_ret (v := .agg #[.bool sa, .slice Aa na ca, .bool za, .slice Ba ma da]) (by simp [results, Tryz.results45, go_sem, f0, f1, f2, f3]) rfl ⟨_, _, _, _, l9, _, _, _, _, k9, rfl, o9, K9.1⟩
theorem matrix16_any (ia ib ic id_ : Int) (xa xb xc xd : Rat) (w : World) (ha : -9223372036854775808 ≤ ia ∧ ia ≤ 9223372036854775807) (hb : -9223372036854775808 ≤ ib ∧ ib ≤ 9223372036854775807) (hc : -9223372036854775808 ≤ ic ∧ ic ≤ 9223372036854775807) (hd : -9223372036854775808 ≤ id_ ∧ id_ ≤ 9223372036854775807) (ea : Hid (Rat.divInt ia 1 = xa)) (eb : Hid (Rat.divInt ib 1 = xb)) (ec : Hid (Rat.divInt ic 1 = xc)) (ed : Hid (Rat.divInt id_ 1 = xd)) :
  Calls Tryz.prog 135 #[.int .i64 ia, .int .i64 ib, .int .i64 ic, .int .i64 id_] w (RetMv w xa xb xc xd) := by
 have K0 := (Mm.nil w).var (g := w.heap.size) rfl [.bool false, .slice none 0 0, .bool false, .slice none 0 0, .bool false, .slice none 0 0, .bool false, .slice none 0 0, .bool false, .slice none 0 0, .bool false, .slice none 0 0, .bool false, .slice none 0 0, .bool false, .slice none 0 0] 28
 have Ha := Lib.hid ha
 have Ea := ea
 have Hb := Lib.hid hb
 have Eb := eb
 have Hc := Lib.hid hc
 have Ec := ec
 have Hd := Lib.hid hd
 have Ed := ed
 clear ha hb hc hd ea eb ec ed
 go_enter Tryz.func135, Tryz.ntmps135
 go_upto_region 1 with (fail)
 generalize w.alloc (.cells #[.bool false, .slice none 0 0, .bool false, .slice none 0 0, .bool false, .slice none 0 0, .bool false, .slice none 0 0, .bool false, .slice none 0 0, .bool false, .slice none 0 0, .bool false, .slice none 0 0, .bool false, .slice none 0 0] 28) = w0 at K0 ⊢
 go_wp2_with fail
 refine (small16_any ia xa _ Ha.out Ea).mono ?_
 rintro e1 w1 ⟨sa, Aa, na, ca, la, za, Ba, ma, da, ka, rfl, oa, hb⟩
 have K1 := K0.next hb
 clear K0 hb
 go_wp2_with fail
 refine (small16_any ib xb _ Hb.out Eb).mono ?_
 rintro e2 w2 ⟨sb, Ab, nb, cb, lb, zb, Bb, mb, db, kb, rfl, ob, hb⟩
 have K2 := K1.next hb
 replace oa := oa.next hb
 clear K1 hb
 go_wp2_with fail
 refine (small16_any ic xc _ Hc.out Ec).mono ?_
 rintro e3 w3 ⟨sc, Ac, nc, cc, lc, zc, Bc, mc, dc, kc, rfl, oc, hb⟩
 have K3 := K2.next hb
 replace oa := oa.next hb
 replace ob := ob.next hb
 clear K2 hb
 go_wp2_with fail
 refine (small16_any id_ xd _ Hd.out Ed).mono ?_
 rintro e4 w4 ⟨sd, Ad, nd, cd, ld, zd, Bd, md, dd, kd, rfl, od, hb⟩
 have K4 := K3.next hb
 replace oa := oa.next hb
 replace ob := ob.next hb
 replace oc := oc.next hb
 clear K3 hb
 obtain ⟨f0, f1, f2, f3, f4, f5, f6, f7, f8, f9, f10, f11, f12, f13, f14, f15⟩ := (K4.blk (mE 0 rfl)).c16
 obtain ⟨ff0, ff1, ff2, ff3, ff4, ff5, ff6, ff7, ff8, ff9, ff10, ff11, ff12, ff13, ff14, ff15, _⟩ := (K4.blk (mE 0 rfl)).f16
 go_wp2_with fail
 have K9 := (((((((((K4.int oa.ints.1).int oa.ints.2.1).int ob.ints.1).int ob.ints.2.1).int oc.ints.1).int oc.ints.2.1).int od.ints.1).int od.ints.2.1).pick (L' := [(w.heap.size, [.bool false, .slice none 0 0, .bool false, .slice none 0 0, .bool false, .slice none 0 0, .bool false, .slice none 0 0, .bool false, .slice none 0 0, .bool false, .slice none 0 0, .bool false, .slice none 0 0, .bool false, .slice none 0 0])]) (l' := [(sa, Aa, na, ca, xa.num), (za, Ba, ma, da, (xa.den : Int)), (sb, Ab, nb, cb, xb.num), (zb, Bb, mb, db, (xb.den : Int)), (sc, Ac, nc, cc, xc.num), (zc, Bc, mc, dc, (xc.den : Int)), (sd, Ad, nd, cd, xd.num), (zd, Bd, md, dd, (xd.den : Int))]) (by simp) (by simp)).set16 (by simp) sa Aa na ca za Ba ma da sb Ab nb cb zb Bb mb db sc Ac nc cc zc Bc mc dc sd Ad nd cd zd Bd md dd
 obtain ⟨l9a, k9a, o9a⟩ := okF_of (K9.at_ (neg := sa) (A := Aa) (n := na) (c := ca) (z := xa.num) (by simp)) (K9.at_ (neg := za) (A := Ba) (n := ma) (c := da) (z := (xa.den : Int)) (by simp)) oa.ints.2.2
 obtain ⟨l9b, k9b, o9b⟩ := okF_of (K9.at_ (neg := sb) (A := Ab) (n := nb) (c := cb) (z := xb.num) (by simp)) (K9.at_ (neg := zb) (A := Bb) (n := mb) (c := db) (z := (xb.den : Int)) (by simp)) ob.ints.2.2
 obtain ⟨l9c, k9c, o9c⟩ := okF_of (K9.at_ (neg := sc) (A := Ac) (n := nc) (c := cc) (z := xc.num) (by simp)) (K9.at_ (neg := zc) (A := Bc) (n := mc) (c := dc) (z := (xc.den : Int)) (by simp)) oc.ints.2.2
 obtain ⟨l9d, k9d, o9d⟩ := okF_of (K9.at_ (neg := sd) (A := Ad) (n := nd) (c := cd) (z := xd.num) (by simp)) (K9.at_ (neg := zd) (A := Bd) (n := md) (c := dd) (z := (xd.den : Int)) (by simp)) od.ints.2.2
 exact bodyPost_ret (v := .agg #[.bool sa, .slice Aa na ca, .bool za, .slice Ba ma da, .bool sb, .slice Ab nb cb, .bool zb, .slice Bb mb db, .bool sc, .slice Ac nc cc, .bool zc, .slice Bc mc dc, .bool sd, .slice Ad nd cd, .bool zd, .slice Bd md dd]) (by simp [results, Tryz.results135, go_sem, f0, f1, f2, f3, f4, f5, f6, f7, f8, f9, f10, f11, f12, f13, f14, f15]) rfl ⟨_, _, _, _, l9a, _, _, _, _, k9a, _, _, _, _, l9b, _, _, _, _, k9b, _, _, _, _, l9c, _, _, _, _, k9c, _, _, _, _, l9d, _, _, _, _, k9d, rfl, o9a, o9b, o9c, o9d, K9.1⟩
theorem nearest_nought (sa : Bool) (Aa : Option Addr) (na ca : Nat) (za : Bool) (Ba : Option Addr) (ma da : Nat) (w : World) (ia : IsInt w sa Aa na ca 0) :
  Calls Tryz.prog 243 #[.agg #[.bool sa, .slice Aa na ca, .bool za, .slice Ba ma da]] w (RetV w (.tuple #[.float .f64 0, .bool true])) := by
 have K0 := ((Mm.nil w).int ia).var (g := w.heap.size) rfl [.bool sa, .slice Aa na ca, .bool za, .slice Ba ma da] 26
 clear ia
 go_enter Tryz.func243, Tryz.ntmps243
 go_upto_region 1 with (fail)
 generalize w.alloc (.cells #[.bool sa, .slice Aa na ca, .bool za, .slice Ba ma da] 26) = w0 at K0 ⊢
 obtain ⟨⟨_, _, _, _⟩, _, _⟩ := (K0.blk (g := w.heap.size) (by repeat constructor)).four
 go_wp2_with fail
 refine (ex_sign_any sa Aa na ca 0 _ (K0.at_ (mE 0 rfl))).mono ?_
 rintro e1 w1 ⟨rfl, hb⟩
 have K1 := K0.next hb
 clear K0 hb
 go_wp2_with fail
 exact bodyPost_ret (v := .tuple #[.float .f64 0, .bool true]) (by simp [results, Tryz.results243, go_sem]) rfl ⟨rfl, K1.1⟩
theorem cabs_nought (w : World) : Calls Tryz.prog 248 #[.complex .f64 0 0] w (RetV w (.tuple #[.float .f64 0, .float .f64 0])) := by
 go_enter Tryz.func248, Tryz.ntmps248
 go_wp2_with (first
  | (go_at_call 318; (refine (abs_any 0 (by decide) _).mono ?_); rintro e w' ⟨rfl, rfl⟩)
  | (go_at_call 319; (refine (isInf0_any 0 (by decide) _).mono ?_); rintro e w' ⟨rfl, rfl⟩)
  | (go_at_call 321; (refine (isNaN_any 0 _).mono ?_); rintro e w' ⟨rfl, rfl⟩)
  | fail)
 exact bodyPost_ret (v := .tuple #[.float .f64 0, .float .f64 0]) (by simp [results, Tryz.results248, go_sem]) rfl ⟨rfl, Below.refl _ _⟩
end Go.Proofs.YtgekmbfmfiikkaaGreatDoor
namespace Go.Proofs.YtgekmbfmfiikkaaGreatDoor
open Go.RowKit
def fOne : Nat := 4607182418800017408
theorem fOne_lt : fOne < 2 ^ 64 := by decide
theorem fOne_val : Flt.val fOne = 2 ^ Flt.K74 := val_o
theorem fOne_fin : Flt.Fin fOne := fin_o
theorem fOne_next : Flt.val fOne < Flt.val (fOne + 1) := by decide +kernel
theorem brk_fOne {d u : Nat} (h : Brk (decide ((1 : Int) < 0)) ((1 : Int).natAbs * 2 ^ Flt.K74) 1 d u) : d = fOne ∧ u = fOne := by
 have e1 : decide ((1 : Int) < 0) = false := rfl
 have e2 : (1 : Int).natAbs * 2 ^ Flt.K74 = 2 ^ Flt.K74 := by rw [show (1 : Int).natAbs = 1 from rfl, Nat.one_mul]
 rw [e1, e2] at h
 have k : Brk false (2 ^ Flt.K74) 1 fOne fOne := by
  have hv : Flt.val fOne * 1 = 2 ^ Flt.K74 := (Nat.mul_one _).trans fOne_val
  have hr : hiR (2 ^ Flt.K74) 1 fOne = fOne := if_pos hv
  refine ⟨fOne, ⟨by decide, Nat.le_of_eq hv, fun _ => ?_⟩, rfl, ?_⟩
  ·rw [← hv, Nat.mul_one, Nat.mul_one]; exact fOne_next
  ·rw [hr]; rfl
 exact h.unique k
theorem brk_fNought {D d u : Nat} (hD : 0 < D) (h : Brk (decide ((0 : Int) < 0)) ((0 : Int).natAbs * 2 ^ Flt.K74) D d u) : d = 0 ∧ u = 0 := by
 have e1 : decide ((0 : Int) < 0) = false := rfl
 have e2 : (0 : Int).natAbs * 2 ^ Flt.K74 = 0 := by rw [show (0 : Int).natAbs = 0 from rfl, Nat.zero_mul]
 rw [e1, e2] at h
 have v0 : Flt.val 0 = 0 := by decide +kernel
 have v1 : 0 < Flt.val 1 := by decide +kernel
 have k : Brk false 0 D 0 0 := by
  have hv : Flt.val 0 * D = 0 := by rw [v0, Nat.zero_mul]
  have hr : hiR 0 D 0 = 0 := if_pos hv
  refine ⟨0, ⟨by decide, Nat.le_of_eq hv, fun _ => Nat.mul_pos v1 hD⟩, rfl, ?_⟩
  rw [hr]; rfl
 exact h.unique k
theorem root_fOne {d u : Nat} (h : IsRoot fOne d u) : d = fOne ∧ u = fOne := by
 have hp : Pos fOne := ⟨fOne_fin, by decide, by decide⟩
 obtain ⟨r, h1, rfl, h3⟩ := h.2 hp
 have hr : Flt.rg fOne = fOne := by decide
 rw [hr, fOne_val] at h1 h3
 have k : DnSq (2 ^ Flt.K74 * 2 ^ Flt.K74) fOne := by
  refine ⟨by decide, by rw [fOne_val]; exact Nat.le_refl _, ?_⟩
  have := fOne_next
  rw [fOne_val] at this
  exact Nat.mul_lt_mul_of_lt_of_lt this this
 obtain rfl := h1.unique k
 exact ⟨rfl, by rw [h3, if_pos (by rw [fOne_val])]⟩
end Go.Proofs.YtgekmbfmfiikkaaGreatDoor
namespace Go.Proofs.YtgekmbfmfiikkaaGreatDoor
open Go.RowKit
theorem add_fOne : Ieee.double.add fOne (Flt.opp fOne) = some 0 := by decide +kernel
theorem sum_fOne {d u : Nat} (h : IsSum fOne (Flt.opp fOne) d u) : d = 0 ∧ u = 0 := by
 obtain ⟨s, h1, h2, _⟩ := h
 have h0 : Flt.sv fOne + Flt.sv (Flt.opp fOne) = 0 := by rw [Flt.sv_opp]; omega
 obtain ⟨e1, e2⟩ := h2 (.inr h0)
 have := h1.2
 rw [add_fOne] at this
 simp only at this
 exact ⟨e1.trans this, e2.trans this⟩
theorem ends_fOne : endsF fOne fOne = (fOne, fOne, 0) := by decide +kernel
theorem span_root_one (w : World) : Calls Tryz.prog 245 #[.agg #[.float .f64 fOne, .float .f64 fOne]] w (RetV w (.tuple #[.agg #[.float .f64 fOne, .float .f64 fOne], .int .i64 0])) := by
 refine (span_sqrt_ok fOne fOne fOne_lt fOne_lt (by decide +kernel) (by decide +kernel) w).mono ?_
 rintro e w' ⟨p, ⟨lo, lu, hd, hi, h1, h2, rfl⟩, he, hb⟩
 have m1 : pz (mx fOne 0) = fOne := by decide +kernel
 have m2 : pz fOne = fOne := by decide +kernel
 rw [m1] at h1
 rw [m2] at h2
 obtain ⟨rfl, _⟩ := root_fOne h1
 obtain ⟨_, rfl⟩ := root_fOne h2
 rw [ends_fOne] at he
 exact ⟨he, hb⟩
theorem edge_one (neg neg' : Bool) (A A' : Option Addr) (n c n' c' : Nat) (w : World) (hx : IsInt w neg A n c 1) (hy : IsInt w neg' A' n' c' 1) : Calls Tryz.prog 244 #[.agg #[.bool neg, .slice A n c, .bool neg', .slice A' n' c']] w (RetV w (.tuple #[.float .f64 fOne, .float .f64 fOne])) := by
 have h1 := int_len hx (m := 1) (by decide)
 have h2 := int_len hy (m := 1) (by decide)
 refine (edge_at_any neg neg' A A' n c n' c' 1 1 w hx hy (by omega) (by omega) (by decide)).mono ?_
 rintro e w' ⟨d, u, rfl, hB, hb⟩
 obtain ⟨rfl, rfl⟩ := brk_fOne hB
 exact ⟨rfl, hb⟩
theorem edge_nought (neg neg' : Bool) (A A' : Option Addr) (n c n' c' : Nat) (w : World) (hx : IsInt w neg A n c 0) (hy : IsInt w neg' A' n' c' 1) : Calls Tryz.prog 244 #[.agg #[.bool neg, .slice A n c, .bool neg', .slice A' n' c']] w (RetV w (.tuple #[.float .f64 0, .float .f64 0])) := by
 have h1 := int_len hx (m := 1) (by decide)
 have h2 := int_len hy (m := 1) (by decide)
 refine (edge_at_any neg neg' A A' n c n' c' 0 1 w hx hy (by omega) (by omega) (by decide)).mono ?_
 rintro e w' ⟨d, u, rfl, hB, hb⟩
 obtain ⟨rfl, rfl⟩ := brk_fNought (by decide) hB
 exact ⟨rfl, hb⟩
theorem sub_one_one (w : World) : Calls Tryz.prog 247 #[.float .f64 fOne, .float .f64 fOne] w (RetV w (.tuple #[.float .f64 0, .float .f64 0])) := by
 refine (rnd_sub_any fOne fOne fOne_lt fOne_lt w).mono ?_
 rintro e w' ⟨d, u, rfl, hB, hb⟩
 obtain ⟨rfl, rfl⟩ := sum_fOne hB
 exact ⟨rfl, hb⟩
end Go.Proofs.YtgekmbfmfiikkaaGreatDoor
