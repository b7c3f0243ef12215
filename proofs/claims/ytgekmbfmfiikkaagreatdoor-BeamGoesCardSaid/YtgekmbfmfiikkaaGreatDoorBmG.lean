/-
  A matrix that may be (ray.det, ray.Check, ray.One); small complex numbers (argand.Small, gauss.Of).
-/
import Derived.Test.YtgekmbfmfiikkaaGreatDoorBmF
import Derived.Test.YtgekmbfmfiikkaaGreatDoorRaN
import Derived.Test.YtgekmbfmfiikkaaGreatDoorExX
set_option maxHeartbeats 6400000
set_option maxRecDepth 100000
namespace Go.Proofs.YtgekmbfmfiikkaaGreatDoor
open Go.RowKit
theorem four_matrix_any (sa : Bool) (Aa : Option Addr) (na ca : Nat) (za : Bool) (Ba : Option Addr) (ma da : Nat) (sb : Bool) (Ab : Option Addr) (nb cb : Nat) (zb : Bool) (Bb : Option Addr) (mb db : Nat) (sc : Bool) (Ac : Option Addr) (nc cc : Nat) (zc : Bool) (Bc : Option Addr) (mc dc : Nat) (sd : Bool) (Ad : Option Addr) (nd cd : Nat) (zd : Bool) (Bd : Option Addr) (md dd : Nat) (w : World) :
  Calls Tryz.prog 210 #[.agg #[.bool sa, .slice Aa na ca, .bool za, .slice Ba ma da, .bool sb, .slice Ab nb cb, .bool zb, .slice Bb mb db, .bool sc, .slice Ac nc cc, .bool zc, .slice Bc mc dc, .bool sd, .slice Ad nd cd, .bool zd, .slice Bd md dd]] w (RetV w (.agg #[.bool sa, .slice Aa na ca, .bool za, .slice Ba ma da, .bool sb, .slice Ab nb cb, .bool zb, .slice Bb mb db, .bool sc, .slice Ac nc cc, .bool zc, .slice Bc mc dc, .bool sd, .slice Ad nd cd, .bool zd, .slice Bd md dd])) := by
 have K0 := ((Mm.nil w).var (g := w.heap.size) rfl [.bool sa, .slice Aa na ca, .bool za, .slice Ba ma da, .bool sb, .slice Ab nb cb, .bool zb, .slice Bb mb db, .bool sc, .slice Ac nc cc, .bool zc, .slice Bc mc dc, .bool sd, .slice Ad nd cd, .bool zd, .slice Bd md dd] 150).var (g := w.heap.size + 1) (by simp) [.bool false, .slice none 0 0, .bool false, .slice none 0 0, .bool false, .slice none 0 0, .bool false, .slice none 0 0, .bool false, .slice none 0 0, .bool false, .slice none 0 0, .bool false, .slice none 0 0, .bool false, .slice none 0 0] 28
 have g01 : ¬ w.heap.size = w.heap.size + 1 := by omega
 go_enter Tryz.func210, Tryz.ntmps210
 go_upto_region 1 with (fail)
 generalize (w.alloc (.cells #[.bool sa, .slice Aa na ca, .bool za, .slice Ba ma da, .bool sb, .slice Ab nb cb, .bool zb, .slice Bb mb db, .bool sc, .slice Ac nc cc, .bool zc, .slice Bc mc dc, .bool sd, .slice Ad nd cd, .bool zd, .slice Bd md dd] 150)).alloc (.cells #[.bool false, .slice none 0 0, .bool false, .slice none 0 0, .bool false, .slice none 0 0, .bool false, .slice none 0 0, .bool false, .slice none 0 0, .bool false, .slice none 0 0, .bool false, .slice none 0 0, .bool false, .slice none 0 0] 28) = w0 at K0 ⊢
 obtain ⟨_, _, _, _, _, _, _, _, _, _, _, _, _, _, _, _⟩ := (K0.blk (g := w.heap.size) (by repeat constructor)).c16
 obtain ⟨f0, f1, f2, f3, f4, f5, f6, f7, f8, f9, f10, f11, f12, f13, f14, f15⟩ := (K0.blk (g := w.heap.size + 1) (by repeat constructor)).c16
 obtain ⟨ff0, ff1, ff2, ff3, ff4, ff5, ff6, ff7, ff8, ff9, ff10, ff11, ff12, ff13, ff14, ff15, _⟩ := (K0.blk (g := w.heap.size + 1) (by repeat constructor)).f16
 go_wp2_with fail
 have K9 := (K0.pick (L' := [(w.heap.size + 1, [.bool false, .slice none 0 0, .bool false, .slice none 0 0, .bool false, .slice none 0 0, .bool false, .slice none 0 0, .bool false, .slice none 0 0, .bool false, .slice none 0 0, .bool false, .slice none 0 0, .bool false, .slice none 0 0])]) (l' := []) (by simp) (by simp)).set16 (by simp) sa Aa na ca za Ba ma da sb Ab nb cb zb Bb mb db sc Ac nc cc zc Bc mc dc sd Ad nd cd zd Bd md dd
 exact bodyPost_ret (v := .agg #[.bool sa, .slice Aa na ca, .bool za, .slice Ba ma da, .bool sb, .slice Ab nb cb, .bool zb, .slice Bb mb db, .bool sc, .slice Ac nc cc, .bool zc, .slice Bc mc dc, .bool sd, .slice Ad nd cd, .bool zd, .slice Bd md dd]) (by simp [results, Tryz.results210, go_sem, f0, f1, f2, f3, f4, f5, f6, f7, f8, f9, f10, f11, f12, f13, f14, f15]) rfl ⟨rfl, K9.1⟩
def RetMk (W : World) (x y z t : Rat) (e : Ending) (w' : World) : Prop :=
 ∃ (sa : Bool) (Aa : Option Addr) (na ca : Nat) (la : List Nat) (za : Bool) (Ba : Option Addr) (ma da : Nat) (ka : List Nat) (sb : Bool) (Ab : Option Addr) (nb cb : Nat) (lb : List Nat) (zb : Bool) (Bb : Option Addr) (mb db : Nat) (kb : List Nat) (sc : Bool) (Ac : Option Addr) (nc cc : Nat) (lc : List Nat) (zc : Bool) (Bc : Option Addr) (mc dc : Nat) (kc : List Nat) (sd : Bool) (Ad : Option Addr) (nd cd : Nat) (ld : List Nat) (zd : Bool) (Bd : Option Addr) (md dd : Nat) (kd : List Nat), e = .returned (.agg #[.bool sa, .slice Aa na ca, .bool za, .slice Ba ma da, .bool sb, .slice Ab nb cb, .bool zb, .slice Bb mb db, .bool sc, .slice Ac nc cc, .bool zc, .slice Bc mc dc, .bool sd, .slice Ad nd cd, .bool zd, .slice Bd md dd]) ∧ OkF w' ((sa, Aa, na, ca, la), (za, Ba, ma, da, ka)) x ∧ OkF w' ((sb, Ab, nb, cb, lb), (zb, Bb, mb, db, kb)) y ∧ OkF w' ((sc, Ac, nc, cc, lc), (zc, Bc, mc, dc, kc)) z ∧ OkF w' ((sd, Ad, nd, cd, ld), (zd, Bd, md, dd, kd)) t ∧ Below W.heap.size W w'
theorem ray_one_any (w : World) : Calls Tryz.prog 108 #[] w (RetMk w 1 0 0 1) := by
 have K0 := (Mm.nil w).var (g := w.heap.size) rfl [.bool false, .slice none 0 0, .bool false, .slice none 0 0, .bool false, .slice none 0 0, .bool false, .slice none 0 0, .bool false, .slice none 0 0, .bool false, .slice none 0 0, .bool false, .slice none 0 0, .bool false, .slice none 0 0] 28
 go_enter Tryz.func108, Tryz.ntmps108
 go_upto_region 1 with (fail)
 generalize w.alloc (.cells #[.bool false, .slice none 0 0, .bool false, .slice none 0 0, .bool false, .slice none 0 0, .bool false, .slice none 0 0, .bool false, .slice none 0 0, .bool false, .slice none 0 0, .bool false, .slice none 0 0, .bool false, .slice none 0 0] 28) = w0 at K0 ⊢
 go_wp2_with fail
 refine (rat_one_any _).mono ?_
 rintro e1 w1 ⟨sa, Aa, na, ca, za, Ba, ma, da, rfl, I, J, hb⟩
 have K1 := ((K0.next hb).int J).int I
 clear K0 I J hb
 go_wp2_with fail
 refine (rat_nou_any _).mono ?_
 rintro e2 w2 ⟨sb, Ab, nb, cb, zb, Bb, mb, db, rfl, I, J, hb⟩
 have K2 := ((K1.next hb).int J).int I
 clear K1 I J hb
 go_wp2_with fail
 refine (rat_nou_any _).mono ?_
 rintro e3 w3 ⟨sc, Ac, nc, cc, zc, Bc, mc, dc, rfl, I, J, hb⟩
 have K3 := ((K2.next hb).int J).int I
 clear K2 I J hb
 go_wp2_with fail
 refine (rat_one_any _).mono ?_
 rintro e4 w4 ⟨sd, Ad, nd, cd, zd, Bd, md, dd, rfl, I, J, hb⟩
 have K4 := ((K3.next hb).int J).int I
 clear K3 I J hb
 go_wp2_with fail
 obtain ⟨la, ka, oa⟩ := okF_of (r := 1) (K4.at_ (neg := sa) (A := Aa) (n := na) (c := ca) (z := (1 : Rat).num) (by simp)) (K4.at_ (neg := za) (A := Ba) (n := ma) (c := da) (z := (((1 : Rat).den : Nat) : Int)) (by simp)) (Sz.one.mono (by decide))
 obtain ⟨lb, kb, ob⟩ := okF_of (r := 0) (K4.at_ (neg := sb) (A := Ab) (n := nb) (c := cb) (z := (0 : Rat).num) (by simp)) (K4.at_ (neg := zb) (A := Bb) (n := mb) (c := db) (z := (((0 : Rat).den : Nat) : Int)) (by simp)) (Sz.zero.mono (by decide))
 obtain ⟨lc, kc, oc⟩ := okF_of (r := 0) (K4.at_ (neg := sc) (A := Ac) (n := nc) (c := cc) (z := (0 : Rat).num) (by simp)) (K4.at_ (neg := zc) (A := Bc) (n := mc) (c := dc) (z := (((0 : Rat).den : Nat) : Int)) (by simp)) (Sz.zero.mono (by decide))
 obtain ⟨ld, kd, od⟩ := okF_of (r := 1) (K4.at_ (neg := sd) (A := Ad) (n := nd) (c := cd) (z := (1 : Rat).num) (by simp)) (K4.at_ (neg := zd) (A := Bd) (n := md) (c := dd) (z := (((1 : Rat).den : Nat) : Int)) (by simp)) (Sz.one.mono (by decide))
 refine (four_matrix_any sa Aa na ca za Ba ma da sb Ab nb cb zb Bb mb db sc Ac nc cc zc Bc mc dc sd Ad nd cd zd Bd md dd _).mono ?_
 rintro e5 w5 ⟨rfl, hb⟩
 have K5 := K4.next hb
 replace oa := oa.next hb
 replace ob := ob.next hb
 replace oc := oc.next hb
 replace od := od.next hb
 clear K4 hb
 obtain ⟨f0, f1, f2, f3, f4, f5, f6, f7, f8, f9, f10, f11, f12, f13, f14, f15⟩ := (K5.blk (g := w.heap.size) (by repeat constructor)).c16
 obtain ⟨ff0, ff1, ff2, ff3, ff4, ff5, ff6, ff7, ff8, ff9, ff10, ff11, ff12, ff13, ff14, ff15, _⟩ := (K5.blk (g := w.heap.size) (by repeat constructor)).f16
 go_wp2_with fail
 have K9 := (((((((((K5.int oa.ints.1).int oa.ints.2.1).int ob.ints.1).int ob.ints.2.1).int oc.ints.1).int oc.ints.2.1).int od.ints.1).int od.ints.2.1).pick (L' := [(w.heap.size, [.bool false, .slice none 0 0, .bool false, .slice none 0 0, .bool false, .slice none 0 0, .bool false, .slice none 0 0, .bool false, .slice none 0 0, .bool false, .slice none 0 0, .bool false, .slice none 0 0, .bool false, .slice none 0 0])]) (l' := [(sa, Aa, na, ca, (1 : Rat).num), (za, Ba, ma, da, ((1 : Rat).den : Int)), (sb, Ab, nb, cb, (0 : Rat).num), (zb, Bb, mb, db, ((0 : Rat).den : Int)), (sc, Ac, nc, cc, (0 : Rat).num), (zc, Bc, mc, dc, ((0 : Rat).den : Int)), (sd, Ad, nd, cd, (1 : Rat).num), (zd, Bd, md, dd, ((1 : Rat).den : Int))]) (by simp) (by simp)).set16 (by simp) sa Aa na ca za Ba ma da sb Ab nb cb zb Bb mb db sc Ac nc cc zc Bc mc dc sd Ad nd cd zd Bd md dd
 obtain ⟨l9a, k9a, o9a⟩ := okF_of (r := (1 : Rat)) (K9.at_ (neg := sa) (A := Aa) (n := na) (c := ca) (z := (1 : Rat).num) (by simp)) (K9.at_ (neg := za) (A := Ba) (n := ma) (c := da) (z := (((1 : Rat).den : Nat) : Int)) (by simp)) oa.ints.2.2
 obtain ⟨l9b, k9b, o9b⟩ := okF_of (r := (0 : Rat)) (K9.at_ (neg := sb) (A := Ab) (n := nb) (c := cb) (z := (0 : Rat).num) (by simp)) (K9.at_ (neg := zb) (A := Bb) (n := mb) (c := db) (z := (((0 : Rat).den : Nat) : Int)) (by simp)) ob.ints.2.2
 obtain ⟨l9c, k9c, o9c⟩ := okF_of (r := (0 : Rat)) (K9.at_ (neg := sc) (A := Ac) (n := nc) (c := cc) (z := (0 : Rat).num) (by simp)) (K9.at_ (neg := zc) (A := Bc) (n := mc) (c := dc) (z := (((0 : Rat).den : Nat) : Int)) (by simp)) oc.ints.2.2
 obtain ⟨l9d, k9d, o9d⟩ := okF_of (r := (1 : Rat)) (K9.at_ (neg := sd) (A := Ad) (n := nd) (c := cd) (z := (1 : Rat).num) (by simp)) (K9.at_ (neg := zd) (A := Bd) (n := md) (c := dd) (z := (((1 : Rat).den : Nat) : Int)) (by simp)) od.ints.2.2
 exact bodyPost_ret (v := .agg #[.bool sa, .slice Aa na ca, .bool za, .slice Ba ma da, .bool sb, .slice Ab nb cb, .bool zb, .slice Bb mb db, .bool sc, .slice Ac nc cc, .bool zc, .slice Bc mc dc, .bool sd, .slice Ad nd cd, .bool zd, .slice Bd md dd]) (by simp [results, Tryz.results108, go_sem, f0, f1, f2, f3, f4, f5, f6, f7, f8, f9, f10, f11, f12, f13, f14, f15]) rfl ⟨_, _, _, _, _, _, _, _, _, _, _, _, _, _, _, _, _, _, _, _, _, _, _, _, _, _, _, _, _, _, _, _, _, _, _, _, _, _, _, _, rfl, o9a, o9b, o9c, o9d, K9.1⟩
theorem arg_small_any (p q : Int) (x y : Rat) (w : World) (hp : -9223372036854775808 ≤ p ∧ p ≤ 9223372036854775807) (hq : -9223372036854775808 ≤ q ∧ q ≤ 9223372036854775807) (hx : Hid (Rat.divInt p 1 = x)) (hy : Hid (Rat.divInt q 1 = y)) :
  Calls Tryz.prog 211 #[.int .i64 p, .int .i64 q] w (RetGv w x y) := by
 have K0 := (Mm.nil w).var (g := w.heap.size) rfl [.bool false, .slice none 0 0, .bool false, .slice none 0 0, .bool false, .slice none 0 0, .bool false, .slice none 0 0] 30
 have SX : Hid (Sz x 2) := Lib.hid (by rw [← hx.out]; exact Sz.divInt (m := 2) (by decide) (by omega) (by decide))
 have SY : Hid (Sz y 2) := Lib.hid (by rw [← hy.out]; exact Sz.divInt (m := 2) (by decide) (by omega) (by decide))
 have HP := Lib.hid hp
 have HQ := Lib.hid hq
 clear hp hq
 go_enter Tryz.func211, Tryz.ntmps211
 go_upto_region 1 with (fail)
 generalize w.alloc (.cells #[.bool false, .slice none 0 0, .bool false, .slice none 0 0, .bool false, .slice none 0 0, .bool false, .slice none 0 0] 30) = w0 at K0 ⊢
 go_wp2_with fail
 refine (rat_small_any p 1 x _ HP.out (by decide) (by decide) hx).mono ?_
 rintro e1 w1 ⟨sa, Aa, na, ca, za, Ba, ma, da, rfl, I, J, hb⟩
 have K1 := ((K0.next hb).int J).int I
 clear K0 I J hb
 go_wp2_with fail
 refine (rat_small_any q 1 y _ HQ.out (by decide) (by decide) hy).mono ?_
 rintro e2 w2 ⟨sb, Ab, nb, cb, zb, Bb, mb, db, rfl, I, J, hb⟩
 have K2 := ((K1.next hb).int J).int I
 clear K1 I J hb
 obtain ⟨la, ka, oa⟩ := okF_of (K2.at_ (neg := sa) (A := Aa) (n := na) (c := ca) (z := x.num) (by simp)) (K2.at_ (neg := za) (A := Ba) (n := ma) (c := da) (z := (x.den : Int)) (by simp)) (SX.out.mono (by decide))
 obtain ⟨lb, kb, ob⟩ := okF_of (K2.at_ (neg := sb) (A := Ab) (n := nb) (c := cb) (z := y.num) (by simp)) (K2.at_ (neg := zb) (A := Bb) (n := mb) (c := db) (z := (y.den : Int)) (by simp)) (SY.out.mono (by decide))
 obtain ⟨f0, f1, f2, f3, f4, f5, f6, f7⟩ := (K2.blk (g := w.heap.size) (by repeat constructor)).c8
 obtain ⟨ff0, ff1, ff2, ff3, ff4, ff5, ff6, ff7, _⟩ := (K2.blk (g := w.heap.size) (by repeat constructor)).f8
 go_wp2_with fail
 have K9 := (((((K2.int oa.ints.1).int oa.ints.2.1).int ob.ints.1).int ob.ints.2.1).pick (L' := [(w.heap.size, [.bool false, .slice none 0 0, .bool false, .slice none 0 0, .bool false, .slice none 0 0, .bool false, .slice none 0 0])]) (l' := [(sa, Aa, na, ca, x.num), (za, Ba, ma, da, (x.den : Int)), (sb, Ab, nb, cb, y.num), (zb, Bb, mb, db, (y.den : Int))]) (by simp) (by simp)).set8 (by simp) sa Aa na ca za Ba ma da sb Ab nb cb zb Bb mb db
 obtain ⟨l9a, k9a, o9a⟩ := okF_of (K9.at_ (neg := sa) (A := Aa) (n := na) (c := ca) (z := x.num) (by simp)) (K9.at_ (neg := za) (A := Ba) (n := ma) (c := da) (z := (x.den : Int)) (by simp)) oa.ints.2.2
 obtain ⟨l9b, k9b, o9b⟩ := okF_of (K9.at_ (neg := sb) (A := Ab) (n := nb) (c := cb) (z := y.num) (by simp)) (K9.at_ (neg := zb) (A := Bb) (n := mb) (c := db) (z := (y.den : Int)) (by simp)) ob.ints.2.2
 exact bodyPost_ret (v := .agg #[.bool sa, .slice Aa na ca, .bool za, .slice Ba ma da, .bool sb, .slice Ab nb cb, .bool zb, .slice Bb mb db]) (by simp [results, Tryz.results211, go_sem, f0, f1, f2, f3, f4, f5, f6, f7]) rfl ⟨_, _, _, _, _, _, _, _, _, _, _, _, _, _, _, _, _, _, _, _, rfl, o9a, o9b, K9.1⟩
theorem gauss_of_any (p q : Int) (x y : Rat) (w : World) (hp : -9223372036854775808 ≤ p ∧ p ≤ 9223372036854775807) (hq : -9223372036854775808 ≤ q ∧ q ≤ 9223372036854775807) (hx : Hid (Rat.divInt p 1 = x)) (hy : Hid (Rat.divInt q 1 = y)) :
  Calls Tryz.prog 109 #[.int .i64 p, .int .i64 q] w (RetGv w x y) := by
 have K0 := (Mm.nil w).var (g := w.heap.size) rfl [.bool false, .slice none 0 0, .bool false, .slice none 0 0, .bool false, .slice none 0 0, .bool false, .slice none 0 0] 30
 have HP := Lib.hid hp
 have HQ := Lib.hid hq
 clear hp hq
 go_enter Tryz.func109, Tryz.ntmps109
 go_upto_region 1 with (fail)
 generalize w.alloc (.cells #[.bool false, .slice none 0 0, .bool false, .slice none 0 0, .bool false, .slice none 0 0, .bool false, .slice none 0 0] 30) = w0 at K0 ⊢
 go_wp2_with fail
 refine (arg_small_any p q x y _ HP.out HQ.out hx hy).mono ?_
 rintro e1 w1 ⟨sa, Aa, na, ca, la, za, Ba, ma, da, ka, sb, Ab, nb, cb, lb, zb, Bb, mb, db, kb, rfl, oa, ob, hb⟩
 have K2 := K0.next hb
 clear K0 hb
 obtain ⟨f0, f1, f2, f3, f4, f5, f6, f7⟩ := (K2.blk (g := w.heap.size) (by repeat constructor)).c8
 obtain ⟨ff0, ff1, ff2, ff3, ff4, ff5, ff6, ff7, _⟩ := (K2.blk (g := w.heap.size) (by repeat constructor)).f8
 go_wp2_with fail
 have K9 := (((((K2.int oa.ints.1).int oa.ints.2.1).int ob.ints.1).int ob.ints.2.1).pick (L' := [(w.heap.size, [.bool false, .slice none 0 0, .bool false, .slice none 0 0, .bool false, .slice none 0 0, .bool false, .slice none 0 0])]) (l' := [(sa, Aa, na, ca, x.num), (za, Ba, ma, da, (x.den : Int)), (sb, Ab, nb, cb, y.num), (zb, Bb, mb, db, (y.den : Int))]) (by simp) (by simp)).set8 (by simp) sa Aa na ca za Ba ma da sb Ab nb cb zb Bb mb db
 obtain ⟨l9a, k9a, o9a⟩ := okF_of (K9.at_ (neg := sa) (A := Aa) (n := na) (c := ca) (z := x.num) (by simp)) (K9.at_ (neg := za) (A := Ba) (n := ma) (c := da) (z := (x.den : Int)) (by simp)) oa.ints.2.2
 obtain ⟨l9b, k9b, o9b⟩ := okF_of (K9.at_ (neg := sb) (A := Ab) (n := nb) (c := cb) (z := y.num) (by simp)) (K9.at_ (neg := zb) (A := Bb) (n := mb) (c := db) (z := (y.den : Int)) (by simp)) ob.ints.2.2
 exact bodyPost_ret (v := .agg #[.bool sa, .slice Aa na ca, .bool za, .slice Ba ma da, .bool sb, .slice Ab nb cb, .bool zb, .slice Bb mb db]) (by simp [results, Tryz.results109, go_sem, f0, f1, f2, f3, f4, f5, f6, f7]) rfl ⟨_, _, _, _, _, _, _, _, _, _, _, _, _, _, _, _, _, _, _, _, rfl, o9a, o9b, K9.1⟩
end Go.Proofs.YtgekmbfmfiikkaaGreatDoor
