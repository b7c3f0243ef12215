/-
  mode.Exact and mode.Disc of matrices whose numbers are told.
  What is told of a matrix and a beam that may be: is it kept, how stable is the cavity, what becomes of the beam, which one is kept.
-/
import Derived.Test.YtgekmbfmfiikkaaGreatDoorSfH
import Derived.Test.YtgekmbfmfiikkaaGreatDoorOnE
import Derived.Test.YtgekmbfmfiikkaaGreatDoorHaA
import Derived.Test.YtgekmbfmfiikkaaGreatDoorKdB
set_option maxHeartbeats 6400000
set_option maxRecDepth 100000
namespace Go.Proofs.YtgekmbfmfiikkaaGreatDoor
open Go.RowKit
theorem mode_disc_call (sa : Bool) (Aa : Option Addr) (na ca : Nat) (za : Bool) (Ba : Option Addr) (ma da : Nat) (sb : Bool) (Ab : Option Addr) (nb cb : Nat) (zb : Bool) (Bb : Option Addr) (mb db : Nat) (sc : Bool) (Ac : Option Addr) (nc cc : Nat) (zc : Bool) (Bc : Option Addr) (mc dc : Nat) (sd : Bool) (Ad : Option Addr) (nd cd : Nat) (zd : Bool) (Bd : Option Addr) (md dd : Nat) (w : World) (hst : Hid (∀ W, Below w.heap.size w W → Calls Tryz.prog 241 #[.agg #[.bool sa, .slice Aa na ca, .bool za, .slice Ba ma da, .bool sb, .slice Ab nb cb, .bool zb, .slice Bb mb db, .bool sc, .slice Ac nc cc, .bool zc, .slice Bc mc dc, .bool sd, .slice Ad nd cd, .bool zd, .slice Bd md dd], .func (.func 242) #[] #[]] W (RetV W (.tuple #[.agg #[.complex .f64 0 fOne, .float .f64 0], .int .i64 0])))) :
  Calls Tryz.prog 136 #[.agg #[.bool sa, .slice Aa na ca, .bool za, .slice Ba ma da, .bool sb, .slice Ab nb cb, .bool zb, .slice Bb mb db, .bool sc, .slice Ac nc cc, .bool zc, .slice Bc mc dc, .bool sd, .slice Ad nd cd, .bool zd, .slice Bd md dd]] w (RetV w (.tuple #[.agg #[.complex .f64 0 fOne, .float .f64 0], .int .i64 0])) := by
 have K0 := ((Mm.nil w).var (g := w.heap.size) rfl [.bool sa, .slice Aa na ca, .bool za, .slice Ba ma da, .bool sb, .slice Ab nb cb, .bool zb, .slice Bb mb db, .bool sc, .slice Ac nc cc, .bool zc, .slice Bc mc dc, .bool sd, .slice Ad nd cd, .bool zd, .slice Bd md dd] 28).var (g := w.heap.size + 1) (by simp) [.complex .f64 0 0, .float .f64 0] 131
 have g01 : ¬ w.heap.size = w.heap.size + 1 := by omega
 have g10 : ¬ w.heap.size + 1 = w.heap.size := by omega
 go_enter Tryz.func136, Tryz.ntmps136
 go_upto_region 1 with (fail)
 generalize (w.alloc (.cells #[.bool sa, .slice Aa na ca, .bool za, .slice Ba ma da, .bool sb, .slice Ab nb cb, .bool zb, .slice Bb mb db, .bool sc, .slice Ac nc cc, .bool zc, .slice Bc mc dc, .bool sd, .slice Ad nd cd, .bool zd, .slice Bd md dd] 28)).alloc (.cells #[.complex .f64 0 0, .float .f64 0] 131) = w0 at K0 ⊢
 obtain ⟨p0, p1, p2, p3, p4, p5, p6, p7, p8, p9, p10, p11, p12, p13, p14, p15⟩ := (K0.blk (g := w.heap.size) (by repeat constructor)).c16
 go_wp2_with fail
 refine (hst.out _ K0.1).mono ?_
 rintro e1 w1 ⟨rfl, hb⟩
 have K1 := K0.next hb
 clear K0 hb hst p0 p1 p2 p3 p4 p5 p6 p7 p8 p9 p10 p11 p12 p13 p14 p15
 obtain ⟨z0, z1, zf0, zf1, _⟩ := (K1.blk (mE 0 rfl)).two
 go_wp2_with fail
 exact bodyPost_ret (v := .tuple #[.agg #[.complex .f64 0 fOne, .float .f64 0], .int .i64 0]) (by simp [results, Tryz.results136, go_sem, z0, z1]) rfl ⟨rfl, (((K1.pick (L' := [(w.heap.size + 1, [.complex .f64 0 0, .float .f64 0])]) (l' := []) (by simp) (by simp)).set (by simp) (j := 0) (.complex .f64 0 0) (.complex .f64 0 fOne) rfl (by simp)).set (by simp) (j := 1) (.float .f64 0) (.float .f64 0) rfl (by simp)).1⟩
theorem exact_of (sa : Bool) (Aa : Option Addr) (na ca : Nat) (la : List Nat) (za : Bool) (Ba : Option Addr) (ma da : Nat) (ka : List Nat) (xa : Rat) (sb : Bool) (Ab : Option Addr) (nb cb : Nat) (lb : List Nat) (zb : Bool) (Bb : Option Addr) (mb db : Nat) (kb : List Nat) (xb : Rat) (sc : Bool) (Ac : Option Addr) (nc cc : Nat) (lc : List Nat) (zc : Bool) (Bc : Option Addr) (mc dc : Nat) (kc : List Nat) (xc : Rat) (sd : Bool) (Ad : Option Addr) (nd cd : Nat) (ld : List Nat) (zd : Bool) (Bd : Option Addr) (md dd : Nat) (kd : List Nat) (xd : Rat) (M : Nat) (hM : M = 2048) (k1 k2 : Nat) (x y x' y' v : Int) (is : Bool) (W : World) (oa : OkF W ((sa, Aa, na, ca, la), (za, Ba, ma, da, ka)) xa) (ob : OkF W ((sb, Ab, nb, cb, lb), (zb, Bb, mb, db, kb)) xb) (oc : OkF W ((sc, Ac, nc, cc, lc), (zc, Bc, mc, dc, kc)) xc) (od : OkF W ((sd, Ad, nd, cd, ld), (zd, Bd, md, dd, kd)) xd) (hdet : xa * xd - xb * xc = 1) (h4 : 0 < ((4 : Rat) - ((xa + xd) * (xa + xd)))) (e1 : IsRt (((4 : Rat) - ((xa + xd) * (xa + xd))) / ((4 : Rat) * (xc * xc))).num.natAbs k1) (e2 : IsRt (((4 : Rat) - ((xa + xd) * (xa + xd))) / ((4 : Rat) * (xc * xc))).den k2) (hX : AnsX (((4 : Rat) - ((xa + xd) * (xa + xd))) / ((4 : Rat) * (xc * xc))) ((xa - xd) / ((2 : Rat) * xc)) M k1 k2 x y x' y' v is) :
  Calls Tryz.prog 24 #[.agg #[.bool sa, .slice Aa na ca, .bool za, .slice Ba ma da, .bool sb, .slice Ab nb cb, .bool zb, .slice Bb mb db, .bool sc, .slice Ac nc cc, .bool zc, .slice Bc mc dc, .bool sd, .slice Ad nd cd, .bool zd, .slice Bd md dd]] W (RetG4 W x y x' y' v is) := by
 have nc0 := st_c hdet h4
 have S4 : Sz (4 : Rat) 1 := ⟨by decide, by decide⟩
 have S2 : Sz (2 : Rat) 1 := ⟨by decide, by decide⟩
 have ya : Sz xa 2048 := oa.ints.2.2
 have yb : Sz xb 2048 := ob.ints.2.2
 have yc : Sz xc 2048 := oc.ints.2.2
 have yd : Sz xd 2048 := od.ints.2.2
 have hV0 : 0 < (((4 : Rat) - ((xa + xd) * (xa + xd))) / ((4 : Rat) * (xc * xc))) := st_v h4 (st_sq nc0)
 have hd0 : ((4 : Rat) * (xc * xc)) ≠ 0 := fun e => by have := st_sq nc0; rw [e] at this; exact absurd this (by decide)
 have SV : Sz (((4 : Rat) - ((xa + xd) * (xa + xd))) / ((4 : Rat) * (xc * xc))) 100000 := (Sz.div (Sz.sub S4 (Sz.mul (Sz.add ya yd) (Sz.add ya yd))) (Sz.mul S4 (Sz.mul yc yc)) hd0).mono (by decide)
 have SR : Sz ((xa - xd) / ((2 : Rat) * xc)) 100000 := (Sz.div (Sz.sub ya yd) (Sz.mul S2 yc) (st_two nc0)).mono (by decide)
 exact mode_exact_call sa Aa na ca za Ba ma da sb Ab nb cb zb Bb mb db sc Ac nc cc zc Bc mc dc sd Ad nd cd zd Bd md dd x y x' y' v is W (Lib.hid (fun W1 gi h hg hc hf => stableG_ok sa Aa na ca la za Ba ma da ka xa sb Ab nb cb lb zb Bb mb db kb xb sc Ac nc cc lc zc Bc mc dc kc xc sd Ad nd cd ld zd Bd md dd kd xd M hM W1 (oa.next h) (ob.next h) (oc.next h) (od.next h) gi hg hc hf hdet h4 x y x' y' v is (ask_exact (((4 : Rat) - ((xa + xd) * (xa + xd))) / ((4 : Rat) * (xc * xc))) ((xa - xd) / ((2 : Rat) * xc)) M hM k1 k2 gi x y x' y' v is hV0 SV SR e1 e2 hX)))
theorem exact_light (sa : Bool) (Aa : Option Addr) (na ca : Nat) (la : List Nat) (za : Bool) (Ba : Option Addr) (ma da : Nat) (ka : List Nat) (xa : Rat) (sb : Bool) (Ab : Option Addr) (nb cb : Nat) (lb : List Nat) (zb : Bool) (Bb : Option Addr) (mb db : Nat) (kb : List Nat) (xb : Rat) (sc : Bool) (Ac : Option Addr) (nc cc : Nat) (lc : List Nat) (zc : Bool) (Bc : Option Addr) (mc dc : Nat) (kc : List Nat) (xc : Rat) (sd : Bool) (Ad : Option Addr) (nd cd : Nat) (ld : List Nat) (zd : Bool) (Bd : Option Addr) (md dd : Nat) (kd : List Nat) (xd : Rat) (M : Nat) (hM : M = 2048) (W : World) (oa : OkF W ((sa, Aa, na, ca, la), (za, Ba, ma, da, ka)) xa) (ob : OkF W ((sb, Ab, nb, cb, lb), (zb, Bb, mb, db, kb)) xb) (oc : OkF W ((sc, Ac, nc, cc, lc), (zc, Bc, mc, dc, kc)) xc) (od : OkF W ((sd, Ad, nd, cd, ld), (zd, Bd, md, dd, kd)) xd) (hdet : xa * xd - xb * xc = 1) (h4 : ¬ 0 < ((4 : Rat) - ((xa + xd) * (xa + xd)))) :
  Calls Tryz.prog 24 #[.agg #[.bool sa, .slice Aa na ca, .bool za, .slice Ba ma da, .bool sb, .slice Ab nb cb, .bool zb, .slice Bb mb db, .bool sc, .slice Ac nc cc, .bool zc, .slice Bc mc dc, .bool sd, .slice Ad nd cd, .bool zd, .slice Bd md dd]] W (RetG4 W 0 0 0 0 8 false) :=
 mode_exact_call sa Aa na ca za Ba ma da sb Ab nb cb zb Bb mb db sc Ac nc cc zc Bc mc dc sd Ad nd cd zd Bd md dd 0 0 0 0 8 false W (Lib.hid (fun W1 gi h hg hc hf => stableG_light sa Aa na ca la za Ba ma da ka xa sb Ab nb cb lb zb Bb mb db kb xb sc Ac nc cc lc zc Bc mc dc kc xc sd Ad nd cd ld zd Bd md dd kd xd M hM W1 (oa.next h) (ob.next h) (oc.next h) (od.next h) gi hg hc hf hdet h4))
theorem disc_of_one (sa : Bool) (Aa : Option Addr) (na ca : Nat) (la : List Nat) (za : Bool) (Ba : Option Addr) (ma da : Nat) (ka : List Nat) (sb : Bool) (Ab : Option Addr) (nb cb : Nat) (lb : List Nat) (zb : Bool) (Bb : Option Addr) (mb db : Nat) (kb : List Nat) (sc : Bool) (Ac : Option Addr) (nc cc : Nat) (lc : List Nat) (zc : Bool) (Bc : Option Addr) (mc dc : Nat) (kc : List Nat) (sd : Bool) (Ad : Option Addr) (nd cd : Nat) (ld : List Nat) (zd : Bool) (Bd : Option Addr) (md dd : Nat) (kd : List Nat) (M : Nat) (hM : M = 2048) (W : World) (oa : OkF W ((sa, Aa, na, ca, la), (za, Ba, ma, da, ka)) 0) (ob : OkF W ((sb, Ab, nb, cb, lb), (zb, Bb, mb, db, kb)) 1) (oc : OkF W ((sc, Ac, nc, cc, lc), (zc, Bc, mc, dc, kc)) (-1)) (od : OkF W ((sd, Ad, nd, cd, ld), (zd, Bd, md, dd, kd)) 0) (hT : Tab W) :
  Calls Tryz.prog 136 #[.agg #[.bool sa, .slice Aa na ca, .bool za, .slice Ba ma da, .bool sb, .slice Ab nb cb, .bool zb, .slice Bb mb db, .bool sc, .slice Ac nc cc, .bool zc, .slice Bc mc dc, .bool sd, .slice Ad nd cd, .bool zd, .slice Bd md dd]] W (RetV W (.tuple #[.agg #[.complex .f64 0 fOne, .float .f64 0], .int .i64 0])) := by
 have e1 : (((4 : Rat) - ((0 + 0) * (0 + 0))) / ((4 : Rat) * ((-1) * (-1)))) = 1 := by decide +kernel
 have e2 : (((0 : Rat) - 0) / ((2 : Rat) * (-1))) = 0 := by decide +kernel
 refine mode_disc_call sa Aa na ca za Ba ma da sb Ab nb cb zb Bb mb db sc Ac nc cc zc Bc mc dc sd Ad nd cd zd Bd md dd W (Lib.hid (fun W1 h => stableD_ok sa Aa na ca la za Ba ma da ka 0 sb Ab nb cb lb zb Bb mb db kb 1 sc Ac nc cc lc zc Bc mc dc kc (-1) sd Ad nd cd ld zd Bd md dd kd 0 M hM W1 (oa.next h) (ob.next h) (oc.next h) (od.next h) (by decide +kernel) (by decide +kernel) (Lib.hid (hT.next h)) ?_))
 refine Lib.hid ?_
 intro W2 sv Av nv cv zv Bv mv dv sr Ar nr cr zr Br mr dr I J Ir Jr hT2
 rw [e1] at I J
 rw [e2] at Ir Jr
 exact disc1_one sv Av nv cv zv Bv mv dv sr Ar nr cr zr Br mr dr W2 I J Ir Jr hT2
end Go.Proofs.YtgekmbfmfiikkaaGreatDoor
namespace Go.Proofs.YtgekmbfmfiikkaaGreatDoor
open Go.RowKit
theorem rat_eq_parts (a b : Rat) : decide (a = b) = (decide (a.num = b.num) && decide ((a.den : Int) = (b.den : Int))) := by
 by_cases h : a = b
 ·subst h; rw [decide_eq_true rfl, decide_eq_true rfl, decide_eq_true rfl]; rfl
 ·rw [decide_eq_false h]
  symm
  rw [Bool.and_eq_false_iff]
  by_cases c : a.num = b.num
  ·right; exact decide_eq_false fun d => h (Rat.ext c (by omega))
  ·left; exact decide_eq_false c
def OneF (kp : Bool) (kq tx ty tx' ty' tv px py px' py' pv : Int) (pis : Bool) (ux uy vx vy : Int) : Prop :=
 (tv = 0 ∨ tv = 4) ∧ (tv = 0 → kp = ((decide (tx = ux) && decide (ty = uy)) && (decide (tx' = vx) && decide (ty' = vy)))) ∧ (kq ≠ 1 → kp = decide (kq = 2)) ∧
 (kq = 1 → (pv = 0 ∨ pv = 4) ∧ kp = (decide (pv = 0) && (pis && ((decide (px = ux) && decide (py = uy)) && (decide (px' = vx) && decide (py' = vy))))))
theorem one_all (sa : Bool) (Aa : Option Addr) (na ca : Nat) (la : List Nat) (za : Bool) (Ba : Option Addr) (ma da : Nat) (ka : List Nat) (sb : Bool) (Ab : Option Addr) (nb cb : Nat) (lb : List Nat) (zb : Bool) (Bb : Option Addr) (mb db : Nat) (kb : List Nat) (sc : Bool) (Ac : Option Addr) (nc cc : Nat) (lc : List Nat) (zc : Bool) (Bc : Option Addr) (mc dc : Nat) (kc : List Nat) (sd : Bool) (Ad : Option Addr) (nd cd : Nat) (ld : List Nat) (zd : Bool) (Bd : Option Addr) (md dd : Nat) (kd : List Nat) (su : Bool) (Au : Option Addr) (nu cu : Nat) (lu : List Nat) (zu : Bool) (Bu : Option Addr) (mu du : Nat) (ku : List Nat) (sv : Bool) (Av : Option Addr) (nv cv : Nat) (lv : List Nat) (zv : Bool) (Bv : Option Addr) (mv dv : Nat) (kv : List Nat) (M : Nat) (hM : M = 2048) (W0 : World) (aa : LmE.at_ W0 ((sa, Aa, na, ca, la), (za, Ba, ma, da, ka))) (ab : LmE.at_ W0 ((sb, Ab, nb, cb, lb), (zb, Bb, mb, db, kb))) (ac : LmE.at_ W0 ((sc, Ac, nc, cc, lc), (zc, Bc, mc, dc, kc))) (ad : LmE.at_ W0 ((sd, Ad, nd, cd, ld), (zd, Bd, md, dd, kd))) (au : LmE.at_ W0 ((su, Au, nu, cu, lu), (zu, Bu, mu, du, ku))) (av : LmE.at_ W0 ((sv, Av, nv, cv, lv), (zv, Bv, mv, dv, kv))) (hm : okM ((sa, Aa, na, ca, la), (za, Ba, ma, da, ka)) ((sb, Ab, nb, cb, lb), (zb, Bb, mb, db, kb)) ((sc, Ac, nc, cc, lc), (zc, Bc, mc, dc, kc)) ((sd, Ad, nd, cd, ld), (zd, Bd, md, dd, kd)) = true) (hc : chkBm ((su, Au, nu, cu, lu), (zu, Bu, mu, du, ku)) ((sv, Av, nv, cv, lv), (zv, Bv, mv, dv, kv)) = 0) :
  ∃ (kp : Bool) (kq tx ty tx' ty' tv px py px' py' pv : Int) (pis : Bool) (ux uy vx vy : Int), OneF kp kq tx ty tx' ty' tv px py px' py' pv pis ux uy vx vy ∧ (tx.natAbs < 2 ^ (32 * M) ∧ ty.natAbs < 2 ^ (32 * M) ∧ tx'.natAbs < 2 ^ (32 * M) ∧ ty'.natAbs < 2 ^ (32 * M) ∧ px.natAbs < 2 ^ (32 * M) ∧ py.natAbs < 2 ^ (32 * M) ∧ px'.natAbs < 2 ^ (32 * M) ∧ py'.natAbs < 2 ^ (32 * M)) ∧ ∀ W, LmE.at_ W ((sa, Aa, na, ca, la), (za, Ba, ma, da, ka)) → LmE.at_ W ((sb, Ab, nb, cb, lb), (zb, Bb, mb, db, kb)) → LmE.at_ W ((sc, Ac, nc, cc, lc), (zc, Bc, mc, dc, kc)) → LmE.at_ W ((sd, Ad, nd, cd, ld), (zd, Bd, md, dd, kd)) → LmE.at_ W ((su, Au, nu, cu, lu), (zu, Bu, mu, du, ku)) → LmE.at_ W ((sv, Av, nv, cv, lv), (zv, Bv, mv, dv, kv)) →
   Calls Tryz.prog 40 #[.agg #[.bool sa, .slice Aa na ca, .bool za, .slice Ba ma da, .bool sb, .slice Ab nb cb, .bool zb, .slice Bb mb db, .bool sc, .slice Ac nc cc, .bool zc, .slice Bc mc dc, .bool sd, .slice Ad nd cd, .bool zd, .slice Bd md dd], .agg #[.bool su, .slice Au nu cu, .bool zu, .slice Bu mu du, .bool sv, .slice Av nv cv, .bool zv, .slice Bv mv dv]] W (RetKp W (kp, 0)) ∧ Calls Tryz.prog 41 #[.agg #[.bool sa, .slice Aa na ca, .bool za, .slice Ba ma da, .bool sb, .slice Ab nb cb, .bool zb, .slice Bb mb db, .bool sc, .slice Ac nc cc, .bool zc, .slice Bc mc dc, .bool sd, .slice Ad nd cd, .bool zd, .slice Bd md dd]] W (RetV W (.tuple #[.int .u8 kq, .int .i64 0])) ∧
   Calls Tryz.prog 13 #[.agg #[.bool sa, .slice Aa na ca, .bool za, .slice Ba ma da, .bool sb, .slice Ab nb cb, .bool zb, .slice Bb mb db, .bool sc, .slice Ac nc cc, .bool zc, .slice Bc mc dc, .bool sd, .slice Ad nd cd, .bool zd, .slice Bd md dd], .agg #[.bool su, .slice Au nu cu, .bool zu, .slice Bu mu du, .bool sv, .slice Av nv cv, .bool zv, .slice Bv mv dv]] W (RetG2 W tx ty tx' ty' tv) ∧ (kq = 1 → Calls Tryz.prog 24 #[.agg #[.bool sa, .slice Aa na ca, .bool za, .slice Ba ma da, .bool sb, .slice Ab nb cb, .bool zb, .slice Bb mb db, .bool sc, .slice Ac nc cc, .bool zc, .slice Bc mc dc, .bool sd, .slice Ad nd cd, .bool zd, .slice Bd md dd]] W (RetG4 W px py px' py' pv pis)) ∧
   IsInt W su Au nu cu ux ∧ IsInt W zu Bu mu du uy ∧ IsInt W sv Av nv cv vx ∧ IsInt W zv Bv mv dv vy := by
 obtain ⟨h1, h2, h3, h4_, hdet⟩ := okM_parts hm
 obtain ⟨h5, h6, hp⟩ := chkBm_zero hc
 obtain ⟨xa, hxa⟩ : ∃ x, rv ((sa, Aa, na, ca, la), (za, Ba, ma, da, ka)) = x := ⟨_, rfl⟩
 obtain ⟨xb, hxb⟩ : ∃ x, rv ((sb, Ab, nb, cb, lb), (zb, Bb, mb, db, kb)) = x := ⟨_, rfl⟩
 obtain ⟨xc, hxc⟩ : ∃ x, rv ((sc, Ac, nc, cc, lc), (zc, Bc, mc, dc, kc)) = x := ⟨_, rfl⟩
 obtain ⟨xd, hxd⟩ : ∃ x, rv ((sd, Ad, nd, cd, ld), (zd, Bd, md, dd, kd)) = x := ⟨_, rfl⟩
 obtain ⟨xu, hxu⟩ : ∃ x, rv ((su, Au, nu, cu, lu), (zu, Bu, mu, du, ku)) = x := ⟨_, rfl⟩
 obtain ⟨xv, hxv⟩ : ∃ x, rv ((sv, Av, nv, cv, lv), (zv, Bv, mv, dv, kv)) = x := ⟨_, rfl⟩
 have hky := keepsV_yes hm hc
 rw [hxa, hxb, hxc, hxd] at hdet
 rw [hxa, hxb, hxc, hxd, hxu, hxv] at hky
 rw [hxv] at hp
 obtain ⟨hn, q1, q2⟩ := goes_eq xa xb xc xd xu xv hdet hp
 have oa : OkF W0 ((sa, Aa, na, ca, la), (za, Ba, ma, da, ka)) xa := ⟨aa, h1, hxa⟩
 have ya : Sz xa 2048 := oa.ints.2.2
 have ob : OkF W0 ((sb, Ab, nb, cb, lb), (zb, Bb, mb, db, kb)) xb := ⟨ab, h2, hxb⟩
 have yb : Sz xb 2048 := ob.ints.2.2
 have oc : OkF W0 ((sc, Ac, nc, cc, lc), (zc, Bc, mc, dc, kc)) xc := ⟨ac, h3, hxc⟩
 have yc : Sz xc 2048 := oc.ints.2.2
 have od : OkF W0 ((sd, Ad, nd, cd, ld), (zd, Bd, md, dd, kd)) xd := ⟨ad, h4_, hxd⟩
 have yd : Sz xd 2048 := od.ints.2.2
 have ou : OkF W0 ((su, Au, nu, cu, lu), (zu, Bu, mu, du, ku)) xu := ⟨au, h5, hxu⟩
 have yu : Sz xu 2048 := ou.ints.2.2
 have ov : OkF W0 ((sv, Av, nv, cv, lv), (zv, Bv, mv, dv, kv)) xv := ⟨av, h6, hxv⟩
 have yv : Sz xv 2048 := ov.ints.2.2
 obtain ⟨r1, hr1⟩ : ∃ r, (((((xa * xu) + xb) * ((xc * xu) + xd)) + ((xa * xv) * (xc * xv))) / ((((xc * xu) + xd) * ((xc * xu) + xd)) + ((xc * xv) * (xc * xv)))) = r := ⟨_, rfl⟩
 obtain ⟨r2, hr2⟩ : ∃ r, (xv / ((((xc * xu) + xd) * ((xc * xu) + xd)) + ((xc * xv) * (xc * xv)))) = r := ⟨_, rfl⟩
 have sk : Sz ((((xc * xu) + xd) * ((xc * xu) + xd)) + ((xc * xv) * (xc * xv))) 40000 := (Sz.add (Sz.mul (Sz.add (Sz.mul yc yu) yd) (Sz.add (Sz.mul yc yu) yd)) (Sz.mul (Sz.mul yc yv) (Sz.mul yc yv))).mono (by decide)
 have z1 : Sz r1 100000 := by rw [← hr1]; exact (Sz.div (Sz.add (Sz.mul (Sz.add (Sz.mul ya yu) yb) (Sz.add (Sz.mul yc yu) yd)) (Sz.mul (Sz.mul ya yv) (Sz.mul yc yv))) sk hn).mono (by decide)
 have z2 : Sz r2 100000 := by rw [← hr2]; exact (Sz.div yv sk hn).mono (by decide)
 obtain ⟨tx, ty, tx', ty', tv, hA, b1, b2, b3, b4⟩ := ansG_ex r1 r2 M hM
 have kk := keeps_iff xa xb xc xd xu xv hdet hp
 rw [q1, q2, hr1, hr2] at kk
 obtain ⟨kp, hkp⟩ : ∃ k, (decide (r1 = xu) && decide (r2 = xv)) = k := ⟨_, rfl⟩
 rw [hkp] at kk
 have hkeep : (kp = true) ↔ KeepP xa xb xc xd xu xv := by rw [← kk, Bool.and_eq_true, decide_eq_true_eq, decide_eq_true_eq]; rfl
 have f1 : tv = 0 ∨ tv = 4 := by rcases hA with ⟨_, _, _, _, _, h⟩ | ⟨_, _, _, _, _, h⟩; exact .inl h; exact .inr h
 have f2 : tv = 0 → kp = ((decide (tx = xu.num) && decide (ty = (xu.den : Int))) && (decide (tx' = xv.num) && decide (ty' = (xv.den : Int)))) := fun e => by
  rcases hA with ⟨_, c1, c2, c3, c4, _⟩ | ⟨_, _, _, _, _, h⟩
  ·rw [← hkp, rat_eq_parts, rat_eq_parts, c1, c2, c3, c4]
  ·rw [e] at h; exact absurd h (by decide)
 have hcalls : ∀ W, LmE.at_ W ((sa, Aa, na, ca, la), (za, Ba, ma, da, ka)) → LmE.at_ W ((sb, Ab, nb, cb, lb), (zb, Bb, mb, db, kb)) → LmE.at_ W ((sc, Ac, nc, cc, lc), (zc, Bc, mc, dc, kc)) → LmE.at_ W ((sd, Ad, nd, cd, ld), (zd, Bd, md, dd, kd)) → LmE.at_ W ((su, Au, nu, cu, lu), (zu, Bu, mu, du, ku)) → LmE.at_ W ((sv, Av, nv, cv, lv), (zv, Bv, mv, dv, kv)) → Calls Tryz.prog 40 #[.agg #[.bool sa, .slice Aa na ca, .bool za, .slice Ba ma da, .bool sb, .slice Ab nb cb, .bool zb, .slice Bb mb db, .bool sc, .slice Ac nc cc, .bool zc, .slice Bc mc dc, .bool sd, .slice Ad nd cd, .bool zd, .slice Bd md dd], .agg #[.bool su, .slice Au nu cu, .bool zu, .slice Bu mu du, .bool sv, .slice Av nv cv, .bool zv, .slice Bv mv dv]] W (RetKp W (kp, 0)) ∧ Calls Tryz.prog 41 #[.agg #[.bool sa, .slice Aa na ca, .bool za, .slice Ba ma da, .bool sb, .slice Ab nb cb, .bool zb, .slice Bb mb db, .bool sc, .slice Ac nc cc, .bool zc, .slice Bc mc dc, .bool sd, .slice Ad nd cd, .bool zd, .slice Bd md dd]] W (RetV W (.tuple #[.int .u8 (kindV xa xb xc xd), .int .i64 0])) ∧
   Calls Tryz.prog 13 #[.agg #[.bool sa, .slice Aa na ca, .bool za, .slice Ba ma da, .bool sb, .slice Ab nb cb, .bool zb, .slice Bb mb db, .bool sc, .slice Ac nc cc, .bool zc, .slice Bc mc dc, .bool sd, .slice Ad nd cd, .bool zd, .slice Bd md dd], .agg #[.bool su, .slice Au nu cu, .bool zu, .slice Bu mu du, .bool sv, .slice Av nv cv, .bool zv, .slice Bv mv dv]] W (RetG2 W tx ty tx' ty' tv) ∧ IsInt W su Au nu cu xu.num ∧ IsInt W zu Bu mu du (xu.den : Int) ∧ IsInt W sv Av nv cv xv.num ∧ IsInt W zv Bv mv dv (xv.den : Int) := by
  intro W ka0 kb0 kc0 kd0 ku0 kv0
  have oa : OkF W ((sa, Aa, na, ca, la), (za, Ba, ma, da, ka)) xa := ⟨ka0, h1, hxa⟩
  have ob : OkF W ((sb, Ab, nb, cb, lb), (zb, Bb, mb, db, kb)) xb := ⟨kb0, h2, hxb⟩
  have oc : OkF W ((sc, Ac, nc, cc, lc), (zc, Bc, mc, dc, kc)) xc := ⟨kc0, h3, hxc⟩
  have od : OkF W ((sd, Ad, nd, cd, ld), (zd, Bd, md, dd, kd)) xd := ⟨kd0, h4_, hxd⟩
  have ou : OkF W ((su, Au, nu, cu, lu), (zu, Bu, mu, du, ku)) xu := ⟨ku0, h5, hxu⟩
  have ov : OkF W ((sv, Av, nv, cv, lv), (zv, Bv, mv, dv, kv)) xv := ⟨kv0, h6, hxv⟩
  refine ⟨?_, cavity_kind_any sa Aa na ca la za Ba ma da ka xa sb Ab nb cb lb zb Bb mb db kb xb sc Ac nc cc lc zc Bc mc dc kc xc sd Ad nd cd ld zd Bd md dd kd xd M hM W oa ob oc od hdet, owb_through_yes sa Aa na ca la za Ba ma da ka xa sb Ab nb cb lb zb Bb mb db kb xb sc Ac nc cc lc zc Bc mc dc kc xc sd Ad nd cd ld zd Bd md dd kd xd su Au nu cu lu zu Bu mu du ku xu sv Av nv cv lv zv Bv mv dv kv xv 2048 r1 r2 tx ty tx' ty' tv W oa ya ob yb oc yc od yd ou yu ov yv (by decide) hdet hp hn (Lib.hid hr1) (Lib.hid hr2) z1 z2 hA, ou.ints.1, ou.ints.2.1, ov.ints.1, ov.ints.2.1⟩
  have h := mode_keeps_any sa Aa na ca la za Ba ma da ka sb Ab nb cb lb zb Bb mb db kb sc Ac nc cc lc zc Bc mc dc kc sd Ad nd cd ld zd Bd md dd kd su Au nu cu lu zu Bu mu du ku sv Av nv cv lv zv Bv mv dv kv W ka0 kb0 kc0 kd0 ku0 kv0
  rw [hky, kk] at h
  exact h
 by_cases h4 : 0 < 4 - (xa + xd) * (xa + xd)
 ·have nc0 := st_c hdet h4
  have S4 : Sz (4 : Rat) 1 := ⟨by decide, by decide⟩
  have S2 : Sz (2 : Rat) 1 := ⟨by decide, by decide⟩
  obtain ⟨V, hV⟩ : ∃ V, (((4 : Rat) - ((xa + xd) * (xa + xd))) / ((4 : Rat) * (xc * xc))) = V := ⟨_, rfl⟩
  obtain ⟨re, hre⟩ : ∃ r, ((xa - xd) / ((2 : Rat) * xc)) = r := ⟨_, rfl⟩
  have hV0 : 0 < V := by rw [← hV]; exact st_v h4 (st_sq nc0)
  obtain ⟨k1, e1⟩ := rt_ex V.num.natAbs
  obtain ⟨k2, e2⟩ := rt_ex V.den
  obtain ⟨px, py, px', py', pv, pis, hX, b5, b6, b7, b8⟩ := ansX_ex V re M k1 k2
  have ku : kindV xa xb xc xd = 1 := by unfold kindV; rw [if_pos h4]
  have hone := one_exact hV0 e1 e2 hX (show Sz xu M by rw [hM]; exact yu) (show Sz xv M by rw [hM]; exact yv) hp
  refine ⟨kp, kindV xa xb xc xd, tx, ty, tx', ty', tv, px, py, px', py', pv, pis, xu.num, (xu.den : Int), xv.num, (xv.den : Int), ⟨f1, f2, fun h => absurd ku h, fun _ => ⟨hone.1, ?_⟩⟩, ⟨b1, b2, b3, b4, b5, b6, b7, b8⟩, ?_⟩
  ·rw [← hone.2]
   have hn2 := keep_near hdet hp h4 (b := xb) (u := xu)
   rw [hV, hre] at hn2
   rw [← hkeep] at hn2
   cases kp with
   | true => obtain ⟨c1, c2⟩ := hn2.1 rfl; rw [decide_eq_true c1, decide_eq_true c2]; rfl
   | false =>
    symm
    rw [← Bool.not_eq_true]
    intro hh
    rw [Bool.and_eq_true, decide_eq_true_eq, decide_eq_true_eq] at hh
    exact absurd (hn2.2 hh) (by decide)
  ·intro W ka0 kb0 kc0 kd0 ku0 kv0
   obtain ⟨g1, g2, g3, g4, g5, g6, g7⟩ := hcalls W ka0 kb0 kc0 kd0 ku0 kv0
   refine ⟨g1, g2, g3, fun _ => ?_, g4, g5, g6, g7⟩
   have hX' := hX
   rw [← hV, ← hre] at hX'
   exact exact_of sa Aa na ca la za Ba ma da ka xa sb Ab nb cb lb zb Bb mb db kb xb sc Ac nc cc lc zc Bc mc dc kc xc sd Ad nd cd ld zd Bd md dd kd xd M hM k1 k2 px py px' py' pv pis W ⟨ka0, h1, hxa⟩ ⟨kb0, h2, hxb⟩ ⟨kc0, h3, hxc⟩ ⟨kd0, h4_, hxd⟩ hdet h4 (by rw [hV]; exact e1) (by rw [hV]; exact e2) hX'
 ·have ku : kindV xa xb xc xd ≠ 1 := by unfold kindV; rw [if_neg h4]; split; decide; split <;> decide
  refine ⟨kp, kindV xa xb xc xd, tx, ty, tx', ty', tv, 0, 0, 0, 0, 0, false, xu.num, (xu.den : Int), xv.num, (xv.den : Int), ⟨f1, f2, fun _ => ?_, fun h => absurd h ku⟩, ⟨b1, b2, b3, b4, zero_bigM, zero_bigM, zero_bigM, zero_bigM⟩, ?_⟩
  ·have hf := keep_far hdet hp h4 (u := xu)
   rw [← hkeep] at hf
   have h2v : (kindV xa xb xc xd = 2) ↔ (xb = 0 ∧ xc = 0 ∧ xa = xd ∧ (xa = 1 ∨ xa = -1)) := by
    unfold kindV
    rw [if_neg h4]
    split
    ·rename_i h; exact ⟨fun _ => h, fun _ => rfl⟩
    ·rename_i h; exact ⟨fun k => by split at k <;> exact absurd k (by decide), fun k => absurd k h⟩
   rw [← h2v] at hf
   cases kp with
   | true => rw [decide_eq_true (hf.1 rfl)]
   | false => exact (decide_eq_false fun h => absurd (hf.2 h) (by decide)).symm
  ·intro W ka0 kb0 kc0 kd0 ku0 kv0
   obtain ⟨g1, g2, g3, g4, g5, g6, g7⟩ := hcalls W ka0 kb0 kc0 kd0 ku0 kv0
   exact ⟨g1, g2, g3, fun h => absurd h ku, g4, g5, g6, g7⟩
end Go.Proofs.YtgekmbfmfiikkaaGreatDoor
