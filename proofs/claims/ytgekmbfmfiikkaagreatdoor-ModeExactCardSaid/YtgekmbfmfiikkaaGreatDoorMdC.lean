/-
  Is a cavity stable (mode.stable): refusals.
-/
import Derived.Test.YtgekmbfmfiikkaaGreatDoorMdB
import Derived.Test.YtgekmbfmfiikkaaGreatDoorOwI
import Derived.Test.YtgekmbfmfiikkaaGreatDoorOwH
import Derived.Test.YtgekmbfmfiikkaaGreatDoorRaL
namespace Go.Proofs.YtgekmbfmfiikkaaGreatDoor
open Go.RowKit

/-- The answer of what is asked of a stable cavity: a fraction, some of what was handed in. -/
def RetD1 (W : World) (ox : List OwnAt) (x y v : Int) (e : Ending) (w' : World) : Prop :=
 ∃ (neg : Bool) (A : Option Addr) (n c : Nat) (neg' : Bool) (A' : Option Addr) (n' c' : Nat), e = .returned (.tuple #[.agg #[.bool neg, .slice A n c, .bool neg', .slice A' n' c'], .int .i64 v]) ∧ IsInt w' neg A n c x ∧ IsInt w' neg' A' n' c' y ∧ (∀ B, B ≤ W.heap.size → Owns B W ox → Owns B w' [(A, n, c), (A', n', c')] ∧ OneOf W.heap.size ox [(A, n, c), (A', n', c')]) ∧ Below W.heap.size W w'
/-- The answer of a function that left a word in a cell. -/
def RetG3 (W : World) (gi : Nat) (x y x' y' v : Int) (is : Bool) (e : Ending) (w' : World) : Prop :=
 ∃ (sa : Bool) (Aa : Option Addr) (na ca : Nat) (za : Bool) (Ba : Option Addr) (ma da : Nat) (sb : Bool) (Ab : Option Addr) (nb cb : Nat) (zb : Bool) (Bb : Option Addr) (mb db : Nat), e = .returned (.tuple #[.agg #[.bool sa, .slice Aa na ca, .bool za, .slice Ba ma da, .bool sb, .slice Ab nb cb, .bool zb, .slice Bb mb db], .int .i64 v]) ∧
  IsInt w' sa Aa na ca x ∧ IsInt w' za Ba ma da y ∧ IsInt w' sb Ab nb cb x' ∧ IsInt w' zb Bb mb db y' ∧ Owns W.heap.size w' [(Aa, na, ca), (Ba, ma, da), (Ab, nb, cb), (Bb, mb, db)] ∧ Below W.heap.size (W.setCell ⟨gi, 0, none⟩ (.bool is)) w'

set_option maxRecDepth 100000 in
set_option maxHeartbeats 6400000 in
theorem stableF_arg (sa : Bool) (Aa : Option Addr) (na ca : Nat) (la : List Nat) (za : Bool) (Ba : Option Addr) (ma da : Nat) (ka : List Nat) (sb : Bool) (Ab : Option Addr) (nb cb : Nat) (lb : List Nat) (zb : Bool) (Bb : Option Addr) (mb db : Nat) (kb : List Nat) (sc : Bool) (Ac : Option Addr) (nc cc : Nat) (lc : List Nat) (zc : Bool) (Bc : Option Addr) (mc dc : Nat) (kc : List Nat) (sd : Bool) (Ad : Option Addr) (nd cd : Nat) (ld : List Nat) (zd : Bool) (Bd : Option Addr) (md dd : Nat) (kd : List Nat) (w : World) (aa : LmE.at_ w ((sa, Aa, na, ca, la), (za, Ba, ma, da, ka))) (ab : LmE.at_ w ((sb, Ab, nb, cb, lb), (zb, Bb, mb, db, kb))) (ac : LmE.at_ w ((sc, Ac, nc, cc, lc), (zc, Bc, mc, dc, kc))) (ad : LmE.at_ w ((sd, Ad, nd, cd, ld), (zd, Bd, md, dd, kd))) (hm : okM ((sa, Aa, na, ca, la), (za, Ba, ma, da, ka)) ((sb, Ab, nb, cb, lb), (zb, Bb, mb, db, kb)) ((sc, Ac, nc, cc, lc), (zc, Bc, mc, dc, kc)) ((sd, Ad, nd, cd, ld), (zd, Bd, md, dd, kd)) = false) :
  Calls Tryz.prog 116 #[.agg #[.bool sa, .slice Aa na ca, .bool za, .slice Ba ma da, .bool sb, .slice Ab nb cb, .bool zb, .slice Bb mb db, .bool sc, .slice Ac nc cc, .bool zc, .slice Bc mc dc, .bool sd, .slice Ad nd cd, .bool zd, .slice Bd md dd], .func (.func 117) #[] #[]] w (RetF2 w 0 0 1) := by
 have K0 := ((Mm.nil w).var (g := w.heap.size) rfl [.bool sa, .slice Aa na ca, .bool za, .slice Ba ma da, .bool sb, .slice Ab nb cb, .bool zb, .slice Bb mb db, .bool sc, .slice Ac nc cc, .bool zc, .slice Bc mc dc, .bool sd, .slice Ad nd cd, .bool zd, .slice Bd md dd] 28).var (g := w.heap.size + 1) (by simp) [.bool false, .slice none 0 0, .bool false, .slice none 0 0] 26
 have HM := Lib.hid hm
 clear hm
 replace aa := LmE.at_.below aa K0.1
 replace ab := LmE.at_.below ab K0.1
 replace ac := LmE.at_.below ac K0.1
 replace ad := LmE.at_.below ad K0.1
 have g01 : ¬ w.heap.size = w.heap.size + 1 := by omega
 have g10 : ¬ w.heap.size + 1 = w.heap.size := by omega
 go_enter Tryz.func116, Tryz.ntmps116
 go_upto_region 1 with (fail)
 generalize (w.alloc (.cells #[.bool sa, .slice Aa na ca, .bool za, .slice Ba ma da, .bool sb, .slice Ab nb cb, .bool zb, .slice Bb mb db, .bool sc, .slice Ac nc cc, .bool zc, .slice Bc mc dc, .bool sd, .slice Ad nd cd, .bool zd, .slice Bd md dd] 28)).alloc (.cells #[.bool false, .slice none 0 0, .bool false, .slice none 0 0] 26) = w0 at K0 aa ab ac ad ⊢
 obtain ⟨p0, p1, p2, p3, p4, p5, p6, p7, p8, p9, p10, p11, p12, p13, p14, p15⟩ := (K0.blk (g := w.heap.size) (by repeat constructor)).c16
 go_wp2_with fail
 refine (row_may_any sa Aa na ca la za Ba ma da ka sb Ab nb cb lb zb Bb mb db kb sc Ac nc cc lc zc Bc mc dc kc sd Ad nd cd ld zd Bd md dd kd _ aa ab ac ad).mono ?_
 rintro e1 w1 ⟨rfl, hb⟩
 rw [HM.out]
 have K1 := K0.next hb
 clear K0 hb aa ab ac ad p0 p1 p2 p3 p4 p5 p6 p7 p8 p9 p10 p11 p12 p13 p14 p15
 obtain ⟨⟨f0, f1, f2, f3⟩, ⟨ff0, ff1, ff2, ff3⟩, _⟩ := (K1.blk (g := w.heap.size + 1) (by repeat constructor)).four
 go_wp2_with fail
 have K9 := (K1.pick (L' := [(w.heap.size + 1, [.bool false, .slice none 0 0, .bool false, .slice none 0 0])]) (l' := []) (by simp) (by simp)).set4 (by simp) false none 0 0 false none 0 0
 exact bodyPost_ret (v := .tuple #[.agg #[.bool false, .slice none 0 0, .bool false, .slice none 0 0], .int .i64 1]) (by simp [results, Tryz.results116, go_sem, f0, f1, f2, f3]) rfl ⟨false, none, 0, 0, false, none, 0, 0, rfl, isInt_nought, isInt_nought, owns_nil2 _ _, K9.1⟩
set_option maxRecDepth 100000 in
set_option maxHeartbeats 6400000 in
theorem stableF_light (sa : Bool) (Aa : Option Addr) (na ca : Nat) (la : List Nat) (za : Bool) (Ba : Option Addr) (ma da : Nat) (ka : List Nat) (xa : Rat) (sb : Bool) (Ab : Option Addr) (nb cb : Nat) (lb : List Nat) (zb : Bool) (Bb : Option Addr) (mb db : Nat) (kb : List Nat) (xb : Rat) (sc : Bool) (Ac : Option Addr) (nc cc : Nat) (lc : List Nat) (zc : Bool) (Bc : Option Addr) (mc dc : Nat) (kc : List Nat) (xc : Rat) (sd : Bool) (Ad : Option Addr) (nd cd : Nat) (ld : List Nat) (zd : Bool) (Bd : Option Addr) (md dd : Nat) (kd : List Nat) (xd : Rat) (M : Nat) (hM : M = 2048) (w : World) (oa : OkF w ((sa, Aa, na, ca, la), (za, Ba, ma, da, ka)) xa) (ob : OkF w ((sb, Ab, nb, cb, lb), (zb, Bb, mb, db, kb)) xb) (oc : OkF w ((sc, Ac, nc, cc, lc), (zc, Bc, mc, dc, kc)) xc) (od : OkF w ((sd, Ad, nd, cd, ld), (zd, Bd, md, dd, kd)) xd) (hdet : xa * xd - xb * xc = 1) (h4 : ¬ 0 < ((4 : Rat) - ((xa + xd) * (xa + xd)))) :
  Calls Tryz.prog 116 #[.agg #[.bool sa, .slice Aa na ca, .bool za, .slice Ba ma da, .bool sb, .slice Ab nb cb, .bool zb, .slice Bb mb db, .bool sc, .slice Ac nc cc, .bool zc, .slice Bc mc dc, .bool sd, .slice Ad nd cd, .bool zd, .slice Bd md dd], .func (.func 117) #[] #[]] w (RetF2 w 0 0 8) := by
 have K0 := ((Mm.nil w).var (g := w.heap.size) rfl [.bool sa, .slice Aa na ca, .bool za, .slice Ba ma da, .bool sb, .slice Ab nb cb, .bool zb, .slice Bb mb db, .bool sc, .slice Ac nc cc, .bool zc, .slice Bc mc dc, .bool sd, .slice Ad nd cd, .bool zd, .slice Bd md dd] 28).var (g := w.heap.size + 1) (by simp) [.bool false, .slice none 0 0, .bool false, .slice none 0 0] 26
 have Ya : Hid (Sz xa M) := Lib.hid (by rw [hM]; exact oa.ints.2.2)
 have Yb : Hid (Sz xb M) := Lib.hid (by rw [hM]; exact ob.ints.2.2)
 have Yc : Hid (Sz xc M) := Lib.hid (by rw [hM]; exact oc.ints.2.2)
 have Yd : Hid (Sz xd M) := Lib.hid (by rw [hM]; exact od.ints.2.2)
 have HM := Lib.hid (okM_ok oa ob oc od hdet)
 have H4 := Lib.hid h4
 have ST : Hid (Sz (xa + xd) (2 * M + 1)) := Lib.hid ((Sz.add Ya.out Yd.out).mono (by omega))
 have S4 : Hid (Sz (4 : Rat) (0 * M + 1)) := Lib.hid (Sz.mono (⟨by decide, by decide⟩ : Sz (4 : Rat) 1) (by omega))
 have S2 : Hid (Sz (2 : Rat) (0 * M + 1)) := Lib.hid (Sz.mono (⟨by decide, by decide⟩ : Sz (2 : Rat) 1) (by omega))
 replace oa := oa.next K0.1
 replace ob := ob.next K0.1
 replace oc := oc.next K0.1
 replace od := od.next K0.1
 clear h4 hdet
 have g01 : ¬ w.heap.size = w.heap.size + 1 := by omega
 have g10 : ¬ w.heap.size + 1 = w.heap.size := by omega
 go_enter Tryz.func116, Tryz.ntmps116
 go_upto_region 1 with (fail)
 generalize (w.alloc (.cells #[.bool sa, .slice Aa na ca, .bool za, .slice Ba ma da, .bool sb, .slice Ab nb cb, .bool zb, .slice Bb mb db, .bool sc, .slice Ac nc cc, .bool zc, .slice Bc mc dc, .bool sd, .slice Ad nd cd, .bool zd, .slice Bd md dd] 28)).alloc (.cells #[.bool false, .slice none 0 0, .bool false, .slice none 0 0] 26) = w0 at K0 oa ob oc od ⊢
 obtain ⟨p0, p1, p2, p3, p4, p5, p6, p7, p8, p9, p10, p11, p12, p13, p14, p15⟩ := (K0.blk (g := w.heap.size) (by repeat constructor)).c16
 go_wp2_with fail
 refine (row_may_any sa Aa na ca la za Ba ma da ka sb Ab nb cb lb zb Bb mb db kb sc Ac nc cc lc zc Bc mc dc kc sd Ad nd cd ld zd Bd md dd kd _ oa.1 ob.1 oc.1 od.1).mono ?_
 rintro e1 w1 ⟨rfl, hb⟩
 rw [HM.out]
 have K1 := K0.next hb
 replace oa := oa.next hb
 replace ob := ob.next hb
 replace oc := oc.next hb
 replace od := od.next hb
 replace K1 := (((((K1.int od.ints.2.1).int od.ints.1).int oc.ints.2.1).int oc.ints.1).int oa.ints.2.1).int oa.ints.1
 clear K0 hb oa ob oc od p0 p1 p2 p3 p4 p5 p6 p7 p8 p9 p10 p11 p12 p13 p14 p15
 obtain ⟨p0, p1, p2, p3, p4, p5, p6, p7, p8, p9, p10, p11, p12, p13, p14, p15⟩ := (K1.blk (g := w.heap.size) (by repeat constructor)).c16
 go_upto_region 3 with (fail)
 go_wp2_with fail
 refine (rat_plus_any sa za Aa Ba na ca ma da sd zd Ad Bd nd cd md dd xa xd (xa + xd) M M _ (K1.at_ (mE 0 rfl)) (K1.at_ (mE 1 rfl)) (K1.at_ (mE 4 rfl)) (K1.at_ (mE 5 rfl)) Ya.out Yd.out (by omega) (Lib.hid rfl)).mono ?_
 rintro e2 w2 ⟨st, At, nt, ct, zt, Bt, mt, dt, rfl, I2, J2, hb⟩
 have K2 := (((K1.next hb).int J2).int I2).var (g := w2.heap.size) rfl [.bool st, .slice At nt ct, .bool zt, .slice Bt mt dt] 26
 have z2 : w.heap.size + 1 < w2.heap.size := ((K1.next hb).blk (mE 0 rfl)).1
 clear K1 hb I2 J2 p0 p1 p2 p3 p4 p5 p6 p7 p8 p9 p10 p11 p12 p13 p14 p15
 go_upto_region 4 with (fail)
 generalize w2.heap.size = gt at K2 z2 ⊢
 generalize w2.alloc (.cells #[.bool st, .slice At nt ct, .bool zt, .slice Bt mt dt] 26) = u2 at K2 ⊢
 go_wp2_with fail
 refine (rat_small_any 4 1 4 _ (by decide) (by decide) (by decide) (Lib.hid (by decide +kernel))).mono ?_
 rintro e3 w3 ⟨sf, Af, nf, cf, zf, Bf, mf, df, rfl, I3, J3, hb⟩
 have K3 := (((K2.next hb).int J3).int I3).var (g := w3.heap.size) rfl [.bool sf, .slice Af nf cf, .bool zf, .slice Bf mf df] 26
 have z3 : gt < w3.heap.size := ((K2.next hb).blk (mE 0 rfl)).1
 clear K2 hb I3 J3
 go_upto_region 5 with (fail)
 generalize w3.heap.size = gf at K3 z3 ⊢
 generalize w3.alloc (.cells #[.bool sf, .slice Af nf cf, .bool zf, .slice Bf mf df] 26) = u3 at K3 ⊢
 have HS5 : Hid (Sz ((xa + xd) * (xa + xd)) (4 * M + 2)) := Lib.hid ((Sz.mul ST.out ST.out).mono (by omega))
 have HS6 : Hid (Sz ((4 : Rat) - ((xa + xd) * (xa + xd))) (4 * M + 4)) := Lib.hid ((Sz.sub S4.out HS5.out).mono (by omega))
 obtain ⟨⟨bf0, bf1, bf2, bf3⟩, _, _⟩ := (K3.blk (g := gf) (by repeat constructor)).four
 obtain ⟨⟨bt0, bt1, bt2, bt3⟩, _, _⟩ := (K3.blk (g := gt) (by repeat constructor)).four
 obtain ⟨_, _, _, _, _, _, _, _, _, _, _, _, _, _, _, _⟩ := (K3.blk (g := w.heap.size) (by repeat constructor)).c16
 have sz3 : gf < u3.heap.size := (K3.blk (mE 0 rfl)).1
 go_cut [8] from 20 to 24 (fun slotv wx => ∃ (x : Nat) (neg6x : Bool) (A6x : Option Addr) (n6x : Nat) (c6x : Nat) (ne6x : Bool) (B6x : Option Addr) (m6x : Nat) (d6x : Nat), slotv = .pointer (some ⟨x, 0, none⟩) ∧ gf < x ∧
  Mm w [(x, [.bool neg6x, .slice A6x n6x c6x, .bool ne6x, .slice B6x m6x d6x]), (gf, [.bool sf, .slice Af nf cf, .bool zf, .slice Bf mf df]), (w.heap.size + 1, [.bool false, .slice none 0 0, .bool false, .slice none 0 0]), (w.heap.size, [.bool sa, .slice Aa na ca, .bool za, .slice Ba ma da, .bool sb, .slice Ab nb cb, .bool zb, .slice Bb mb db, .bool sc, .slice Ac nc cc, .bool zc, .slice Bc mc dc, .bool sd, .slice Ad nd cd, .bool zd, .slice Bd md dd])] [(neg6x, A6x, n6x, c6x, (((4 : Rat) - ((xa + xd) * (xa + xd))) : Rat).num), (ne6x, B6x, m6x, d6x, (((((4 : Rat) - ((xa + xd) * (xa + xd))) : Rat).den : Nat) : Int)), (sf, Af, nf, cf, ((4 : Rat) : Rat).num), (zf, Bf, mf, df, ((((4 : Rat) : Rat).den : Nat) : Int)), (sa, Aa, na, ca, (xa : Rat).num), (za, Ba, ma, da, (((xa : Rat).den : Nat) : Int)), (sc, Ac, nc, cc, (xc : Rat).num), (zc, Bc, mc, dc, (((xc : Rat).den : Nat) : Int)), (sd, Ad, nd, cd, (xd : Rat).num), (zd, Bd, md, dd, (((xd : Rat).den : Nat) : Int))] wx)
 case first =>
  go_region_held3 (fun w' => w'.cell? ⟨gf, 0, none⟩ = some (.bool sf) ∧ w'.cell? ⟨gf, 1, none⟩ = some (.slice Af nf cf) ∧ w'.cell? ⟨gf, 2, none⟩ = some (.bool zf) ∧ w'.cell? ⟨gf, 3, none⟩ = some (.slice Bf mf df) ∧ w'.cell? ⟨gt, 0, none⟩ = some (.bool st) ∧ w'.cell? ⟨gt, 1, none⟩ = some (.slice At nt ct) ∧ w'.cell? ⟨gt, 2, none⟩ = some (.bool zt) ∧ w'.cell? ⟨gt, 3, none⟩ = some (.slice Bt mt dt) ∧ w'.cell? ⟨w.heap.size, 0, none⟩ = some (.bool sa) ∧ w'.cell? ⟨w.heap.size, 1, none⟩ = some (.slice Aa na ca) ∧ w'.cell? ⟨w.heap.size, 2, none⟩ = some (.bool za) ∧ w'.cell? ⟨w.heap.size, 3, none⟩ = some (.slice Ba ma da) ∧ w'.cell? ⟨w.heap.size, 4, none⟩ = some (.bool sb) ∧ w'.cell? ⟨w.heap.size, 5, none⟩ = some (.slice Ab nb cb) ∧ w'.cell? ⟨w.heap.size, 6, none⟩ = some (.bool zb) ∧ w'.cell? ⟨w.heap.size, 7, none⟩ = some (.slice Bb mb db) ∧ w'.cell? ⟨w.heap.size, 8, none⟩ = some (.bool sc) ∧ w'.cell? ⟨w.heap.size, 9, none⟩ = some (.slice Ac nc cc) ∧ w'.cell? ⟨w.heap.size, 10, none⟩ = some (.bool zc) ∧ w'.cell? ⟨w.heap.size, 11, none⟩ = some (.slice Bc mc dc) ∧ w'.cell? ⟨w.heap.size, 12, none⟩ = some (.bool sd) ∧ w'.cell? ⟨w.heap.size, 13, none⟩ = some (.slice Ad nd cd) ∧ w'.cell? ⟨w.heap.size, 14, none⟩ = some (.bool zd) ∧ w'.cell? ⟨w.heap.size, 15, none⟩ = some (.slice Bd md dd))
   (go_keep)
   (first
    | (go_at_call 140; apply Calls.withMm (w0 := w); (case K => with_reducible repeat (first | exact K3 | apply Mm.drew | apply Mm.drewN | apply Mm.varz)); intro KX; (try simp only [hszA] at KX); (with_reducible refine (rat_times_any st zt At Bt nt ct mt dt st zt At Bt nt ct mt dt (xa + xd) (xa + xd) ((xa + xd) * (xa + xd)) (2 * M + 1) (2 * M + 1) _ (KX.at_ (mE 2 rfl)) (KX.at_ (mE 3 rfl)) (KX.at_ (mE 2 rfl)) (KX.at_ (mE 3 rfl)) ST.out ST.out (by omega) (Lib.hid rfl)).mono ?_); rintro ea5 wa5 ⟨neg5, A5, n5, c5, ne5, B5, m5, d5, rfl, IHS5, JHS5, hba5⟩; (with_reducible have Ka5 := (((KX.next hba5).int JHS5).int IHS5)); obtain ⟨⟨_, _, _, _⟩, ⟨_, _, _, _⟩, _⟩ := (Ka5.blk (g := gf) (by first | exact mE 0 rfl | exact mE 1 rfl)).four; obtain ⟨⟨_, _, _, _⟩, ⟨_, _, _, _⟩, _⟩ := (Ka5.blk (g := gt) (by first | exact mE 1 rfl | exact mE 2 rfl)).four; obtain ⟨_, _, _, _, _, _, _, _, _, _, _, _, _, _, _, _⟩ := (Ka5.blk (g := w.heap.size) (by first | exact mE 3 rfl | exact mE 4 rfl)).c16; have sza5 : gf < wa5.heap.size := (Ka5.blk (g := gf) (by first | exact mE 0 rfl | exact mE 1 rfl)).1; (try (have V0_a5 := Ka5.blk (g := u3.heap.size) (vs := [.bool false, .slice none 0 0, .bool false, .slice none 0 0]) (by with_reducible exact List.mem_cons_self); obtain ⟨⟨_, _, _, _⟩, ⟨_, _, _, _⟩, _⟩ := V0_a5.four; obtain ⟨fa0_a5_0, fb0_a5_0⟩ := nq (a := w.heap.size + 1) (b := u3.heap.size) (by omega); obtain ⟨fa0_a5_1, fb0_a5_1⟩ := nq (a := w.heap.size) (b := u3.heap.size) (by omega); obtain ⟨fa0_a5_2, fb0_a5_2⟩ := nq (a := gt) (b := u3.heap.size) (by omega); obtain ⟨fa0_a5_3, fb0_a5_3⟩ := nq (a := gf) (b := u3.heap.size) (by omega))); clear KX IHS5 JHS5 hba5)
    | (go_at_call 139; apply Calls.withMm (w0 := w); (case K => with_reducible repeat (first | exact Ka5 | apply Mm.drew | apply Mm.drewN | apply Mm.varz)); intro KX; (try simp only [hszA] at KX); (with_reducible refine (rat_minus_any sf zf Af Bf nf cf mf df neg5 ne5 A5 B5 n5 c5 m5 d5 (4 : Rat) ((xa + xd) * (xa + xd)) ((4 : Rat) - ((xa + xd) * (xa + xd))) (0 * M + 1) (4 * M + 2) _ (KX.at_ (mE 2 rfl)) (KX.at_ (mE 3 rfl)) (KX.at_ (mE 0 rfl)) (KX.at_ (mE 1 rfl)) S4.out HS5.out (by omega) (Lib.hid rfl)).mono ?_); rintro ea6 wa6 ⟨neg6, A6, n6, c6, ne6, B6, m6, d6, rfl, IHS6, JHS6, hba6⟩; (with_reducible have Ka6 := (((KX.next hba6).int JHS6).int IHS6)); obtain ⟨⟨_, _, _, _⟩, ⟨_, _, _, _⟩, _⟩ := (Ka6.blk (g := gf) (by first | exact mE 0 rfl | exact mE 1 rfl)).four; obtain ⟨⟨_, _, _, _⟩, ⟨_, _, _, _⟩, _⟩ := (Ka6.blk (g := gt) (by first | exact mE 1 rfl | exact mE 2 rfl)).four; obtain ⟨_, _, _, _, _, _, _, _, _, _, _, _, _, _, _, _⟩ := (Ka6.blk (g := w.heap.size) (by first | exact mE 3 rfl | exact mE 4 rfl)).c16; have sza6 : gf < wa6.heap.size := (Ka6.blk (g := gf) (by first | exact mE 0 rfl | exact mE 1 rfl)).1; (try (have V0_a6 := Ka6.blk (g := u3.heap.size) (vs := [.bool false, .slice none 0 0, .bool false, .slice none 0 0]) (by with_reducible exact List.mem_cons_self); obtain ⟨⟨_, _, _, _⟩, ⟨_, _, _, _⟩, _⟩ := V0_a6.four; obtain ⟨fa0_a6_0, fb0_a6_0⟩ := nq (a := w.heap.size + 1) (b := u3.heap.size) (by omega); obtain ⟨fa0_a6_1, fb0_a6_1⟩ := nq (a := w.heap.size) (b := u3.heap.size) (by omega); obtain ⟨fa0_a6_2, fb0_a6_2⟩ := nq (a := gt) (b := u3.heap.size) (by omega); obtain ⟨fa0_a6_3, fb0_a6_3⟩ := nq (a := gf) (b := u3.heap.size) (by omega))); (try (have V1_a6 := Ka6.blk (g := wa5.heap.size) (vs := [.bool false, .slice none 0 0, .bool false, .slice none 0 0]) (by with_reducible exact List.mem_cons_self); obtain ⟨⟨_, _, _, _⟩, ⟨_, _, _, _⟩, _⟩ := V1_a6.four; obtain ⟨fa1_a6_0, fb1_a6_0⟩ := nq (a := w.heap.size + 1) (b := wa5.heap.size) (by omega); obtain ⟨fa1_a6_1, fb1_a6_1⟩ := nq (a := w.heap.size) (b := wa5.heap.size) (by omega); obtain ⟨fa1_a6_2, fb1_a6_2⟩ := nq (a := gt) (b := wa5.heap.size) (by omega); obtain ⟨fa1_a6_3, fb1_a6_3⟩ := nq (a := gf) (b := wa5.heap.size) (by omega))); clear KX IHS6 JHS6 hba6))
  all_goals (go_wp2_with fail)
  all_goals go_meet
  all_goals (first
   | with_reducible exact ⟨wa6.heap.size, neg6, A6, n6, c6, ne6, B6, m6, d6, rfl, by assumption, (Ka6.var (g := wa6.heap.size) rfl [.bool neg6, .slice A6 n6 c6, .bool ne6, .slice B6 m6 d6] 26).pick (L' := [(wa6.heap.size, [.bool neg6, .slice A6 n6 c6, .bool ne6, .slice B6 m6 d6]), (gf, [.bool sf, .slice Af nf cf, .bool zf, .slice Bf mf df]), (w.heap.size + 1, [.bool false, .slice none 0 0, .bool false, .slice none 0 0]), (w.heap.size, [.bool sa, .slice Aa na ca, .bool za, .slice Ba ma da, .bool sb, .slice Ab nb cb, .bool zb, .slice Bb mb db, .bool sc, .slice Ac nc cc, .bool zc, .slice Bc mc dc, .bool sd, .slice Ad nd cd, .bool zd, .slice Bd md dd])]) (l' := [(neg6, A6, n6, c6, (((4 : Rat) - ((xa + xd) * (xa + xd))) : Rat).num), (ne6, B6, m6, d6, (((((4 : Rat) - ((xa + xd) * (xa + xd))) : Rat).den : Nat) : Int)), (sf, Af, nf, cf, ((4 : Rat) : Rat).num), (zf, Bf, mf, df, ((((4 : Rat) : Rat).den : Nat) : Int)), (sa, Aa, na, ca, (xa : Rat).num), (za, Ba, ma, da, (((xa : Rat).den : Nat) : Int)), (sc, Ac, nc, cc, (xc : Rat).num), (zc, Bc, mc, dc, (((xc : Rat).den : Nat) : Int)), (sd, Ad, nd, cd, (xd : Rat).num), (zd, Bd, md, dd, (((xd : Rat).den : Nat) : Int))]) (all_cons (mE 0 rfl) (all_cons (mE 1 rfl) (all_cons (mE 3 rfl) (all_cons (mE 4 rfl) all_nil)))) (all_cons (mE 0 rfl) (all_cons (mE 1 rfl) (all_cons (mE 4 rfl) (all_cons (mE 5 rfl) (all_cons (mE 8 rfl) (all_cons (mE 9 rfl) (all_cons (mE 10 rfl) (all_cons (mE 11 rfl) (all_cons (mE 12 rfl) (all_cons (mE 13 rfl) all_nil))))))))))⟩
   | with_reducible exact ⟨wa5.heap.size, neg6, A6, n6, c6, ne6, B6, m6, d6, rfl, by assumption, (Ka6.pick (L' := [(wa5.heap.size, [.bool false, .slice none 0 0, .bool false, .slice none 0 0]), (gf, [.bool sf, .slice Af nf cf, .bool zf, .slice Bf mf df]), (w.heap.size + 1, [.bool false, .slice none 0 0, .bool false, .slice none 0 0]), (w.heap.size, [.bool sa, .slice Aa na ca, .bool za, .slice Ba ma da, .bool sb, .slice Ab nb cb, .bool zb, .slice Bb mb db, .bool sc, .slice Ac nc cc, .bool zc, .slice Bc mc dc, .bool sd, .slice Ad nd cd, .bool zd, .slice Bd md dd])]) (l' := [(neg6, A6, n6, c6, (((4 : Rat) - ((xa + xd) * (xa + xd))) : Rat).num), (ne6, B6, m6, d6, (((((4 : Rat) - ((xa + xd) * (xa + xd))) : Rat).den : Nat) : Int)), (sf, Af, nf, cf, ((4 : Rat) : Rat).num), (zf, Bf, mf, df, ((((4 : Rat) : Rat).den : Nat) : Int)), (sa, Aa, na, ca, (xa : Rat).num), (za, Ba, ma, da, (((xa : Rat).den : Nat) : Int)), (sc, Ac, nc, cc, (xc : Rat).num), (zc, Bc, mc, dc, (((xc : Rat).den : Nat) : Int)), (sd, Ad, nd, cd, (xd : Rat).num), (zd, Bd, md, dd, (((xd : Rat).den : Nat) : Int))]) (all_cons (mE 0 rfl) (all_cons (mE 1 rfl) (all_cons (mE 3 rfl) (all_cons (mE 4 rfl) all_nil)))) (all_cons (mE 0 rfl) (all_cons (mE 1 rfl) (all_cons (mE 4 rfl) (all_cons (mE 5 rfl) (all_cons (mE 8 rfl) (all_cons (mE 9 rfl) (all_cons (mE 10 rfl) (all_cons (mE 11 rfl) (all_cons (mE 12 rfl) (all_cons (mE 13 rfl) all_nil))))))))))).set4 (all_cons (show wa5.heap.size ≠ gf by omega) (all_cons (show wa5.heap.size ≠ w.heap.size + 1 by omega) (all_cons (show wa5.heap.size ≠ w.heap.size by omega) all_nil))) neg6 A6 n6 c6 ne6 B6 m6 d6⟩
   | with_reducible exact ⟨u3.heap.size, neg6, A6, n6, c6, ne6, B6, m6, d6, rfl, by assumption, (Ka6.pick (L' := [(u3.heap.size, [.bool false, .slice none 0 0, .bool false, .slice none 0 0]), (gf, [.bool sf, .slice Af nf cf, .bool zf, .slice Bf mf df]), (w.heap.size + 1, [.bool false, .slice none 0 0, .bool false, .slice none 0 0]), (w.heap.size, [.bool sa, .slice Aa na ca, .bool za, .slice Ba ma da, .bool sb, .slice Ab nb cb, .bool zb, .slice Bb mb db, .bool sc, .slice Ac nc cc, .bool zc, .slice Bc mc dc, .bool sd, .slice Ad nd cd, .bool zd, .slice Bd md dd])]) (l' := [(neg6, A6, n6, c6, (((4 : Rat) - ((xa + xd) * (xa + xd))) : Rat).num), (ne6, B6, m6, d6, (((((4 : Rat) - ((xa + xd) * (xa + xd))) : Rat).den : Nat) : Int)), (sf, Af, nf, cf, ((4 : Rat) : Rat).num), (zf, Bf, mf, df, ((((4 : Rat) : Rat).den : Nat) : Int)), (sa, Aa, na, ca, (xa : Rat).num), (za, Ba, ma, da, (((xa : Rat).den : Nat) : Int)), (sc, Ac, nc, cc, (xc : Rat).num), (zc, Bc, mc, dc, (((xc : Rat).den : Nat) : Int)), (sd, Ad, nd, cd, (xd : Rat).num), (zd, Bd, md, dd, (((xd : Rat).den : Nat) : Int))]) (all_cons (mE 0 rfl) (all_cons (mE 1 rfl) (all_cons (mE 3 rfl) (all_cons (mE 4 rfl) all_nil)))) (all_cons (mE 0 rfl) (all_cons (mE 1 rfl) (all_cons (mE 4 rfl) (all_cons (mE 5 rfl) (all_cons (mE 8 rfl) (all_cons (mE 9 rfl) (all_cons (mE 10 rfl) (all_cons (mE 11 rfl) (all_cons (mE 12 rfl) (all_cons (mE 13 rfl) all_nil))))))))))).set4 (all_cons (show u3.heap.size ≠ gf by omega) (all_cons (show u3.heap.size ≠ w.heap.size + 1 by omega) (all_cons (show u3.heap.size ≠ w.heap.size by omega) all_nil))) neg6 A6 n6 c6 ne6 B6 m6 d6⟩)
 case rest =>
  obtain ⟨x, neg6x, A6x, n6x, c6x, ne6x, B6x, m6x, d6x, rfl, hx, KX⟩ := hcut
  clear K3
  rename World => wx
  obtain ⟨⟨qax, qbx, qcx, qdx⟩, ⟨_, _, _, _⟩, _⟩ := (KX.blk (g := x) (by repeat constructor)).four
  obtain ⟨sv, hsv⟩ : ∃ v, (((4 : Rat) - ((xa + xd) * (xa + xd)))).num.sign = v := ⟨_, rfl⟩
  have HSV := Lib.hid hsv
  have hle : sv ≤ 0 := by
   have := (rat_num_sign ((4 : Rat) - ((xa + xd) * (xa + xd)))).2 H4.out
   rw [hsv] at this
   omega
  clear hsv
  go_upto_region 6 with (fail)
  go_wp2_with fail
  refine (rat_sign_any neg6x ne6x A6x B6x n6x c6x m6x d6x ((4 : Rat) - ((xa + xd) * (xa + xd))) sv _ (KX.at_ (mE 0 rfl)) (KX.at_ (mE 1 rfl)) HSV).mono ?_
  rintro e7 w7 ⟨rfl, hb⟩
  have K7 := KX.next hb
  clear KX hb qax qbx qcx qdx
  obtain ⟨⟨f0, f1, f2, f3⟩, ⟨ff0, ff1, ff2, ff3⟩, _⟩ := (K7.blk (g := w.heap.size + 1) (by repeat constructor)).four
  go_wp2_with fail
  have K9 := (K7.pick (L' := [(w.heap.size + 1, [.bool false, .slice none 0 0, .bool false, .slice none 0 0])]) (l' := []) (by simp) (by simp)).set4 (by simp) false none 0 0 false none 0 0
  exact bodyPost_ret (v := .tuple #[.agg #[.bool false, .slice none 0 0, .bool false, .slice none 0 0], .int .i64 8]) (by simp [results, Tryz.results116, go_sem, f0, f1, f2, f3]) rfl ⟨false, none, 0, 0, false, none, 0, 0, rfl, isInt_nought, isInt_nought, owns_nil2 _ _, K9.1⟩
end Go.Proofs.YtgekmbfmfiikkaaGreatDoor
