/-
  May all of these fractions be? (polestarref02.Checks)
  The references' fractions (polestarref02): signs.
  May a complex number, a beam, a matrix be? (the references)
  Of the references: are numbers too long (Long, Answer), at any length.
-/
import Derived.Test.YtgekmbfmfiikkaaGreatDoorAnD
import Derived.Test.YtgekmbfmfiikkaaGreatDoorFrN
import Derived.Test.YtgekmbfmfiikkaaGreatDoorGaR
import Derived.Test.YtgekmbfmfiikkaaGreatDoorRaN
import Derived.Test.YtgekmbfmfiikkaaGreatDoorRefV
set_option maxHeartbeats 6400000
set_option maxRecDepth 100000
namespace Go.Proofs.YtgekmbfmfiikkaaGreatDoor
open Go.RowKit
theorem ref2_checks_any (g N c : Nat) (F : Nat → LmE) (w : World) (hL : Lfs w g N F) (hN : N ≤ 1000) (hc : N ≤ c) :
  Calls Tryz.prog 165 #[.slice (some ⟨g, 0, none⟩) N c] w (RetV w (.bool (okAll F N))) := by
 have hg := hL.1
 go_enter Tryz.func165, Tryz.ntmps165
 go_wp2_with fail
 go_loopw [3] (fun i wr => ∃ k : Nat, k ≤ N ∧ i = .int .i64 (k : Int) ∧ Hid (okAll F k = true) ∧ Below w.heap.size w wr) (fun i _ => N - (intOf i).toNat)
 case atStart => exact ⟨0, Nat.zero_le _, rfl, Lib.hid rfl, Below.refl _ _⟩
 case round =>
  obtain ⟨k, hk, rfl, HK, hb⟩ := hrel
  have hsz := hb.size
  by_cases hlt : k < N
  ·obtain ⟨hg1, hall⟩ := hL.next hb
   obtain ⟨⟨a0, a1, a2, a3⟩, hS, hS', hn, hn'⟩ := hall k hlt
   have HCk := Lib.hid (okB_chk (F k))
   have HOK : Hid (okAll F (k + 1) = (okAll F k && okB (F k))) := Lib.hid rfl
   have HNO : Hid (okB (F k) = false → okAll F N = false) := Lib.hid (okAll_no hlt)
   obtain ⟨f, hf⟩ : ∃ f, F k = f := ⟨_, rfl⟩
   rw [hf] at a0 a1 a2 a3 hS hS' hn hn' HCk HOK HNO
   obtain ⟨⟨neg, A, n, c1, l⟩, neg', A', n', c1', l'⟩ := f
   simp only at a0 a1 a2 a3 hS hS' hn hn' HCk
   have hlt' : (k : Int) < (N : Int) := by omega
   have hk0 : (0 : Int) ≤ (k : Int) := Int.natCast_nonneg _
   clear hall hf
   go_wp2_with fail
   refine (ref2_check neg neg' A A' n c1 n' c1' l l' _ hS hS' hn hn').mono ?_
   rintro e1 w1 ⟨rfl, hb1⟩
   obtain ⟨b, hob⟩ : ∃ b, okB ((neg, A, n, c1, l), (neg', A', n', c1', l')) = b := ⟨_, rfl⟩
   rw [hob] at HCk HOK HNO
   rw [HCk.out]
   clear hob
   cases b with
   | false =>
    have HF : Hid (okAll F N = false) := Lib.hid (HNO.out rfl)
    go_wp2_with fail
    go_ret
    exact ⟨by rw [HF.out]; rfl, below_next hb hb1⟩
   | true =>
    go_wp2_with fail
    refine ⟨⟨k + 1, hlt, congrArg (Value.int .i64) (by omega), Lib.hid (by rw [HOK.out, HK.out]; rfl), below_next hb hb1⟩, ?_⟩
    simp [intOf]
    omega
  ·obtain rfl : k = N := by omega
   have hnl : ¬ (k : Int) < (k : Int) := by omega
   go_wp2_with fail
   go_ret
   exact ⟨by rw [HK.out]; rfl, hb⟩
end Go.Proofs.YtgekmbfmfiikkaaGreatDoor
namespace Go.Proofs.YtgekmbfmfiikkaaGreatDoor
open Go.RowKit
theorem ref2_sign_any (neg neg' : Bool) (A A' : Option Addr) (n c n' c' : Nat) (x : Rat) (v : Int) (w : World) (hx : IsInt w neg A n c x.num) (hx' : IsInt w neg' A' n' c' (x.den : Int)) (hv : Hid (x.num.sign = v)) :
  Calls Tryz.prog 58 #[.agg #[.bool neg, .slice A n c, .bool neg', .slice A' n' c']] w (RetV w (.int .i64 v)) := by
 have K0 := (((((Mm.nil w).int hx).int hx').var (g := w.heap.size) rfl [.bool neg, .slice A n c, .bool neg', .slice A' n' c'] 26))
 clear hx hx'
 go_enter Tryz.func58, Tryz.ntmps58
 go_wp2_with fail
 refine (ref_sign_of neg A n c x.num v _ (K0.at_ (by simp)) hv).mono ?_
 rintro e4 w4 ⟨rfl, hb4⟩
 have K4 := K0.next hb4
 go_wp2_with fail
 go_ret
 exact ⟨rfl, K4.1⟩
end Go.Proofs.YtgekmbfmfiikkaaGreatDoor
namespace Go.Proofs.YtgekmbfmfiikkaaGreatDoor
open Go.RowKit
theorem ref3_may_any (sa : Bool) (Aa : Option Addr) (na ca : Nat) (la : List Nat) (za : Bool) (Ba : Option Addr) (ma da : Nat) (ka : List Nat) (sb : Bool) (Ab : Option Addr) (nb cb : Nat) (lb : List Nat) (zb : Bool) (Bb : Option Addr) (mb db : Nat) (kb : List Nat) (w : World) (ha : LmE.at_ w ((sa, Aa, na, ca, la), (za, Ba, ma, da, ka))) (hb : LmE.at_ w ((sb, Ab, nb, cb, lb), (zb, Bb, mb, db, kb))) :
  Calls Tryz.prog 57 #[.agg #[.bool sa, .slice Aa na ca, .bool za, .slice Ba ma da, .bool sb, .slice Ab nb cb, .bool zb, .slice Bb mb db]] w (RetV w (.bool (okB ((sa, Aa, na, ca, la), (za, Ba, ma, da, ka)) && okB ((sb, Ab, nb, cb, lb), (zb, Bb, mb, db, kb))))) := by
 have hb0 : Below w.heap.size w (w.alloc (.cells #[.bool sa, .slice Aa na ca, .bool za, .slice Ba ma da, .bool sb, .slice Ab nb cb, .bool zb, .slice Bb mb db] 30)) := (Below.refl _ _).alloc (Nat.le_refl _) _
 have hL : Lfs ((w.alloc (.cells #[.bool sa, .slice Aa na ca, .bool za, .slice Ba ma da, .bool sb, .slice Ab nb cb, .bool zb, .slice Bb mb db] 30)).alloc (.cells #[.bool sa, .slice Aa na ca, .bool za, .slice Ba ma da, .bool sb, .slice Ab nb cb, .bool zb, .slice Bb mb db] 26)) (w.heap.size + 1) 2 (two ((sa, Aa, na, ca, la), (za, Ba, ma, da, ka)) ((sb, Ab, nb, cb, lb), (zb, Bb, mb, db, kb))) := lfs_two _ (by simp) _ (LmE.at_.below ha hb0) (LmE.at_.below hb hb0)
 have HL := Lib.hid hL
 have HO := Lib.hid (okAll_two ((sa, Aa, na, ca, la), (za, Ba, ma, da, ka)) ((sb, Ab, nb, cb, lb), (zb, Bb, mb, db, kb)))
 clear ha hb hL
 go_enter Tryz.func57, Tryz.ntmps57
 go_wp2_with fail
 refine (ref2_checks_any (w.heap.size + 1) 2 2 (two ((sa, Aa, na, ca, la), (za, Ba, ma, da, ka)) ((sb, Ab, nb, cb, lb), (zb, Bb, mb, db, kb))) _ HL.out (by decide) (by decide)).mono ?_
 rintro e1 w1 ⟨rfl, hb1⟩
 rw [HO.out]
 go_wp2_with fail
 go_ret
 exact ⟨rfl, below_box2 hb1⟩
theorem ref15_check_any (sa : Bool) (Aa : Option Addr) (na ca : Nat) (la : List Nat) (za : Bool) (Ba : Option Addr) (ma da : Nat) (ka : List Nat) (sb : Bool) (Ab : Option Addr) (nb cb : Nat) (lb : List Nat) (zb : Bool) (Bb : Option Addr) (mb db : Nat) (kb : List Nat) (w : World) (ha : LmE.at_ w ((sa, Aa, na, ca, la), (za, Ba, ma, da, ka))) (hb : LmE.at_ w ((sb, Ab, nb, cb, lb), (zb, Bb, mb, db, kb))) :
  Calls Tryz.prog 17 #[.agg #[.bool sa, .slice Aa na ca, .bool za, .slice Ba ma da, .bool sb, .slice Ab nb cb, .bool zb, .slice Bb mb db]] w (RetV w (.int .i64 (chkBm ((sa, Aa, na, ca, la), (za, Ba, ma, da, ka)) ((sb, Ab, nb, cb, lb), (zb, Bb, mb, db, kb))))) := by
 have K0 := (Mm.nil w).var (g := w.heap.size) rfl [.bool sa, .slice Aa na ca, .bool za, .slice Ba ma da, .bool sb, .slice Ab nb cb, .bool zb, .slice Bb mb db] 30
 have ha0 := LmE.at_.below ha K0.1
 have hb0 := LmE.at_.below hb K0.1
 clear ha hb
 obtain ⟨o, ho⟩ : ∃ o, (okB ((sa, Aa, na, ca, la), (za, Ba, ma, da, ka)) && okB ((sb, Ab, nb, cb, lb), (zb, Bb, mb, db, kb))) = o := ⟨_, rfl⟩
 have HC : Hid (chkBm ((sa, Aa, na, ca, la), (za, Ba, ma, da, ka)) ((sb, Ab, nb, cb, lb), (zb, Bb, mb, db, kb)) = if o then (if 0 < rv ((sb, Ab, nb, cb, lb), (zb, Bb, mb, db, kb)) then 0 else 8) else 1) := Lib.hid (by unfold chkBm; rw [ho])
 go_enter Tryz.func17, Tryz.ntmps17
 go_wp2_with fail
 refine (ref3_may_any sa Aa na ca la za Ba ma da ka sb Ab nb cb lb zb Bb mb db kb _ ha0 hb0).mono ?_
 rintro e1 w1 ⟨rfl, hb1⟩
 rw [ho]
 have K1 := K0.next hb1
 have hb2 := LmE.at_.below hb0 hb1
 obtain ⟨_, _, _, _, _, _, _, _⟩ := (K1.blk (g := w.heap.size) (by repeat constructor)).c8
 cases o with
 | false =>
  go_wp2_with fail
  go_ret
  exact ⟨by rw [HC.out]; rfl, K1.1⟩
 | true =>
  have hbb : okB ((sb, Ab, nb, cb, lb), (zb, Bb, mb, db, kb)) = true := (Bool.and_eq_true _ _ ▸ ho).2
  obtain ⟨i1, i2, _⟩ := ok_ints hbb hb2
  obtain ⟨g1, g2⟩ := rat_num_sign (rv ((sb, Ab, nb, cb, lb), (zb, Bb, mb, db, kb)))
  obtain ⟨xb, hxb⟩ : ∃ xb, rv ((sb, Ab, nb, cb, lb), (zb, Bb, mb, db, kb)) = xb := ⟨_, rfl⟩
  rw [hxb] at i1 i2 g1 g2 HC
  have I1 := Lib.hid i1
  have I2 := Lib.hid i2
  clear i1 i2 hb1 K0 ha0 hb0 hb2 ho hbb
  go_wp2_with fail
  by_cases hp : 0 < xb
  ·refine (ref2_sign_any sb zb Ab Bb nb cb mb db xb 1 _ I1.out I2.out (Lib.hid (g1 hp))).mono ?_
   rintro e2 w2 ⟨rfl, hb3⟩
   go_wp2_with fail
   go_ret
   exact ⟨by rw [HC.out, if_pos (by trivial), if_pos hp]; rfl, (K1.next hb3).1⟩
  ·rcases g2 hp with g | g
   ·refine (ref2_sign_any sb zb Ab Bb nb cb mb db xb 0 _ I1.out I2.out (Lib.hid g)).mono ?_
    rintro e2 w2 ⟨rfl, hb3⟩
    go_wp2_with fail
    go_ret
    exact ⟨by rw [HC.out, if_pos (by trivial), if_neg hp]; rfl, (K1.next hb3).1⟩
   ·refine (ref2_sign_any sb zb Ab Bb nb cb mb db xb (-1) _ I1.out I2.out (Lib.hid g)).mono ?_
    rintro e2 w2 ⟨rfl, hb3⟩
    go_wp2_with fail
    go_ret
    exact ⟨by rw [HC.out, if_pos (by trivial), if_neg hp]; rfl, (K1.next hb3).1⟩
theorem ref9_may_any (sa : Bool) (Aa : Option Addr) (na ca : Nat) (la : List Nat) (za : Bool) (Ba : Option Addr) (ma da : Nat) (ka : List Nat) (sb : Bool) (Ab : Option Addr) (nb cb : Nat) (lb : List Nat) (zb : Bool) (Bb : Option Addr) (mb db : Nat) (kb : List Nat) (sc : Bool) (Ac : Option Addr) (nc cc : Nat) (lc : List Nat) (zc : Bool) (Bc : Option Addr) (mc dc : Nat) (kc : List Nat) (sd : Bool) (Ad : Option Addr) (nd cd : Nat) (ld : List Nat) (zd : Bool) (Bd : Option Addr) (md dd : Nat) (kd : List Nat) (w : World) (ha : LmE.at_ w ((sa, Aa, na, ca, la), (za, Ba, ma, da, ka))) (hb : LmE.at_ w ((sb, Ab, nb, cb, lb), (zb, Bb, mb, db, kb))) (hc : LmE.at_ w ((sc, Ac, nc, cc, lc), (zc, Bc, mc, dc, kc))) (hd : LmE.at_ w ((sd, Ad, nd, cd, ld), (zd, Bd, md, dd, kd))) :
  Calls Tryz.prog 52 #[.agg #[.bool sa, .slice Aa na ca, .bool za, .slice Ba ma da, .bool sb, .slice Ab nb cb, .bool zb, .slice Bb mb db, .bool sc, .slice Ac nc cc, .bool zc, .slice Bc mc dc, .bool sd, .slice Ad nd cd, .bool zd, .slice Bd md dd]] w (RetV w (.bool (okM ((sa, Aa, na, ca, la), (za, Ba, ma, da, ka)) ((sb, Ab, nb, cb, lb), (zb, Bb, mb, db, kb)) ((sc, Ac, nc, cc, lc), (zc, Bc, mc, dc, kc)) ((sd, Ad, nd, cd, ld), (zd, Bd, md, dd, kd))))) := by
 have K0 := (Mm.nil w).var (g := w.heap.size) rfl [.bool sa, .slice Aa na ca, .bool za, .slice Ba ma da, .bool sb, .slice Ab nb cb, .bool zb, .slice Bb mb db, .bool sc, .slice Ac nc cc, .bool zc, .slice Bc mc dc, .bool sd, .slice Ad nd cd, .bool zd, .slice Bd md dd] 28
 have ha0 := LmE.at_.below ha K0.1
 have hb0 := LmE.at_.below hb K0.1
 have hc0 := LmE.at_.below hc K0.1
 have hd0 := LmE.at_.below hd K0.1
 have K1 := K0.box (.cells #[.bool sa, .slice Aa na ca, .bool za, .slice Ba ma da, .bool sb, .slice Ab nb cb, .bool zb, .slice Bb mb db, .bool sc, .slice Ac nc cc, .bool zc, .slice Bc mc dc, .bool sd, .slice Ad nd cd, .bool zd, .slice Bd md dd] 26)
 have hL : Lfs ((w.alloc (.cells #[.bool sa, .slice Aa na ca, .bool za, .slice Ba ma da, .bool sb, .slice Ab nb cb, .bool zb, .slice Bb mb db, .bool sc, .slice Ac nc cc, .bool zc, .slice Bc mc dc, .bool sd, .slice Ad nd cd, .bool zd, .slice Bd md dd] 28)).alloc (.cells #[.bool sa, .slice Aa na ca, .bool za, .slice Ba ma da, .bool sb, .slice Ab nb cb, .bool zb, .slice Bb mb db, .bool sc, .slice Ac nc cc, .bool zc, .slice Bc mc dc, .bool sd, .slice Ad nd cd, .bool zd, .slice Bd md dd] 26)) (w.heap.size + 1) 4 (four ((sa, Aa, na, ca, la), (za, Ba, ma, da, ka)) ((sb, Ab, nb, cb, lb), (zb, Bb, mb, db, kb)) ((sc, Ac, nc, cc, lc), (zc, Bc, mc, dc, kc)) ((sd, Ad, nd, cd, ld), (zd, Bd, md, dd, kd))) := lfs_four _ (by simp) _ ha0 hb0 hc0 hd0
 have HL := Lib.hid hL
 obtain ⟨o, ho⟩ : ∃ o, (okB ((sa, Aa, na, ca, la), (za, Ba, ma, da, ka)) && okB ((sb, Ab, nb, cb, lb), (zb, Bb, mb, db, kb)) && okB ((sc, Ac, nc, cc, lc), (zc, Bc, mc, dc, kc)) && okB ((sd, Ad, nd, cd, ld), (zd, Bd, md, dd, kd))) = o := ⟨_, rfl⟩
 have HO := Lib.hid ((okAll_four ((sa, Aa, na, ca, la), (za, Ba, ma, da, ka)) ((sb, Ab, nb, cb, lb), (zb, Bb, mb, db, kb)) ((sc, Ac, nc, cc, lc), (zc, Bc, mc, dc, kc)) ((sd, Ad, nd, cd, ld), (zd, Bd, md, dd, kd))).trans ho)
 have HM : Hid (okM ((sa, Aa, na, ca, la), (za, Ba, ma, da, ka)) ((sb, Ab, nb, cb, lb), (zb, Bb, mb, db, kb)) ((sc, Ac, nc, cc, lc), (zc, Bc, mc, dc, kc)) ((sd, Ad, nd, cd, ld), (zd, Bd, md, dd, kd)) = (o && decide (rv ((sa, Aa, na, ca, la), (za, Ba, ma, da, ka)) * rv ((sd, Ad, nd, cd, ld), (zd, Bd, md, dd, kd)) - rv ((sb, Ab, nb, cb, lb), (zb, Bb, mb, db, kb)) * rv ((sc, Ac, nc, cc, lc), (zc, Bc, mc, dc, kc)) = 1))) := Lib.hid (by unfold okM; rw [ho])
 have ha1 := LmE.at_.below ha K1.1
 have hb1 := LmE.at_.below hb K1.1
 have hc1 := LmE.at_.below hc K1.1
 have hd1 := LmE.at_.below hd K1.1
 clear ha hb hc hd hL K0 ha0 hb0 hc0 hd0
 go_enter Tryz.func52, Tryz.ntmps52
 go_wp2_with fail
 refine (ref2_checks_any (w.heap.size + 1) 4 4 (four ((sa, Aa, na, ca, la), (za, Ba, ma, da, ka)) ((sb, Ab, nb, cb, lb), (zb, Bb, mb, db, kb)) ((sc, Ac, nc, cc, lc), (zc, Bc, mc, dc, kc)) ((sd, Ad, nd, cd, ld), (zd, Bd, md, dd, kd))) _ HL.out (by decide) (by decide)).mono ?_
 rintro e1 w1 ⟨rfl, hbw⟩
 rw [HO.out]
 clear HO HL
 have K2 := K1.next hbw
 have ha2 := LmE.at_.below ha1 hbw
 have hb2 := LmE.at_.below hb1 hbw
 have hc2 := LmE.at_.below hc1 hbw
 have hd2 := LmE.at_.below hd1 hbw
 clear ha1 hb1 hc1 hd1 K1 hbw
 obtain ⟨_, _, _, _, _, _, _, _, _, _, _, _, _, _, _, _⟩ := (K2.blk (g := w.heap.size) (by repeat constructor)).c16
 cases o with
 | false =>
  go_wp2_with fail
  go_ret
  exact ⟨by rw [HM.out]; rfl, K2.1⟩
 | true =>
  simp only [Bool.and_eq_true] at ho
  obtain ⟨⟨⟨oa, ob⟩, oc⟩, od⟩ := ho
  obtain ⟨ia, ja, ya⟩ := ok_ints oa ha2
  obtain ⟨ib, jb, yb⟩ := ok_ints ob hb2
  obtain ⟨ic, jc, yc⟩ := ok_ints oc hc2
  obtain ⟨id, jd, yd⟩ := ok_ints od hd2
  obtain ⟨xa, hxa⟩ : ∃ x, rv ((sa, Aa, na, ca, la), (za, Ba, ma, da, ka)) = x := ⟨_, rfl⟩
  obtain ⟨xb, hxb⟩ : ∃ x, rv ((sb, Ab, nb, cb, lb), (zb, Bb, mb, db, kb)) = x := ⟨_, rfl⟩
  obtain ⟨xc, hxc⟩ : ∃ x, rv ((sc, Ac, nc, cc, lc), (zc, Bc, mc, dc, kc)) = x := ⟨_, rfl⟩
  obtain ⟨xd, hxd⟩ : ∃ x, rv ((sd, Ad, nd, cd, ld), (zd, Bd, md, dd, kd)) = x := ⟨_, rfl⟩
  rw [hxa] at ia ja ya
  rw [hxb] at ib jb yb
  rw [hxc] at ic jc yc
  rw [hxd] at id jd yd
  rw [hxa, hxb, hxc, hxd] at HM
  have HSZ : Hid (Sz (xa * xd - xb * xc) 8193) := Lib.hid ((Sz.sub (Sz.mul ya yd) (Sz.mul yb yc)).mono (by omega))
  have K3 := ((((((((K2.int ia).int ja).int ib).int jb).int ic).int jc).int id).int jd)
  have YA := Lib.hid ya
  have YB := Lib.hid yb
  have YC := Lib.hid yc
  have YD := Lib.hid yd
  clear ia ja ib jb ic jc id jd ya yb yc yd oa ob oc od hxa hxb hxc hxd ha2 hb2 hc2 hd2 K2
  go_wp2_with fail
  refine (ref9_cross_any sa za Aa Ba na ca ma da xa sb zb Ab Bb nb cb mb db xb sc zc Ac Bc nc cc mc dc xc sd zd Ad Bd nd cd md dd xd 2048 _ (K3.at_ (by simp)) (K3.at_ (by simp)) YA.out (K3.at_ (by simp)) (K3.at_ (by simp)) YB.out (K3.at_ (by simp)) (K3.at_ (by simp)) YC.out (K3.at_ (by simp)) (K3.at_ (by simp)) YD.out (by decide)).mono ?_
  rintro e4 w4 ⟨neg4, A4, n4, c4, ne4, B4, m4, d4, rfl, I4, J4, hb4⟩
  have K4 := ((K3.next hb4).int J4).int I4
  clear I4 J4 hb4 K3
  go_wp2_with fail
  refine (ref2_one_any _).mono ?_
  rintro e5 w5 ⟨neg5, A5, n5, c5, ne5, B5, m5, d5, rfl, I5, J5, hb5⟩
  have K5 := ((K4.next hb5).int J5).int I5
  clear I5 J5 hb5 K4
  go_wp2_with fail
  refine (ref2_same_any neg4 ne4 A4 B4 n4 c4 m4 d4 neg5 ne5 A5 B5 n5 c5 m5 d5 (xa * xd - xb * xc) 1 (decide (xa * xd - xb * xc = 1)) 8193 1 _ (K5.at_ (by simp)) (K5.at_ (by simp)) (K5.at_ (by simp)) (K5.at_ (by simp)) HSZ.out Sz.one (by decide) (Lib.hid rfl)).mono ?_
  rintro e6 w6 ⟨rfl, hb6⟩
  go_wp2_with fail
  go_ret
  exact ⟨by rw [HM.out, Bool.true_and]; rfl, (K5.next hb6).1⟩
end Go.Proofs.YtgekmbfmfiikkaaGreatDoor
namespace Go.Proofs.YtgekmbfmfiikkaaGreatDoor
open Go.RowKit
theorem ref1_long_any (neg : Bool) (A : Option Addr) (n c : Nat) (b : Bool) (w : World) (hb : Hid (decide (2048 < n) = b)) : Calls Tryz.prog 231 #[.agg #[.bool neg, .slice A n c]] w (RetV w (.bool b)) := by
 have hl : decide ((2048 : Int) < (n : Int)) = b := by
  rw [← hb.out]
  by_cases h : 2048 < n
  ·rw [decide_eq_true h, decide_eq_true (by omega)]
  ·rw [decide_eq_false h, decide_eq_false (by omega)]
 go_enter Tryz.func231, Tryz.ntmps231
 cases b with
 | true =>
  have hl2 : (2048 : Int) < (n : Int) := of_decide_eq_true hl
  clear hl
  go_wp2_with fail
  go_ret
  exact ⟨rfl, (Below.refl _ _).alloc (Nat.le_refl _) _⟩
 | false =>
  have hl2 : ¬ (2048 : Int) < (n : Int) := of_decide_eq_false hl
  clear hl
  go_wp2_with fail
  go_ret
  exact ⟨rfl, (Below.refl _ _).alloc (Nat.le_refl _) _⟩
theorem ref2_long_any (g N c : Nat) (F : Nat → LmE) (w : World) (hL : Lfs w g N F) (hN : N ≤ 1000) (_hc : N ≤ c) :
  Calls Tryz.prog 122 #[.slice (some ⟨g, 0, none⟩) N c] w (RetV w (.bool (lgAll F N))) := by
 go_enter Tryz.func122, Tryz.ntmps122
 go_wp2_with fail
 go_loopw [3] (fun i wr => ∃ k : Nat, k ≤ N ∧ i = .int .i64 (k : Int) ∧ Below w.heap.size w wr ∧ Hid (∀ j, j < k → lgB (F j) = false)) (fun i _ => N - (intOf i).toNat)
 case atStart => exact ⟨0, Nat.zero_le _, rfl, Below.refl _ _, Lib.hid (fun j hj => absurd hj (by omega))⟩
 case round =>
  obtain ⟨k, hk, rfl, hb, HN⟩ := hrel
  by_cases hlt : k < N
  ·have hLw := hL.next hb
   obtain ⟨hg1, hall⟩ := id hLw
   obtain ⟨⟨a0, a1, a2, a3⟩, _⟩ := hall k hlt
   obtain ⟨f, hf⟩ : ∃ f, F k = f := ⟨_, rfl⟩
   have HF := Lib.hid hf
   rw [hf] at a0 a1 a2 a3
   obtain ⟨⟨neg, A, n, c1, l⟩, neg', A', n', c1', l'⟩ := f
   simp only at a0 a1 a2 a3
   obtain ⟨b1, hb1⟩ : ∃ b, decide (2048 < n) = b := ⟨_, rfl⟩
   obtain ⟨b2, hb2⟩ : ∃ b, decide (2048 < n') = b := ⟨_, rfl⟩
   have HB : Hid (lgB (F k) = (b1 || b2)) := Lib.hid (by rw [hf]; unfold lgB; rw [← hb1, ← hb2])
   have HB1 := Lib.hid hb1
   have HB2 := Lib.hid hb2
   have hlt' : (k : Int) < (N : Int) := by omega
   have hk0 : (0 : Int) ≤ (k : Int) := Int.natCast_nonneg _
   have HLT := Lib.hid hlt
   have hsz := hb.size
   clear hall hf hlt hb1 hb2
   go_wp2_with fail
   refine (ref1_long_any neg A n c1 b1 _ HB1).mono ?_
   rintro e1 w1 ⟨rfl, hb1⟩
   have hb3 := hb.trans (hb1.mono hsz)
   have d2 := (hb1.cell (p := ⟨g, k * 4 + 2, none⟩) hg1).trans a2
   have d3 := (hb1.cell (p := ⟨g, k * 4 + 3, none⟩) hg1).trans a3
   have hs1 := hb3.size
   clear a0 a1 a2 a3 hLw
   cases b1 with
   | true =>
    have HR := Lib.hid (lgAll_yes (F := F) (k := k) (by rw [HB.out]; rfl) HLT.out)
    go_wp2_with fail
    go_ret
    exact ⟨by rw [HR.out]; rfl, hb3⟩
   | false =>
    go_wp2_with fail
    refine (ref1_long_any neg' A' n' c1' b2 _ HB2).mono ?_
    rintro e2 w2 ⟨rfl, hb2⟩
    have hb4 := hb3.trans (hb2.mono hs1)
    clear hb2 d2 d3
    cases b2 with
    | true =>
     have HR := Lib.hid (lgAll_yes (F := F) (k := k) (by rw [HB.out]; rfl) HLT.out)
     go_wp2_with fail
     go_ret
     exact ⟨by rw [HR.out]; rfl, hb4⟩
    | false =>
     have HN2 : Hid (∀ j, j < k + 1 → lgB (F j) = false) := Lib.hid (fun j hj => by
      rcases Nat.lt_or_ge j k with h | h
      ·exact HN.out j h
      ·obtain rfl : j = k := by omega
       rw [HB.out]; rfl)
     clear HN HB
     go_wp2_with fail
     go_roundw
     case rel => exact ⟨k + 1, HLT.out, by go_num, hb4, HN2⟩
     case measure => have := HLT.out; simp [intOf]; omega
  ·obtain rfl : k = N := by omega
   have hnl : ¬ (k : Int) < (k : Int) := by omega
   have HR := Lib.hid (lgAll_no HN.out)
   go_wp2_with fail
   go_ret
   exact ⟨by rw [HR.out]; rfl, hb⟩
theorem ref2_answer_any (g N c : Nat) (F : Nat → LmE) (v : Int) (w : World) (hL : Lfs w g N F) (hN : N ≤ 1000) (hc : N ≤ c) (hv : Hid ((if lgAll F N then (4 : Int) else 0) = v)) :
  Calls Tryz.prog 169 #[.slice (some ⟨g, 0, none⟩) N c] w (RetV w (.int .i64 v)) := by
 obtain ⟨b, hb⟩ : ∃ b, lgAll F N = b := ⟨_, rfl⟩
 have HB := Lib.hid hb
 have HV : Hid ((if b then (4 : Int) else 0) = v) := Lib.hid (by rw [← hb]; exact hv.out)
 clear hb hv
 go_enter Tryz.func169, Tryz.ntmps169
 go_wp2_with fail
 refine (ref2_long_any g N c F _ hL hN hc).mono ?_
 rintro e1 w1 ⟨rfl, hb1⟩
 rw [HB.out]
 cases b with
 | true =>
  obtain rfl : (4 : Int) = v := HV.out
  go_wp2_with fail
  go_ret
  exact ⟨rfl, hb1⟩
 | false =>
  obtain rfl : (0 : Int) = v := HV.out
  go_wp2_with fail
  go_ret
  exact ⟨rfl, hb1⟩
end Go.Proofs.YtgekmbfmfiikkaaGreatDoor
