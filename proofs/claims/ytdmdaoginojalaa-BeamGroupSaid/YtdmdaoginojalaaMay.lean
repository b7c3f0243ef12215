/-
  May a complex number, a beam, a matrix be? (argand.May, beam.Check, row.May)
-/
import Derived.Test.YtdmdaoginojalaaMaP
import Derived.Test.YtdmdaoginojalaaRaN
namespace Go.Proofs.Ytdmdaoginojalaa
open Go.RowKit

set_option maxRecDepth 100000 in
set_option maxHeartbeats 6400000 in
theorem argand_may_any (sa : Bool) (Aa : Option Addr) (na ca : Nat) (la : List Nat) (za : Bool) (Ba : Option Addr) (ma da : Nat) (ka : List Nat) (sb : Bool) (Ab : Option Addr) (nb cb : Nat) (lb : List Nat) (zb : Bool) (Bb : Option Addr) (mb db : Nat) (kb : List Nat) (w : World) (ha : LmE.at_ w ((sa, Aa, na, ca, la), (za, Ba, ma, da, ka))) (hb : LmE.at_ w ((sb, Ab, nb, cb, lb), (zb, Bb, mb, db, kb))) :
    Calls Try.prog 39 #[.agg #[.bool sa, .slice Aa na ca, .bool za, .slice Ba ma da, .bool sb, .slice Ab nb cb, .bool zb, .slice Bb mb db]] w (RetV w (.bool (okB ((sa, Aa, na, ca, la), (za, Ba, ma, da, ka)) && okB ((sb, Ab, nb, cb, lb), (zb, Bb, mb, db, kb))))) := by
  have hb0 : Below w.heap.size w (w.alloc (.cells #[.bool sa, .slice Aa na ca, .bool za, .slice Ba ma da, .bool sb, .slice Ab nb cb, .bool zb, .slice Bb mb db] 30)) := (Below.refl _ _).alloc (Nat.le_refl _) _
  have hL : Lfs ((w.alloc (.cells #[.bool sa, .slice Aa na ca, .bool za, .slice Ba ma da, .bool sb, .slice Ab nb cb, .bool zb, .slice Bb mb db] 30)).alloc (.cells #[.bool sa, .slice Aa na ca, .bool za, .slice Ba ma da, .bool sb, .slice Ab nb cb, .bool zb, .slice Bb mb db] 26)) (w.heap.size + 1) 2 (two ((sa, Aa, na, ca, la), (za, Ba, ma, da, ka)) ((sb, Ab, nb, cb, lb), (zb, Bb, mb, db, kb))) := lfs_two _ (by simp) _ (LmE.at_.below ha hb0) (LmE.at_.below hb hb0)
  have HL := Lib.hid hL
  have HO := Lib.hid (okAll_two ((sa, Aa, na, ca, la), (za, Ba, ma, da, ka)) ((sb, Ab, nb, cb, lb), (zb, Bb, mb, db, kb)))
  clear ha hb hL
  go_enter Try.func39, Try.ntmps39
  go_wp2_with fail
  refine (rat_checks_any (w.heap.size + 1) 2 2 (two ((sa, Aa, na, ca, la), (za, Ba, ma, da, ka)) ((sb, Ab, nb, cb, lb), (zb, Bb, mb, db, kb))) _ HL.out (by decide) (by decide)).mono ?_
  rintro e1 w1 ⟨rfl, hb1⟩
  rw [HO.out]
  go_wp2_with fail
  go_ret
  exact ⟨rfl, below_box2 hb1⟩

set_option maxRecDepth 100000 in
set_option maxHeartbeats 6400000 in
theorem beam_check_any (sa : Bool) (Aa : Option Addr) (na ca : Nat) (la : List Nat) (za : Bool) (Ba : Option Addr) (ma da : Nat) (ka : List Nat) (sb : Bool) (Ab : Option Addr) (nb cb : Nat) (lb : List Nat) (zb : Bool) (Bb : Option Addr) (mb db : Nat) (kb : List Nat) (w : World) (ha : LmE.at_ w ((sa, Aa, na, ca, la), (za, Ba, ma, da, ka))) (hb : LmE.at_ w ((sb, Ab, nb, cb, lb), (zb, Bb, mb, db, kb))) :
    Calls Try.prog 12 #[.agg #[.bool sa, .slice Aa na ca, .bool za, .slice Ba ma da, .bool sb, .slice Ab nb cb, .bool zb, .slice Bb mb db]] w (RetV w (.int .i64 (chkBm ((sa, Aa, na, ca, la), (za, Ba, ma, da, ka)) ((sb, Ab, nb, cb, lb), (zb, Bb, mb, db, kb))))) := by
  have K0 := (Mm.nil w).var (g := w.heap.size) rfl [.bool sa, .slice Aa na ca, .bool za, .slice Ba ma da, .bool sb, .slice Ab nb cb, .bool zb, .slice Bb mb db] 30
  have ha0 := LmE.at_.below ha K0.1
  have hb0 := LmE.at_.below hb K0.1
  clear ha hb
  obtain ⟨o, ho⟩ : ∃ o, (okB ((sa, Aa, na, ca, la), (za, Ba, ma, da, ka)) && okB ((sb, Ab, nb, cb, lb), (zb, Bb, mb, db, kb))) = o := ⟨_, rfl⟩
  have HC : Hid (chkBm ((sa, Aa, na, ca, la), (za, Ba, ma, da, ka)) ((sb, Ab, nb, cb, lb), (zb, Bb, mb, db, kb)) = if o then (if 0 < rv ((sb, Ab, nb, cb, lb), (zb, Bb, mb, db, kb)) then 0 else 8) else 1) := Lib.hid (by unfold chkBm; rw [ho])
  go_enter Try.func12, Try.ntmps12
  go_wp2_with fail
  refine (argand_may_any sa Aa na ca la za Ba ma da ka sb Ab nb cb lb zb Bb mb db kb _ ha0 hb0).mono ?_
  rintro e1 w1 ⟨rfl, hb1⟩
  rw [ho]
  have K1 := K0.next hb1
  have hb2 := LmE.at_.below hb0 hb1
  obtain ⟨q0, q1, q2, q3, q4, q5, q6, q7⟩ := (K1.blk (g := w.heap.size) (vs := [.bool sa, .slice Aa na ca, .bool za, .slice Ba ma da, .bool sb, .slice Ab nb cb, .bool zb, .slice Bb mb db]) (by simp)).c8
  cases o with
  | false =>
    go_wp2_with fail
    go_ret
    exact ⟨by rw [HC.out]; rfl, K1.1⟩
  | true =>
    have hbb : okB ((sb, Ab, nb, cb, lb), (zb, Bb, mb, db, kb)) = true := (Bool.and_eq_true _ _ ▸ ho).2
    obtain ⟨i1, i2, _⟩ := ok_ints hbb hb2
    obtain ⟨g1, g2⟩ := rat_num_sign (rv ((sb, Ab, nb, cb, lb), (zb, Bb, mb, db, kb)))
    obtain ⟨xb, hxb⟩ : ∃ xb, rv ((sb, Ab, nb, cb, lb), (zb, Bb, mb, db, kb)) = xb := ⟨_, rfl⟩
    rw [hxb] at i1 i2 g1 g2 HC
    have I1 := Lib.hid i1
    have I2 := Lib.hid i2
    clear i1 i2 hb1 K0 ha0 hb0 hb2 ho hbb
    go_wp2_with fail
    by_cases hp : 0 < xb
    · refine (rat_sign_any sb zb Ab Bb nb cb mb db xb 1 _ I1.out I2.out (Lib.hid (g1 hp))).mono ?_
      rintro e2 w2 ⟨rfl, hb3⟩
      go_wp2_with fail
      go_ret
      exact ⟨by rw [HC.out, if_pos (by trivial), if_pos hp]; rfl, (K1.next hb3).1⟩
    · rcases g2 hp with g | g
      · refine (rat_sign_any sb zb Ab Bb nb cb mb db xb 0 _ I1.out I2.out (Lib.hid g)).mono ?_
        rintro e2 w2 ⟨rfl, hb3⟩
        go_wp2_with fail
        go_ret
        exact ⟨by rw [HC.out, if_pos (by trivial), if_neg hp]; rfl, (K1.next hb3).1⟩
      · refine (rat_sign_any sb zb Ab Bb nb cb mb db xb (-1) _ I1.out I2.out (Lib.hid g)).mono ?_
        rintro e2 w2 ⟨rfl, hb3⟩
        go_wp2_with fail
        go_ret
        exact ⟨by rw [HC.out, if_pos (by trivial), if_neg hp]; rfl, (K1.next hb3).1⟩

set_option maxRecDepth 100000 in
set_option maxHeartbeats 6400000 in
theorem row_may_any (sa : Bool) (Aa : Option Addr) (na ca : Nat) (la : List Nat) (za : Bool) (Ba : Option Addr) (ma da : Nat) (ka : List Nat) (sb : Bool) (Ab : Option Addr) (nb cb : Nat) (lb : List Nat) (zb : Bool) (Bb : Option Addr) (mb db : Nat) (kb : List Nat) (sc : Bool) (Ac : Option Addr) (nc cc : Nat) (lc : List Nat) (zc : Bool) (Bc : Option Addr) (mc dc : Nat) (kc : List Nat) (sd : Bool) (Ad : Option Addr) (nd cd : Nat) (ld : List Nat) (zd : Bool) (Bd : Option Addr) (md dd : Nat) (kd : List Nat) (w : World) (ha : LmE.at_ w ((sa, Aa, na, ca, la), (za, Ba, ma, da, ka))) (hb : LmE.at_ w ((sb, Ab, nb, cb, lb), (zb, Bb, mb, db, kb))) (hc : LmE.at_ w ((sc, Ac, nc, cc, lc), (zc, Bc, mc, dc, kc))) (hd : LmE.at_ w ((sd, Ad, nd, cd, ld), (zd, Bd, md, dd, kd))) :
    Calls Try.prog 26 #[.agg #[.bool sa, .slice Aa na ca, .bool za, .slice Ba ma da, .bool sb, .slice Ab nb cb, .bool zb, .slice Bb mb db, .bool sc, .slice Ac nc cc, .bool zc, .slice Bc mc dc, .bool sd, .slice Ad nd cd, .bool zd, .slice Bd md dd]] w (RetV w (.bool (okM ((sa, Aa, na, ca, la), (za, Ba, ma, da, ka)) ((sb, Ab, nb, cb, lb), (zb, Bb, mb, db, kb)) ((sc, Ac, nc, cc, lc), (zc, Bc, mc, dc, kc)) ((sd, Ad, nd, cd, ld), (zd, Bd, md, dd, kd))))) := by
  have K0 := (Mm.nil w).var (g := w.heap.size) rfl [.bool sa, .slice Aa na ca, .bool za, .slice Ba ma da, .bool sb, .slice Ab nb cb, .bool zb, .slice Bb mb db, .bool sc, .slice Ac nc cc, .bool zc, .slice Bc mc dc, .bool sd, .slice Ad nd cd, .bool zd, .slice Bd md dd] 28
  have ha0 := LmE.at_.below ha K0.1
  have hb0 := LmE.at_.below hb K0.1
  have hc0 := LmE.at_.below hc K0.1
  have hd0 := LmE.at_.below hd K0.1
  have K1 := K0.box (.cells #[.bool sa, .slice Aa na ca, .bool za, .slice Ba ma da, .bool sb, .slice Ab nb cb, .bool zb, .slice Bb mb db, .bool sc, .slice Ac nc cc, .bool zc, .slice Bc mc dc, .bool sd, .slice Ad nd cd, .bool zd, .slice Bd md dd] 26)
  have hL : Lfs ((w.alloc (.cells #[.bool sa, .slice Aa na ca, .bool za, .slice Ba ma da, .bool sb, .slice Ab nb cb, .bool zb, .slice Bb mb db, .bool sc, .slice Ac nc cc, .bool zc, .slice Bc mc dc, .bool sd, .slice Ad nd cd, .bool zd, .slice Bd md dd] 28)).alloc (.cells #[.bool sa, .slice Aa na ca, .bool za, .slice Ba ma da, .bool sb, .slice Ab nb cb, .bool zb, .slice Bb mb db, .bool sc, .slice Ac nc cc, .bool zc, .slice Bc mc dc, .bool sd, .slice Ad nd cd, .bool zd, .slice Bd md dd] 26)) (w.heap.size + 1) 4 (four ((sa, Aa, na, ca, la), (za, Ba, ma, da, ka)) ((sb, Ab, nb, cb, lb), (zb, Bb, mb, db, kb)) ((sc, Ac, nc, cc, lc), (zc, Bc, mc, dc, kc)) ((sd, Ad, nd, cd, ld), (zd, Bd, md, dd, kd))) := lfs_four _ (by simp) _ ha0 hb0 hc0 hd0
  have HL := Lib.hid hL
  obtain ⟨o, ho⟩ : ∃ o, (okB ((sa, Aa, na, ca, la), (za, Ba, ma, da, ka)) && okB ((sb, Ab, nb, cb, lb), (zb, Bb, mb, db, kb)) && okB ((sc, Ac, nc, cc, lc), (zc, Bc, mc, dc, kc)) && okB ((sd, Ad, nd, cd, ld), (zd, Bd, md, dd, kd))) = o := ⟨_, rfl⟩
  have HO := Lib.hid ((okAll_four ((sa, Aa, na, ca, la), (za, Ba, ma, da, ka)) ((sb, Ab, nb, cb, lb), (zb, Bb, mb, db, kb)) ((sc, Ac, nc, cc, lc), (zc, Bc, mc, dc, kc)) ((sd, Ad, nd, cd, ld), (zd, Bd, md, dd, kd))).trans ho)
  have HM : Hid (okM ((sa, Aa, na, ca, la), (za, Ba, ma, da, ka)) ((sb, Ab, nb, cb, lb), (zb, Bb, mb, db, kb)) ((sc, Ac, nc, cc, lc), (zc, Bc, mc, dc, kc)) ((sd, Ad, nd, cd, ld), (zd, Bd, md, dd, kd)) = (o && decide (rv ((sa, Aa, na, ca, la), (za, Ba, ma, da, ka)) * rv ((sd, Ad, nd, cd, ld), (zd, Bd, md, dd, kd)) - rv ((sb, Ab, nb, cb, lb), (zb, Bb, mb, db, kb)) * rv ((sc, Ac, nc, cc, lc), (zc, Bc, mc, dc, kc)) = 1))) := Lib.hid (by unfold okM; rw [ho])
  have ha1 := LmE.at_.below ha K1.1
  have hb1 := LmE.at_.below hb K1.1
  have hc1 := LmE.at_.below hc K1.1
  have hd1 := LmE.at_.below hd K1.1
  clear ha hb hc hd hL K0 ha0 hb0 hc0 hd0
  go_enter Try.func26, Try.ntmps26
  go_wp2_with fail
  refine (rat_checks_any (w.heap.size + 1) 4 4 (four ((sa, Aa, na, ca, la), (za, Ba, ma, da, ka)) ((sb, Ab, nb, cb, lb), (zb, Bb, mb, db, kb)) ((sc, Ac, nc, cc, lc), (zc, Bc, mc, dc, kc)) ((sd, Ad, nd, cd, ld), (zd, Bd, md, dd, kd))) _ HL.out (by decide) (by decide)).mono ?_
  rintro e1 w1 ⟨rfl, hbw⟩
  rw [HO.out]
  clear HO HL
  have K2 := K1.next hbw
  have ha2 := LmE.at_.below ha1 hbw
  have hb2 := LmE.at_.below hb1 hbw
  have hc2 := LmE.at_.below hc1 hbw
  have hd2 := LmE.at_.below hd1 hbw
  clear ha1 hb1 hc1 hd1 K1 hbw
  obtain ⟨q0, q1, q2, q3, q4, q5, q6, q7, q8, q9, q10, q11, q12, q13, q14, q15⟩ := (K2.blk (g := w.heap.size) (vs := [.bool sa, .slice Aa na ca, .bool za, .slice Ba ma da, .bool sb, .slice Ab nb cb, .bool zb, .slice Bb mb db, .bool sc, .slice Ac nc cc, .bool zc, .slice Bc mc dc, .bool sd, .slice Ad nd cd, .bool zd, .slice Bd md dd]) (by simp)).c16
  cases o with
  | false =>
    go_wp2_with fail
    go_ret
    exact ⟨by rw [HM.out]; rfl, K2.1⟩
  | true =>
    simp only [Bool.and_eq_true] at ho
    obtain ⟨⟨⟨oa, ob⟩, oc⟩, od⟩ := ho
    obtain ⟨ia, ja, ya⟩ := ok_ints oa ha2
    obtain ⟨ib, jb, yb⟩ := ok_ints ob hb2
    obtain ⟨ic, jc, yc⟩ := ok_ints oc hc2
    obtain ⟨id, jd, yd⟩ := ok_ints od hd2
    obtain ⟨xa, hxa⟩ : ∃ x, rv ((sa, Aa, na, ca, la), (za, Ba, ma, da, ka)) = x := ⟨_, rfl⟩
    obtain ⟨xb, hxb⟩ : ∃ x, rv ((sb, Ab, nb, cb, lb), (zb, Bb, mb, db, kb)) = x := ⟨_, rfl⟩
    obtain ⟨xc, hxc⟩ : ∃ x, rv ((sc, Ac, nc, cc, lc), (zc, Bc, mc, dc, kc)) = x := ⟨_, rfl⟩
    obtain ⟨xd, hxd⟩ : ∃ x, rv ((sd, Ad, nd, cd, ld), (zd, Bd, md, dd, kd)) = x := ⟨_, rfl⟩
    rw [hxa] at ia ja ya
    rw [hxb] at ib jb yb
    rw [hxc] at ic jc yc
    rw [hxd] at id jd yd
    rw [hxa, hxb, hxc, hxd] at HM
    have HSZ : Hid (Sz (xa * xd - xb * xc) 8193) := Lib.hid ((Sz.sub (Sz.mul ya yd) (Sz.mul yb yc)).mono (by omega))
    have K3 := ((((((((K2.int ia).int ja).int ib).int jb).int ic).int jc).int id).int jd)
    have YA := Lib.hid ya
    have YB := Lib.hid yb
    have YC := Lib.hid yc
    have YD := Lib.hid yd
    clear ia ja ib jb ic jc id jd ya yb yc yd oa ob oc od hxa hxb hxc hxd ha2 hb2 hc2 hd2 K2
    go_wp2_with fail
    refine (row_det_any sa za Aa Ba na ca ma da xa sb zb Ab Bb nb cb mb db xb sc zc Ac Bc nc cc mc dc xc sd zd Ad Bd nd cd md dd xd 2048 _ (K3.at_ (by simp)) (K3.at_ (by simp)) YA.out (K3.at_ (by simp)) (K3.at_ (by simp)) YB.out (K3.at_ (by simp)) (K3.at_ (by simp)) YC.out (K3.at_ (by simp)) (K3.at_ (by simp)) YD.out (by decide)).mono ?_
    rintro e4 w4 ⟨neg4, A4, n4, c4, ne4, B4, m4, d4, rfl, I4, J4, hb4⟩
    have K4 := ((K3.next hb4).int J4).int I4
    clear I4 J4 hb4 K3
    go_wp2_with fail
    refine (rat_one_any _).mono ?_
    rintro e5 w5 ⟨neg5, A5, n5, c5, ne5, B5, m5, d5, rfl, I5, J5, hb5⟩
    have K5 := ((K4.next hb5).int J5).int I5
    clear I5 J5 hb5 K4
    go_wp2_with fail
    obtain ⟨v, hv⟩ : ∃ v, rcmp (xa * xd - xb * xc) 1 = v := ⟨_, rfl⟩
    have hvb : (v == 0) = decide (xa * xd - xb * xc = 1) := by rw [← hv]; exact rcmp_eq _ _
    have HV := Lib.hid hv
    clear hv
    refine (rat_cmp_any neg4 ne4 A4 B4 n4 c4 m4 d4 neg5 ne5 A5 B5 n5 c5 m5 d5 (xa * xd - xb * xc) 1 v 8193 1 _ (K5.at_ (by simp)) (K5.at_ (by simp)) (K5.at_ (by simp)) (K5.at_ (by simp)) HSZ.out Sz.one (by decide) HV).mono ?_
    rintro e6 w6 ⟨rfl, hb6⟩
    go_wp2_with fail
    go_ret
    exact ⟨by rw [HM.out, Bool.true_and, ← hvb]; rfl, (K5.next hb6).1⟩
end Go.Proofs.Ytdmdaoginojalaa
