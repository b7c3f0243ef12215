/-
  May a complex number, a beam, a matrix be? (argand.May, beam.Check, row.May)
  Answers that are short enough (ratio.Long, Answer, argand.Answer, beam.answered).
  A complex number that is too long (argand.Answer, beam.answered).
-/
import Derived.Test.YtgekmbfmfiikkaaGreatDoorAnD
import Derived.Test.YtgekmbfmfiikkaaGreatDoorRaN
import Derived.Test.YtgekmbfmfiikkaaGreatDoorOwH
import Derived.Test.YtgekmbfmfiikkaaGreatDoorExX
set_option maxHeartbeats 6400000
set_option maxRecDepth 100000
namespace Go.Proofs.YtgekmbfmfiikkaaGreatDoor
open Go.RowKit
theorem argand_may_any (sa : Bool) (Aa : Option Addr) (na ca : Nat) (la : List Nat) (za : Bool) (Ba : Option Addr) (ma da : Nat) (ka : List Nat) (sb : Bool) (Ab : Option Addr) (nb cb : Nat) (lb : List Nat) (zb : Bool) (Bb : Option Addr) (mb db : Nat) (kb : List Nat) (w : World) (ha : LmE.at_ w ((sa, Aa, na, ca, la), (za, Ba, ma, da, ka))) (hb : LmE.at_ w ((sb, Ab, nb, cb, lb), (zb, Bb, mb, db, kb))) :
  Calls Tryz.prog 55 #[.agg #[.bool sa, .slice Aa na ca, .bool za, .slice Ba ma da, .bool sb, .slice Ab nb cb, .bool zb, .slice Bb mb db]] w (RetV w (.bool (okB ((sa, Aa, na, ca, la), (za, Ba, ma, da, ka)) && okB ((sb, Ab, nb, cb, lb), (zb, Bb, mb, db, kb))))) := by
 have hb0 : Below w.heap.size w (w.alloc (.cells #[.bool sa, .slice Aa na ca, .bool za, .slice Ba ma da, .bool sb, .slice Ab nb cb, .bool zb, .slice Bb mb db] 30)) := (Below.refl _ _).alloc (Nat.le_refl _) _
 have hL : Lfs ((w.alloc (.cells #[.bool sa, .slice Aa na ca, .bool za, .slice Ba ma da, .bool sb, .slice Ab nb cb, .bool zb, .slice Bb mb db] 30)).alloc (.cells #[.bool sa, .slice Aa na ca, .bool za, .slice Ba ma da, .bool sb, .slice Ab nb cb, .bool zb, .slice Bb mb db] 26)) (w.heap.size + 1) 2 (two ((sa, Aa, na, ca, la), (za, Ba, ma, da, ka)) ((sb, Ab, nb, cb, lb), (zb, Bb, mb, db, kb))) := lfs_two _ (by simp) _ (LmE.at_.below ha hb0) (LmE.at_.below hb hb0)
 have HL := Lib.hid hL
 have HO := Lib.hid (okAll_two ((sa, Aa, na, ca, la), (za, Ba, ma, da, ka)) ((sb, Ab, nb, cb, lb), (zb, Bb, mb, db, kb)))
 clear ha hb hL
 go_enter Tryz.func55, Tryz.ntmps55
 go_wp2_with fail
 refine (rat_checks_any (w.heap.size + 1) 2 2 (two ((sa, Aa, na, ca, la), (za, Ba, ma, da, ka)) ((sb, Ab, nb, cb, lb), (zb, Bb, mb, db, kb))) _ HL.out (by decide) (by decide)).mono ?_
 rintro e1 w1 ⟨rfl, hb1⟩
 rw [HO.out]
 go_wp2_with fail
 go_ret
 exact ⟨rfl, below_box2 hb1⟩
theorem beam_check_any (sa : Bool) (Aa : Option Addr) (na ca : Nat) (la : List Nat) (za : Bool) (Ba : Option Addr) (ma da : Nat) (ka : List Nat) (sb : Bool) (Ab : Option Addr) (nb cb : Nat) (lb : List Nat) (zb : Bool) (Bb : Option Addr) (mb db : Nat) (kb : List Nat) (w : World) (ha : LmE.at_ w ((sa, Aa, na, ca, la), (za, Ba, ma, da, ka))) (hb : LmE.at_ w ((sb, Ab, nb, cb, lb), (zb, Bb, mb, db, kb))) :
  Calls Tryz.prog 16 #[.agg #[.bool sa, .slice Aa na ca, .bool za, .slice Ba ma da, .bool sb, .slice Ab nb cb, .bool zb, .slice Bb mb db]] w (RetV w (.int .i64 (chkBm ((sa, Aa, na, ca, la), (za, Ba, ma, da, ka)) ((sb, Ab, nb, cb, lb), (zb, Bb, mb, db, kb))))) := by
 have K0 := (Mm.nil w).var (g := w.heap.size) rfl [.bool sa, .slice Aa na ca, .bool za, .slice Ba ma da, .bool sb, .slice Ab nb cb, .bool zb, .slice Bb mb db] 30
 have ha0 := LmE.at_.below ha K0.1
 have hb0 := LmE.at_.below hb K0.1
 clear ha hb
 obtain ⟨o, ho⟩ : ∃ o, (okB ((sa, Aa, na, ca, la), (za, Ba, ma, da, ka)) && okB ((sb, Ab, nb, cb, lb), (zb, Bb, mb, db, kb))) = o := ⟨_, rfl⟩
 have HC : Hid (chkBm ((sa, Aa, na, ca, la), (za, Ba, ma, da, ka)) ((sb, Ab, nb, cb, lb), (zb, Bb, mb, db, kb)) = if o then (if 0 < rv ((sb, Ab, nb, cb, lb), (zb, Bb, mb, db, kb)) then 0 else 8) else 1) := Lib.hid (by unfold chkBm; rw [ho])
 go_enter Tryz.func16, Tryz.ntmps16
 go_wp2_with fail
 refine (argand_may_any sa Aa na ca la za Ba ma da ka sb Ab nb cb lb zb Bb mb db kb _ ha0 hb0).mono ?_
 rintro e1 w1 ⟨rfl, hb1⟩
 rw [ho]
 have K1 := K0.next hb1
 have hb2 := LmE.at_.below hb0 hb1
 obtain ⟨_, _, _, _, _, _, _, _⟩ := (K1.blk (g := w.heap.size) (by repeat constructor)).c8
 cases o with
 | false =>
  go_wp2_with fail
  go_ret
  exact ⟨by rw [HC.out]; rfl, K1.1⟩
 | true =>
  have hbb : okB ((sb, Ab, nb, cb, lb), (zb, Bb, mb, db, kb)) = true := (Bool.and_eq_true _ _ ▸ ho).2
  obtain ⟨i1, i2, _⟩ := ok_ints hbb hb2
  obtain ⟨g1, g2⟩ := rat_num_sign (rv ((sb, Ab, nb, cb, lb), (zb, Bb, mb, db, kb)))
  obtain ⟨xb, hxb⟩ : ∃ xb, rv ((sb, Ab, nb, cb, lb), (zb, Bb, mb, db, kb)) = xb := ⟨_, rfl⟩
  rw [hxb] at i1 i2 g1 g2 HC
  have I1 := Lib.hid i1
  have I2 := Lib.hid i2
  clear i1 i2 hb1 K0 ha0 hb0 hb2 ho hbb
  go_wp2_with fail
  by_cases hp : 0 < xb
  ·refine (rat_sign_any sb zb Ab Bb nb cb mb db xb 1 _ I1.out I2.out (Lib.hid (g1 hp))).mono ?_
   rintro e2 w2 ⟨rfl, hb3⟩
   go_wp2_with fail
   go_ret
   exact ⟨by rw [HC.out, if_pos (by trivial), if_pos hp]; rfl, (K1.next hb3).1⟩
  ·rcases g2 hp with g | g
   ·refine (rat_sign_any sb zb Ab Bb nb cb mb db xb 0 _ I1.out I2.out (Lib.hid g)).mono ?_
    rintro e2 w2 ⟨rfl, hb3⟩
    go_wp2_with fail
    go_ret
    exact ⟨by rw [HC.out, if_pos (by trivial), if_neg hp]; rfl, (K1.next hb3).1⟩
   ·refine (rat_sign_any sb zb Ab Bb nb cb mb db xb (-1) _ I1.out I2.out (Lib.hid g)).mono ?_
    rintro e2 w2 ⟨rfl, hb3⟩
    go_wp2_with fail
    go_ret
    exact ⟨by rw [HC.out, if_pos (by trivial), if_neg hp]; rfl, (K1.next hb3).1⟩
theorem row_may_any (sa : Bool) (Aa : Option Addr) (na ca : Nat) (la : List Nat) (za : Bool) (Ba : Option Addr) (ma da : Nat) (ka : List Nat) (sb : Bool) (Ab : Option Addr) (nb cb : Nat) (lb : List Nat) (zb : Bool) (Bb : Option Addr) (mb db : Nat) (kb : List Nat) (sc : Bool) (Ac : Option Addr) (nc cc : Nat) (lc : List Nat) (zc : Bool) (Bc : Option Addr) (mc dc : Nat) (kc : List Nat) (sd : Bool) (Ad : Option Addr) (nd cd : Nat) (ld : List Nat) (zd : Bool) (Bd : Option Addr) (md dd : Nat) (kd : List Nat) (w : World) (ha : LmE.at_ w ((sa, Aa, na, ca, la), (za, Ba, ma, da, ka))) (hb : LmE.at_ w ((sb, Ab, nb, cb, lb), (zb, Bb, mb, db, kb))) (hc : LmE.at_ w ((sc, Ac, nc, cc, lc), (zc, Bc, mc, dc, kc))) (hd : LmE.at_ w ((sd, Ad, nd, cd, ld), (zd, Bd, md, dd, kd))) :
  Calls Tryz.prog 49 #[.agg #[.bool sa, .slice Aa na ca, .bool za, .slice Ba ma da, .bool sb, .slice Ab nb cb, .bool zb, .slice Bb mb db, .bool sc, .slice Ac nc cc, .bool zc, .slice Bc mc dc, .bool sd, .slice Ad nd cd, .bool zd, .slice Bd md dd]] w (RetV w (.bool (okM ((sa, Aa, na, ca, la), (za, Ba, ma, da, ka)) ((sb, Ab, nb, cb, lb), (zb, Bb, mb, db, kb)) ((sc, Ac, nc, cc, lc), (zc, Bc, mc, dc, kc)) ((sd, Ad, nd, cd, ld), (zd, Bd, md, dd, kd))))) := by
 have K0 := (Mm.nil w).var (g := w.heap.size) rfl [.bool sa, .slice Aa na ca, .bool za, .slice Ba ma da, .bool sb, .slice Ab nb cb, .bool zb, .slice Bb mb db, .bool sc, .slice Ac nc cc, .bool zc, .slice Bc mc dc, .bool sd, .slice Ad nd cd, .bool zd, .slice Bd md dd] 28
 have ha0 := LmE.at_.below ha K0.1
 have hb0 := LmE.at_.below hb K0.1
 have hc0 := LmE.at_.below hc K0.1
 have hd0 := LmE.at_.below hd K0.1
 have K1 := K0.box (.cells #[.bool sa, .slice Aa na ca, .bool za, .slice Ba ma da, .bool sb, .slice Ab nb cb, .bool zb, .slice Bb mb db, .bool sc, .slice Ac nc cc, .bool zc, .slice Bc mc dc, .bool sd, .slice Ad nd cd, .bool zd, .slice Bd md dd] 26)
 have hL : Lfs ((w.alloc (.cells #[.bool sa, .slice Aa na ca, .bool za, .slice Ba ma da, .bool sb, .slice Ab nb cb, .bool zb, .slice Bb mb db, .bool sc, .slice Ac nc cc, .bool zc, .slice Bc mc dc, .bool sd, .slice Ad nd cd, .bool zd, .slice Bd md dd] 28)).alloc (.cells #[.bool sa, .slice Aa na ca, .bool za, .slice Ba ma da, .bool sb, .slice Ab nb cb, .bool zb, .slice Bb mb db, .bool sc, .slice Ac nc cc, .bool zc, .slice Bc mc dc, .bool sd, .slice Ad nd cd, .bool zd, .slice Bd md dd] 26)) (w.heap.size + 1) 4 (four ((sa, Aa, na, ca, la), (za, Ba, ma, da, ka)) ((sb, Ab, nb, cb, lb), (zb, Bb, mb, db, kb)) ((sc, Ac, nc, cc, lc), (zc, Bc, mc, dc, kc)) ((sd, Ad, nd, cd, ld), (zd, Bd, md, dd, kd))) := lfs_four _ (by simp) _ ha0 hb0 hc0 hd0
 have HL := Lib.hid hL
 obtain ⟨o, ho⟩ : ∃ o, (okB ((sa, Aa, na, ca, la), (za, Ba, ma, da, ka)) && okB ((sb, Ab, nb, cb, lb), (zb, Bb, mb, db, kb)) && okB ((sc, Ac, nc, cc, lc), (zc, Bc, mc, dc, kc)) && okB ((sd, Ad, nd, cd, ld), (zd, Bd, md, dd, kd))) = o := ⟨_, rfl⟩
 have HO := Lib.hid ((okAll_four ((sa, Aa, na, ca, la), (za, Ba, ma, da, ka)) ((sb, Ab, nb, cb, lb), (zb, Bb, mb, db, kb)) ((sc, Ac, nc, cc, lc), (zc, Bc, mc, dc, kc)) ((sd, Ad, nd, cd, ld), (zd, Bd, md, dd, kd))).trans ho)
 have HM : Hid (okM ((sa, Aa, na, ca, la), (za, Ba, ma, da, ka)) ((sb, Ab, nb, cb, lb), (zb, Bb, mb, db, kb)) ((sc, Ac, nc, cc, lc), (zc, Bc, mc, dc, kc)) ((sd, Ad, nd, cd, ld), (zd, Bd, md, dd, kd)) = (o && decide (rv ((sa, Aa, na, ca, la), (za, Ba, ma, da, ka)) * rv ((sd, Ad, nd, cd, ld), (zd, Bd, md, dd, kd)) - rv ((sb, Ab, nb, cb, lb), (zb, Bb, mb, db, kb)) * rv ((sc, Ac, nc, cc, lc), (zc, Bc, mc, dc, kc)) = 1))) := Lib.hid (by unfold okM; rw [ho])
 have ha1 := LmE.at_.below ha K1.1
 have hb1 := LmE.at_.below hb K1.1
 have hc1 := LmE.at_.below hc K1.1
 have hd1 := LmE.at_.below hd K1.1
 clear ha hb hc hd hL K0 ha0 hb0 hc0 hd0
 go_enter Tryz.func49, Tryz.ntmps49
 go_wp2_with fail
 refine (rat_checks_any (w.heap.size + 1) 4 4 (four ((sa, Aa, na, ca, la), (za, Ba, ma, da, ka)) ((sb, Ab, nb, cb, lb), (zb, Bb, mb, db, kb)) ((sc, Ac, nc, cc, lc), (zc, Bc, mc, dc, kc)) ((sd, Ad, nd, cd, ld), (zd, Bd, md, dd, kd))) _ HL.out (by decide) (by decide)).mono ?_
 rintro e1 w1 ⟨rfl, hbw⟩
 rw [HO.out]
 clear HO HL
 have K2 := K1.next hbw
 have ha2 := LmE.at_.below ha1 hbw
 have hb2 := LmE.at_.below hb1 hbw
 have hc2 := LmE.at_.below hc1 hbw
 have hd2 := LmE.at_.below hd1 hbw
 clear ha1 hb1 hc1 hd1 K1 hbw
 obtain ⟨_, _, _, _, _, _, _, _, _, _, _, _, _, _, _, _⟩ := (K2.blk (g := w.heap.size) (by repeat constructor)).c16
 cases o with
 | false =>
  go_wp2_with fail
  go_ret
  exact ⟨by rw [HM.out]; rfl, K2.1⟩
 | true =>
  simp only [Bool.and_eq_true] at ho
  obtain ⟨⟨⟨oa, ob⟩, oc⟩, od⟩ := ho
  obtain ⟨ia, ja, ya⟩ := ok_ints oa ha2
  obtain ⟨ib, jb, yb⟩ := ok_ints ob hb2
  obtain ⟨ic, jc, yc⟩ := ok_ints oc hc2
  obtain ⟨id, jd, yd⟩ := ok_ints od hd2
  obtain ⟨xa, hxa⟩ : ∃ x, rv ((sa, Aa, na, ca, la), (za, Ba, ma, da, ka)) = x := ⟨_, rfl⟩
  obtain ⟨xb, hxb⟩ : ∃ x, rv ((sb, Ab, nb, cb, lb), (zb, Bb, mb, db, kb)) = x := ⟨_, rfl⟩
  obtain ⟨xc, hxc⟩ : ∃ x, rv ((sc, Ac, nc, cc, lc), (zc, Bc, mc, dc, kc)) = x := ⟨_, rfl⟩
  obtain ⟨xd, hxd⟩ : ∃ x, rv ((sd, Ad, nd, cd, ld), (zd, Bd, md, dd, kd)) = x := ⟨_, rfl⟩
  rw [hxa] at ia ja ya
  rw [hxb] at ib jb yb
  rw [hxc] at ic jc yc
  rw [hxd] at id jd yd
  rw [hxa, hxb, hxc, hxd] at HM
  have HSZ : Hid (Sz (xa * xd - xb * xc) 8193) := Lib.hid ((Sz.sub (Sz.mul ya yd) (Sz.mul yb yc)).mono (by omega))
  have K3 := ((((((((K2.int ia).int ja).int ib).int jb).int ic).int jc).int id).int jd)
  have YA := Lib.hid ya
  have YB := Lib.hid yb
  have YC := Lib.hid yc
  have YD := Lib.hid yd
  clear ia ja ib jb ic jc id jd ya yb yc yd oa ob oc od hxa hxb hxc hxd ha2 hb2 hc2 hd2 K2
  go_wp2_with fail
  refine (row_det_any sa za Aa Ba na ca ma da xa sb zb Ab Bb nb cb mb db xb sc zc Ac Bc nc cc mc dc xc sd zd Ad Bd nd cd md dd xd 2048 _ (K3.at_ (by simp)) (K3.at_ (by simp)) YA.out (K3.at_ (by simp)) (K3.at_ (by simp)) YB.out (K3.at_ (by simp)) (K3.at_ (by simp)) YC.out (K3.at_ (by simp)) (K3.at_ (by simp)) YD.out (by decide)).mono ?_
  rintro e4 w4 ⟨neg4, A4, n4, c4, ne4, B4, m4, d4, rfl, I4, J4, hb4⟩
  have K4 := ((K3.next hb4).int J4).int I4
  clear I4 J4 hb4 K3
  go_wp2_with fail
  refine (rat_one_any _).mono ?_
  rintro e5 w5 ⟨neg5, A5, n5, c5, ne5, B5, m5, d5, rfl, I5, J5, hb5⟩
  have K5 := ((K4.next hb5).int J5).int I5
  clear I5 J5 hb5 K4
  go_wp2_with fail
  obtain ⟨v, hv⟩ : ∃ v, rcmp (xa * xd - xb * xc) 1 = v := ⟨_, rfl⟩
  have hvb : (v == 0) = decide (xa * xd - xb * xc = 1) := by rw [← hv]; exact rcmp_eq _ _
  have HV := Lib.hid hv
  clear hv
  refine (rat_cmp_any neg4 ne4 A4 B4 n4 c4 m4 d4 neg5 ne5 A5 B5 n5 c5 m5 d5 (xa * xd - xb * xc) 1 v 8193 1 _ (K5.at_ (by simp)) (K5.at_ (by simp)) (K5.at_ (by simp)) (K5.at_ (by simp)) HSZ.out Sz.one (by decide) HV).mono ?_
  rintro e6 w6 ⟨rfl, hb6⟩
  go_wp2_with fail
  go_ret
  exact ⟨by rw [HM.out, Bool.true_and, ← hvb]; rfl, (K5.next hb6).1⟩
end Go.Proofs.YtgekmbfmfiikkaaGreatDoor
namespace Go.Proofs.YtgekmbfmfiikkaaGreatDoor
open Go.RowKit
def Short (F : Nat → LmE) (N : Nat) : Prop := ∀ i, i < N → (F i).1.2.2.1 ≤ 2048 ∧ (F i).2.2.2.1 ≤ 2048
theorem rat_long_all (g N c : Nat) (F : Nat → LmE) (w : World) (hL : Lfs w g N F) (hN : N ≤ 1000) (_hc : N ≤ c) (hs : Short F N) :
  Calls Tryz.prog 114 #[.slice (some ⟨g, 0, none⟩) N c] w (RetV w (.bool false)) := by
 have HS := Lib.hid hs
 clear hs
 go_enter Tryz.func114, Tryz.ntmps114
 go_wp2_with fail
 go_loopw [7] (fun i wr => ∃ k : Nat, k ≤ N ∧ i = .int .i64 (k : Int) ∧ Below w.heap.size w wr) (fun i _ => N - (intOf i).toNat)
 case atStart => exact ⟨0, Nat.zero_le _, rfl, Below.refl _ _⟩
 case round =>
  obtain ⟨k, hk, rfl, hb⟩ := hrel
  by_cases hlt : k < N
  ·obtain ⟨hg1, hall⟩ := hL.next hb
   obtain ⟨⟨a0, a1, a2, a3⟩, _⟩ := hall k hlt
   obtain ⟨hn, hn'⟩ := HS.out k hlt
   obtain ⟨f, hf⟩ : ∃ f, F k = f := ⟨_, rfl⟩
   rw [hf] at a0 a1 a2 a3 hn hn'
   obtain ⟨⟨neg, A, n, c1, l⟩, neg', A', n', c1', l'⟩ := f
   simp only at a0 a1 a2 a3 hn hn'
   have hlt' : (k : Int) < (N : Int) := by omega
   have hk0 : (0 : Int) ≤ (k : Int) := Int.natCast_nonneg _
   have HLT := Lib.hid hlt
   have hsz := hb.size
   clear hall hf hlt
   have K0 := (Mm.nil wr).var (g := wr.heap.size) rfl [.bool neg, .slice A n c1, .bool neg', .slice A' n' c1'] 26
   go_upto_region 4 with (fail)
   generalize wr.alloc (.cells #[.bool neg, .slice A n c1, .bool neg', .slice A' n' c1'] 26) = w0 at K0 ⊢
   obtain ⟨⟨qa0, qb0, qc0, qd0⟩, _, _⟩ := (K0.blk (g := wr.heap.size) (by repeat constructor)).four
   go_wp2_with fail
   refine (ex_long_no w0.heap.size neg A n c1 _ (by simp) (by simp [go_sem]) (by simp [go_sem]) hn).mono ?_
   rintro e1 w1 ⟨rfl, hb1⟩
   have K1 := K0.next (below_box hb1)
   obtain ⟨⟨_, _, _, _⟩, _, _⟩ := (K1.blk (g := wr.heap.size) (by repeat constructor)).four
   clear K0 hb1 qa0 qb0 qc0 qd0
   go_wp2_with fail
   refine (ex_long_no w1.heap.size neg' A' n' c1' _ (by simp) (by simp [go_sem]) (by simp [go_sem]) hn').mono ?_
   rintro e2 w2 ⟨rfl, hb2⟩
   have K2 := K1.next (below_box hb2)
   have hb3 := hb.trans (K2.1.mono hsz)
   clear K1 K2 hb2
   go_wp2_with fail
   go_roundw
   case rel => exact ⟨k + 1, HLT.out, rfl, hb3⟩
   case measure => have := HLT.out; simp [intOf]; omega
  ·obtain rfl : k = N := by omega
   have hnl : ¬ (k : Int) < (k : Int) := by omega
   go_wp2_with fail
   go_ret
   exact ⟨rfl, hb⟩
theorem arg_answer_one (g : Nat) (sa : Bool) (Aa : Option Addr) (na ca : Nat) (la : List Nat) (za : Bool) (Ba : Option Addr) (ma da : Nat) (ka : List Nat) (sb : Bool) (Ab : Option Addr) (nb cb : Nat) (lb : List Nat) (zb : Bool) (Bb : Option Addr) (mb db : Nat) (kb : List Nat) (w : World) (ha : LmE.at_ w ((sa, Aa, na, ca, la), (za, Ba, ma, da, ka))) (hb : LmE.at_ w ((sb, Ab, nb, cb, lb), (zb, Bb, mb, db, kb))) (h1 : na ≤ 2048) (h2 : ma ≤ 2048) (h3 : nb ≤ 2048) (h4 : mb ≤ 2048) (hB : Blk w g [.bool sa, .slice Aa na ca, .bool za, .slice Ba ma da, .bool sb, .slice Ab nb cb, .bool zb, .slice Bb mb db]) :
  Calls Tryz.prog 161 #[.slice (some ⟨g, 0, none⟩) 1 1] w (RetV w (.int .i64 0)) := by
 have HS : Hid (Short (two ((sa, Aa, na, ca, la), (za, Ba, ma, da, ka)) ((sb, Ab, nb, cb, lb), (zb, Bb, mb, db, kb))) 2) := Lib.hid (fun i hi => by
  match i, hi with
  | 0, _ => exact ⟨h1, h2⟩
  | 1, _ => exact ⟨h3, h4⟩)
 clear h1 h2 h3 h4
 go_enter Tryz.func161, Tryz.ntmps161
 go_wp2_with fail
 go_loopw [7] (fun i wr => ∃ k : Nat, k ≤ 1 ∧ i = .int .i64 (k : Int) ∧ Below w.heap.size w wr) (fun i _ => 1 - (intOf i).toNat)
 case atStart => exact ⟨0, Nat.zero_le _, rfl, Below.refl _ _⟩
 case round =>
  obtain ⟨k, hk, rfl, hb9⟩ := hrel
  match k, hk with
  | 0, _ =>
   have hB1 := hB.next hb9
   obtain ⟨e0, e1, e2, e3, e4, e5, e6, e7⟩ := hB1.c8
   have hsz := hb9.size
   have K0 := (Mm.nil wr).var (g := wr.heap.size) rfl [.bool sa, .slice Aa na ca, .bool za, .slice Ba ma da, .bool sb, .slice Ab nb cb, .bool zb, .slice Bb mb db] 30
   have ha0 := ha.below (hb9.trans (K0.1.mono hsz))
   have hb0 := hb.below (hb9.trans (K0.1.mono hsz))
   go_upto_region 4 with (fail)
   generalize wr.alloc (.cells #[.bool sa, .slice Aa na ca, .bool za, .slice Ba ma da, .bool sb, .slice Ab nb cb, .bool zb, .slice Bb mb db] 30) = w0 at K0 ha0 hb0 ⊢
   clear e0 e1 e2 e3 e4 e5 e6 e7
   obtain ⟨e0, e1, e2, e3, e4, e5, e6, e7⟩ := (K0.blk (g := wr.heap.size) (by repeat constructor)).c8
   have hL := Lib.hid (lfs_two w0 rfl 26 ha0 hb0)
   go_wp2_with fail
   refine (rat_long_all w0.heap.size 2 2 (two ((sa, Aa, na, ca, la), (za, Ba, ma, da, ka)) ((sb, Ab, nb, cb, lb), (zb, Bb, mb, db, kb))) _ hL.out (by decide) (by decide) HS.out).mono ?_
   rintro e9 w9 ⟨rfl, hb2⟩
   have hb3 := hb9.trans ((K0.1.trans ((below_box hb2).mono K0.1.size)).mono hsz)
   clear K0 hb2 hL ha0 hb0
   go_wp2_with fail
   refine ⟨⟨1, by decide, rfl, hb3⟩, ?_⟩
   simp [intOf]
  | 1, _ =>
   go_wp2_with fail
   go_ret
   exact ⟨rfl, hb9⟩
def RetGk (W : World) (x y : Rat) (e : Ending) (w' : World) : Prop :=
 ∃ (sa : Bool) (Aa : Option Addr) (na ca : Nat) (la : List Nat) (za : Bool) (Ba : Option Addr) (ma da : Nat) (ka : List Nat) (sb : Bool) (Ab : Option Addr) (nb cb : Nat) (lb : List Nat) (zb : Bool) (Bb : Option Addr) (mb db : Nat) (kb : List Nat), e = .returned (.tuple #[.agg #[.bool sa, .slice Aa na ca, .bool za, .slice Ba ma da, .bool sb, .slice Ab nb cb, .bool zb, .slice Bb mb db], .int .i64 0]) ∧ OkF w' ((sa, Aa, na, ca, la), (za, Ba, ma, da, ka)) x ∧ OkF w' ((sb, Ab, nb, cb, lb), (zb, Bb, mb, db, kb)) y ∧ Below W.heap.size W w'
def RetGv (W : World) (x y : Rat) (e : Ending) (w' : World) : Prop :=
 ∃ (sa : Bool) (Aa : Option Addr) (na ca : Nat) (la : List Nat) (za : Bool) (Ba : Option Addr) (ma da : Nat) (ka : List Nat) (sb : Bool) (Ab : Option Addr) (nb cb : Nat) (lb : List Nat) (zb : Bool) (Bb : Option Addr) (mb db : Nat) (kb : List Nat), e = .returned (.agg #[.bool sa, .slice Aa na ca, .bool za, .slice Ba ma da, .bool sb, .slice Ab nb cb, .bool zb, .slice Bb mb db]) ∧ OkF w' ((sa, Aa, na, ca, la), (za, Ba, ma, da, ka)) x ∧ OkF w' ((sb, Ab, nb, cb, lb), (zb, Bb, mb, db, kb)) y ∧ Below W.heap.size W w'
end Go.Proofs.YtgekmbfmfiikkaaGreatDoor
namespace Go.Proofs.YtgekmbfmfiikkaaGreatDoor
open Go.RowKit
theorem lg_two {a b : LmE} (h : (lgB a || lgB b) = true) : lgAll (two a b) 2 = true := by
 unfold lgAll lgAll lgAll
 unfold two
 simpa using h
def RetGx (W : World) (v : Int) (e : Ending) (w' : World) : Prop :=
 e = .returned (.tuple #[.agg #[.bool false, .slice none 0 0, .bool false, .slice none 0 0, .bool false, .slice none 0 0, .bool false, .slice none 0 0], .int .i64 v]) ∧ Below W.heap.size W w'
theorem lg_of {w : World} {s z : Bool} {A B : Option Addr} {n c m d : Nat} {l k : List Nat} {x : Rat} (hI : IsInt w s A n c x.num) (hJ : IsInt w z B m d (x.den : Int)) (h : ¬ Sz x 2048) : lgB ((s, A, n, c, l), (z, B, m, d, k)) = true := by
 unfold lgB
 simp only [Bool.or_eq_true, decide_eq_true_eq]
 by_cases h1 : 2048 < n
 ·exact .inl h1
 ·by_cases h2 : 2048 < m
  ·exact .inr h2
  ·exact absurd (sz_of hI hJ (by omega) (by omega)) h
theorem arg_answer_long (g : Nat) (sa : Bool) (Aa : Option Addr) (na ca : Nat) (la : List Nat) (za : Bool) (Ba : Option Addr) (ma da : Nat) (ka : List Nat) (sb : Bool) (Ab : Option Addr) (nb cb : Nat) (lb : List Nat) (zb : Bool) (Bb : Option Addr) (mb db : Nat) (kb : List Nat) (w : World) (ha : LmE.at_ w ((sa, Aa, na, ca, la), (za, Ba, ma, da, ka))) (hb : LmE.at_ w ((sb, Ab, nb, cb, lb), (zb, Bb, mb, db, kb))) (hlg : (lgB ((sa, Aa, na, ca, la), (za, Ba, ma, da, ka)) || lgB ((sb, Ab, nb, cb, lb), (zb, Bb, mb, db, kb))) = true) (hB : Blk w g [.bool sa, .slice Aa na ca, .bool za, .slice Ba ma da, .bool sb, .slice Ab nb cb, .bool zb, .slice Bb mb db]) :
  Calls Tryz.prog 161 #[.slice (some ⟨g, 0, none⟩) 1 1] w (RetV w (.int .i64 4)) := by
 have HL := Lib.hid (lg_two hlg)
 clear hlg
 go_enter Tryz.func161, Tryz.ntmps161
 go_wp2_with fail
 go_loopw [7] (fun i wr => i = .int .i64 0 ∧ Below w.heap.size w wr) (fun i _ => 1 - (intOf i).toNat)
 case atStart => exact ⟨rfl, Below.refl _ _⟩
 case round =>
  obtain ⟨rfl, hb9⟩ := hrel
  have hB1 := hB.next hb9
  obtain ⟨e0, e1, e2, e3, e4, e5, e6, e7⟩ := hB1.c8
  have hsz := hb9.size
  have K0 := (Mm.nil wr).var (g := wr.heap.size) rfl [.bool sa, .slice Aa na ca, .bool za, .slice Ba ma da, .bool sb, .slice Ab nb cb, .bool zb, .slice Bb mb db] 30
  have ha0 := ha.below (hb9.trans (K0.1.mono hsz))
  have hb0 := hb.below (hb9.trans (K0.1.mono hsz))
  go_upto_region 4 with (fail)
  generalize wr.alloc (.cells #[.bool sa, .slice Aa na ca, .bool za, .slice Ba ma da, .bool sb, .slice Ab nb cb, .bool zb, .slice Bb mb db] 30) = w0 at K0 ha0 hb0 ⊢
  clear e0 e1 e2 e3 e4 e5 e6 e7
  obtain ⟨e0, e1, e2, e3, e4, e5, e6, e7⟩ := (K0.blk (g := wr.heap.size) (by repeat constructor)).c8
  have hL := Lib.hid (lfs_two w0 rfl 26 ha0 hb0)
  go_wp2_with fail
  refine (rat_long_any w0.heap.size 2 2 (two ((sa, Aa, na, ca, la), (za, Ba, ma, da, ka)) ((sb, Ab, nb, cb, lb), (zb, Bb, mb, db, kb))) _ hL.out (by decide) (by decide)).mono ?_
  rintro e9 w9 ⟨rfl, hb2⟩
  rw [HL.out]
  have hb3 := hb9.trans ((K0.1.trans ((below_box hb2).mono K0.1.size)).mono hsz)
  clear K0 hb2 hL ha0 hb0
  go_wp2_with fail
  go_ret
  exact ⟨rfl, hb3⟩
theorem beam_answered_long (sa za : Bool) (Aa Ba : Option Addr) (na ca ma da : Nat) (xa : Rat) (sb zb : Bool) (Ab Bb : Option Addr) (nb cb mb db : Nat) (xb : Rat) (w : World) (ia : IsInt w sa Aa na ca xa.num) (ja : IsInt w za Ba ma da (xa.den : Int)) (ib : IsInt w sb Ab nb cb xb.num) (jb : IsInt w zb Bb mb db (xb.den : Int)) (hna : na ≤ 1000000 ∧ ma ≤ 1000000 ∧ nb ≤ 1000000 ∧ mb ≤ 1000000) (hl : ¬ (Sz xa 2048 ∧ Sz xb 2048)) :
  Calls Tryz.prog 50 #[.agg #[.bool sa, .slice Aa na ca, .bool za, .slice Ba ma da, .bool sb, .slice Ab nb cb, .bool zb, .slice Bb mb db]] w (RetGx w 4) := by
 obtain ⟨la, S1, c1, g1, z1⟩ := id ia
 obtain ⟨ka, S2, c2, g2, z2⟩ := id ja
 obtain ⟨lb, S3, c3, g3, z3⟩ := id ib
 obtain ⟨kb, S4, c4, g4, z4⟩ := id jb
 have oa : LmE.at_ w ((sa, Aa, na, ca, la), (za, Ba, ma, da, ka)) := ⟨S1, S2, by show na ≤ _; omega, by show ma ≤ _; omega⟩
 have ob : LmE.at_ w ((sb, Ab, nb, cb, lb), (zb, Bb, mb, db, kb)) := ⟨S3, S4, by show nb ≤ _; omega, by show mb ≤ _; omega⟩
 have HLG : Hid ((lgB ((sa, Aa, na, ca, la), (za, Ba, ma, da, ka)) || lgB ((sb, Ab, nb, cb, lb), (zb, Bb, mb, db, kb))) = true) := Lib.hid (by
  rw [Bool.or_eq_true]
  by_cases h : Sz xa 2048
  ·exact .inr (lg_of ib jb (fun k => hl ⟨h, k⟩))
  ·exact .inl (lg_of ia ja h))
 have K0 := ((Mm.nil w).var (g := w.heap.size) rfl [.bool sa, .slice Aa na ca, .bool za, .slice Ba ma da, .bool sb, .slice Ab nb cb, .bool zb, .slice Bb mb db] 30).var (g := w.heap.size + 1) (by simp) [.bool false, .slice none 0 0, .bool false, .slice none 0 0, .bool false, .slice none 0 0, .bool false, .slice none 0 0] 30
 have o1 := oa.below (K0.1.trans (((Below.refl _ _).alloc (Nat.le_refl _) (.cells #[.bool sa, .slice Aa na ca, .bool za, .slice Ba ma da, .bool sb, .slice Ab nb cb, .bool zb, .slice Bb mb db] 30)).mono K0.1.size))
 have o2 := ob.below (K0.1.trans (((Below.refl _ _).alloc (Nat.le_refl _) (.cells #[.bool sa, .slice Aa na ca, .bool za, .slice Ba ma da, .bool sb, .slice Ab nb cb, .bool zb, .slice Bb mb db] 30)).mono K0.1.size))
 have hA := Lib.hid (fun W (K : Blk W (w.heap.size + 1 + 1) [.bool sa, .slice Aa na ca, .bool za, .slice Ba ma da, .bool sb, .slice Ab nb cb, .bool zb, .slice Bb mb db]) (a1 : LmE.at_ W ((sa, Aa, na, ca, la), (za, Ba, ma, da, ka))) (b1 : LmE.at_ W ((sb, Ab, nb, cb, lb), (zb, Bb, mb, db, kb))) => arg_answer_long (w.heap.size + 1 + 1) sa Aa na ca la za Ba ma da ka sb Ab nb cb lb zb Bb mb db kb W a1 b1 HLG.out K)
 clear ia ja ib jb hl oa ob S1 S2 S3 S4 z1 z2 z3 z4 c1 c2 c3 c4 g1 g2 g3 g4 hna
 have h01 : ¬ w.heap.size = w.heap.size + 1 := by omega
 have h10 : ¬ w.heap.size + 1 = w.heap.size := by omega
 go_enter Tryz.func50, Tryz.ntmps50
 go_wp2_with fail
 have K1 := K0.var (g := w.heap.size + 1 + 1) (by simp) [.bool sa, .slice Aa na ca, .bool za, .slice Ba ma da, .bool sb, .slice Ab nb cb, .bool zb, .slice Bb mb db] 30
 generalize ((w.alloc (.cells #[.bool sa, .slice Aa na ca, .bool za, .slice Ba ma da, .bool sb, .slice Ab nb cb, .bool zb, .slice Bb mb db] 30)).alloc (.cells #[.bool false, .slice none 0 0, .bool false, .slice none 0 0, .bool false, .slice none 0 0, .bool false, .slice none 0 0] 30)).alloc (.cells #[.bool sa, .slice Aa na ca, .bool za, .slice Ba ma da, .bool sb, .slice Ab nb cb, .bool zb, .slice Bb mb db] 30) = w0 at K1 o1 o2 ⊢
 clear K0
 refine (hA.out _ (K1.blk (by simp)) o1 o2).mono ?_
 rintro e1 w1 ⟨rfl, hb1⟩
 have K2 := K1.next hb1
 clear K1 hb1 hA o1 o2
 obtain ⟨f0, f1, f2, f3, f4, f5, f6, f7⟩ := (K2.blk (g := w.heap.size + 1) (by repeat constructor)).c8
 obtain ⟨g0, g1, g2, g3, g4, g5, g6, g7, _⟩ := (K2.blk (g := w.heap.size + 1) (by repeat constructor)).f8
 go_wp2_with fail
 have K3 := (K2.pick (L' := [(w.heap.size + 1, [.bool false, .slice none 0 0, .bool false, .slice none 0 0, .bool false, .slice none 0 0, .bool false, .slice none 0 0])]) (l' := []) (by simp) (by simp)).set8 (by simp) false none 0 0 false none 0 0 false none 0 0 false none 0 0
 exact bodyPost_ret (v := .tuple #[.agg #[.bool false, .slice none 0 0, .bool false, .slice none 0 0, .bool false, .slice none 0 0, .bool false, .slice none 0 0], .int .i64 4]) (by simp [results, Tryz.results50, go_sem, f0, f1, f2, f3, f4, f5, f6, f7]) rfl ⟨rfl, K3.1⟩
end Go.Proofs.YtgekmbfmfiikkaaGreatDoor
