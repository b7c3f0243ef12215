/-
  Does a cavity keep a beam? (polestarref16.Keeps)
-/
import Derived.Test.YtgafjnfplgfajaaGreatKpP
import Derived.Test.YtgafjnfplgfajaaGreatMaR
import Derived.Test.YtgafjnfplgfajaaGreatGaB
namespace Go.Proofs.YtgafjnfplgfajaaGreat
open Go.RowKit

set_option maxRecDepth 100000 in
set_option maxHeartbeats 6400000 in
theorem ga_same_any (sa za : Bool) (Aa Ba : Option Addr) (na ca ma da : Nat) (xa : Rat) (sb zb : Bool) (Ab Bb : Option Addr) (nb cb mb db : Nat) (xb : Rat) (sc zc : Bool) (Ac Bc : Option Addr) (nc cc mc dc : Nat) (xc : Rat) (sd zd : Bool) (Ad Bd : Option Addr) (nd cd md dd : Nat) (xd : Rat) (M : Nat) (w : World) (ha : IsInt w sa Aa na ca xa.num) (ia : IsInt w za Ba ma da (xa.den : Int)) (ya : Sz xa M) (hb : IsInt w sb Ab nb cb xb.num) (ib : IsInt w zb Bb mb db (xb.den : Int)) (yb : Sz xb M) (hc : IsInt w sc Ac nc cc xc.num) (ic : IsInt w zc Bc mc dc (xc.den : Int)) (yc : Sz xc M) (hd : IsInt w sd Ad nd cd xd.num) (id : IsInt w zd Bd md dd (xd.den : Int)) (yd : Sz xd M) (hM : M ≤ 100000) :
    Calls Tryz.prog 25 #[.agg #[.bool sa, .slice Aa na ca, .bool za, .slice Ba ma da, .bool sb, .slice Ab nb cb, .bool zb, .slice Bb mb db], .agg #[.bool sc, .slice Ac nc cc, .bool zc, .slice Bc mc dc, .bool sd, .slice Ad nd cd, .bool zd, .slice Bd md dd]] w (RetV w (.bool (decide (xa = xc) && decide (xb = xd)))) := by
  have K0 := (((((((((((Mm.nil w).int ha).int ia).int hb).int ib).int hc).int ic).int hd).int id).var (g := w.heap.size) rfl [.bool sa, .slice Aa na ca, .bool za, .slice Ba ma da, .bool sb, .slice Ab nb cb, .bool zb, .slice Bb mb db] 30).var (g := w.heap.size + 1) (by simp) [.bool sc, .slice Ac nc cc, .bool zc, .slice Bc mc dc, .bool sd, .slice Ad nd cd, .bool zd, .slice Bd md dd] 30)
  have Ya := Lib.hid ya
  have Yb := Lib.hid yb
  have Yc := Lib.hid yc
  have Yd := Lib.hid yd
  clear ha ia ya hb ib yb hc ic yc hd id yd
  have ne01 : ¬ w.heap.size = w.heap.size + 1 := by omega
  have ne10 : ¬ w.heap.size + 1 = w.heap.size := by omega
  go_enter Tryz.func25, Tryz.ntmps25
  go_wp2_with fail
  generalize (w.alloc (.cells #[.bool sa, .slice Aa na ca, .bool za, .slice Ba ma da, .bool sb, .slice Ab nb cb, .bool zb, .slice Bb mb db] 30)).alloc (.cells #[.bool sc, .slice Ac nc cc, .bool zc, .slice Bc mc dc, .bool sd, .slice Ad nd cd, .bool zd, .slice Bd md dd] 30) = w0 at K0 ⊢
  obtain ⟨q0_0x, q1_0x, q2_0x, q3_0x, q4_0x, q5_0x, q6_0x, q7_0x⟩ := (K0.blk (g := w.heap.size) (vs := [.bool sa, .slice Aa na ca, .bool za, .slice Ba ma da, .bool sb, .slice Ab nb cb, .bool zb, .slice Bb mb db]) (by simp)).c8
  obtain ⟨q0_0y, q1_0y, q2_0y, q3_0y, q4_0y, q5_0y, q6_0y, q7_0y⟩ := (K0.blk (g := w.heap.size + 1) (vs := [.bool sc, .slice Ac nc cc, .bool zc, .slice Bc mc dc, .bool sd, .slice Ad nd cd, .bool zd, .slice Bd md dd]) (by simp)).c8
  obtain ⟨b1, hb1⟩ : ∃ b, decide (xa = xc) = b := ⟨_, rfl⟩
  obtain ⟨b2, hb2⟩ : ∃ b, decide (xb = xd) = b := ⟨_, rfl⟩
  have HB1 := Lib.hid hb1
  have HB2 := Lib.hid hb2
  clear hb1 hb2
  go_wp2_with fail
  refine (ref2_same_any sa za Aa Ba na ca ma da sc zc Ac Bc nc cc mc dc xa xc b1 M M _ (K0.at_ (by simp)) (K0.at_ (by simp)) (K0.at_ (by simp)) (K0.at_ (by simp)) Ya.out Yc.out (by omega) HB1).mono ?_
  rintro e1 w1 ⟨rfl, hbw1⟩
  have K1 := K0.next hbw1
  obtain ⟨q0_1x, q1_1x, q2_1x, q3_1x, q4_1x, q5_1x, q6_1x, q7_1x⟩ := (K1.blk (g := w.heap.size) (vs := [.bool sa, .slice Aa na ca, .bool za, .slice Ba ma da, .bool sb, .slice Ab nb cb, .bool zb, .slice Bb mb db]) (by simp)).c8
  obtain ⟨q0_1y, q1_1y, q2_1y, q3_1y, q4_1y, q5_1y, q6_1y, q7_1y⟩ := (K1.blk (g := w.heap.size + 1) (vs := [.bool sc, .slice Ac nc cc, .bool zc, .slice Bc mc dc, .bool sd, .slice Ad nd cd, .bool zd, .slice Bd md dd]) (by simp)).c8
  clear hbw1
  cases b1 with
  | false =>
    go_wp2_with fail
    go_ret
    exact ⟨by rw [HB1.out]; rfl, K1.1⟩
  | true =>
    go_wp2_with fail
    refine (ref2_same_any sb zb Ab Bb nb cb mb db sd zd Ad Bd nd cd md dd xb xd b2 M M _ (K1.at_ (by simp)) (K1.at_ (by simp)) (K1.at_ (by simp)) (K1.at_ (by simp)) Yb.out Yd.out (by omega) HB2).mono ?_
    rintro e2 w2 ⟨rfl, hbw2⟩
    go_wp2_with fail
    go_ret
    exact ⟨by rw [HB1.out, HB2.out]; rfl, (K1.next hbw2).1⟩

theorem ga_same_of (sa za : Bool) (Aa Ba : Option Addr) (na ca ma da : Nat) (xa : Rat) (sb zb : Bool) (Ab Bb : Option Addr) (nb cb mb db : Nat) (xb : Rat) (sc zc : Bool) (Ac Bc : Option Addr) (nc cc mc dc : Nat) (xc : Rat) (sd zd : Bool) (Ad Bd : Option Addr) (nd cd md dd : Nat) (xd : Rat) (M : Nat) (b : Bool) (w : World) (ha : IsInt w sa Aa na ca xa.num) (ia : IsInt w za Ba ma da (xa.den : Int)) (ya : Sz xa M) (hb : IsInt w sb Ab nb cb xb.num) (ib : IsInt w zb Bb mb db (xb.den : Int)) (yb : Sz xb M) (hc : IsInt w sc Ac nc cc xc.num) (ic : IsInt w zc Bc mc dc (xc.den : Int)) (yc : Sz xc M) (hd : IsInt w sd Ad nd cd xd.num) (id : IsInt w zd Bd md dd (xd.den : Int)) (yd : Sz xd M) (hM : M ≤ 100000) (hb' : Hid ((decide (xa = xc) && decide (xb = xd)) = b)) :
    Calls Tryz.prog 25 #[.agg #[.bool sa, .slice Aa na ca, .bool za, .slice Ba ma da, .bool sb, .slice Ab nb cb, .bool zb, .slice Bb mb db], .agg #[.bool sc, .slice Ac nc cc, .bool zc, .slice Bc mc dc, .bool sd, .slice Ad nd cd, .bool zd, .slice Bd md dd]] w (RetV w (.bool b)) := by
  have h := ga_same_any sa za Aa Ba na ca ma da xa sb zb Ab Bb nb cb mb db xb sc zc Ac Bc nc cc mc dc xc sd zd Ad Bd nd cd md dd xd M w ha ia ya hb ib yb hc ic yc hd id yd hM
  rwa [hb'.out] at h

set_option maxRecDepth 100000 in
set_option maxHeartbeats 6400000 in
theorem ref9_check_any (sa : Bool) (Aa : Option Addr) (na ca : Nat) (la : List Nat) (za : Bool) (Ba : Option Addr) (ma da : Nat) (ka : List Nat) (sb : Bool) (Ab : Option Addr) (nb cb : Nat) (lb : List Nat) (zb : Bool) (Bb : Option Addr) (mb db : Nat) (kb : List Nat) (sc : Bool) (Ac : Option Addr) (nc cc : Nat) (lc : List Nat) (zc : Bool) (Bc : Option Addr) (mc dc : Nat) (kc : List Nat) (sd : Bool) (Ad : Option Addr) (nd cd : Nat) (ld : List Nat) (zd : Bool) (Bd : Option Addr) (md dd : Nat) (kd : List Nat) (w : World) (ha : LmE.at_ w ((sa, Aa, na, ca, la), (za, Ba, ma, da, ka))) (hb : LmE.at_ w ((sb, Ab, nb, cb, lb), (zb, Bb, mb, db, kb))) (hc : LmE.at_ w ((sc, Ac, nc, cc, lc), (zc, Bc, mc, dc, kc))) (hd : LmE.at_ w ((sd, Ad, nd, cd, ld), (zd, Bd, md, dd, kd))) :
    Calls Tryz.prog 23 #[.agg #[.bool sa, .slice Aa na ca, .bool za, .slice Ba ma da, .bool sb, .slice Ab nb cb, .bool zb, .slice Bb mb db, .bool sc, .slice Ac nc cc, .bool zc, .slice Bc mc dc, .bool sd, .slice Ad nd cd, .bool zd, .slice Bd md dd]] w (RetV w (.int .i64 (okMi ((sa, Aa, na, ca, la), (za, Ba, ma, da, ka)) ((sb, Ab, nb, cb, lb), (zb, Bb, mb, db, kb)) ((sc, Ac, nc, cc, lc), (zc, Bc, mc, dc, kc)) ((sd, Ad, nd, cd, ld), (zd, Bd, md, dd, kd))))) := by
  have K0 := (Mm.nil w).var (g := w.heap.size) rfl [.bool sa, .slice Aa na ca, .bool za, .slice Ba ma da, .bool sb, .slice Ab nb cb, .bool zb, .slice Bb mb db, .bool sc, .slice Ac nc cc, .bool zc, .slice Bc mc dc, .bool sd, .slice Ad nd cd, .bool zd, .slice Bd md dd] 28
  have ha0 := LmE.at_.below ha K0.1
  have hb0 := LmE.at_.below hb K0.1
  have hc0 := LmE.at_.below hc K0.1
  have hd0 := LmE.at_.below hd K0.1
  clear ha hb hc hd
  obtain ⟨o, ho⟩ : ∃ o, okM ((sa, Aa, na, ca, la), (za, Ba, ma, da, ka)) ((sb, Ab, nb, cb, lb), (zb, Bb, mb, db, kb)) ((sc, Ac, nc, cc, lc), (zc, Bc, mc, dc, kc)) ((sd, Ad, nd, cd, ld), (zd, Bd, md, dd, kd)) = o := ⟨_, rfl⟩
  obtain ⟨v, hv⟩ : ∃ v, okMi ((sa, Aa, na, ca, la), (za, Ba, ma, da, ka)) ((sb, Ab, nb, cb, lb), (zb, Bb, mb, db, kb)) ((sc, Ac, nc, cc, lc), (zc, Bc, mc, dc, kc)) ((sd, Ad, nd, cd, ld), (zd, Bd, md, dd, kd)) = v := ⟨_, rfl⟩
  have HV : Hid (v = if o then 0 else 1) := Lib.hid (by rw [← hv]; exact okMi_eq ho)
  rw [hv]
  clear hv
  go_enter Tryz.func23, Tryz.ntmps23
  go_wp2_with fail
  refine (ref9_may_any sa Aa na ca la za Ba ma da ka sb Ab nb cb lb zb Bb mb db kb sc Ac nc cc lc zc Bc mc dc kc sd Ad nd cd ld zd Bd md dd kd _ ha0 hb0 hc0 hd0).mono ?_
  rintro e1 w1 ⟨rfl, hB1⟩
  rw [ho]
  have K1 := K0.next hB1
  cases o with
  | false =>
    go_wp2_with fail
    go_ret
    exact ⟨by rw [HV.out]; rfl, K1.1⟩
  | true =>
    go_wp2_with fail
    go_ret
    exact ⟨by rw [HV.out]; rfl, K1.1⟩

set_option maxRecDepth 100000 in
set_option maxHeartbeats 6400000 in
theorem ref16_keeps_any (sa : Bool) (Aa : Option Addr) (na ca : Nat) (la : List Nat) (za : Bool) (Ba : Option Addr) (ma da : Nat) (ka : List Nat) (sb : Bool) (Ab : Option Addr) (nb cb : Nat) (lb : List Nat) (zb : Bool) (Bb : Option Addr) (mb db : Nat) (kb : List Nat) (sc : Bool) (Ac : Option Addr) (nc cc : Nat) (lc : List Nat) (zc : Bool) (Bc : Option Addr) (mc dc : Nat) (kc : List Nat) (sd : Bool) (Ad : Option Addr) (nd cd : Nat) (ld : List Nat) (zd : Bool) (Bd : Option Addr) (md dd : Nat) (kd : List Nat) (su : Bool) (Au : Option Addr) (nu cu : Nat) (lu : List Nat) (zu : Bool) (Bu : Option Addr) (mu du : Nat) (ku : List Nat) (sv : Bool) (Av : Option Addr) (nv cv : Nat) (lv : List Nat) (zv : Bool) (Bv : Option Addr) (mv dv : Nat) (kv : List Nat) (w : World) (ha : LmE.at_ w ((sa, Aa, na, ca, la), (za, Ba, ma, da, ka))) (hb : LmE.at_ w ((sb, Ab, nb, cb, lb), (zb, Bb, mb, db, kb))) (hc : LmE.at_ w ((sc, Ac, nc, cc, lc), (zc, Bc, mc, dc, kc))) (hd : LmE.at_ w ((sd, Ad, nd, cd, ld), (zd, Bd, md, dd, kd))) (hu : LmE.at_ w ((su, Au, nu, cu, lu), (zu, Bu, mu, du, ku))) (hv : LmE.at_ w ((sv, Av, nv, cv, lv), (zv, Bv, mv, dv, kv))) :
    Calls Tryz.prog 10 #[.agg #[.bool sa, .slice Aa na ca, .bool za, .slice Ba ma da, .bool sb, .slice Ab nb cb, .bool zb, .slice Bb mb db, .bool sc, .slice Ac nc cc, .bool zc, .slice Bc mc dc, .bool sd, .slice Ad nd cd, .bool zd, .slice Bd md dd], .agg #[.bool su, .slice Au nu cu, .bool zu, .slice Bu mu du, .bool sv, .slice Av nv cv, .bool zv, .slice Bv mv dv]] w (RetKp w (keepsV ((sa, Aa, na, ca, la), (za, Ba, ma, da, ka)) ((sb, Ab, nb, cb, lb), (zb, Bb, mb, db, kb)) ((sc, Ac, nc, cc, lc), (zc, Bc, mc, dc, kc)) ((sd, Ad, nd, cd, ld), (zd, Bd, md, dd, kd)) ((su, Au, nu, cu, lu), (zu, Bu, mu, du, ku)) ((sv, Av, nv, cv, lv), (zv, Bv, mv, dv, kv)))) := by
  have K0 := ((Mm.nil w).var (g := w.heap.size) rfl [.bool sa, .slice Aa na ca, .bool za, .slice Ba ma da, .bool sb, .slice Ab nb cb, .bool zb, .slice Bb mb db, .bool sc, .slice Ac nc cc, .bool zc, .slice Bc mc dc, .bool sd, .slice Ad nd cd, .bool zd, .slice Bd md dd] 28).var (g := w.heap.size + 1) (by simp) [.bool su, .slice Au nu cu, .bool zu, .slice Bu mu du, .bool sv, .slice Av nv cv, .bool zv, .slice Bv mv dv] 30
  have ha0 := LmE.at_.below ha K0.1
  have hb0 := LmE.at_.below hb K0.1
  have hc0 := LmE.at_.below hc K0.1
  have hd0 := LmE.at_.below hd K0.1
  have hu0 := LmE.at_.below hu K0.1
  have hv0 := LmE.at_.below hv K0.1
  clear ha hb hc hd hu hv
  obtain ⟨o, ho⟩ : ∃ o, okM ((sa, Aa, na, ca, la), (za, Ba, ma, da, ka)) ((sb, Ab, nb, cb, lb), (zb, Bb, mb, db, kb)) ((sc, Ac, nc, cc, lc), (zc, Bc, mc, dc, kc)) ((sd, Ad, nd, cd, ld), (zd, Bd, md, dd, kd)) = o := ⟨_, rfl⟩
  obtain ⟨ch, hch⟩ : ∃ ch, chkBm ((su, Au, nu, cu, lu), (zu, Bu, mu, du, ku)) ((sv, Av, nv, cv, lv), (zv, Bv, mv, dv, kv)) = ch := ⟨_, rfl⟩
  have HN1 : Hid (o = false → keepsV ((sa, Aa, na, ca, la), (za, Ba, ma, da, ka)) ((sb, Ab, nb, cb, lb), (zb, Bb, mb, db, kb)) ((sc, Ac, nc, cc, lc), (zc, Bc, mc, dc, kc)) ((sd, Ad, nd, cd, ld), (zd, Bd, md, dd, kd)) ((su, Au, nu, cu, lu), (zu, Bu, mu, du, ku)) ((sv, Av, nv, cv, lv), (zv, Bv, mv, dv, kv)) = (false, 1)) := Lib.hid (fun h => keepsV_no1 _ _ (ho.trans h))
  have HN2 : Hid (ch ≠ 0 → keepsV ((sa, Aa, na, ca, la), (za, Ba, ma, da, ka)) ((sb, Ab, nb, cb, lb), (zb, Bb, mb, db, kb)) ((sc, Ac, nc, cc, lc), (zc, Bc, mc, dc, kc)) ((sd, Ad, nd, cd, ld), (zd, Bd, md, dd, kd)) ((su, Au, nu, cu, lu), (zu, Bu, mu, du, ku)) ((sv, Av, nv, cv, lv), (zv, Bv, mv, dv, kv)) = (false, 1)) := Lib.hid (fun h => keepsV_no2 _ _ _ _ (by rw [hch]; exact h))
  go_enter Tryz.func10, Tryz.ntmps10
  go_wp2_with fail
  refine (ref9_check_any sa Aa na ca la za Ba ma da ka sb Ab nb cb lb zb Bb mb db kb sc Ac nc cc lc zc Bc mc dc kc sd Ad nd cd ld zd Bd md dd kd _ ha0 hb0 hc0 hd0).mono ?_
  rintro e1 w1 ⟨rfl, hB1⟩
  rw [okMi_eq ho]
  have K1 := K0.next hB1
  have ha1 := LmE.at_.below ha0 hB1
  have hb1 := LmE.at_.below hb0 hB1
  have hc1 := LmE.at_.below hc0 hB1
  have hd1 := LmE.at_.below hd0 hB1
  have hu1 := LmE.at_.below hu0 hB1
  have hv1 := LmE.at_.below hv0 hB1
  clear K0 hB1 ha0 hb0 hc0 hd0 hu0 hv0
  obtain ⟨q0_1x, q1_1x, q2_1x, q3_1x, q4_1x, q5_1x, q6_1x, q7_1x, q8_1x, q9_1x, q10_1x, q11_1x, q12_1x, q13_1x, q14_1x, q15_1x⟩ := (K1.blk (g := w.heap.size) (vs := [.bool sa, .slice Aa na ca, .bool za, .slice Ba ma da, .bool sb, .slice Ab nb cb, .bool zb, .slice Bb mb db, .bool sc, .slice Ac nc cc, .bool zc, .slice Bc mc dc, .bool sd, .slice Ad nd cd, .bool zd, .slice Bd md dd]) (by simp)).c16
  obtain ⟨q0_1y, q1_1y, q2_1y, q3_1y, q4_1y, q5_1y, q6_1y, q7_1y⟩ := (K1.blk (g := w.heap.size + 1) (vs := [.bool su, .slice Au nu cu, .bool zu, .slice Bu mu du, .bool sv, .slice Av nv cv, .bool zv, .slice Bv mv dv]) (by simp)).c8
  cases o with
  | false =>
    go_wp2_with fail
    go_ret2
    exact ⟨by rw [HN1.out (by trivial)]; rfl, K1.1⟩
  | true =>
    go_wp2_with fail
    refine (ref15_check_any su Au nu cu lu zu Bu mu du ku sv Av nv cv lv zv Bv mv dv kv _ hu1 hv1).mono ?_
    rintro e2 w2 ⟨rfl, hB2⟩
    rw [hch]
    have K2 := K1.next hB2
    have ha2 := LmE.at_.below ha1 hB2
    have hb2 := LmE.at_.below hb1 hB2
    have hc2 := LmE.at_.below hc1 hB2
    have hd2 := LmE.at_.below hd1 hB2
    have hu2 := LmE.at_.below hu1 hB2
    have hv2 := LmE.at_.below hv1 hB2
    clear K1 hB2 ha1 hb1 hc1 hd1 hu1 hv1
    obtain ⟨q0_2x, q1_2x, q2_2x, q3_2x, q4_2x, q5_2x, q6_2x, q7_2x, q8_2x, q9_2x, q10_2x, q11_2x, q12_2x, q13_2x, q14_2x, q15_2x⟩ := (K2.blk (g := w.heap.size) (vs := [.bool sa, .slice Aa na ca, .bool za, .slice Ba ma da, .bool sb, .slice Ab nb cb, .bool zb, .slice Bb mb db, .bool sc, .slice Ac nc cc, .bool zc, .slice Bc mc dc, .bool sd, .slice Ad nd cd, .bool zd, .slice Bd md dd]) (by simp)).c16
    obtain ⟨q0_2y, q1_2y, q2_2y, q3_2y, q4_2y, q5_2y, q6_2y, q7_2y⟩ := (K2.blk (g := w.heap.size + 1) (vs := [.bool su, .slice Au nu cu, .bool zu, .slice Bu mu du, .bool sv, .slice Av nv cv, .bool zv, .slice Bv mv dv]) (by simp)).c8
    by_cases hc0 : ch = 0
    case neg =>
      have hc1 : (ch == 0) = false := by rw [beq_eq_false_iff_ne]; exact hc0
      go_wp2_with fail
      go_ret2
      exact ⟨by rw [HN2.out hc0]; rfl, K2.1⟩
    case pos =>
      subst hc0
      obtain ⟨oa, ob, oc, od, hdet⟩ := okM_parts ho
      obtain ⟨ou, ov, hvp⟩ := chkBm_zero hch
      have hYes := keepsV_yes ho hch
      obtain ⟨ia, ja, ya⟩ := ok_ints oa ha2
      obtain ⟨ib, jb, yb⟩ := ok_ints ob hb2
      obtain ⟨ic, jc, yc⟩ := ok_ints oc hc2
      obtain ⟨id, jd, yd⟩ := ok_ints od hd2
      obtain ⟨iu, ju, yu⟩ := ok_ints ou hu2
      obtain ⟨iv, jv, yv⟩ := ok_ints ov hv2
      obtain ⟨xa, hxa⟩ : ∃ x, rv ((sa, Aa, na, ca, la), (za, Ba, ma, da, ka)) = x := ⟨_, rfl⟩
      rw [hxa] at ia ja ya
      obtain ⟨xb, hxb⟩ : ∃ x, rv ((sb, Ab, nb, cb, lb), (zb, Bb, mb, db, kb)) = x := ⟨_, rfl⟩
      rw [hxb] at ib jb yb
      obtain ⟨xc, hxc⟩ : ∃ x, rv ((sc, Ac, nc, cc, lc), (zc, Bc, mc, dc, kc)) = x := ⟨_, rfl⟩
      rw [hxc] at ic jc yc
      obtain ⟨xd, hxd⟩ : ∃ x, rv ((sd, Ad, nd, cd, ld), (zd, Bd, md, dd, kd)) = x := ⟨_, rfl⟩
      rw [hxd] at id jd yd
      obtain ⟨xu, hxu⟩ : ∃ x, rv ((su, Au, nu, cu, lu), (zu, Bu, mu, du, ku)) = x := ⟨_, rfl⟩
      rw [hxu] at iu ju yu
      obtain ⟨xv, hxv⟩ : ∃ x, rv ((sv, Av, nv, cv, lv), (zv, Bv, mv, dv, kv)) = x := ⟨_, rfl⟩
      rw [hxv] at iv jv yv
      rw [hxa, hxb, hxc, hxd, hxu, hxv] at hYes
      rw [hxa, hxb, hxc, hxd] at hdet
      rw [hxv] at hvp
      have K3 := ((((((((((((K2.int ia).int ja).int ib).int jb).int ic).int jc).int id).int jd).int iu).int ju).int iv).int jv)
      have Ya := Lib.hid ya
      have Yb := Lib.hid yb
      have Yc := Lib.hid yc
      have Yd := Lib.hid yd
      have Yu := Lib.hid yu
      have Yv := Lib.hid yv
      have HYES := Lib.hid hYes
      have HDET := Lib.hid hdet
      have HVP := Lib.hid hvp
      clear K2 ho hch HN1 HN2 oa ob oc od hdet ou ov hvp hYes ia ja ya hxa ha2 ib jb yb hxb hb2 ic jc yc hxc hc2 id jd yd hxd hd2 iu ju yu hxu hu2 iv jv yv hxv hv2
      obtain ⟨M, hM0⟩ : ∃ M, M = 2048 := ⟨_, rfl⟩
      have hM : M ≤ 2048 := by omega
      rw [← hM0] at Ya Yb Yc Yd Yu Yv
      clear hM0
      have HNr : Hid (Sz ((((xa + 0) * xu) - (0 * xv)) + (xb + 0)) (4 * M + 7)) := Lib.hid ((Sz.add (Sz.sub (Sz.mul (Sz.add Ya.out Sz.zero) Yu.out) (Sz.mul Sz.zero Yv.out)) (Sz.add Yb.out Sz.zero)).mono (by omega))
      have HNi : Hid (Sz ((((xa + 0) * xv) + (0 * xu)) + 0) (4 * M + 7)) := Lib.hid ((Sz.add (Sz.add (Sz.mul (Sz.add Ya.out Sz.zero) Yv.out) (Sz.mul Sz.zero Yu.out)) Sz.zero).mono (by omega))
      have HKr : Hid (Sz ((((xc + 0) * xu) - (0 * xv)) + (xd + 0)) (4 * M + 7)) := Lib.hid ((Sz.add (Sz.sub (Sz.mul (Sz.add Yc.out Sz.zero) Yu.out) (Sz.mul Sz.zero Yv.out)) (Sz.add Yd.out Sz.zero)).mono (by omega))
      have HKi : Hid (Sz ((((xc + 0) * xv) + (0 * xu)) + 0) (4 * M + 7)) := Lib.hid ((Sz.add (Sz.add (Sz.mul (Sz.add Yc.out Sz.zero) Yv.out) (Sz.mul Sz.zero Yu.out)) Sz.zero).mono (by omega))
      have H0 := Lib.hid (behind_ne xa xb xc xd xu xv HDET.out HVP.out)
      have HS5r : Hid (Sz (((((((xa + 0) * xu) - (0 * xv)) + (xb + 0)) * (((((xc + 0) * xu) - (0 * xv)) + (xd + 0)) + 0)) - (((((xa + 0) * xv) + (0 * xu)) + 0) * (0 - ((((xc + 0) * xv) + (0 * xu)) + 0)))) / ((((((xc + 0) * xu) - (0 * xv)) + (xd + 0)) * ((((xc + 0) * xu) - (0 * xv)) + (xd + 0))) + (((((xc + 0) * xv) + (0 * xu)) + 0) * ((((xc + 0) * xv) + (0 * xu)) + 0)))) (40 * M + 70)) := Lib.hid ((Sz.div (Sz.sub (Sz.mul HNr.out (Sz.add HKr.out Sz.zero)) (Sz.mul HNi.out (Sz.sub Sz.zero HKi.out))) (Sz.add (Sz.mul HKr.out HKr.out) (Sz.mul HKi.out HKi.out)) H0.out).mono (by omega))
      have HS5j : Hid (Sz (((((((xa + 0) * xu) - (0 * xv)) + (xb + 0)) * (0 - ((((xc + 0) * xv) + (0 * xu)) + 0))) + (((((xa + 0) * xv) + (0 * xu)) + 0) * (((((xc + 0) * xu) - (0 * xv)) + (xd + 0)) + 0))) / ((((((xc + 0) * xu) - (0 * xv)) + (xd + 0)) * ((((xc + 0) * xu) - (0 * xv)) + (xd + 0))) + (((((xc + 0) * xv) + (0 * xu)) + 0) * ((((xc + 0) * xv) + (0 * xu)) + 0)))) (40 * M + 70)) := Lib.hid ((Sz.div (Sz.add (Sz.mul HNr.out (Sz.sub Sz.zero HKi.out)) (Sz.mul HNi.out (Sz.add HKr.out Sz.zero))) (Sz.add (Sz.mul HKr.out HKr.out) (Sz.mul HKi.out HKi.out)) H0.out).mono (by omega))
      have HK := Lib.hid (keeps_iff xa xb xc xd xu xv HDET.out HVP.out)
      rw [HK.out] at HYES
      obtain ⟨bs, hbs⟩ : ∃ b, (decide ((((((((xa + 0) * xu) - (0 * xv)) + (xb + 0)) * (((((xc + 0) * xu) - (0 * xv)) + (xd + 0)) + 0)) - (((((xa + 0) * xv) + (0 * xu)) + 0) * (0 - ((((xc + 0) * xv) + (0 * xu)) + 0)))) / ((((((xc + 0) * xu) - (0 * xv)) + (xd + 0)) * ((((xc + 0) * xu) - (0 * xv)) + (xd + 0))) + (((((xc + 0) * xv) + (0 * xu)) + 0) * ((((xc + 0) * xv) + (0 * xu)) + 0)))) = xu) && decide ((((((((xa + 0) * xu) - (0 * xv)) + (xb + 0)) * (0 - ((((xc + 0) * xv) + (0 * xu)) + 0))) + (((((xa + 0) * xv) + (0 * xu)) + 0) * (((((xc + 0) * xu) - (0 * xv)) + (xd + 0)) + 0))) / ((((((xc + 0) * xu) - (0 * xv)) + (xd + 0)) * ((((xc + 0) * xu) - (0 * xv)) + (xd + 0))) + (((((xc + 0) * xv) + (0 * xu)) + 0) * ((((xc + 0) * xv) + (0 * xu)) + 0)))) = xv)) = b := ⟨_, rfl⟩
      rw [hbs] at HYES
      have HBS := Lib.hid hbs
      clear HK hbs
      have ne01 : ¬ w.heap.size = w.heap.size + 1 := by omega
      have ne10 : ¬ w.heap.size + 1 = w.heap.size := by omega
      go_wp2_with fail
      go_region_held3 (fun w' => w'.cell? ⟨w.heap.size, 0, none⟩ = some (.bool sa) ∧ w'.cell? ⟨w.heap.size, 1, none⟩ = some (.slice Aa na ca) ∧ w'.cell? ⟨w.heap.size, 2, none⟩ = some (.bool za) ∧ w'.cell? ⟨w.heap.size, 3, none⟩ = some (.slice Ba ma da) ∧ w'.cell? ⟨w.heap.size, 4, none⟩ = some (.bool sb) ∧ w'.cell? ⟨w.heap.size, 5, none⟩ = some (.slice Ab nb cb) ∧ w'.cell? ⟨w.heap.size, 6, none⟩ = some (.bool zb) ∧ w'.cell? ⟨w.heap.size, 7, none⟩ = some (.slice Bb mb db) ∧ w'.cell? ⟨w.heap.size, 8, none⟩ = some (.bool sc) ∧ w'.cell? ⟨w.heap.size, 9, none⟩ = some (.slice Ac nc cc) ∧ w'.cell? ⟨w.heap.size, 10, none⟩ = some (.bool zc) ∧ w'.cell? ⟨w.heap.size, 11, none⟩ = some (.slice Bc mc dc) ∧ w'.cell? ⟨w.heap.size, 12, none⟩ = some (.bool sd) ∧ w'.cell? ⟨w.heap.size, 13, none⟩ = some (.slice Ad nd cd) ∧ w'.cell? ⟨w.heap.size, 14, none⟩ = some (.bool zd) ∧ w'.cell? ⟨w.heap.size, 15, none⟩ = some (.slice Bd md dd) ∧ w'.cell? ⟨w.heap.size + 1, 0, none⟩ = some (.bool su) ∧ w'.cell? ⟨w.heap.size + 1, 1, none⟩ = some (.slice Au nu cu) ∧ w'.cell? ⟨w.heap.size + 1, 2, none⟩ = some (.bool zu) ∧ w'.cell? ⟨w.heap.size + 1, 3, none⟩ = some (.slice Bu mu du) ∧ w'.cell? ⟨w.heap.size + 1, 4, none⟩ = some (.bool sv) ∧ w'.cell? ⟨w.heap.size + 1, 5, none⟩ = some (.slice Av nv cv) ∧ w'.cell? ⟨w.heap.size + 1, 6, none⟩ = some (.bool zv) ∧ w'.cell? ⟨w.heap.size + 1, 7, none⟩ = some (.slice Bv mv dv))
        (go_keep)
        (first
          | (go_at_call 26; (with_reducible refine (ref15_behind_any sa za Aa Ba na ca ma da xa sb zb Ab Bb nb cb mb db xb sc zc Ac Bc nc cc mc dc xc sd zd Ad Bd nd cd md dd xd su zu Au Bu nu cu mu du xu sv zv Av Bv nv cv mv dv xv M _ ?_ ?_ (Ya.out.mono (by omega)) ?_ ?_ (Yb.out.mono (by omega)) ?_ ?_ (Yc.out.mono (by omega)) ?_ ?_ (Yd.out.mono (by omega)) ?_ ?_ (Yu.out.mono (by omega)) ?_ ?_ (Yv.out.mono (by omega)) (by omega) H0.out).mono ?_); (first | (with_reducible exact K3.at_ (List.mem_of_getElem? (i := 11) rfl)) | (with_reducible exact K3.drew.at_ (List.mem_of_getElem? (i := 11) rfl)) | (with_reducible exact (K3.drewN _).at_ (List.mem_of_getElem? (i := 11) rfl))); (first | (with_reducible exact K3.at_ (List.mem_of_getElem? (i := 10) rfl)) | (with_reducible exact K3.drew.at_ (List.mem_of_getElem? (i := 10) rfl)) | (with_reducible exact (K3.drewN _).at_ (List.mem_of_getElem? (i := 10) rfl))); (first | (with_reducible exact K3.at_ (List.mem_of_getElem? (i := 9) rfl)) | (with_reducible exact K3.drew.at_ (List.mem_of_getElem? (i := 9) rfl)) | (with_reducible exact (K3.drewN _).at_ (List.mem_of_getElem? (i := 9) rfl))); (first | (with_reducible exact K3.at_ (List.mem_of_getElem? (i := 8) rfl)) | (with_reducible exact K3.drew.at_ (List.mem_of_getElem? (i := 8) rfl)) | (with_reducible exact (K3.drewN _).at_ (List.mem_of_getElem? (i := 8) rfl))); (first | (with_reducible exact K3.at_ (List.mem_of_getElem? (i := 7) rfl)) | (with_reducible exact K3.drew.at_ (List.mem_of_getElem? (i := 7) rfl)) | (with_reducible exact (K3.drewN _).at_ (List.mem_of_getElem? (i := 7) rfl))); (first | (with_reducible exact K3.at_ (List.mem_of_getElem? (i := 6) rfl)) | (with_reducible exact K3.drew.at_ (List.mem_of_getElem? (i := 6) rfl)) | (with_reducible exact (K3.drewN _).at_ (List.mem_of_getElem? (i := 6) rfl))); (first | (with_reducible exact K3.at_ (List.mem_of_getElem? (i := 5) rfl)) | (with_reducible exact K3.drew.at_ (List.mem_of_getElem? (i := 5) rfl)) | (with_reducible exact (K3.drewN _).at_ (List.mem_of_getElem? (i := 5) rfl))); (first | (with_reducible exact K3.at_ (List.mem_of_getElem? (i := 4) rfl)) | (with_reducible exact K3.drew.at_ (List.mem_of_getElem? (i := 4) rfl)) | (with_reducible exact (K3.drewN _).at_ (List.mem_of_getElem? (i := 4) rfl))); (first | (with_reducible exact K3.at_ (List.mem_of_getElem? (i := 3) rfl)) | (with_reducible exact K3.drew.at_ (List.mem_of_getElem? (i := 3) rfl)) | (with_reducible exact (K3.drewN _).at_ (List.mem_of_getElem? (i := 3) rfl))); (first | (with_reducible exact K3.at_ (List.mem_of_getElem? (i := 2) rfl)) | (with_reducible exact K3.drew.at_ (List.mem_of_getElem? (i := 2) rfl)) | (with_reducible exact (K3.drewN _).at_ (List.mem_of_getElem? (i := 2) rfl))); (first | (with_reducible exact K3.at_ (List.mem_of_getElem? (i := 1) rfl)) | (with_reducible exact K3.drew.at_ (List.mem_of_getElem? (i := 1) rfl)) | (with_reducible exact (K3.drewN _).at_ (List.mem_of_getElem? (i := 1) rfl))); (first | (with_reducible exact K3.at_ (List.mem_of_getElem? (i := 0) rfl)) | (with_reducible exact K3.drew.at_ (List.mem_of_getElem? (i := 0) rfl)) | (with_reducible exact (K3.drewN _).at_ (List.mem_of_getElem? (i := 0) rfl))); rintro e5 w5 ⟨neg5r, A5r, n5r, c5r, ne5r, B5r, m5r, d5r, neg5j, A5j, n5j, c5j, ne5j, B5j, m5j, d5j, rfl, IHS5r, JHS5r, IHS5j, JHS5j, hb5⟩; (first | (with_reducible have K5 := (((((K3.next hb5).int JHS5r).int IHS5r).int JHS5j).int IHS5j)) | (with_reducible have K5 := (((((K3.drew.next hb5).int JHS5r).int IHS5r).int JHS5j).int IHS5j)) | (with_reducible have K5 := ((((((K3.drewN _).next hb5).int JHS5r).int IHS5r).int JHS5j).int IHS5j))); obtain ⟨q0_5x, q1_5x, q2_5x, q3_5x, q4_5x, q5_5x, q6_5x, q7_5x, q8_5x, q9_5x, q10_5x, q11_5x, q12_5x, q13_5x, q14_5x, q15_5x⟩ := (K5.blk (g := w.heap.size) (vs := [.bool sa, .slice Aa na ca, .bool za, .slice Ba ma da, .bool sb, .slice Ab nb cb, .bool zb, .slice Bb mb db, .bool sc, .slice Ac nc cc, .bool zc, .slice Bc mc dc, .bool sd, .slice Ad nd cd, .bool zd, .slice Bd md dd]) (List.mem_of_getElem? (i := 1) rfl)).c16; obtain ⟨q0_5y, q1_5y, q2_5y, q3_5y, q4_5y, q5_5y, q6_5y, q7_5y⟩ := (K5.blk (g := w.heap.size + 1) (vs := [.bool su, .slice Au nu cu, .bool zu, .slice Bu mu du, .bool sv, .slice Av nv cv, .bool zv, .slice Bv mv dv]) (List.mem_of_getElem? (i := 0) rfl)).c8; clear IHS5r JHS5r IHS5j JHS5j hb5)
          | (go_at_call 25; (with_reducible refine (ga_same_of neg5r ne5r A5r B5r n5r c5r m5r d5r (((((((xa + 0) * xu) - (0 * xv)) + (xb + 0)) * (((((xc + 0) * xu) - (0 * xv)) + (xd + 0)) + 0)) - (((((xa + 0) * xv) + (0 * xu)) + 0) * (0 - ((((xc + 0) * xv) + (0 * xu)) + 0)))) / ((((((xc + 0) * xu) - (0 * xv)) + (xd + 0)) * ((((xc + 0) * xu) - (0 * xv)) + (xd + 0))) + (((((xc + 0) * xv) + (0 * xu)) + 0) * ((((xc + 0) * xv) + (0 * xu)) + 0)))) neg5j ne5j A5j B5j n5j c5j m5j d5j (((((((xa + 0) * xu) - (0 * xv)) + (xb + 0)) * (0 - ((((xc + 0) * xv) + (0 * xu)) + 0))) + (((((xa + 0) * xv) + (0 * xu)) + 0) * (((((xc + 0) * xu) - (0 * xv)) + (xd + 0)) + 0))) / ((((((xc + 0) * xu) - (0 * xv)) + (xd + 0)) * ((((xc + 0) * xu) - (0 * xv)) + (xd + 0))) + (((((xc + 0) * xv) + (0 * xu)) + 0) * ((((xc + 0) * xv) + (0 * xu)) + 0)))) su zu Au Bu nu cu mu du xu sv zv Av Bv nv cv mv dv xv (40 * M + 70) bs _ ?_ ?_ (HS5r.out.mono (by omega)) ?_ ?_ (HS5j.out.mono (by omega)) ?_ ?_ (Yu.out.mono (by omega)) ?_ ?_ (Yv.out.mono (by omega)) (by omega) HBS).mono ?_); (first | (with_reducible exact K5.at_ (List.mem_of_getElem? (i := 2) rfl)) | (with_reducible exact K5.drew.at_ (List.mem_of_getElem? (i := 2) rfl)) | (with_reducible exact (K5.drewN _).at_ (List.mem_of_getElem? (i := 2) rfl))); (first | (with_reducible exact K5.at_ (List.mem_of_getElem? (i := 3) rfl)) | (with_reducible exact K5.drew.at_ (List.mem_of_getElem? (i := 3) rfl)) | (with_reducible exact (K5.drewN _).at_ (List.mem_of_getElem? (i := 3) rfl))); (first | (with_reducible exact K5.at_ (List.mem_of_getElem? (i := 0) rfl)) | (with_reducible exact K5.drew.at_ (List.mem_of_getElem? (i := 0) rfl)) | (with_reducible exact (K5.drewN _).at_ (List.mem_of_getElem? (i := 0) rfl))); (first | (with_reducible exact K5.at_ (List.mem_of_getElem? (i := 1) rfl)) | (with_reducible exact K5.drew.at_ (List.mem_of_getElem? (i := 1) rfl)) | (with_reducible exact (K5.drewN _).at_ (List.mem_of_getElem? (i := 1) rfl))); (first | (with_reducible exact K5.at_ (List.mem_of_getElem? (i := 7) rfl)) | (with_reducible exact K5.drew.at_ (List.mem_of_getElem? (i := 7) rfl)) | (with_reducible exact (K5.drewN _).at_ (List.mem_of_getElem? (i := 7) rfl))); (first | (with_reducible exact K5.at_ (List.mem_of_getElem? (i := 6) rfl)) | (with_reducible exact K5.drew.at_ (List.mem_of_getElem? (i := 6) rfl)) | (with_reducible exact (K5.drewN _).at_ (List.mem_of_getElem? (i := 6) rfl))); (first | (with_reducible exact K5.at_ (List.mem_of_getElem? (i := 5) rfl)) | (with_reducible exact K5.drew.at_ (List.mem_of_getElem? (i := 5) rfl)) | (with_reducible exact (K5.drewN _).at_ (List.mem_of_getElem? (i := 5) rfl))); (first | (with_reducible exact K5.at_ (List.mem_of_getElem? (i := 4) rfl)) | (with_reducible exact K5.drew.at_ (List.mem_of_getElem? (i := 4) rfl)) | (with_reducible exact (K5.drewN _).at_ (List.mem_of_getElem? (i := 4) rfl))); rintro e6 w6 ⟨rfl, hb6⟩; (first | (with_reducible have K6 := (K5.next hb6)) | (with_reducible have K6 := (K5.drew.next hb6)) | (with_reducible have K6 := ((K5.drewN _).next hb6))); obtain ⟨q0_6x, q1_6x, q2_6x, q3_6x, q4_6x, q5_6x, q6_6x, q7_6x, q8_6x, q9_6x, q10_6x, q11_6x, q12_6x, q13_6x, q14_6x, q15_6x⟩ := (K6.blk (g := w.heap.size) (vs := [.bool sa, .slice Aa na ca, .bool za, .slice Ba ma da, .bool sb, .slice Ab nb cb, .bool zb, .slice Bb mb db, .bool sc, .slice Ac nc cc, .bool zc, .slice Bc mc dc, .bool sd, .slice Ad nd cd, .bool zd, .slice Bd md dd]) (List.mem_of_getElem? (i := 1) rfl)).c16; obtain ⟨q0_6y, q1_6y, q2_6y, q3_6y, q4_6y, q5_6y, q6_6y, q7_6y⟩ := (K6.blk (g := w.heap.size + 1) (vs := [.bool su, .slice Au nu cu, .bool zu, .slice Bu mu du, .bool sv, .slice Av nv cv, .bool zv, .slice Bv mv dv]) (List.mem_of_getElem? (i := 0) rfl)).c8; clear hb6))
      all_goals
       go_wp2_with fail
       go_ret2
       exact ⟨by rw [HYES.out]; rfl, K6.1⟩
end Go.Proofs.YtgafjnfplgfajaaGreat
