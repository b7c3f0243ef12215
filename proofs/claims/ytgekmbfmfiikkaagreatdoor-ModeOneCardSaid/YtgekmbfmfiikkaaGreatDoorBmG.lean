/-
  A matrix that may be (ray.det, ray.Check, ray.One); small complex numbers (argand.Small, gauss.Of).
-/
import Derived.Test.YtgekmbfmfiikkaaGreatDoorOwH
import Derived.Test.YtgekmbfmfiikkaaGreatDoorLst
import Derived.Test.YtgekmbfmfiikkaaGreatDoorOwN
import Derived.Test.YtgekmbfmfiikkaaGreatDoorLnB
import Derived.Test.YtgekmbfmfiikkaaGreatDoorMoA
import Derived.Test.YtgekmbfmfiikkaaGreatDoorBey
import Derived.Test.YtgekmbfmfiikkaaGreatDoorMay
import Derived.Test.YtgekmbfmfiikkaaGreatDoorTzF
set_option maxHeartbeats 6400000
set_option maxRecDepth 100000
namespace Go.Proofs.YtgekmbfmfiikkaaGreatDoor
open Go.RowKit
theorem ray_det_any (sa za : Bool) (Aa Ba : Option Addr) (na ca ma da : Nat) (xa : Rat) (sb zb : Bool) (Ab Bb : Option Addr) (nb cb mb db : Nat) (xb : Rat) (sc zc : Bool) (Ac Bc : Option Addr) (nc cc mc dc : Nat) (xc : Rat) (sd zd : Bool) (Ad Bd : Option Addr) (nd cd md dd : Nat) (xd : Rat) (M : Nat) (w : World) (ha : IsInt w sa Aa na ca xa.num) (ia : IsInt w za Ba ma da (xa.den : Int)) (ya : Sz xa M) (hb : IsInt w sb Ab nb cb xb.num) (ib : IsInt w zb Bb mb db (xb.den : Int)) (yb : Sz xb M) (hc : IsInt w sc Ac nc cc xc.num) (ic : IsInt w zc Bc mc dc (xc.den : Int)) (yc : Sz xc M) (hd : IsInt w sd Ad nd cd xd.num) (id : IsInt w zd Bd md dd (xd.den : Int)) (yd : Sz xd M) (hM : M ≤ 100000) :
    Calls Tryz.prog 249 #[.agg #[.bool sa, .slice Aa na ca, .bool za, .slice Ba ma da], .agg #[.bool sb, .slice Ab nb cb, .bool zb, .slice Bb mb db], .agg #[.bool sc, .slice Ac nc cc, .bool zc, .slice Bc mc dc], .agg #[.bool sd, .slice Ad nd cd, .bool zd, .slice Bd md dd]] w (RetFr w ((xa * xd) - (xb * xc))) := by
  have K0 := ((((((((((((((Mm.nil w).int ha).int ia).int hb).int ib).int hc).int ic).int hd).int id).var (g := w.heap.size) rfl [.bool sa, .slice Aa na ca, .bool za, .slice Ba ma da] 26).var (g := w.heap.size + 1) (by simp) [.bool sb, .slice Ab nb cb, .bool zb, .slice Bb mb db] 26).var (g := w.heap.size + 1 + 1) (by simp) [.bool sc, .slice Ac nc cc, .bool zc, .slice Bc mc dc] 26).var (g := w.heap.size + 1 + 1 + 1) (by simp) [.bool sd, .slice Ad nd cd, .bool zd, .slice Bd md dd] 26).var (g := w.heap.size + 1 + 1 + 1 + 1) (by simp) [.bool false, .slice none 0 0, .bool false, .slice none 0 0] 26)
  have Ya := Lib.hid ya
  have Yb := Lib.hid yb
  have Yc := Lib.hid yc
  have Yd := Lib.hid yd
  have HS1 : Hid (Sz (xa * xd) (2 * M + 0)) := Lib.hid ((Sz.mul Ya.out Yd.out).mono (by omega))
  have HS2 : Hid (Sz (xb * xc) (2 * M + 0)) := Lib.hid ((Sz.mul Yb.out Yc.out).mono (by omega))
  have HS3 : Hid (Sz ((xa * xd) - (xb * xc)) (4 * M + 1)) := Lib.hid ((Sz.sub HS1.out HS2.out).mono (by omega))
  clear ha ia ya hb ib yb hc ic yc hd id yd
  have ne01 : ¬ w.heap.size = w.heap.size + 1 := by omega
  have ne02 : ¬ w.heap.size = w.heap.size + 1 + 1 := by omega
  have ne03 : ¬ w.heap.size = w.heap.size + 1 + 1 + 1 := by omega
  have ne04 : ¬ w.heap.size = w.heap.size + 1 + 1 + 1 + 1 := by omega
  have ne10 : ¬ w.heap.size + 1 = w.heap.size := by omega
  have ne12 : ¬ w.heap.size + 1 = w.heap.size + 1 + 1 := by omega
  have ne13 : ¬ w.heap.size + 1 = w.heap.size + 1 + 1 + 1 := by omega
  have ne14 : ¬ w.heap.size + 1 = w.heap.size + 1 + 1 + 1 + 1 := by omega
  have ne20 : ¬ w.heap.size + 1 + 1 = w.heap.size := by omega
  have ne21 : ¬ w.heap.size + 1 + 1 = w.heap.size + 1 := by omega
  have ne23 : ¬ w.heap.size + 1 + 1 = w.heap.size + 1 + 1 + 1 := by omega
  have ne24 : ¬ w.heap.size + 1 + 1 = w.heap.size + 1 + 1 + 1 + 1 := by omega
  have ne30 : ¬ w.heap.size + 1 + 1 + 1 = w.heap.size := by omega
  have ne31 : ¬ w.heap.size + 1 + 1 + 1 = w.heap.size + 1 := by omega
  have ne32 : ¬ w.heap.size + 1 + 1 + 1 = w.heap.size + 1 + 1 := by omega
  have ne34 : ¬ w.heap.size + 1 + 1 + 1 = w.heap.size + 1 + 1 + 1 + 1 := by omega
  have ne40 : ¬ w.heap.size + 1 + 1 + 1 + 1 = w.heap.size := by omega
  have ne41 : ¬ w.heap.size + 1 + 1 + 1 + 1 = w.heap.size + 1 := by omega
  have ne42 : ¬ w.heap.size + 1 + 1 + 1 + 1 = w.heap.size + 1 + 1 := by omega
  have ne43 : ¬ w.heap.size + 1 + 1 + 1 + 1 = w.heap.size + 1 + 1 + 1 := by omega
  go_enter Tryz.func249, Tryz.ntmps249
  go_wp2_with fail
  generalize ((((w.alloc (.cells #[.bool sa, .slice Aa na ca, .bool za, .slice Ba ma da] 26)).alloc (.cells #[.bool sb, .slice Ab nb cb, .bool zb, .slice Bb mb db] 26)).alloc (.cells #[.bool sc, .slice Ac nc cc, .bool zc, .slice Bc mc dc] 26)).alloc (.cells #[.bool sd, .slice Ad nd cd, .bool zd, .slice Bd md dd] 26)).alloc (.cells #[.bool false, .slice none 0 0, .bool false, .slice none 0 0] 26) = w0 at K0 ⊢
  obtain ⟨⟨_, _, _, _⟩, ⟨_, _, _, _⟩, _⟩ := (K0.blk (g := w.heap.size) (by repeat constructor)).four
  obtain ⟨⟨_, _, _, _⟩, ⟨_, _, _, _⟩, _⟩ := (K0.blk (g := w.heap.size + 1) (by repeat constructor)).four
  obtain ⟨⟨_, _, _, _⟩, ⟨_, _, _, _⟩, _⟩ := (K0.blk (g := w.heap.size + 1 + 1) (by repeat constructor)).four
  obtain ⟨⟨_, _, _, _⟩, ⟨_, _, _, _⟩, _⟩ := (K0.blk (g := w.heap.size + 1 + 1 + 1) (by repeat constructor)).four
  go_region_held3 (fun w' => w'.cell? ⟨w.heap.size, 0, none⟩ = some (.bool sa) ∧ w'.cell? ⟨w.heap.size, 1, none⟩ = some (.slice Aa na ca) ∧ w'.cell? ⟨w.heap.size, 2, none⟩ = some (.bool za) ∧ w'.cell? ⟨w.heap.size, 3, none⟩ = some (.slice Ba ma da) ∧ w'.cell? ⟨w.heap.size + 1, 0, none⟩ = some (.bool sb) ∧ w'.cell? ⟨w.heap.size + 1, 1, none⟩ = some (.slice Ab nb cb) ∧ w'.cell? ⟨w.heap.size + 1, 2, none⟩ = some (.bool zb) ∧ w'.cell? ⟨w.heap.size + 1, 3, none⟩ = some (.slice Bb mb db) ∧ w'.cell? ⟨w.heap.size + 1 + 1, 0, none⟩ = some (.bool sc) ∧ w'.cell? ⟨w.heap.size + 1 + 1, 1, none⟩ = some (.slice Ac nc cc) ∧ w'.cell? ⟨w.heap.size + 1 + 1, 2, none⟩ = some (.bool zc) ∧ w'.cell? ⟨w.heap.size + 1 + 1, 3, none⟩ = some (.slice Bc mc dc) ∧ w'.cell? ⟨w.heap.size + 1 + 1 + 1, 0, none⟩ = some (.bool sd) ∧ w'.cell? ⟨w.heap.size + 1 + 1 + 1, 1, none⟩ = some (.slice Ad nd cd) ∧ w'.cell? ⟨w.heap.size + 1 + 1 + 1, 2, none⟩ = some (.bool zd) ∧ w'.cell? ⟨w.heap.size + 1 + 1 + 1, 3, none⟩ = some (.slice Bd md dd))
    (go_keep)
    (first
      | (go_at_call 140; apply Calls.withMm (w0 := w); (case K => with_reducible repeat (first | exact K0 | apply Mm.drew | apply Mm.drewN)); intro KX; (with_reducible refine (rat_times_any sa za Aa Ba na ca ma da sd zd Ad Bd nd cd md dd xa xd (xa * xd) M M _ (KX.at_ (mE 7 rfl)) (KX.at_ (mE 6 rfl)) (KX.at_ (mE 1 rfl)) (KX.at_ (mE 0 rfl)) Ya.out Yd.out (by omega) (Lib.hid rfl)).mono ?_); rintro e1 w1 ⟨neg1, A1, n1, c1, ne1, B1, m1, d1, rfl, IHS1, JHS1, hb1⟩; (with_reducible have K1 := (((KX.next hb1).int JHS1).int IHS1)); obtain ⟨⟨_, _, _, _⟩, ⟨_, _, _, _⟩, _⟩ := (K1.blk (mE 4 rfl)).four; obtain ⟨⟨_, _, _, _⟩, ⟨_, _, _, _⟩, _⟩ := (K1.blk (mE 3 rfl)).four; obtain ⟨⟨_, _, _, _⟩, ⟨_, _, _, _⟩, _⟩ := (K1.blk (mE 2 rfl)).four; obtain ⟨⟨_, _, _, _⟩, ⟨_, _, _, _⟩, _⟩ := (K1.blk (mE 1 rfl)).four; clear KX IHS1 JHS1 hb1)
      | (go_at_call 140; apply Calls.withMm (w0 := w); (case K => with_reducible repeat (first | exact K1 | apply Mm.drew | apply Mm.drewN)); intro KX; (with_reducible refine (rat_times_any sb zb Ab Bb nb cb mb db sc zc Ac Bc nc cc mc dc xb xc (xb * xc) M M _ (KX.at_ (mE 7 rfl)) (KX.at_ (mE 6 rfl)) (KX.at_ (mE 5 rfl)) (KX.at_ (mE 4 rfl)) Yb.out Yc.out (by omega) (Lib.hid rfl)).mono ?_); rintro e2 w2 ⟨neg2, A2, n2, c2, ne2, B2, m2, d2, rfl, IHS2, JHS2, hb2⟩; (with_reducible have K2 := (((KX.next hb2).int JHS2).int IHS2)); obtain ⟨⟨_, _, _, _⟩, ⟨_, _, _, _⟩, _⟩ := (K2.blk (mE 4 rfl)).four; obtain ⟨⟨_, _, _, _⟩, ⟨_, _, _, _⟩, _⟩ := (K2.blk (mE 3 rfl)).four; obtain ⟨⟨_, _, _, _⟩, ⟨_, _, _, _⟩, _⟩ := (K2.blk (mE 2 rfl)).four; obtain ⟨⟨_, _, _, _⟩, ⟨_, _, _, _⟩, _⟩ := (K2.blk (mE 1 rfl)).four; clear KX IHS2 JHS2 hb2)
      | (go_at_call 139; apply Calls.withMm (w0 := w); (case K => with_reducible repeat (first | exact K2 | apply Mm.drew | apply Mm.drewN)); intro KX; (with_reducible refine (rat_minus_any neg1 ne1 A1 B1 n1 c1 m1 d1 neg2 ne2 A2 B2 n2 c2 m2 d2 (xa * xd) (xb * xc) ((xa * xd) - (xb * xc)) (2 * M + 0) (2 * M + 0) _ (KX.at_ (mE 2 rfl)) (KX.at_ (mE 3 rfl)) (KX.at_ (mE 0 rfl)) (KX.at_ (mE 1 rfl)) HS1.out HS2.out (by omega) (Lib.hid rfl)).mono ?_); rintro e3 w3 ⟨neg3, A3, n3, c3, ne3, B3, m3, d3, rfl, IHS3, JHS3, hb3⟩; (with_reducible have K3 := (((KX.next hb3).int JHS3).int IHS3)); obtain ⟨⟨_, _, _, _⟩, ⟨_, _, _, _⟩, _⟩ := (K3.blk (mE 4 rfl)).four; obtain ⟨⟨_, _, _, _⟩, ⟨_, _, _, _⟩, _⟩ := (K3.blk (mE 3 rfl)).four; obtain ⟨⟨_, _, _, _⟩, ⟨_, _, _, _⟩, _⟩ := (K3.blk (mE 2 rfl)).four; obtain ⟨⟨_, _, _, _⟩, ⟨_, _, _, _⟩, _⟩ := (K3.blk (mE 1 rfl)).four; obtain ⟨⟨qa3r, qb3r, qc3r, qd3r⟩, ⟨_, _, _, _⟩, _⟩ := (K3.blk (mE 0 rfl)).four; clear KX IHS3 JHS3 hb3))
  all_goals
   go_wp2_with fail
   have KE := (K3.pick (L' := [(w.heap.size + 1 + 1 + 1 + 1, [.bool false, .slice none 0 0, .bool false, .slice none 0 0])]) (l' := [(neg3, A3, n3, c3, (((xa * xd) - (xb * xc)) : Rat).num), (ne3, B3, m3, d3, (((((xa * xd) - (xb * xc)) : Rat).den : Nat) : Int))]) (by simp) (by simp)).set4 (by simp <;> omega) neg3 A3 n3 c3 ne3 B3 m3 d3
   exact bodyPost_ret (v := .agg #[.bool neg3, .slice A3 n3 c3, .bool ne3, .slice B3 m3 d3]) (by simp [results, Tryz.results249, go_sem, qa3r, qb3r, qc3r, qd3r]) rfl ⟨_, _, _, _, _, _, _, _, rfl, KE.at_ (by simp), KE.at_ (by simp), KE.1⟩
noncomputable def chkM (a b c d : LmE) : Int := if okM a b c d then 0 else 1
theorem ray_check_any (sa : Bool) (Aa : Option Addr) (na ca : Nat) (la : List Nat) (za : Bool) (Ba : Option Addr) (ma da : Nat) (ka : List Nat) (sb : Bool) (Ab : Option Addr) (nb cb : Nat) (lb : List Nat) (zb : Bool) (Bb : Option Addr) (mb db : Nat) (kb : List Nat) (sc : Bool) (Ac : Option Addr) (nc cc : Nat) (lc : List Nat) (zc : Bool) (Bc : Option Addr) (mc dc : Nat) (kc : List Nat) (sd : Bool) (Ad : Option Addr) (nd cd : Nat) (ld : List Nat) (zd : Bool) (Bd : Option Addr) (md dd : Nat) (kd : List Nat) (w : World) (ha : LmE.at_ w ((sa, Aa, na, ca, la), (za, Ba, ma, da, ka))) (hb : LmE.at_ w ((sb, Ab, nb, cb, lb), (zb, Bb, mb, db, kb))) (hc : LmE.at_ w ((sc, Ac, nc, cc, lc), (zc, Bc, mc, dc, kc))) (hd : LmE.at_ w ((sd, Ad, nd, cd, ld), (zd, Bd, md, dd, kd))) :
  Calls Tryz.prog 137 #[.agg #[.bool sa, .slice Aa na ca, .bool za, .slice Ba ma da, .bool sb, .slice Ab nb cb, .bool zb, .slice Bb mb db, .bool sc, .slice Ac nc cc, .bool zc, .slice Bc mc dc, .bool sd, .slice Ad nd cd, .bool zd, .slice Bd md dd]] w (RetV w (.int .i64 (chkM ((sa, Aa, na, ca, la), (za, Ba, ma, da, ka)) ((sb, Ab, nb, cb, lb), (zb, Bb, mb, db, kb)) ((sc, Ac, nc, cc, lc), (zc, Bc, mc, dc, kc)) ((sd, Ad, nd, cd, ld), (zd, Bd, md, dd, kd))))) := by
 have K0 := (Mm.nil w).var (g := w.heap.size) rfl [.bool sa, .slice Aa na ca, .bool za, .slice Ba ma da, .bool sb, .slice Ab nb cb, .bool zb, .slice Bb mb db, .bool sc, .slice Ac nc cc, .bool zc, .slice Bc mc dc, .bool sd, .slice Ad nd cd, .bool zd, .slice Bd md dd] 28
 have ha0 := LmE.at_.below ha K0.1
 have hb0 := LmE.at_.below hb K0.1
 have hc0 := LmE.at_.below hc K0.1
 have hd0 := LmE.at_.below hd K0.1
 have K1 := K0.box (.cells #[.bool sa, .slice Aa na ca, .bool za, .slice Ba ma da, .bool sb, .slice Ab nb cb, .bool zb, .slice Bb mb db, .bool sc, .slice Ac nc cc, .bool zc, .slice Bc mc dc, .bool sd, .slice Ad nd cd, .bool zd, .slice Bd md dd] 26)
 have hL : Lfs ((w.alloc (.cells #[.bool sa, .slice Aa na ca, .bool za, .slice Ba ma da, .bool sb, .slice Ab nb cb, .bool zb, .slice Bb mb db, .bool sc, .slice Ac nc cc, .bool zc, .slice Bc mc dc, .bool sd, .slice Ad nd cd, .bool zd, .slice Bd md dd] 28)).alloc (.cells #[.bool sa, .slice Aa na ca, .bool za, .slice Ba ma da, .bool sb, .slice Ab nb cb, .bool zb, .slice Bb mb db, .bool sc, .slice Ac nc cc, .bool zc, .slice Bc mc dc, .bool sd, .slice Ad nd cd, .bool zd, .slice Bd md dd] 26)) (w.heap.size + 1) 4 (four ((sa, Aa, na, ca, la), (za, Ba, ma, da, ka)) ((sb, Ab, nb, cb, lb), (zb, Bb, mb, db, kb)) ((sc, Ac, nc, cc, lc), (zc, Bc, mc, dc, kc)) ((sd, Ad, nd, cd, ld), (zd, Bd, md, dd, kd))) := lfs_four _ (by simp) _ ha0 hb0 hc0 hd0
 have HL := Lib.hid hL
 obtain ⟨o, ho⟩ : ∃ o, (okB ((sa, Aa, na, ca, la), (za, Ba, ma, da, ka)) && okB ((sb, Ab, nb, cb, lb), (zb, Bb, mb, db, kb)) && okB ((sc, Ac, nc, cc, lc), (zc, Bc, mc, dc, kc)) && okB ((sd, Ad, nd, cd, ld), (zd, Bd, md, dd, kd))) = o := ⟨_, rfl⟩
 have HO := Lib.hid ((okAll_four ((sa, Aa, na, ca, la), (za, Ba, ma, da, ka)) ((sb, Ab, nb, cb, lb), (zb, Bb, mb, db, kb)) ((sc, Ac, nc, cc, lc), (zc, Bc, mc, dc, kc)) ((sd, Ad, nd, cd, ld), (zd, Bd, md, dd, kd))).trans ho)
 have HM : Hid (okM ((sa, Aa, na, ca, la), (za, Ba, ma, da, ka)) ((sb, Ab, nb, cb, lb), (zb, Bb, mb, db, kb)) ((sc, Ac, nc, cc, lc), (zc, Bc, mc, dc, kc)) ((sd, Ad, nd, cd, ld), (zd, Bd, md, dd, kd)) = (o && decide (rv ((sa, Aa, na, ca, la), (za, Ba, ma, da, ka)) * rv ((sd, Ad, nd, cd, ld), (zd, Bd, md, dd, kd)) - rv ((sb, Ab, nb, cb, lb), (zb, Bb, mb, db, kb)) * rv ((sc, Ac, nc, cc, lc), (zc, Bc, mc, dc, kc)) = 1))) := Lib.hid (by unfold okM; rw [ho])
 have ha1 := LmE.at_.below ha K1.1
 have hb1 := LmE.at_.below hb K1.1
 have hc1 := LmE.at_.below hc K1.1
 have hd1 := LmE.at_.below hd K1.1
 clear ha hb hc hd hL K0 ha0 hb0 hc0 hd0
 go_enter Tryz.func137, Tryz.ntmps137
 go_wp2_with fail
 refine (rat_checks_any (w.heap.size + 1) 4 4 (four ((sa, Aa, na, ca, la), (za, Ba, ma, da, ka)) ((sb, Ab, nb, cb, lb), (zb, Bb, mb, db, kb)) ((sc, Ac, nc, cc, lc), (zc, Bc, mc, dc, kc)) ((sd, Ad, nd, cd, ld), (zd, Bd, md, dd, kd))) _ HL.out (by decide) (by decide)).mono ?_
 rintro e1 w1 ⟨rfl, hbw⟩
 rw [HO.out]
 clear HO HL
 have K2 := K1.next hbw
 have ha2 := LmE.at_.below ha1 hbw
 have hb2 := LmE.at_.below hb1 hbw
 have hc2 := LmE.at_.below hc1 hbw
 have hd2 := LmE.at_.below hd1 hbw
 clear ha1 hb1 hc1 hd1 K1 hbw
 obtain ⟨_, _, _, _, _, _, _, _, _, _, _, _, _, _, _, _⟩ := (K2.blk (g := w.heap.size) (by repeat constructor)).c16
 cases o with
 | false =>
  go_wp2_with fail
  go_ret
  exact ⟨by unfold chkM; rw [HM.out]; rfl, K2.1⟩
 | true =>
  simp only [Bool.and_eq_true] at ho
  obtain ⟨⟨⟨oa, ob⟩, oc⟩, od⟩ := ho
  obtain ⟨ia, ja, ya⟩ := ok_ints oa ha2
  obtain ⟨ib, jb, yb⟩ := ok_ints ob hb2
  obtain ⟨ic, jc, yc⟩ := ok_ints oc hc2
  obtain ⟨id, jd, yd⟩ := ok_ints od hd2
  obtain ⟨xa, hxa⟩ : ∃ x, rv ((sa, Aa, na, ca, la), (za, Ba, ma, da, ka)) = x := ⟨_, rfl⟩
  obtain ⟨xb, hxb⟩ : ∃ x, rv ((sb, Ab, nb, cb, lb), (zb, Bb, mb, db, kb)) = x := ⟨_, rfl⟩
  obtain ⟨xc, hxc⟩ : ∃ x, rv ((sc, Ac, nc, cc, lc), (zc, Bc, mc, dc, kc)) = x := ⟨_, rfl⟩
  obtain ⟨xd, hxd⟩ : ∃ x, rv ((sd, Ad, nd, cd, ld), (zd, Bd, md, dd, kd)) = x := ⟨_, rfl⟩
  rw [hxa] at ia ja ya
  rw [hxb] at ib jb yb
  rw [hxc] at ic jc yc
  rw [hxd] at id jd yd
  rw [hxa, hxb, hxc, hxd] at HM
  have HSZ : Hid (Sz (xa * xd - xb * xc) 8193) := Lib.hid ((Sz.sub (Sz.mul ya yd) (Sz.mul yb yc)).mono (by omega))
  have K3 := ((((((((K2.int ia).int ja).int ib).int jb).int ic).int jc).int id).int jd)
  have YA := Lib.hid ya
  have YB := Lib.hid yb
  have YC := Lib.hid yc
  have YD := Lib.hid yd
  clear ia ja ib jb ic jc id jd ya yb yc yd oa ob oc od hxa hxb hxc hxd ha2 hb2 hc2 hd2 K2
  go_wp2_with fail
  refine (ray_det_any sa za Aa Ba na ca ma da xa sb zb Ab Bb nb cb mb db xb sc zc Ac Bc nc cc mc dc xc sd zd Ad Bd nd cd md dd xd 2048 _ (K3.at_ (by simp)) (K3.at_ (by simp)) YA.out (K3.at_ (by simp)) (K3.at_ (by simp)) YB.out (K3.at_ (by simp)) (K3.at_ (by simp)) YC.out (K3.at_ (by simp)) (K3.at_ (by simp)) YD.out (by decide)).mono ?_
  rintro e4 w4 ⟨neg4, A4, n4, c4, ne4, B4, m4, d4, rfl, I4, J4, hb4⟩
  have K4 := ((K3.next hb4).int J4).int I4
  clear I4 J4 hb4 K3
  go_wp2_with fail
  refine (rat_one_any _).mono ?_
  rintro e5 w5 ⟨neg5, A5, n5, c5, ne5, B5, m5, d5, rfl, I5, J5, hb5⟩
  have K5 := ((K4.next hb5).int J5).int I5
  clear I5 J5 hb5 K4
  go_wp2_with fail
  obtain ⟨v, hv⟩ : ∃ v, rcmp (xa * xd - xb * xc) 1 = v := ⟨_, rfl⟩
  have hvb : (v == 0) = decide (xa * xd - xb * xc = 1) := by rw [← hv]; exact rcmp_eq _ _
  have HV := Lib.hid hv
  clear hv
  refine (rat_cmp_any neg4 ne4 A4 B4 n4 c4 m4 d4 neg5 ne5 A5 B5 n5 c5 m5 d5 (xa * xd - xb * xc) 1 v 8193 1 _ (K5.at_ (by simp)) (K5.at_ (by simp)) (K5.at_ (by simp)) (K5.at_ (by simp)) HSZ.out Sz.one (by decide) HV).mono ?_
  rintro e6 w6 ⟨rfl, hb6⟩
  have KE := K5.next hb6
  clear K5 hb6
  by_cases hz : v = 0
  ·have HR : Hid (decide (xa * xd - xb * xc = 1) = true) := Lib.hid (by rw [← hvb, hz]; rfl)
   subst hz
   clear hvb
   go_wp2_with fail
   go_ret
   exact ⟨by unfold chkM; rw [HM.out, Bool.true_and, HR.out]; rfl, KE.1⟩
  ·have HR : Hid (decide (xa * xd - xb * xc = 1) = false) := Lib.hid (by rw [← hvb]; exact beq_eq_false_iff_ne.2 hz)
   have hz2 : (v == 0) = false := beq_eq_false_iff_ne.2 hz
   clear hvb
   go_wp2_with fail
   go_ret
   exact ⟨by unfold chkM; rw [HM.out, Bool.true_and, HR.out]; rfl, KE.1⟩
theorem arg_small_any (p q : Int) (x y : Rat) (w : World) (hp : -9223372036854775808 ≤ p ∧ p ≤ 9223372036854775807) (hq : -9223372036854775808 ≤ q ∧ q ≤ 9223372036854775807) (hx : Hid (Rat.divInt p 1 = x)) (hy : Hid (Rat.divInt q 1 = y)) :
  Calls Tryz.prog 211 #[.int .i64 p, .int .i64 q] w (RetGv w x y) := by
 have K0 := (Mm.nil w).var (g := w.heap.size) rfl [.bool false, .slice none 0 0, .bool false, .slice none 0 0, .bool false, .slice none 0 0, .bool false, .slice none 0 0] 30
 have SX : Hid (Sz x 2) := Lib.hid (by rw [← hx.out]; exact Sz.divInt (m := 2) (by decide) (by omega) (by decide))
 have SY : Hid (Sz y 2) := Lib.hid (by rw [← hy.out]; exact Sz.divInt (m := 2) (by decide) (by omega) (by decide))
 have HP := Lib.hid hp
 have HQ := Lib.hid hq
 clear hp hq
 go_enter Tryz.func211, Tryz.ntmps211
 go_upto_region 1 with (fail)
 generalize w.alloc (.cells #[.bool false, .slice none 0 0, .bool false, .slice none 0 0, .bool false, .slice none 0 0, .bool false, .slice none 0 0] 30) = w0 at K0 ⊢
 go_wp2_with fail
 refine (rat_small_any p 1 x _ HP.out (by decide) (by decide) hx).mono ?_
 rintro e1 w1 ⟨sa, Aa, na, ca, za, Ba, ma, da, rfl, I, J, hb⟩
 have K1 := ((K0.next hb).int J).int I
 clear K0 I J hb
 go_wp2_with fail
 refine (rat_small_any q 1 y _ HQ.out (by decide) (by decide) hy).mono ?_
 rintro e2 w2 ⟨sb, Ab, nb, cb, zb, Bb, mb, db, rfl, I, J, hb⟩
 have K2 := ((K1.next hb).int J).int I
 clear K1 I J hb
 obtain ⟨la, ka, oa⟩ := okF_of (K2.at_ (neg := sa) (A := Aa) (n := na) (c := ca) (z := x.num) (by simp)) (K2.at_ (neg := za) (A := Ba) (n := ma) (c := da) (z := (x.den : Int)) (by simp)) (SX.out.mono (by decide))
 obtain ⟨lb, kb, ob⟩ := okF_of (K2.at_ (neg := sb) (A := Ab) (n := nb) (c := cb) (z := y.num) (by simp)) (K2.at_ (neg := zb) (A := Bb) (n := mb) (c := db) (z := (y.den : Int)) (by simp)) (SY.out.mono (by decide))
 obtain ⟨f0, f1, f2, f3, f4, f5, f6, f7⟩ := (K2.blk (g := w.heap.size) (by repeat constructor)).c8
 obtain ⟨ff0, ff1, ff2, ff3, ff4, ff5, ff6, ff7, _⟩ := (K2.blk (g := w.heap.size) (by repeat constructor)).f8
 go_wp2_with fail
 have K9 := (((((K2.int oa.ints.1).int oa.ints.2.1).int ob.ints.1).int ob.ints.2.1).pick (L' := [(w.heap.size, [.bool false, .slice none 0 0, .bool false, .slice none 0 0, .bool false, .slice none 0 0, .bool false, .slice none 0 0])]) (l' := [(sa, Aa, na, ca, x.num), (za, Ba, ma, da, (x.den : Int)), (sb, Ab, nb, cb, y.num), (zb, Bb, mb, db, (y.den : Int))]) (by simp) (by simp)).set8 (by simp) sa Aa na ca za Ba ma da sb Ab nb cb zb Bb mb db
 obtain ⟨l9a, k9a, o9a⟩ := okF_of (K9.at_ (neg := sa) (A := Aa) (n := na) (c := ca) (z := x.num) (by simp)) (K9.at_ (neg := za) (A := Ba) (n := ma) (c := da) (z := (x.den : Int)) (by simp)) oa.ints.2.2
 obtain ⟨l9b, k9b, o9b⟩ := okF_of (K9.at_ (neg := sb) (A := Ab) (n := nb) (c := cb) (z := y.num) (by simp)) (K9.at_ (neg := zb) (A := Bb) (n := mb) (c := db) (z := (y.den : Int)) (by simp)) ob.ints.2.2
 exact bodyPost_ret (v := .agg #[.bool sa, .slice Aa na ca, .bool za, .slice Ba ma da, .bool sb, .slice Ab nb cb, .bool zb, .slice Bb mb db]) (by simp [results, Tryz.results211, go_sem, f0, f1, f2, f3, f4, f5, f6, f7]) rfl ⟨_, _, _, _, _, _, _, _, _, _, _, _, _, _, _, _, _, _, _, _, rfl, o9a, o9b, K9.1⟩
theorem gauss_of_any (p q : Int) (x y : Rat) (w : World) (hp : -9223372036854775808 ≤ p ∧ p ≤ 9223372036854775807) (hq : -9223372036854775808 ≤ q ∧ q ≤ 9223372036854775807) (hx : Hid (Rat.divInt p 1 = x)) (hy : Hid (Rat.divInt q 1 = y)) :
  Calls Tryz.prog 109 #[.int .i64 p, .int .i64 q] w (RetGv w x y) := by
 have K0 := (Mm.nil w).var (g := w.heap.size) rfl [.bool false, .slice none 0 0, .bool false, .slice none 0 0, .bool false, .slice none 0 0, .bool false, .slice none 0 0] 30
 have HP := Lib.hid hp
 have HQ := Lib.hid hq
 clear hp hq
 go_enter Tryz.func109, Tryz.ntmps109
 go_upto_region 1 with (fail)
 generalize w.alloc (.cells #[.bool false, .slice none 0 0, .bool false, .slice none 0 0, .bool false, .slice none 0 0, .bool false, .slice none 0 0] 30) = w0 at K0 ⊢
 go_wp2_with fail
 refine (arg_small_any p q x y _ HP.out HQ.out hx hy).mono ?_
 rintro e1 w1 ⟨sa, Aa, na, ca, la, za, Ba, ma, da, ka, sb, Ab, nb, cb, lb, zb, Bb, mb, db, kb, rfl, oa, ob, hb⟩
 have K2 := K0.next hb
 clear K0 hb
 obtain ⟨f0, f1, f2, f3, f4, f5, f6, f7⟩ := (K2.blk (g := w.heap.size) (by repeat constructor)).c8
 obtain ⟨ff0, ff1, ff2, ff3, ff4, ff5, ff6, ff7, _⟩ := (K2.blk (g := w.heap.size) (by repeat constructor)).f8
 go_wp2_with fail
 have K9 := (((((K2.int oa.ints.1).int oa.ints.2.1).int ob.ints.1).int ob.ints.2.1).pick (L' := [(w.heap.size, [.bool false, .slice none 0 0, .bool false, .slice none 0 0, .bool false, .slice none 0 0, .bool false, .slice none 0 0])]) (l' := [(sa, Aa, na, ca, x.num), (za, Ba, ma, da, (x.den : Int)), (sb, Ab, nb, cb, y.num), (zb, Bb, mb, db, (y.den : Int))]) (by simp) (by simp)).set8 (by simp) sa Aa na ca za Ba ma da sb Ab nb cb zb Bb mb db
 obtain ⟨l9a, k9a, o9a⟩ := okF_of (K9.at_ (neg := sa) (A := Aa) (n := na) (c := ca) (z := x.num) (by simp)) (K9.at_ (neg := za) (A := Ba) (n := ma) (c := da) (z := (x.den : Int)) (by simp)) oa.ints.2.2
 obtain ⟨l9b, k9b, o9b⟩ := okF_of (K9.at_ (neg := sb) (A := Ab) (n := nb) (c := cb) (z := y.num) (by simp)) (K9.at_ (neg := zb) (A := Bb) (n := mb) (c := db) (z := (y.den : Int)) (by simp)) ob.ints.2.2
 exact bodyPost_ret (v := .agg #[.bool sa, .slice Aa na ca, .bool za, .slice Ba ma da, .bool sb, .slice Ab nb cb, .bool zb, .slice Bb mb db]) (by simp [results, Tryz.results109, go_sem, f0, f1, f2, f3, f4, f5, f6, f7]) rfl ⟨_, _, _, _, _, _, _, _, _, _, _, _, _, _, _, _, _, _, _, _, rfl, o9a, o9b, K9.1⟩
end Go.Proofs.YtgekmbfmfiikkaaGreatDoor
