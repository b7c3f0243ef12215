/-
  Does a cavity keep a beam? (mode.Keeps)
-/
import Derived.Test.YtgekmbfmfiikkaaGreatDoorHaA
import Derived.Test.YtgekmbfmfiikkaaGreatDoorMay
import Derived.Test.YtgekmbfmfiikkaaGreatDoorLst
namespace Go.Proofs.YtgekmbfmfiikkaaGreatDoor
open Go.RowKit
set_option maxRecDepth 100000 in
set_option maxHeartbeats 6400000 in
theorem mode_keeps_any (sa : Bool) (Aa : Option Addr) (na ca : Nat) (la : List Nat) (za : Bool) (Ba : Option Addr) (ma da : Nat) (ka : List Nat) (sb : Bool) (Ab : Option Addr) (nb cb : Nat) (lb : List Nat) (zb : Bool) (Bb : Option Addr) (mb db : Nat) (kb : List Nat) (sc : Bool) (Ac : Option Addr) (nc cc : Nat) (lc : List Nat) (zc : Bool) (Bc : Option Addr) (mc dc : Nat) (kc : List Nat) (sd : Bool) (Ad : Option Addr) (nd cd : Nat) (ld : List Nat) (zd : Bool) (Bd : Option Addr) (md dd : Nat) (kd : List Nat) (su : Bool) (Au : Option Addr) (nu cu : Nat) (lu : List Nat) (zu : Bool) (Bu : Option Addr) (mu du : Nat) (ku : List Nat) (sv : Bool) (Av : Option Addr) (nv cv : Nat) (lv : List Nat) (zv : Bool) (Bv : Option Addr) (mv dv : Nat) (kv : List Nat) (w : World) (ha : LmE.at_ w ((sa, Aa, na, ca, la), (za, Ba, ma, da, ka))) (hb : LmE.at_ w ((sb, Ab, nb, cb, lb), (zb, Bb, mb, db, kb))) (hc : LmE.at_ w ((sc, Ac, nc, cc, lc), (zc, Bc, mc, dc, kc))) (hd : LmE.at_ w ((sd, Ad, nd, cd, ld), (zd, Bd, md, dd, kd))) (hu : LmE.at_ w ((su, Au, nu, cu, lu), (zu, Bu, mu, du, ku))) (hv : LmE.at_ w ((sv, Av, nv, cv, lv), (zv, Bv, mv, dv, kv))) :
  Calls Tryz.prog 40 #[.agg #[.bool sa, .slice Aa na ca, .bool za, .slice Ba ma da, .bool sb, .slice Ab nb cb, .bool zb, .slice Bb mb db, .bool sc, .slice Ac nc cc, .bool zc, .slice Bc mc dc, .bool sd, .slice Ad nd cd, .bool zd, .slice Bd md dd], .agg #[.bool su, .slice Au nu cu, .bool zu, .slice Bu mu du, .bool sv, .slice Av nv cv, .bool zv, .slice Bv mv dv]] w (RetKp w (keepsV ((sa, Aa, na, ca, la), (za, Ba, ma, da, ka)) ((sb, Ab, nb, cb, lb), (zb, Bb, mb, db, kb)) ((sc, Ac, nc, cc, lc), (zc, Bc, mc, dc, kc)) ((sd, Ad, nd, cd, ld), (zd, Bd, md, dd, kd)) ((su, Au, nu, cu, lu), (zu, Bu, mu, du, ku)) ((sv, Av, nv, cv, lv), (zv, Bv, mv, dv, kv)))) := by
 have K0 := ((Mm.nil w).var (g := w.heap.size) rfl [.bool sa, .slice Aa na ca, .bool za, .slice Ba ma da, .bool sb, .slice Ab nb cb, .bool zb, .slice Bb mb db, .bool sc, .slice Ac nc cc, .bool zc, .slice Bc mc dc, .bool sd, .slice Ad nd cd, .bool zd, .slice Bd md dd] 28).var (g := w.heap.size + 1) (by simp) [.bool su, .slice Au nu cu, .bool zu, .slice Bu mu du, .bool sv, .slice Av nv cv, .bool zv, .slice Bv mv dv] 30
 have ha0 := LmE.at_.below ha K0.1
 have hb0 := LmE.at_.below hb K0.1
 have hc0 := LmE.at_.below hc K0.1
 have hd0 := LmE.at_.below hd K0.1
 have hu0 := LmE.at_.below hu K0.1
 have hv0 := LmE.at_.below hv K0.1
 clear ha hb hc hd hu hv
 obtain ⟨o, ho⟩ : ∃ o, okM ((sa, Aa, na, ca, la), (za, Ba, ma, da, ka)) ((sb, Ab, nb, cb, lb), (zb, Bb, mb, db, kb)) ((sc, Ac, nc, cc, lc), (zc, Bc, mc, dc, kc)) ((sd, Ad, nd, cd, ld), (zd, Bd, md, dd, kd)) = o := ⟨_, rfl⟩
 obtain ⟨ch, hch⟩ : ∃ ch, chkBm ((su, Au, nu, cu, lu), (zu, Bu, mu, du, ku)) ((sv, Av, nv, cv, lv), (zv, Bv, mv, dv, kv)) = ch := ⟨_, rfl⟩
 have HN1 : Hid (o = false → keepsV ((sa, Aa, na, ca, la), (za, Ba, ma, da, ka)) ((sb, Ab, nb, cb, lb), (zb, Bb, mb, db, kb)) ((sc, Ac, nc, cc, lc), (zc, Bc, mc, dc, kc)) ((sd, Ad, nd, cd, ld), (zd, Bd, md, dd, kd)) ((su, Au, nu, cu, lu), (zu, Bu, mu, du, ku)) ((sv, Av, nv, cv, lv), (zv, Bv, mv, dv, kv)) = (false, 1)) := Lib.hid (fun h => keepsV_no1 _ _ (ho.trans h))
 have HN2 : Hid (ch ≠ 0 → keepsV ((sa, Aa, na, ca, la), (za, Ba, ma, da, ka)) ((sb, Ab, nb, cb, lb), (zb, Bb, mb, db, kb)) ((sc, Ac, nc, cc, lc), (zc, Bc, mc, dc, kc)) ((sd, Ad, nd, cd, ld), (zd, Bd, md, dd, kd)) ((su, Au, nu, cu, lu), (zu, Bu, mu, du, ku)) ((sv, Av, nv, cv, lv), (zv, Bv, mv, dv, kv)) = (false, 1)) := Lib.hid (fun h => keepsV_no2 _ _ _ _ (by rw [hch]; exact h))
 go_enter Tryz.func40, Tryz.ntmps40
 go_wp2_with fail
 refine (row_may_any sa Aa na ca la za Ba ma da ka sb Ab nb cb lb zb Bb mb db kb sc Ac nc cc lc zc Bc mc dc kc sd Ad nd cd ld zd Bd md dd kd _ ha0 hb0 hc0 hd0).mono ?_
 rintro e1 w1 ⟨rfl, hB1⟩
 rw [ho]
 have K1 := K0.next hB1
 have ha1 := LmE.at_.below ha0 hB1
 have hb1 := LmE.at_.below hb0 hB1
 have hc1 := LmE.at_.below hc0 hB1
 have hd1 := LmE.at_.below hd0 hB1
 have hu1 := LmE.at_.below hu0 hB1
 have hv1 := LmE.at_.below hv0 hB1
 clear K0 hB1 ha0 hb0 hc0 hd0 hu0 hv0
 obtain ⟨_, _, _, _, _, _, _, _, _, _, _, _, _, _, _, _⟩ := (K1.blk (g := w.heap.size) (by repeat constructor)).c16
 obtain ⟨_, _, _, _, _, _, _, _⟩ := (K1.blk (g := w.heap.size + 1) (by repeat constructor)).c8
 cases o with
 | false =>
  go_wp2_with fail
  go_ret2
  exact ⟨by rw [HN1.out (by trivial)]; rfl, K1.1⟩
 | true =>
  go_wp2_with fail
  refine (beam_check_any su Au nu cu lu zu Bu mu du ku sv Av nv cv lv zv Bv mv dv kv _ hu1 hv1).mono ?_
  rintro e2 w2 ⟨rfl, hB2⟩
  rw [hch]
  have K2 := K1.next hB2
  have ha2 := LmE.at_.below ha1 hB2
  have hb2 := LmE.at_.below hb1 hB2
  have hc2 := LmE.at_.below hc1 hB2
  have hd2 := LmE.at_.below hd1 hB2
  have hu2 := LmE.at_.below hu1 hB2
  have hv2 := LmE.at_.below hv1 hB2
  clear K1 hB2 ha1 hb1 hc1 hd1 hu1 hv1
  obtain ⟨_, _, _, _, _, _, _, _, _, _, _, _, _, _, _, _⟩ := (K2.blk (g := w.heap.size) (by repeat constructor)).c16
  obtain ⟨_, _, _, _, _, _, _, _⟩ := (K2.blk (g := w.heap.size + 1) (by repeat constructor)).c8
  by_cases hc0 : ch = 0
  case neg =>
   have hc1 : (ch == 0) = false := by rw [beq_eq_false_iff_ne]; exact hc0
   go_wp2_with fail
   go_ret2
   exact ⟨by rw [HN2.out hc0]; rfl, K2.1⟩
  case pos =>
   subst hc0
   obtain ⟨oa, ob, oc, od, hdet⟩ := okM_parts ho
   obtain ⟨ou, ov, hvp⟩ := chkBm_zero hch
   have hYes := keepsV_yes ho hch
   obtain ⟨ia, ja, ya⟩ := ok_ints oa ha2
   obtain ⟨ib, jb, yb⟩ := ok_ints ob hb2
   obtain ⟨ic, jc, yc⟩ := ok_ints oc hc2
   obtain ⟨id, jd, yd⟩ := ok_ints od hd2
   obtain ⟨iu, ju, yu⟩ := ok_ints ou hu2
   obtain ⟨iv, jv, yv⟩ := ok_ints ov hv2
   obtain ⟨xa, hxa⟩ : ∃ x, rv ((sa, Aa, na, ca, la), (za, Ba, ma, da, ka)) = x := ⟨_, rfl⟩
   rw [hxa] at ia ja ya
   obtain ⟨xb, hxb⟩ : ∃ x, rv ((sb, Ab, nb, cb, lb), (zb, Bb, mb, db, kb)) = x := ⟨_, rfl⟩
   rw [hxb] at ib jb yb
   obtain ⟨xc, hxc⟩ : ∃ x, rv ((sc, Ac, nc, cc, lc), (zc, Bc, mc, dc, kc)) = x := ⟨_, rfl⟩
   rw [hxc] at ic jc yc
   obtain ⟨xd, hxd⟩ : ∃ x, rv ((sd, Ad, nd, cd, ld), (zd, Bd, md, dd, kd)) = x := ⟨_, rfl⟩
   rw [hxd] at id jd yd
   obtain ⟨xu, hxu⟩ : ∃ x, rv ((su, Au, nu, cu, lu), (zu, Bu, mu, du, ku)) = x := ⟨_, rfl⟩
   rw [hxu] at iu ju yu
   obtain ⟨xv, hxv⟩ : ∃ x, rv ((sv, Av, nv, cv, lv), (zv, Bv, mv, dv, kv)) = x := ⟨_, rfl⟩
   rw [hxv] at iv jv yv
   rw [hxa, hxb, hxc, hxd, hxu, hxv] at hYes
   rw [hxa, hxb, hxc, hxd] at hdet
   rw [hxv] at hvp
   have K3 := ((((((((((((K2.int ia).int ja).int ib).int jb).int ic).int jc).int id).int jd).int iu).int ju).int iv).int jv)
   have Ya := Lib.hid ya
   have Yb := Lib.hid yb
   have Yc := Lib.hid yc
   have Yd := Lib.hid yd
   have Yu := Lib.hid yu
   have Yv := Lib.hid yv
   have HYES := Lib.hid hYes
   have HDET := Lib.hid hdet
   have HVP := Lib.hid hvp
   clear K2 ho hch HN1 HN2 oa ob oc od hdet ou ov hvp hYes ia ja ya hxa ha2 ib jb yb hxb hb2 ic jc yc hxc hc2 id jd yd hxd hd2 iu ju yu hxu hu2 iv jv yv hxv hv2
   obtain ⟨M, hM0⟩ : ∃ M, M = 2048 := ⟨_, rfl⟩
   have hM : M ≤ 2048 := by omega
   rw [← hM0] at Ya Yb Yc Yd Yu Yv
   clear hM0
   have HS5 : Hid (Sz (xc * xu) (2 * M + 0)) := Lib.hid ((Sz.mul Yc.out Yu.out).mono (by omega))
   have HS6 : Hid (Sz (xd - xa) (2 * M + 1)) := Lib.hid ((Sz.sub Yd.out Ya.out).mono (by omega))
   have HS7 : Hid (Sz ((xc * xu) + (xd - xa)) (4 * M + 2)) := Lib.hid ((Sz.add HS5.out HS6.out).mono (by omega))
   have HS8 : Hid (Sz (xc * xv) (2 * M + 0)) := Lib.hid ((Sz.mul Yc.out Yv.out).mono (by omega))
   have HS9r : Hid (Sz ((xu * ((xc * xu) + (xd - xa))) - (xv * (xc * xv))) (9 * M + 9)) := Lib.hid ((Sz.sub (Sz.mul Yu.out HS7.out) (Sz.mul Yv.out HS8.out)).mono (by omega))
   have HS9j : Hid (Sz ((xu * (xc * xv)) + (xv * ((xc * xu) + (xd - xa)))) (9 * M + 9)) := Lib.hid ((Sz.add (Sz.mul Yu.out HS8.out) (Sz.mul Yv.out HS7.out)).mono (by omega))
   have ne01 : ¬ w.heap.size = w.heap.size + 1 := by omega
   have ne10 : ¬ w.heap.size + 1 = w.heap.size := by omega
   have sz2 : w.heap.size + 1 < w2.heap.size := (K3.blk (g := w.heap.size + 1) (vs := [.bool su, .slice Au nu cu, .bool zu, .slice Bu mu du, .bool sv, .slice Av nv cv, .bool zv, .slice Bv mv dv]) (by simp)).1
   go_upto_region 4 with (fail)
   go_cut [7] from 16 to 35 (fun slotv wx => ∃ (g : Nat) (neg9rg : Bool) (A9rg : Option Addr) (n9rg : Nat) (c9rg : Nat) (ne9rg : Bool) (B9rg : Option Addr) (m9rg : Nat) (d9rg : Nat) (neg9jg : Bool) (A9jg : Option Addr) (n9jg : Nat) (c9jg : Nat) (ne9jg : Bool) (B9jg : Option Addr) (m9jg : Nat) (d9jg : Nat), slotv = .pointer (some ⟨g, 0, none⟩) ∧ w.heap.size + 1 < g ∧
    Mm w [(g, [.bool neg9rg, .slice A9rg n9rg c9rg, .bool ne9rg, .slice B9rg m9rg d9rg, .bool neg9jg, .slice A9jg n9jg c9jg, .bool ne9jg, .slice B9jg m9jg d9jg]), (w.heap.size, [.bool sa, .slice Aa na ca, .bool za, .slice Ba ma da, .bool sb, .slice Ab nb cb, .bool zb, .slice Bb mb db, .bool sc, .slice Ac nc cc, .bool zc, .slice Bc mc dc, .bool sd, .slice Ad nd cd, .bool zd, .slice Bd md dd])] [(neg9rg, A9rg, n9rg, c9rg, (((xu * ((xc * xu) + (xd - xa))) - (xv * (xc * xv))) : Rat).num), (ne9rg, B9rg, m9rg, d9rg, (((((xu * ((xc * xu) + (xd - xa))) - (xv * (xc * xv))) : Rat).den : Nat) : Int)), (neg9jg, A9jg, n9jg, c9jg, (((xu * (xc * xv)) + (xv * ((xc * xu) + (xd - xa)))) : Rat).num), (ne9jg, B9jg, m9jg, d9jg, (((((xu * (xc * xv)) + (xv * ((xc * xu) + (xd - xa)))) : Rat).den : Nat) : Int)), (sb, Ab, nb, cb, (xb : Rat).num), (zb, Bb, mb, db, (((xb : Rat).den : Nat) : Int))] wx)
   case first =>
    go_region_held3 (fun w' => w'.cell? ⟨w.heap.size, 0, none⟩ = some (.bool sa) ∧ w'.cell? ⟨w.heap.size, 1, none⟩ = some (.slice Aa na ca) ∧ w'.cell? ⟨w.heap.size, 2, none⟩ = some (.bool za) ∧ w'.cell? ⟨w.heap.size, 3, none⟩ = some (.slice Ba ma da) ∧ w'.cell? ⟨w.heap.size, 4, none⟩ = some (.bool sb) ∧ w'.cell? ⟨w.heap.size, 5, none⟩ = some (.slice Ab nb cb) ∧ w'.cell? ⟨w.heap.size, 6, none⟩ = some (.bool zb) ∧ w'.cell? ⟨w.heap.size, 7, none⟩ = some (.slice Bb mb db) ∧ w'.cell? ⟨w.heap.size, 8, none⟩ = some (.bool sc) ∧ w'.cell? ⟨w.heap.size, 9, none⟩ = some (.slice Ac nc cc) ∧ w'.cell? ⟨w.heap.size, 10, none⟩ = some (.bool zc) ∧ w'.cell? ⟨w.heap.size, 11, none⟩ = some (.slice Bc mc dc) ∧ w'.cell? ⟨w.heap.size, 12, none⟩ = some (.bool sd) ∧ w'.cell? ⟨w.heap.size, 13, none⟩ = some (.slice Ad nd cd) ∧ w'.cell? ⟨w.heap.size, 14, none⟩ = some (.bool zd) ∧ w'.cell? ⟨w.heap.size, 15, none⟩ = some (.slice Bd md dd) ∧ w'.cell? ⟨w.heap.size + 1, 0, none⟩ = some (.bool su) ∧ w'.cell? ⟨w.heap.size + 1, 1, none⟩ = some (.slice Au nu cu) ∧ w'.cell? ⟨w.heap.size + 1, 2, none⟩ = some (.bool zu) ∧ w'.cell? ⟨w.heap.size + 1, 3, none⟩ = some (.slice Bu mu du) ∧ w'.cell? ⟨w.heap.size + 1, 4, none⟩ = some (.bool sv) ∧ w'.cell? ⟨w.heap.size + 1, 5, none⟩ = some (.slice Av nv cv) ∧ w'.cell? ⟨w.heap.size + 1, 6, none⟩ = some (.bool zv) ∧ w'.cell? ⟨w.heap.size + 1, 7, none⟩ = some (.slice Bv mv dv))
     (go_keep)
     (first
      | (go_at_call 140; apply Calls.withMm (w0 := w); (case K => with_reducible repeat (first | exact K3 | apply Mm.drew | apply Mm.drewN | apply Mm.varz)); intro KX; (try simp only [hszA] at KX); (with_reducible refine (rat_times_any sc zc Ac Bc nc cc mc dc su zu Au Bu nu cu mu du xc xu (xc * xu) M M _ (KX.at_ (mE 7 rfl)) (KX.at_ (mE 6 rfl)) (KX.at_ (mE 3 rfl)) (KX.at_ (mE 2 rfl)) Yc.out Yu.out (by omega) (Lib.hid rfl)).mono ?_); rintro e5 w5 ⟨neg5, A5, n5, c5, ne5, B5, m5, d5, rfl, IHS5, JHS5, hb5⟩; (with_reducible have K5 := (((KX.next hb5).int JHS5).int IHS5)); obtain ⟨_, _, _, _, _, _, _, _, _, _, _, _, _, _, _, _⟩ := (K5.blk (g := w.heap.size) (by first | exact mE 1 rfl | exact mE 2 rfl)).c16; obtain ⟨_, _, _, _, _, _, _, _⟩ := (K5.blk (g := w.heap.size + 1) (by first | exact mE 0 rfl | exact mE 1 rfl)).c8; have sz5 : w.heap.size + 1 < w5.heap.size := (K5.blk (g := w.heap.size + 1) (by first | exact mE 0 rfl | exact mE 1 rfl)).1; (try (have V0_5 := K5.blk (g := w2.heap.size) (vs := [.bool false, .slice none 0 0, .bool false, .slice none 0 0, .bool false, .slice none 0 0, .bool false, .slice none 0 0]) (by with_reducible exact List.mem_cons_self); obtain ⟨_, _, _, _, _, _, _, _⟩ := V0_5.c8; obtain ⟨_, _, _, _, _, _, _, _, _⟩ := V0_5.f8; obtain ⟨fa0_5_0, fb0_5_0⟩ := nq (a := w.heap.size) (b := w2.heap.size) (by omega); obtain ⟨fa0_5_1, fb0_5_1⟩ := nq (a := w.heap.size + 1) (b := w2.heap.size) (by omega))); clear KX IHS5 JHS5 hb5)
      | (go_at_call 139; apply Calls.withMm (w0 := w); (case K => with_reducible repeat (first | exact K5 | apply Mm.drew | apply Mm.drewN | apply Mm.varz)); intro KX; (try simp only [hszA] at KX); (with_reducible refine (rat_minus_any sd zd Ad Bd nd cd md dd sa za Aa Ba na ca ma da xd xa (xd - xa) M M _ (KX.at_ (mE 7 rfl)) (KX.at_ (mE 6 rfl)) (KX.at_ (mE 13 rfl)) (KX.at_ (mE 12 rfl)) Yd.out Ya.out (by omega) (Lib.hid rfl)).mono ?_); rintro e6 w6 ⟨neg6, A6, n6, c6, ne6, B6, m6, d6, rfl, IHS6, JHS6, hb6⟩; (with_reducible have K6 := (((KX.next hb6).int JHS6).int IHS6)); obtain ⟨_, _, _, _, _, _, _, _, _, _, _, _, _, _, _, _⟩ := (K6.blk (g := w.heap.size) (by first | exact mE 1 rfl | exact mE 2 rfl)).c16; obtain ⟨_, _, _, _, _, _, _, _⟩ := (K6.blk (g := w.heap.size + 1) (by first | exact mE 0 rfl | exact mE 1 rfl)).c8; have sz6 : w.heap.size + 1 < w6.heap.size := (K6.blk (g := w.heap.size + 1) (by first | exact mE 0 rfl | exact mE 1 rfl)).1; (try (have V0_6 := K6.blk (g := w2.heap.size) (vs := [.bool false, .slice none 0 0, .bool false, .slice none 0 0, .bool false, .slice none 0 0, .bool false, .slice none 0 0]) (by with_reducible exact List.mem_cons_self); obtain ⟨_, _, _, _, _, _, _, _⟩ := V0_6.c8; obtain ⟨_, _, _, _, _, _, _, _, _⟩ := V0_6.f8; obtain ⟨fa0_6_0, fb0_6_0⟩ := nq (a := w.heap.size) (b := w2.heap.size) (by omega); obtain ⟨fa0_6_1, fb0_6_1⟩ := nq (a := w.heap.size + 1) (b := w2.heap.size) (by omega))); (try (have V1_6 := K6.blk (g := w5.heap.size) (vs := [.bool false, .slice none 0 0, .bool false, .slice none 0 0, .bool false, .slice none 0 0, .bool false, .slice none 0 0]) (by with_reducible exact List.mem_cons_self); obtain ⟨_, _, _, _, _, _, _, _⟩ := V1_6.c8; obtain ⟨_, _, _, _, _, _, _, _, _⟩ := V1_6.f8; obtain ⟨fa1_6_0, fb1_6_0⟩ := nq (a := w.heap.size) (b := w5.heap.size) (by omega); obtain ⟨fa1_6_1, fb1_6_1⟩ := nq (a := w.heap.size + 1) (b := w5.heap.size) (by omega))); clear KX IHS6 JHS6 hb6)
      | (go_at_call 141; apply Calls.withMm (w0 := w); (case K => with_reducible repeat (first | exact K6 | apply Mm.drew | apply Mm.drewN | apply Mm.varz)); intro KX; (try simp only [hszA] at KX); (with_reducible refine (rat_plus_any neg5 ne5 A5 B5 n5 c5 m5 d5 neg6 ne6 A6 B6 n6 c6 m6 d6 (xc * xu) (xd - xa) ((xc * xu) + (xd - xa)) (2 * M + 0) (2 * M + 1) _ (KX.at_ (mE 2 rfl)) (KX.at_ (mE 3 rfl)) (KX.at_ (mE 0 rfl)) (KX.at_ (mE 1 rfl)) HS5.out HS6.out (by omega) (Lib.hid rfl)).mono ?_); rintro e7 w7 ⟨neg7, A7, n7, c7, ne7, B7, m7, d7, rfl, IHS7, JHS7, hb7⟩; (with_reducible have K7 := (((KX.next hb7).int JHS7).int IHS7)); obtain ⟨_, _, _, _, _, _, _, _, _, _, _, _, _, _, _, _⟩ := (K7.blk (g := w.heap.size) (by first | exact mE 1 rfl | exact mE 2 rfl)).c16; obtain ⟨_, _, _, _, _, _, _, _⟩ := (K7.blk (g := w.heap.size + 1) (by first | exact mE 0 rfl | exact mE 1 rfl)).c8; have sz7 : w.heap.size + 1 < w7.heap.size := (K7.blk (g := w.heap.size + 1) (by first | exact mE 0 rfl | exact mE 1 rfl)).1; (try (have V0_7 := K7.blk (g := w2.heap.size) (vs := [.bool false, .slice none 0 0, .bool false, .slice none 0 0, .bool false, .slice none 0 0, .bool false, .slice none 0 0]) (by with_reducible exact List.mem_cons_self); obtain ⟨_, _, _, _, _, _, _, _⟩ := V0_7.c8; obtain ⟨_, _, _, _, _, _, _, _, _⟩ := V0_7.f8; obtain ⟨fa0_7_0, fb0_7_0⟩ := nq (a := w.heap.size) (b := w2.heap.size) (by omega); obtain ⟨fa0_7_1, fb0_7_1⟩ := nq (a := w.heap.size + 1) (b := w2.heap.size) (by omega))); (try (have V1_7 := K7.blk (g := w5.heap.size) (vs := [.bool false, .slice none 0 0, .bool false, .slice none 0 0, .bool false, .slice none 0 0, .bool false, .slice none 0 0]) (by with_reducible exact List.mem_cons_self); obtain ⟨_, _, _, _, _, _, _, _⟩ := V1_7.c8; obtain ⟨_, _, _, _, _, _, _, _, _⟩ := V1_7.f8; obtain ⟨fa1_7_0, fb1_7_0⟩ := nq (a := w.heap.size) (b := w5.heap.size) (by omega); obtain ⟨fa1_7_1, fb1_7_1⟩ := nq (a := w.heap.size + 1) (b := w5.heap.size) (by omega))); (try (have V2_7 := K7.blk (g := w6.heap.size) (vs := [.bool false, .slice none 0 0, .bool false, .slice none 0 0, .bool false, .slice none 0 0, .bool false, .slice none 0 0]) (by with_reducible exact List.mem_cons_self); obtain ⟨_, _, _, _, _, _, _, _⟩ := V2_7.c8; obtain ⟨_, _, _, _, _, _, _, _, _⟩ := V2_7.f8; obtain ⟨fa2_7_0, fb2_7_0⟩ := nq (a := w.heap.size) (b := w6.heap.size) (by omega); obtain ⟨fa2_7_1, fb2_7_1⟩ := nq (a := w.heap.size + 1) (b := w6.heap.size) (by omega))); clear KX IHS7 JHS7 hb7)
      | (go_at_call 140; apply Calls.withMm (w0 := w); (case K => with_reducible repeat (first | exact K7 | apply Mm.drew | apply Mm.drewN | apply Mm.varz)); intro KX; (try simp only [hszA] at KX); (with_reducible refine (rat_times_any sc zc Ac Bc nc cc mc dc sv zv Av Bv nv cv mv dv xc xv (xc * xv) M M _ (KX.at_ (mE 13 rfl)) (KX.at_ (mE 12 rfl)) (KX.at_ (mE 7 rfl)) (KX.at_ (mE 6 rfl)) Yc.out Yv.out (by omega) (Lib.hid rfl)).mono ?_); rintro e8 w8 ⟨neg8, A8, n8, c8, ne8, B8, m8, d8, rfl, IHS8, JHS8, hb8⟩; (with_reducible have K8 := (((KX.next hb8).int JHS8).int IHS8)); obtain ⟨_, _, _, _, _, _, _, _, _, _, _, _, _, _, _, _⟩ := (K8.blk (g := w.heap.size) (by first | exact mE 1 rfl | exact mE 2 rfl)).c16; obtain ⟨_, _, _, _, _, _, _, _⟩ := (K8.blk (g := w.heap.size + 1) (by first | exact mE 0 rfl | exact mE 1 rfl)).c8; have sz8 : w.heap.size + 1 < w8.heap.size := (K8.blk (g := w.heap.size + 1) (by first | exact mE 0 rfl | exact mE 1 rfl)).1; (try (have V0_8 := K8.blk (g := w2.heap.size) (vs := [.bool false, .slice none 0 0, .bool false, .slice none 0 0, .bool false, .slice none 0 0, .bool false, .slice none 0 0]) (by with_reducible exact List.mem_cons_self); obtain ⟨_, _, _, _, _, _, _, _⟩ := V0_8.c8; obtain ⟨_, _, _, _, _, _, _, _, _⟩ := V0_8.f8; obtain ⟨fa0_8_0, fb0_8_0⟩ := nq (a := w.heap.size) (b := w2.heap.size) (by omega); obtain ⟨fa0_8_1, fb0_8_1⟩ := nq (a := w.heap.size + 1) (b := w2.heap.size) (by omega))); (try (have V1_8 := K8.blk (g := w5.heap.size) (vs := [.bool false, .slice none 0 0, .bool false, .slice none 0 0, .bool false, .slice none 0 0, .bool false, .slice none 0 0]) (by with_reducible exact List.mem_cons_self); obtain ⟨_, _, _, _, _, _, _, _⟩ := V1_8.c8; obtain ⟨_, _, _, _, _, _, _, _, _⟩ := V1_8.f8; obtain ⟨fa1_8_0, fb1_8_0⟩ := nq (a := w.heap.size) (b := w5.heap.size) (by omega); obtain ⟨fa1_8_1, fb1_8_1⟩ := nq (a := w.heap.size + 1) (b := w5.heap.size) (by omega))); (try (have V2_8 := K8.blk (g := w6.heap.size) (vs := [.bool false, .slice none 0 0, .bool false, .slice none 0 0, .bool false, .slice none 0 0, .bool false, .slice none 0 0]) (by with_reducible exact List.mem_cons_self); obtain ⟨_, _, _, _, _, _, _, _⟩ := V2_8.c8; obtain ⟨_, _, _, _, _, _, _, _, _⟩ := V2_8.f8; obtain ⟨fa2_8_0, fb2_8_0⟩ := nq (a := w.heap.size) (b := w6.heap.size) (by omega); obtain ⟨fa2_8_1, fb2_8_1⟩ := nq (a := w.heap.size + 1) (b := w6.heap.size) (by omega))); (try (have V3_8 := K8.blk (g := w7.heap.size) (vs := [.bool false, .slice none 0 0, .bool false, .slice none 0 0, .bool false, .slice none 0 0, .bool false, .slice none 0 0]) (by with_reducible exact List.mem_cons_self); obtain ⟨_, _, _, _, _, _, _, _⟩ := V3_8.c8; obtain ⟨_, _, _, _, _, _, _, _, _⟩ := V3_8.f8; obtain ⟨fa3_8_0, fb3_8_0⟩ := nq (a := w.heap.size) (b := w7.heap.size) (by omega); obtain ⟨fa3_8_1, fb3_8_1⟩ := nq (a := w.heap.size + 1) (b := w7.heap.size) (by omega))); clear KX IHS8 JHS8 hb8)
      | (go_at_call 138; apply Calls.withMm (w0 := w); (case K => with_reducible repeat (first | exact K8 | apply Mm.drew | apply Mm.drewN | apply Mm.varz)); intro KX; (try simp only [hszA] at KX); (with_reducible refine (keeps_times_any su zu Au Bu nu cu mu du xu sv zv Av Bv nv cv mv dv xv neg7 ne7 A7 B7 n7 c7 m7 d7 ((xc * xu) + (xd - xa)) neg8 ne8 A8 B8 n8 c8 m8 d8 (xc * xv) (4 * M + 2) _ (KX.at_ (mE 11 rfl)) (KX.at_ (mE 10 rfl)) (Yu.out.mono (by omega)) (KX.at_ (mE 9 rfl)) (KX.at_ (mE 8 rfl)) (Yv.out.mono (by omega)) (KX.at_ (mE 2 rfl)) (KX.at_ (mE 3 rfl)) (HS7.out.mono (by omega)) (KX.at_ (mE 0 rfl)) (KX.at_ (mE 1 rfl)) (HS8.out.mono (by omega)) (by omega)).mono ?_); rintro e9 w9 ⟨neg9r, A9r, n9r, c9r, ne9r, B9r, m9r, d9r, neg9j, A9j, n9j, c9j, ne9j, B9j, m9j, d9j, rfl, IHS9r, JHS9r, IHS9j, JHS9j, hb9⟩; (with_reducible have K9 := (((((KX.next hb9).int JHS9r).int IHS9r).int JHS9j).int IHS9j)); obtain ⟨_, _, _, _, _, _, _, _, _, _, _, _, _, _, _, _⟩ := (K9.blk (g := w.heap.size) (by first | exact mE 1 rfl | exact mE 2 rfl)).c16; obtain ⟨_, _, _, _, _, _, _, _⟩ := (K9.blk (g := w.heap.size + 1) (by first | exact mE 0 rfl | exact mE 1 rfl)).c8; have sz9 : w.heap.size + 1 < w9.heap.size := (K9.blk (g := w.heap.size + 1) (by first | exact mE 0 rfl | exact mE 1 rfl)).1; (try (have V0_9 := K9.blk (g := w2.heap.size) (vs := [.bool false, .slice none 0 0, .bool false, .slice none 0 0, .bool false, .slice none 0 0, .bool false, .slice none 0 0]) (by with_reducible exact List.mem_cons_self); obtain ⟨_, _, _, _, _, _, _, _⟩ := V0_9.c8; obtain ⟨_, _, _, _, _, _, _, _, _⟩ := V0_9.f8; obtain ⟨fa0_9_0, fb0_9_0⟩ := nq (a := w.heap.size) (b := w2.heap.size) (by omega); obtain ⟨fa0_9_1, fb0_9_1⟩ := nq (a := w.heap.size + 1) (b := w2.heap.size) (by omega))); (try (have V1_9 := K9.blk (g := w5.heap.size) (vs := [.bool false, .slice none 0 0, .bool false, .slice none 0 0, .bool false, .slice none 0 0, .bool false, .slice none 0 0]) (by with_reducible exact List.mem_cons_self); obtain ⟨_, _, _, _, _, _, _, _⟩ := V1_9.c8; obtain ⟨_, _, _, _, _, _, _, _, _⟩ := V1_9.f8; obtain ⟨fa1_9_0, fb1_9_0⟩ := nq (a := w.heap.size) (b := w5.heap.size) (by omega); obtain ⟨fa1_9_1, fb1_9_1⟩ := nq (a := w.heap.size + 1) (b := w5.heap.size) (by omega))); (try (have V2_9 := K9.blk (g := w6.heap.size) (vs := [.bool false, .slice none 0 0, .bool false, .slice none 0 0, .bool false, .slice none 0 0, .bool false, .slice none 0 0]) (by with_reducible exact List.mem_cons_self); obtain ⟨_, _, _, _, _, _, _, _⟩ := V2_9.c8; obtain ⟨_, _, _, _, _, _, _, _, _⟩ := V2_9.f8; obtain ⟨fa2_9_0, fb2_9_0⟩ := nq (a := w.heap.size) (b := w6.heap.size) (by omega); obtain ⟨fa2_9_1, fb2_9_1⟩ := nq (a := w.heap.size + 1) (b := w6.heap.size) (by omega))); (try (have V3_9 := K9.blk (g := w7.heap.size) (vs := [.bool false, .slice none 0 0, .bool false, .slice none 0 0, .bool false, .slice none 0 0, .bool false, .slice none 0 0]) (by with_reducible exact List.mem_cons_self); obtain ⟨_, _, _, _, _, _, _, _⟩ := V3_9.c8; obtain ⟨_, _, _, _, _, _, _, _, _⟩ := V3_9.f8; obtain ⟨fa3_9_0, fb3_9_0⟩ := nq (a := w.heap.size) (b := w7.heap.size) (by omega); obtain ⟨fa3_9_1, fb3_9_1⟩ := nq (a := w.heap.size + 1) (b := w7.heap.size) (by omega))); (try (have V4_9 := K9.blk (g := w8.heap.size) (vs := [.bool false, .slice none 0 0, .bool false, .slice none 0 0, .bool false, .slice none 0 0, .bool false, .slice none 0 0]) (by with_reducible exact List.mem_cons_self); obtain ⟨_, _, _, _, _, _, _, _⟩ := V4_9.c8; obtain ⟨_, _, _, _, _, _, _, _, _⟩ := V4_9.f8; obtain ⟨fa4_9_0, fb4_9_0⟩ := nq (a := w.heap.size) (b := w8.heap.size) (by omega); obtain ⟨fa4_9_1, fb4_9_1⟩ := nq (a := w.heap.size + 1) (b := w8.heap.size) (by omega))); clear KX IHS9r JHS9r IHS9j JHS9j hb9))
    all_goals (go_wp2_with fail)
    all_goals go_meet
    all_goals (first
     | with_reducible exact ⟨w9.heap.size, neg9r, A9r, n9r, c9r, ne9r, B9r, m9r, d9r, neg9j, A9j, n9j, c9j, ne9j, B9j, m9j, d9j, rfl, by assumption, (K9.var (g := w9.heap.size) rfl [.bool neg9r, .slice A9r n9r c9r, .bool ne9r, .slice B9r m9r d9r, .bool neg9j, .slice A9j n9j c9j, .bool ne9j, .slice B9j m9j d9j] 30).pick (L' := [(w9.heap.size, [.bool neg9r, .slice A9r n9r c9r, .bool ne9r, .slice B9r m9r d9r, .bool neg9j, .slice A9j n9j c9j, .bool ne9j, .slice B9j m9j d9j]), (w.heap.size, [.bool sa, .slice Aa na ca, .bool za, .slice Ba ma da, .bool sb, .slice Ab nb cb, .bool zb, .slice Bb mb db, .bool sc, .slice Ac nc cc, .bool zc, .slice Bc mc dc, .bool sd, .slice Ad nd cd, .bool zd, .slice Bd md dd])]) (l' := [(neg9r, A9r, n9r, c9r, (((xu * ((xc * xu) + (xd - xa))) - (xv * (xc * xv))) : Rat).num), (ne9r, B9r, m9r, d9r, (((((xu * ((xc * xu) + (xd - xa))) - (xv * (xc * xv))) : Rat).den : Nat) : Int)), (neg9j, A9j, n9j, c9j, (((xu * (xc * xv)) + (xv * ((xc * xu) + (xd - xa)))) : Rat).num), (ne9j, B9j, m9j, d9j, (((((xu * (xc * xv)) + (xv * ((xc * xu) + (xd - xa)))) : Rat).den : Nat) : Int)), (sb, Ab, nb, cb, (xb : Rat).num), (zb, Bb, mb, db, (((xb : Rat).den : Nat) : Int))]) (all_cons (mE 0 rfl) (all_cons (mE 2 rfl) all_nil)) (all_cons (mE 2 rfl) (all_cons (mE 3 rfl) (all_cons (mE 0 rfl) (all_cons (mE 1 rfl) (all_cons (mE 21 rfl) (all_cons (mE 20 rfl) all_nil))))))⟩
     | with_reducible exact ⟨w8.heap.size, neg9r, A9r, n9r, c9r, ne9r, B9r, m9r, d9r, neg9j, A9j, n9j, c9j, ne9j, B9j, m9j, d9j, rfl, by assumption, (K9.pick (L' := [(w8.heap.size, [.bool false, .slice none 0 0, .bool false, .slice none 0 0, .bool false, .slice none 0 0, .bool false, .slice none 0 0]), (w.heap.size, [.bool sa, .slice Aa na ca, .bool za, .slice Ba ma da, .bool sb, .slice Ab nb cb, .bool zb, .slice Bb mb db, .bool sc, .slice Ac nc cc, .bool zc, .slice Bc mc dc, .bool sd, .slice Ad nd cd, .bool zd, .slice Bd md dd])]) (l' := [(neg9r, A9r, n9r, c9r, (((xu * ((xc * xu) + (xd - xa))) - (xv * (xc * xv))) : Rat).num), (ne9r, B9r, m9r, d9r, (((((xu * ((xc * xu) + (xd - xa))) - (xv * (xc * xv))) : Rat).den : Nat) : Int)), (neg9j, A9j, n9j, c9j, (((xu * (xc * xv)) + (xv * ((xc * xu) + (xd - xa)))) : Rat).num), (ne9j, B9j, m9j, d9j, (((((xu * (xc * xv)) + (xv * ((xc * xu) + (xd - xa)))) : Rat).den : Nat) : Int)), (sb, Ab, nb, cb, (xb : Rat).num), (zb, Bb, mb, db, (((xb : Rat).den : Nat) : Int))]) (all_cons (mE 0 rfl) (all_cons (mE 2 rfl) all_nil)) (all_cons (mE 2 rfl) (all_cons (mE 3 rfl) (all_cons (mE 0 rfl) (all_cons (mE 1 rfl) (all_cons (mE 21 rfl) (all_cons (mE 20 rfl) all_nil))))))).set8 (all_cons (show w8.heap.size ≠ w.heap.size by omega) all_nil) neg9r A9r n9r c9r ne9r B9r m9r d9r neg9j A9j n9j c9j ne9j B9j m9j d9j⟩
     | with_reducible exact ⟨w7.heap.size, neg9r, A9r, n9r, c9r, ne9r, B9r, m9r, d9r, neg9j, A9j, n9j, c9j, ne9j, B9j, m9j, d9j, rfl, by assumption, (K9.pick (L' := [(w7.heap.size, [.bool false, .slice none 0 0, .bool false, .slice none 0 0, .bool false, .slice none 0 0, .bool false, .slice none 0 0]), (w.heap.size, [.bool sa, .slice Aa na ca, .bool za, .slice Ba ma da, .bool sb, .slice Ab nb cb, .bool zb, .slice Bb mb db, .bool sc, .slice Ac nc cc, .bool zc, .slice Bc mc dc, .bool sd, .slice Ad nd cd, .bool zd, .slice Bd md dd])]) (l' := [(neg9r, A9r, n9r, c9r, (((xu * ((xc * xu) + (xd - xa))) - (xv * (xc * xv))) : Rat).num), (ne9r, B9r, m9r, d9r, (((((xu * ((xc * xu) + (xd - xa))) - (xv * (xc * xv))) : Rat).den : Nat) : Int)), (neg9j, A9j, n9j, c9j, (((xu * (xc * xv)) + (xv * ((xc * xu) + (xd - xa)))) : Rat).num), (ne9j, B9j, m9j, d9j, (((((xu * (xc * xv)) + (xv * ((xc * xu) + (xd - xa)))) : Rat).den : Nat) : Int)), (sb, Ab, nb, cb, (xb : Rat).num), (zb, Bb, mb, db, (((xb : Rat).den : Nat) : Int))]) (all_cons (mE 0 rfl) (all_cons (mE 2 rfl) all_nil)) (all_cons (mE 2 rfl) (all_cons (mE 3 rfl) (all_cons (mE 0 rfl) (all_cons (mE 1 rfl) (all_cons (mE 21 rfl) (all_cons (mE 20 rfl) all_nil))))))).set8 (all_cons (show w7.heap.size ≠ w.heap.size by omega) all_nil) neg9r A9r n9r c9r ne9r B9r m9r d9r neg9j A9j n9j c9j ne9j B9j m9j d9j⟩
     | with_reducible exact ⟨w6.heap.size, neg9r, A9r, n9r, c9r, ne9r, B9r, m9r, d9r, neg9j, A9j, n9j, c9j, ne9j, B9j, m9j, d9j, rfl, by assumption, (K9.pick (L' := [(w6.heap.size, [.bool false, .slice none 0 0, .bool false, .slice none 0 0, .bool false, .slice none 0 0, .bool false, .slice none 0 0]), (w.heap.size, [.bool sa, .slice Aa na ca, .bool za, .slice Ba ma da, .bool sb, .slice Ab nb cb, .bool zb, .slice Bb mb db, .bool sc, .slice Ac nc cc, .bool zc, .slice Bc mc dc, .bool sd, .slice Ad nd cd, .bool zd, .slice Bd md dd])]) (l' := [(neg9r, A9r, n9r, c9r, (((xu * ((xc * xu) + (xd - xa))) - (xv * (xc * xv))) : Rat).num), (ne9r, B9r, m9r, d9r, (((((xu * ((xc * xu) + (xd - xa))) - (xv * (xc * xv))) : Rat).den : Nat) : Int)), (neg9j, A9j, n9j, c9j, (((xu * (xc * xv)) + (xv * ((xc * xu) + (xd - xa)))) : Rat).num), (ne9j, B9j, m9j, d9j, (((((xu * (xc * xv)) + (xv * ((xc * xu) + (xd - xa)))) : Rat).den : Nat) : Int)), (sb, Ab, nb, cb, (xb : Rat).num), (zb, Bb, mb, db, (((xb : Rat).den : Nat) : Int))]) (all_cons (mE 0 rfl) (all_cons (mE 2 rfl) all_nil)) (all_cons (mE 2 rfl) (all_cons (mE 3 rfl) (all_cons (mE 0 rfl) (all_cons (mE 1 rfl) (all_cons (mE 21 rfl) (all_cons (mE 20 rfl) all_nil))))))).set8 (all_cons (show w6.heap.size ≠ w.heap.size by omega) all_nil) neg9r A9r n9r c9r ne9r B9r m9r d9r neg9j A9j n9j c9j ne9j B9j m9j d9j⟩
     | with_reducible exact ⟨w5.heap.size, neg9r, A9r, n9r, c9r, ne9r, B9r, m9r, d9r, neg9j, A9j, n9j, c9j, ne9j, B9j, m9j, d9j, rfl, by assumption, (K9.pick (L' := [(w5.heap.size, [.bool false, .slice none 0 0, .bool false, .slice none 0 0, .bool false, .slice none 0 0, .bool false, .slice none 0 0]), (w.heap.size, [.bool sa, .slice Aa na ca, .bool za, .slice Ba ma da, .bool sb, .slice Ab nb cb, .bool zb, .slice Bb mb db, .bool sc, .slice Ac nc cc, .bool zc, .slice Bc mc dc, .bool sd, .slice Ad nd cd, .bool zd, .slice Bd md dd])]) (l' := [(neg9r, A9r, n9r, c9r, (((xu * ((xc * xu) + (xd - xa))) - (xv * (xc * xv))) : Rat).num), (ne9r, B9r, m9r, d9r, (((((xu * ((xc * xu) + (xd - xa))) - (xv * (xc * xv))) : Rat).den : Nat) : Int)), (neg9j, A9j, n9j, c9j, (((xu * (xc * xv)) + (xv * ((xc * xu) + (xd - xa)))) : Rat).num), (ne9j, B9j, m9j, d9j, (((((xu * (xc * xv)) + (xv * ((xc * xu) + (xd - xa)))) : Rat).den : Nat) : Int)), (sb, Ab, nb, cb, (xb : Rat).num), (zb, Bb, mb, db, (((xb : Rat).den : Nat) : Int))]) (all_cons (mE 0 rfl) (all_cons (mE 2 rfl) all_nil)) (all_cons (mE 2 rfl) (all_cons (mE 3 rfl) (all_cons (mE 0 rfl) (all_cons (mE 1 rfl) (all_cons (mE 21 rfl) (all_cons (mE 20 rfl) all_nil))))))).set8 (all_cons (show w5.heap.size ≠ w.heap.size by omega) all_nil) neg9r A9r n9r c9r ne9r B9r m9r d9r neg9j A9j n9j c9j ne9j B9j m9j d9j⟩
     | with_reducible exact ⟨w2.heap.size, neg9r, A9r, n9r, c9r, ne9r, B9r, m9r, d9r, neg9j, A9j, n9j, c9j, ne9j, B9j, m9j, d9j, rfl, by assumption, (K9.pick (L' := [(w2.heap.size, [.bool false, .slice none 0 0, .bool false, .slice none 0 0, .bool false, .slice none 0 0, .bool false, .slice none 0 0]), (w.heap.size, [.bool sa, .slice Aa na ca, .bool za, .slice Ba ma da, .bool sb, .slice Ab nb cb, .bool zb, .slice Bb mb db, .bool sc, .slice Ac nc cc, .bool zc, .slice Bc mc dc, .bool sd, .slice Ad nd cd, .bool zd, .slice Bd md dd])]) (l' := [(neg9r, A9r, n9r, c9r, (((xu * ((xc * xu) + (xd - xa))) - (xv * (xc * xv))) : Rat).num), (ne9r, B9r, m9r, d9r, (((((xu * ((xc * xu) + (xd - xa))) - (xv * (xc * xv))) : Rat).den : Nat) : Int)), (neg9j, A9j, n9j, c9j, (((xu * (xc * xv)) + (xv * ((xc * xu) + (xd - xa)))) : Rat).num), (ne9j, B9j, m9j, d9j, (((((xu * (xc * xv)) + (xv * ((xc * xu) + (xd - xa)))) : Rat).den : Nat) : Int)), (sb, Ab, nb, cb, (xb : Rat).num), (zb, Bb, mb, db, (((xb : Rat).den : Nat) : Int))]) (all_cons (mE 0 rfl) (all_cons (mE 2 rfl) all_nil)) (all_cons (mE 2 rfl) (all_cons (mE 3 rfl) (all_cons (mE 0 rfl) (all_cons (mE 1 rfl) (all_cons (mE 21 rfl) (all_cons (mE 20 rfl) all_nil))))))).set8 (all_cons (show w2.heap.size ≠ w.heap.size by omega) all_nil) neg9r A9r n9r c9r ne9r B9r m9r d9r neg9j A9j n9j c9j ne9j B9j m9j d9j⟩)
   case rest =>
    obtain ⟨g, neg9rg, A9rg, n9rg, c9rg, ne9rg, B9rg, m9rg, d9rg, neg9jg, A9jg, n9jg, c9jg, ne9jg, B9jg, m9jg, d9jg, rfl, hg, KC⟩ := hcut
    clear K3
    rename World => wc
    obtain ⟨_, _, _, _, _, _, _, _⟩ := (KC.blk (g := g) (by repeat constructor)).c8
    obtain ⟨_, _, _, _, _, _, _, _, _, _, _, _, _, _, _, _⟩ := (KC.blk (g := w.heap.size) (by repeat constructor)).c16
    have gx1 : ¬ g = w.heap.size := by omega
    have gx2 : ¬ w.heap.size = g := by omega
    obtain ⟨re, hre⟩ : ∃ re, ((xu * ((xc * xu) + (xd - xa))) - (xv * (xc * xv))) = re := ⟨_, rfl⟩
    obtain ⟨im, him⟩ : ∃ im, ((xu * (xc * xv)) + (xv * ((xc * xu) + (xd - xa)))) = im := ⟨_, rfl⟩
    rw [hre] at KC HS9r HYES
    rw [him] at KC HS9j HYES
    obtain ⟨v1, hv1⟩ : ∃ v1, rcmp re xb = v1 := ⟨_, rfl⟩
    have hv2 : (v1 == 0) = decide (re = xb) := by rw [← hv1]; exact rcmp_eq _ _
    obtain ⟨v3, hv3⟩ : ∃ v3, im.num.sign = v3 := ⟨_, rfl⟩
    have hv4 : (v3 == 0) = decide (im = 0) := by
     rw [← hv3]
     by_cases h0 : im = 0
     ·rw [h0]; rfl
     ·rw [decide_eq_false h0, beq_eq_false_iff_ne]
      intro hs
      exact h0 (Rat.num_eq_zero.1 (Int.sign_eq_zero_iff_zero.1 hs))
    have HV1 := Lib.hid hv1
    have HV3 := Lib.hid hv3
    have HYE2 : Hid (keepsV ((sa, Aa, na, ca, la), (za, Ba, ma, da, ka)) ((sb, Ab, nb, cb, lb), (zb, Bb, mb, db, kb)) ((sc, Ac, nc, cc, lc), (zc, Bc, mc, dc, kc)) ((sd, Ad, nd, cd, ld), (zd, Bd, md, dd, kd)) ((su, Au, nu, cu, lu), (zu, Bu, mu, du, ku)) ((sv, Av, nv, cv, lv), (zv, Bv, mv, dv, kv)) = ((v1 == 0) && (v3 == 0), 0)) := Lib.hid (by rw [HYES.out, hv2, hv4])
    clear hv1 hv3 hv2 hv4 hre him HYES
    go_wp2_with fail
    refine (rat_cmp_any neg9rg ne9rg A9rg B9rg n9rg c9rg m9rg d9rg sb zb Ab Bb nb cb mb db re xb v1 (9 * M + 9) M _ (KC.at_ (by simp)) (KC.at_ (by simp)) (KC.at_ (by simp)) (KC.at_ (by simp)) HS9r.out Yb.out (by omega) HV1).mono ?_
    rintro ee1 ww1 ⟨rfl, hbb1⟩
    have KE := KC.next hbb1
    obtain ⟨_, _, _, _, _, _, _, _⟩ := (KE.blk (g := g) (by repeat constructor)).c8
    by_cases hz : v1 = 0
    ·subst hz
     go_wp2_with fail
     refine (rat_sign_any neg9jg ne9jg A9jg B9jg n9jg c9jg m9jg d9jg im v3 _ (KE.at_ (by simp)) (KE.at_ (by simp)) HV3).mono ?_
     rintro ee2 ww2 ⟨rfl, hbb2⟩
     go_wp2_with fail
     go_ret2
     exact ⟨by rw [HYE2.out]; rfl, (KE.next hbb2).1⟩
    ·have hz1 : (v1 == 0) = false := by rw [beq_eq_false_iff_ne]; exact hz
     go_wp2_with fail
     go_ret2
     exact ⟨by rw [HYE2.out, hz1]; rfl, KE.1⟩
end Go.Proofs.YtgekmbfmfiikkaaGreatDoor
