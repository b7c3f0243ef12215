/-
  The beam of a cavity, by the reference (polestarref16.Exact).
-/
import Derived.Test.YtgekmbfmfiikkaaGreatDoorMdO
import Derived.Test.YtgekmbfmfiikkaaGreatDoorMdB
import Derived.Test.YtgekmbfmfiikkaaGreatDoorOwH
import Derived.Test.YtgekmbfmfiikkaaGreatDoorRaL
import Derived.Test.YtgekmbfmfiikkaaGreatDoorOwI
namespace Go.Proofs.YtgekmbfmfiikkaaGreatDoor
open Go.RowKit

set_option maxRecDepth 100000 in
set_option maxHeartbeats 6400000 in
theorem ref16_exact_ok (sa za : Bool) (Aa Ba : Option Addr) (na ca ma da : Nat) (xa : Rat) (sb zb : Bool) (Ab Bb : Option Addr) (nb cb mb db : Nat) (xb : Rat) (sc zc : Bool) (Ac Bc : Option Addr) (nc cc mc dc : Nat) (xc : Rat) (sd zd : Bool) (Ad Bd : Option Addr) (nd cd md dd : Nat) (xd : Rat) (M : Nat) (k1 k2 : Nat) (w : World) (ha : IsInt w sa Aa na ca xa.num) (ia : IsInt w za Ba ma da (xa.den : Int)) (ya : Sz xa M) (hb : IsInt w sb Ab nb cb xb.num) (ib : IsInt w zb Bb mb db (xb.den : Int)) (yb : Sz xb M) (hc : IsInt w sc Ac nc cc xc.num) (ic : IsInt w zc Bc mc dc (xc.den : Int)) (yc : Sz xc M) (hd : IsInt w sd Ad nd cd xd.num) (id : IsInt w zd Bd md dd (xd.den : Int)) (yd : Sz xd M) (hM : M = 2048) (nc0 : xc ≠ 0) (h4 : 0 < ((4 : Rat) - ((xa + xd) * (xa + xd)))) (hg : Hid (∀ W, Below w.heap.size w W → Calls Tryz.prog 118 #[.agg #[.bool sa, .slice Aa na ca, .bool za, .slice Ba ma da, .bool sb, .slice Ab nb cb, .bool zb, .slice Bb mb db, .bool sc, .slice Ac nc cc, .bool zc, .slice Bc mc dc, .bool sd, .slice Ad nd cd, .bool zd, .slice Bd md dd]] W (RetV W (.int .i64 0)))) (h1 : IsRt (((4 : Rat) - ((xa + xd) * (xa + xd))) / ((4 : Rat) * (xc * xc))).num.natAbs k1) (h2 : IsRt (((4 : Rat) - ((xa + xd) * (xa + xd))) / ((4 : Rat) * (xc * xc))).den k2) (hr : (decide (k1 * k1 = (((4 : Rat) - ((xa + xd) * (xa + xd))) / ((4 : Rat) * (xc * xc))).num.natAbs) && decide (k2 * k2 = (((4 : Rat) - ((xa + xd) * (xa + xd))) / ((4 : Rat) * (xc * xc))).den)) = true) (hs : (Sz ((xa - xd) / ((2 : Rat) * xc)) M ∧ k1 < 2 ^ (32 * M) ∧ k2 < 2 ^ (32 * M))) :
  Calls Tryz.prog 26 #[.agg #[.bool sa, .slice Aa na ca, .bool za, .slice Ba ma da, .bool sb, .slice Ab nb cb, .bool zb, .slice Bb mb db, .bool sc, .slice Ac nc cc, .bool zc, .slice Bc mc dc, .bool sd, .slice Ad nd cd, .bool zd, .slice Bd md dd]] w (RetN4 w ((xa - xd) / ((2 : Rat) * xc)).num (((xa - xd) / ((2 : Rat) * xc)).den : Int) (k1 : Int) (k2 : Int) 0 true) := by
 have Ya := Lib.hid ya
 have Yb := Lib.hid yb
 have Yc := Lib.hid yc
 have Yd := Lib.hid yd
 have S4 : Hid (Sz (4 : Rat) 1) := Lib.hid ⟨by decide, by decide⟩
 have ST := Sz.add ya yd
 have hd0 : ((4 : Rat) * (xc * xc)) ≠ 0 := fun e => by have := st_sq nc0; rw [e] at this; exact absurd this (by decide)
 have SV : Hid (Sz (((4 : Rat) - ((xa + xd) * (xa + xd))) / ((4 : Rat) * (xc * xc))) 100000) := Lib.hid ((Sz.div (Sz.sub S4.out (Sz.mul ST ST)) (Sz.mul S4.out (Sz.mul yc yc)) hd0).mono (by omega))
 have SR : Hid (Sz ((xa - xd) / ((2 : Rat) * xc)) 100000) := Lib.hid ((Sz.div (Sz.sub ya yd) (Sz.mul (⟨by decide, by decide⟩ : Sz (2 : Rat) 1) yc) (st_two nc0)).mono (by omega))
 have HP : Hid (0 < (((4 : Rat) - ((xa + xd) * (xa + xd))) / ((4 : Rat) * (xc * xc))).num) := Lib.hid (Int.sign_eq_one_iff_pos.1 ((rat_num_sign _).1 (st_v h4 (st_sq nc0))))
 have HR := Lib.hid hr
 have H1 := Lib.hid h1
 have H2 := Lib.hid h2
 have HS := Lib.hid hs
 clear hs
 clear S4 ST hd0 hr h1 h2 h4
 have K0 := ((((((((((Mm.nil w).int ha).int ia).int hb).int ib).int hc).int ic).int hd).int id).var (g := w.heap.size) rfl [.bool sa, .slice Aa na ca, .bool za, .slice Ba ma da, .bool sb, .slice Ab nb cb, .bool zb, .slice Bb mb db, .bool sc, .slice Ac nc cc, .bool zc, .slice Bc mc dc, .bool sd, .slice Ad nd cd, .bool zd, .slice Bd md dd] 28).var (g := w.heap.size + 1) (by simp) [.bool false, .slice none 0 0, .bool false, .slice none 0 0, .bool false, .slice none 0 0, .bool false, .slice none 0 0] 30
 have g01 : ¬ w.heap.size = w.heap.size + 1 := by omega
 have g10 : ¬ w.heap.size + 1 = w.heap.size := by omega
 go_enter Tryz.func26, Tryz.ntmps26
 go_upto_region 1 with (fail)
 generalize (w.alloc (.cells #[.bool sa, .slice Aa na ca, .bool za, .slice Ba ma da, .bool sb, .slice Ab nb cb, .bool zb, .slice Bb mb db, .bool sc, .slice Ac nc cc, .bool zc, .slice Bc mc dc, .bool sd, .slice Ad nd cd, .bool zd, .slice Bd md dd] 28)).alloc (.cells #[.bool false, .slice none 0 0, .bool false, .slice none 0 0, .bool false, .slice none 0 0, .bool false, .slice none 0 0] 30) = w0 at K0 ⊢
 obtain ⟨p0, p1, p2, p3, p4, p5, p6, p7, p8, p9, p10, p11, p12, p13, p14, p15⟩ := (K0.blk (g := w.heap.size) (by repeat constructor)).c16
 go_wp2_with fail
 refine (hg.out _ K0.1).mono ?_
 rintro e1 w1 ⟨rfl, hb⟩
 have K1 := K0.next hb
 clear K0 hb hg p0 p1 p2 p3 p4 p5 p6 p7 p8 p9 p10 p11 p12 p13 p14 p15
 obtain ⟨p0, p1, p2, p3, p4, p5, p6, p7, p8, p9, p10, p11, p12, p13, p14, p15⟩ := (K1.blk (g := w.heap.size) (by repeat constructor)).c16
 go_upto_region 4 with (fail)
 go_wp2_with fail
 refine (ref16_depth_any sa za Aa Ba na ca ma da xa sb zb Ab Bb nb cb mb db xb sc zc Ac Bc nc cc mc dc xc sd zd Ad Bd nd cd md dd xd M _ (K1.at_ (mE 7 rfl)) (K1.at_ (mE 6 rfl)) Ya.out (K1.at_ (mE 5 rfl)) (K1.at_ (mE 4 rfl)) Yb.out (K1.at_ (mE 3 rfl)) (K1.at_ (mE 2 rfl)) Yc.out (K1.at_ (mE 1 rfl)) (K1.at_ (mE 0 rfl)) Yd.out (by omega) nc0).mono ?_
 rintro e2 w2 ⟨sx, Ax, nx, cx, zx, Bx, mx, dx, rfl, ix, jx, hb⟩
 have hn1 := int_len ix SV.out.1
 have hn2 := int_len jx SV.out.2
 have hX : ((((((4 : Rat) - ((xa + xd) * (xa + xd))) / ((4 : Rat) * (xc * xc))).num.natAbs : Nat)) : Int) = (((4 : Rat) - ((xa + xd) * (xa + xd))) / ((4 : Rat) * (xc * xc))).num := Int.natAbs_of_nonneg (Int.le_of_lt HP.out)
 obtain rfl : sx = false := by have := isInt_neg ix; rw [this]; exact decide_eq_false (by have := HP.out; omega)
 obtain rfl : zx = false := by have := isInt_neg jx; rw [this]; exact decide_eq_false (by omega)
 have ix' : IsInt w2 false Ax nx cx ((((((4 : Rat) - ((xa + xd) * (xa + xd))) / ((4 : Rat) * (xc * xc))).num.natAbs : Nat)) : Int) := by rw [hX]; exact ix
 have K2 := K1.next hb
 clear K1 hb ix hX p0 p1 p2 p3 p4 p5 p6 p7 p8 p9 p10 p11 p12 p13 p14 p15
 go_wp2_with fail
 refine (ref16_root_any Ax nx cx Bx mx dx (((4 : Rat) - ((xa + xd) * (xa + xd))) / ((4 : Rat) * (xc * xc))).num.natAbs (((4 : Rat) - ((xa + xd) * (xa + xd))) / ((4 : Rat) * (xc * xc))).den k1 k2 _ ix' jx (by have := HP.out; omega) (((4 : Rat) - ((xa + xd) * (xa + xd))) / ((4 : Rat) * (xc * xc))).den_pos hn1 hn2 H1.out H2.out).mono ?_
 rintro e3 w3 ⟨sr, Ar, nr, cr, zr, Br, mr, dr, rfl, I3, J3, hb⟩
 rw [HR.out]
 have K3 := (((K2.next hb).int J3).int I3).var (g := w3.heap.size) rfl [.bool sr, .slice Ar nr cr, .bool zr, .slice Br mr dr] 26
 have z1 : w.heap.size + 1 < w3.heap.size := ((K2.next hb).blk (mE 0 rfl)).1
 clear K2 hb I3 J3 ix' jx hn1 hn2
 go_upto_region 5 with (fail)
 generalize w3.heap.size = g6 at K3 z1 ⊢
 generalize w3.alloc (.cells #[.bool sr, .slice Ar nr cr, .bool zr, .slice Br mr dr] 26) = u3 at K3 ⊢
 go_upto_region 7 with (fail)
 obtain ⟨⟨_, _, _, _⟩, ⟨_, _, _, _⟩, _⟩ := (K3.blk (g := g6) (by repeat constructor)).four
 obtain ⟨_, _, _, _, _, _, _, _, _, _, _, _, _, _, _, _⟩ := (K3.blk (g := w.heap.size) (by repeat constructor)).c16
 have sz3 : g6 < u3.heap.size := (K3.blk (mE 0 rfl)).1
 go_cut [8] from 24 to 27 (fun slotv wx => ∃ (x : Nat) (neg25x : Bool) (A25x : Option Addr) (n25x : Nat) (c25x : Nat) (ne25x : Bool) (B25x : Option Addr) (m25x : Nat) (d25x : Nat) (srx : Bool) (Arx : Option Addr) (nrx : Nat) (crx : Nat) (zrx : Bool) (Brx : Option Addr) (mrx : Nat) (drx : Nat), slotv = .pointer (some ⟨x, 0, none⟩) ∧ g6 < x ∧
  Mm w [(x, [.bool neg25x, .slice A25x n25x c25x, .bool ne25x, .slice B25x m25x d25x, .bool srx, .slice Arx nrx crx, .bool zrx, .slice Brx mrx drx]), (w.heap.size + 1, [.bool false, .slice none 0 0, .bool false, .slice none 0 0, .bool false, .slice none 0 0, .bool false, .slice none 0 0])] [(neg25x, A25x, n25x, c25x, (((xa - xd) / ((2 : Rat) * xc)) : Rat).num), (ne25x, B25x, m25x, d25x, (((((xa - xd) / ((2 : Rat) * xc)) : Rat).den : Nat) : Int)), (srx, Arx, nrx, crx, (k1 : Int)), (zrx, Brx, mrx, drx, (k2 : Int))] wx)
 case first =>
  go_region_held3 (fun w' => w'.cell? ⟨g6, 0, none⟩ = some (.bool sr) ∧ w'.cell? ⟨g6, 1, none⟩ = some (.slice Ar nr cr) ∧ w'.cell? ⟨g6, 2, none⟩ = some (.bool zr) ∧ w'.cell? ⟨g6, 3, none⟩ = some (.slice Br mr dr) ∧ w'.cell? ⟨w.heap.size, 0, none⟩ = some (.bool sa) ∧ w'.cell? ⟨w.heap.size, 1, none⟩ = some (.slice Aa na ca) ∧ w'.cell? ⟨w.heap.size, 2, none⟩ = some (.bool za) ∧ w'.cell? ⟨w.heap.size, 3, none⟩ = some (.slice Ba ma da) ∧ w'.cell? ⟨w.heap.size, 4, none⟩ = some (.bool sb) ∧ w'.cell? ⟨w.heap.size, 5, none⟩ = some (.slice Ab nb cb) ∧ w'.cell? ⟨w.heap.size, 6, none⟩ = some (.bool zb) ∧ w'.cell? ⟨w.heap.size, 7, none⟩ = some (.slice Bb mb db) ∧ w'.cell? ⟨w.heap.size, 8, none⟩ = some (.bool sc) ∧ w'.cell? ⟨w.heap.size, 9, none⟩ = some (.slice Ac nc cc) ∧ w'.cell? ⟨w.heap.size, 10, none⟩ = some (.bool zc) ∧ w'.cell? ⟨w.heap.size, 11, none⟩ = some (.slice Bc mc dc) ∧ w'.cell? ⟨w.heap.size, 12, none⟩ = some (.bool sd) ∧ w'.cell? ⟨w.heap.size, 13, none⟩ = some (.slice Ad nd cd) ∧ w'.cell? ⟨w.heap.size, 14, none⟩ = some (.bool zd) ∧ w'.cell? ⟨w.heap.size, 15, none⟩ = some (.slice Bd md dd))
   (go_keep)
   (first
    | (go_at_call 121; apply Calls.withMm (w0 := w); (case K => with_reducible repeat (first | exact K3 | apply Mm.drew | apply Mm.drewN | apply Mm.varz)); intro KX; (try simp only [hszA] at KX); (with_reducible refine (ref16_middle_any sa za Aa Ba na ca ma da xa sb zb Ab Bb nb cb mb db xb sc zc Ac Bc nc cc mc dc xc sd zd Ad Bd nd cd md dd xd M _ (KX.at_ (mE 9 rfl)) (KX.at_ (mE 8 rfl)) Ya.out (KX.at_ (mE 7 rfl)) (KX.at_ (mE 6 rfl)) Yb.out (KX.at_ (mE 5 rfl)) (KX.at_ (mE 4 rfl)) Yc.out (KX.at_ (mE 3 rfl)) (KX.at_ (mE 2 rfl)) Yd.out (by omega) nc0).mono ?_); rintro e25 w25 ⟨neg25, A25, n25, c25, ne25, B25, m25, d25, rfl, IS25, JS25, hb25⟩; (with_reducible have K25 := (((KX.next hb25).int JS25).int IS25)); obtain ⟨⟨_, _, _, _⟩, ⟨_, _, _, _⟩, _⟩ := (K25.blk (g := g6) (by first | exact mE 0 rfl | exact mE 1 rfl)).four; obtain ⟨_, _, _, _, _, _, _, _, _, _, _, _, _, _, _, _⟩ := (K25.blk (g := w.heap.size) (by first | exact mE 2 rfl | exact mE 3 rfl)).c16; have sz25 : g6 < w25.heap.size := (K25.blk (g := g6) (by first | exact mE 0 rfl | exact mE 1 rfl)).1; (try (have V0_25 := K25.blk (g := u3.heap.size) (vs := [.bool false, .slice none 0 0, .bool false, .slice none 0 0, .bool false, .slice none 0 0, .bool false, .slice none 0 0]) (by with_reducible exact List.mem_cons_self); obtain ⟨_, _, _, _, _, _, _, _⟩ := V0_25.c8; obtain ⟨_, _, _, _, _, _, _, _, _⟩ := V0_25.f8; obtain ⟨fa0_25_0, fb0_25_0⟩ := nq (a := w.heap.size + 1) (b := u3.heap.size) (by omega); obtain ⟨fa0_25_1, fb0_25_1⟩ := nq (a := w.heap.size) (b := u3.heap.size) (by omega); obtain ⟨fa0_25_2, fb0_25_2⟩ := nq (a := g6) (b := u3.heap.size) (by omega))); clear KX IS25 JS25 hb25))
  all_goals (go_wp2_with fail)
  all_goals go_meet
  all_goals (first
   | with_reducible exact ⟨w25.heap.size, neg25, A25, n25, c25, ne25, B25, m25, d25, sr, Ar, nr, cr, zr, Br, mr, dr, rfl, by assumption, (K25.var (g := w25.heap.size) rfl [.bool neg25, .slice A25 n25 c25, .bool ne25, .slice B25 m25 d25, .bool sr, .slice Ar nr cr, .bool zr, .slice Br mr dr] 30).pick (L' := [(w25.heap.size, [.bool neg25, .slice A25 n25 c25, .bool ne25, .slice B25 m25 d25, .bool sr, .slice Ar nr cr, .bool zr, .slice Br mr dr]), (w.heap.size + 1, [.bool false, .slice none 0 0, .bool false, .slice none 0 0, .bool false, .slice none 0 0, .bool false, .slice none 0 0])]) (l' := [(neg25, A25, n25, c25, (((xa - xd) / ((2 : Rat) * xc)) : Rat).num), (ne25, B25, m25, d25, (((((xa - xd) / ((2 : Rat) * xc)) : Rat).den : Nat) : Int)), (sr, Ar, nr, cr, (k1 : Int)), (zr, Br, mr, dr, (k2 : Int))]) (all_cons (mE 0 rfl) (all_cons (mE 2 rfl) all_nil)) (all_cons (mE 0 rfl) (all_cons (mE 1 rfl) (all_cons (mE 2 rfl) (all_cons (mE 3 rfl) all_nil))))⟩
   | with_reducible exact ⟨u3.heap.size, neg25, A25, n25, c25, ne25, B25, m25, d25, sr, Ar, nr, cr, zr, Br, mr, dr, rfl, by assumption, (K25.pick (L' := [(u3.heap.size, [.bool false, .slice none 0 0, .bool false, .slice none 0 0, .bool false, .slice none 0 0, .bool false, .slice none 0 0]), (w.heap.size + 1, [.bool false, .slice none 0 0, .bool false, .slice none 0 0, .bool false, .slice none 0 0, .bool false, .slice none 0 0])]) (l' := [(neg25, A25, n25, c25, (((xa - xd) / ((2 : Rat) * xc)) : Rat).num), (ne25, B25, m25, d25, (((((xa - xd) / ((2 : Rat) * xc)) : Rat).den : Nat) : Int)), (sr, Ar, nr, cr, (k1 : Int)), (zr, Br, mr, dr, (k2 : Int))]) (all_cons (mE 0 rfl) (all_cons (mE 2 rfl) all_nil)) (all_cons (mE 0 rfl) (all_cons (mE 1 rfl) (all_cons (mE 2 rfl) (all_cons (mE 3 rfl) all_nil))))).set8 (all_cons (show u3.heap.size ≠ w.heap.size + 1 by omega) all_nil) neg25 A25 n25 c25 ne25 B25 m25 d25 sr Ar nr cr zr Br mr dr⟩)
 case rest =>
 obtain ⟨x, neg25x, A25x, n25x, c25x, ne25x, B25x, m25x, d25x, srx, Arx, nrx, crx, zrx, Brx, mrx, drx, rfl, hx, KX⟩ := hcut
 clear K3
 rename World => wx
 have ix := KX.at_ (mE 0 rfl)
 have jx := KX.at_ (mE 1 rfl)
 have iy := KX.at_ (mE 2 rfl)
 have jy := KX.at_ (mE 3 rfl)
 have n1 := int_len ix SR.out.1
 have n2 := int_len jx SR.out.2
 have n3 := int_len iy (m := 100000) (by rw [Int.natAbs_natCast]; exact Nat.lt_of_le_of_lt (Nat.le_trans (Nat.le_mul_self k1) H1.out.1) SV.out.1)
 have n4 := int_len jy (m := 100000) (by rw [Int.natAbs_natCast]; exact Nat.lt_of_le_of_lt (Nat.le_trans (Nat.le_mul_self k2) H2.out.1) SV.out.2)
 have ix0 := ix
 have jx0 := jx
 have iy0 := iy
 have jy0 := jy
 obtain ⟨lx, S1, _⟩ := ix0
 obtain ⟨kx, S2, _⟩ := jx0
 obtain ⟨ly, S3, _⟩ := iy0
 obtain ⟨ky, S5, _⟩ := jy0
 have ox : LmE.at_ wx ((neg25x, A25x, n25x, c25x, lx), (ne25x, B25x, m25x, d25x, kx)) := ⟨S1, S2, by show n25x ≤ _; omega, by show m25x ≤ _; omega⟩
 have oy : LmE.at_ wx ((srx, Arx, nrx, crx, ly), (zrx, Brx, mrx, drx, ky)) := ⟨S3, S5, by show nrx ≤ _; omega, by show mrx ≤ _; omega⟩
 have HLG : Hid (lgAll (two ((neg25x, A25x, n25x, c25x, lx), (ne25x, B25x, m25x, d25x, kx)) ((srx, Arx, nrx, crx, ly), (zrx, Brx, mrx, drx, ky))) 2 = false) := Lib.hid (lgAll_no (fun k hk => by
  have e : k = 0 ∨ k = 1 := by omega
  rcases e with rfl | rfl
  ·show (decide (2048 < n25x) || decide (2048 < m25x)) = false
   have h1 := int_len ix HS.out.1.1
   have h2 := int_len jx HS.out.1.2
   rw [Bool.or_eq_false_iff, decide_eq_false_iff_not, decide_eq_false_iff_not]
   omega
  ·show (decide (2048 < nrx) || decide (2048 < mrx)) = false
   have h1 := int_len iy (m := M) (by rw [Int.natAbs_natCast]; exact HS.out.2.1)
   have h2 := int_len jy (m := M) (by rw [Int.natAbs_natCast]; exact HS.out.2.2)
   rw [Bool.or_eq_false_iff, decide_eq_false_iff_not, decide_eq_false_iff_not]
   omega))
 clear ix jx iy jy n1 n2 n3 n4 S1 S2 S3 S5 HS
 go_upto_region 8 with (fail)
 have HLF := Lib.hid (lfs_two wx (g := wx.heap.size) rfl 26 ox oy)
 obtain ⟨q0, q1, q2, q3, q4, q5, q6, q7⟩ := (KX.blk (g := x) (by repeat constructor)).c8
 go_wp2_with fail
 refine (ref2_long_any wx.heap.size 2 2 (two ((neg25x, A25x, n25x, c25x, lx), (ne25x, B25x, m25x, d25x, kx)) ((srx, Arx, nrx, crx, ly), (zrx, Brx, mrx, drx, ky))) _ HLF.out (by decide) (by decide)).mono ?_
 rintro e5 w5 ⟨rfl, hb⟩
 rw [HLG.out]
 have KY := KX.next (below_box hb)
 clear KX hb ox oy HLF q0 q1 q2 q3 q4 q5 q6 q7
 obtain ⟨q0, q1, q2, q3, q4, q5, q6, q7⟩ := (KY.blk (g := x) (by repeat constructor)).c8
 obtain ⟨f0, f1, f2, f3, f4, f5, f6, f7⟩ := (KY.blk (g := w.heap.size + 1) (by repeat constructor)).c8
 obtain ⟨ff0, ff1, ff2, ff3, ff4, ff5, ff6, ff7, _⟩ := (KY.blk (g := w.heap.size + 1) (by repeat constructor)).f8
 go_wp2_with fail
 have K9 := (KY.pick (L' := [(w.heap.size + 1, [.bool false, .slice none 0 0, .bool false, .slice none 0 0, .bool false, .slice none 0 0, .bool false, .slice none 0 0])]) (l' := [(neg25x, A25x, n25x, c25x, (((xa - xd) / ((2 : Rat) * xc)) : Rat).num), (ne25x, B25x, m25x, d25x, (((((xa - xd) / ((2 : Rat) * xc)) : Rat).den : Nat) : Int)), (srx, Arx, nrx, crx, (k1 : Int)), (zrx, Brx, mrx, drx, (k2 : Int))]) (all_cons (mE 1 rfl) all_nil) (all_cons (mE 0 rfl) (all_cons (mE 1 rfl) (all_cons (mE 2 rfl) (all_cons (mE 3 rfl) all_nil))))).set8 (by simp) neg25x A25x n25x c25x ne25x B25x m25x d25x srx Arx nrx crx zrx Brx mrx drx
 exact bodyPost_ret (v := .tuple #[.agg #[.bool neg25x, .slice A25x n25x c25x, .bool ne25x, .slice B25x m25x d25x, .bool srx, .slice Arx nrx crx, .bool zrx, .slice Brx mrx drx], .bool true, .int .i64 0]) (by simp [results, Tryz.results26, go_sem, f0, f1, f2, f3, f4, f5, f6, f7]) rfl ⟨_, _, _, _, _, _, _, _, _, _, _, _, _, _, _, _, rfl, K9.at_ (by simp), K9.at_ (by simp), K9.at_ (by simp), K9.at_ (by simp), K9.1⟩

set_option maxRecDepth 100000 in
set_option maxHeartbeats 6400000 in
theorem ref16_exact_long (sa za : Bool) (Aa Ba : Option Addr) (na ca ma da : Nat) (xa : Rat) (sb zb : Bool) (Ab Bb : Option Addr) (nb cb mb db : Nat) (xb : Rat) (sc zc : Bool) (Ac Bc : Option Addr) (nc cc mc dc : Nat) (xc : Rat) (sd zd : Bool) (Ad Bd : Option Addr) (nd cd md dd : Nat) (xd : Rat) (M : Nat) (k1 k2 : Nat) (w : World) (ha : IsInt w sa Aa na ca xa.num) (ia : IsInt w za Ba ma da (xa.den : Int)) (ya : Sz xa M) (hb : IsInt w sb Ab nb cb xb.num) (ib : IsInt w zb Bb mb db (xb.den : Int)) (yb : Sz xb M) (hc : IsInt w sc Ac nc cc xc.num) (ic : IsInt w zc Bc mc dc (xc.den : Int)) (yc : Sz xc M) (hd : IsInt w sd Ad nd cd xd.num) (id : IsInt w zd Bd md dd (xd.den : Int)) (yd : Sz xd M) (hM : M = 2048) (nc0 : xc ≠ 0) (h4 : 0 < ((4 : Rat) - ((xa + xd) * (xa + xd)))) (hg : Hid (∀ W, Below w.heap.size w W → Calls Tryz.prog 118 #[.agg #[.bool sa, .slice Aa na ca, .bool za, .slice Ba ma da, .bool sb, .slice Ab nb cb, .bool zb, .slice Bb mb db, .bool sc, .slice Ac nc cc, .bool zc, .slice Bc mc dc, .bool sd, .slice Ad nd cd, .bool zd, .slice Bd md dd]] W (RetV W (.int .i64 0)))) (h1 : IsRt (((4 : Rat) - ((xa + xd) * (xa + xd))) / ((4 : Rat) * (xc * xc))).num.natAbs k1) (h2 : IsRt (((4 : Rat) - ((xa + xd) * (xa + xd))) / ((4 : Rat) * (xc * xc))).den k2) (hr : (decide (k1 * k1 = (((4 : Rat) - ((xa + xd) * (xa + xd))) / ((4 : Rat) * (xc * xc))).num.natAbs) && decide (k2 * k2 = (((4 : Rat) - ((xa + xd) * (xa + xd))) / ((4 : Rat) * (xc * xc))).den)) = true) (hs : ¬ (Sz ((xa - xd) / ((2 : Rat) * xc)) M ∧ k1 < 2 ^ (32 * M) ∧ k2 < 2 ^ (32 * M))) :
  Calls Tryz.prog 26 #[.agg #[.bool sa, .slice Aa na ca, .bool za, .slice Ba ma da, .bool sb, .slice Ab nb cb, .bool zb, .slice Bb mb db, .bool sc, .slice Ac nc cc, .bool zc, .slice Bc mc dc, .bool sd, .slice Ad nd cd, .bool zd, .slice Bd md dd]] w (RetN4 w 0 0 0 0 4 false) := by
 have Ya := Lib.hid ya
 have Yb := Lib.hid yb
 have Yc := Lib.hid yc
 have Yd := Lib.hid yd
 have S4 : Hid (Sz (4 : Rat) 1) := Lib.hid ⟨by decide, by decide⟩
 have ST := Sz.add ya yd
 have hd0 : ((4 : Rat) * (xc * xc)) ≠ 0 := fun e => by have := st_sq nc0; rw [e] at this; exact absurd this (by decide)
 have SV : Hid (Sz (((4 : Rat) - ((xa + xd) * (xa + xd))) / ((4 : Rat) * (xc * xc))) 100000) := Lib.hid ((Sz.div (Sz.sub S4.out (Sz.mul ST ST)) (Sz.mul S4.out (Sz.mul yc yc)) hd0).mono (by omega))
 have SR : Hid (Sz ((xa - xd) / ((2 : Rat) * xc)) 100000) := Lib.hid ((Sz.div (Sz.sub ya yd) (Sz.mul (⟨by decide, by decide⟩ : Sz (2 : Rat) 1) yc) (st_two nc0)).mono (by omega))
 have HP : Hid (0 < (((4 : Rat) - ((xa + xd) * (xa + xd))) / ((4 : Rat) * (xc * xc))).num) := Lib.hid (Int.sign_eq_one_iff_pos.1 ((rat_num_sign _).1 (st_v h4 (st_sq nc0))))
 have HR := Lib.hid hr
 have H1 := Lib.hid h1
 have H2 := Lib.hid h2
 have HS := Lib.hid hs
 clear hs
 clear S4 ST hd0 hr h1 h2 h4
 have K0 := ((((((((((Mm.nil w).int ha).int ia).int hb).int ib).int hc).int ic).int hd).int id).var (g := w.heap.size) rfl [.bool sa, .slice Aa na ca, .bool za, .slice Ba ma da, .bool sb, .slice Ab nb cb, .bool zb, .slice Bb mb db, .bool sc, .slice Ac nc cc, .bool zc, .slice Bc mc dc, .bool sd, .slice Ad nd cd, .bool zd, .slice Bd md dd] 28).var (g := w.heap.size + 1) (by simp) [.bool false, .slice none 0 0, .bool false, .slice none 0 0, .bool false, .slice none 0 0, .bool false, .slice none 0 0] 30
 have g01 : ¬ w.heap.size = w.heap.size + 1 := by omega
 have g10 : ¬ w.heap.size + 1 = w.heap.size := by omega
 go_enter Tryz.func26, Tryz.ntmps26
 go_upto_region 1 with (fail)
 generalize (w.alloc (.cells #[.bool sa, .slice Aa na ca, .bool za, .slice Ba ma da, .bool sb, .slice Ab nb cb, .bool zb, .slice Bb mb db, .bool sc, .slice Ac nc cc, .bool zc, .slice Bc mc dc, .bool sd, .slice Ad nd cd, .bool zd, .slice Bd md dd] 28)).alloc (.cells #[.bool false, .slice none 0 0, .bool false, .slice none 0 0, .bool false, .slice none 0 0, .bool false, .slice none 0 0] 30) = w0 at K0 ⊢
 obtain ⟨p0, p1, p2, p3, p4, p5, p6, p7, p8, p9, p10, p11, p12, p13, p14, p15⟩ := (K0.blk (g := w.heap.size) (by repeat constructor)).c16
 go_wp2_with fail
 refine (hg.out _ K0.1).mono ?_
 rintro e1 w1 ⟨rfl, hb⟩
 have K1 := K0.next hb
 clear K0 hb hg p0 p1 p2 p3 p4 p5 p6 p7 p8 p9 p10 p11 p12 p13 p14 p15
 obtain ⟨p0, p1, p2, p3, p4, p5, p6, p7, p8, p9, p10, p11, p12, p13, p14, p15⟩ := (K1.blk (g := w.heap.size) (by repeat constructor)).c16
 go_upto_region 4 with (fail)
 go_wp2_with fail
 refine (ref16_depth_any sa za Aa Ba na ca ma da xa sb zb Ab Bb nb cb mb db xb sc zc Ac Bc nc cc mc dc xc sd zd Ad Bd nd cd md dd xd M _ (K1.at_ (mE 7 rfl)) (K1.at_ (mE 6 rfl)) Ya.out (K1.at_ (mE 5 rfl)) (K1.at_ (mE 4 rfl)) Yb.out (K1.at_ (mE 3 rfl)) (K1.at_ (mE 2 rfl)) Yc.out (K1.at_ (mE 1 rfl)) (K1.at_ (mE 0 rfl)) Yd.out (by omega) nc0).mono ?_
 rintro e2 w2 ⟨sx, Ax, nx, cx, zx, Bx, mx, dx, rfl, ix, jx, hb⟩
 have hn1 := int_len ix SV.out.1
 have hn2 := int_len jx SV.out.2
 have hX : ((((((4 : Rat) - ((xa + xd) * (xa + xd))) / ((4 : Rat) * (xc * xc))).num.natAbs : Nat)) : Int) = (((4 : Rat) - ((xa + xd) * (xa + xd))) / ((4 : Rat) * (xc * xc))).num := Int.natAbs_of_nonneg (Int.le_of_lt HP.out)
 obtain rfl : sx = false := by have := isInt_neg ix; rw [this]; exact decide_eq_false (by have := HP.out; omega)
 obtain rfl : zx = false := by have := isInt_neg jx; rw [this]; exact decide_eq_false (by omega)
 have ix' : IsInt w2 false Ax nx cx ((((((4 : Rat) - ((xa + xd) * (xa + xd))) / ((4 : Rat) * (xc * xc))).num.natAbs : Nat)) : Int) := by rw [hX]; exact ix
 have K2 := K1.next hb
 clear K1 hb ix hX p0 p1 p2 p3 p4 p5 p6 p7 p8 p9 p10 p11 p12 p13 p14 p15
 go_wp2_with fail
 refine (ref16_root_any Ax nx cx Bx mx dx (((4 : Rat) - ((xa + xd) * (xa + xd))) / ((4 : Rat) * (xc * xc))).num.natAbs (((4 : Rat) - ((xa + xd) * (xa + xd))) / ((4 : Rat) * (xc * xc))).den k1 k2 _ ix' jx (by have := HP.out; omega) (((4 : Rat) - ((xa + xd) * (xa + xd))) / ((4 : Rat) * (xc * xc))).den_pos hn1 hn2 H1.out H2.out).mono ?_
 rintro e3 w3 ⟨sr, Ar, nr, cr, zr, Br, mr, dr, rfl, I3, J3, hb⟩
 rw [HR.out]
 have K3 := (((K2.next hb).int J3).int I3).var (g := w3.heap.size) rfl [.bool sr, .slice Ar nr cr, .bool zr, .slice Br mr dr] 26
 have z1 : w.heap.size + 1 < w3.heap.size := ((K2.next hb).blk (mE 0 rfl)).1
 clear K2 hb I3 J3 ix' jx hn1 hn2
 go_upto_region 5 with (fail)
 generalize w3.heap.size = g6 at K3 z1 ⊢
 generalize w3.alloc (.cells #[.bool sr, .slice Ar nr cr, .bool zr, .slice Br mr dr] 26) = u3 at K3 ⊢
 go_upto_region 7 with (fail)
 obtain ⟨⟨_, _, _, _⟩, ⟨_, _, _, _⟩, _⟩ := (K3.blk (g := g6) (by repeat constructor)).four
 obtain ⟨_, _, _, _, _, _, _, _, _, _, _, _, _, _, _, _⟩ := (K3.blk (g := w.heap.size) (by repeat constructor)).c16
 have sz3 : g6 < u3.heap.size := (K3.blk (mE 0 rfl)).1
 go_cut [8] from 24 to 27 (fun slotv wx => ∃ (x : Nat) (neg25x : Bool) (A25x : Option Addr) (n25x : Nat) (c25x : Nat) (ne25x : Bool) (B25x : Option Addr) (m25x : Nat) (d25x : Nat) (srx : Bool) (Arx : Option Addr) (nrx : Nat) (crx : Nat) (zrx : Bool) (Brx : Option Addr) (mrx : Nat) (drx : Nat), slotv = .pointer (some ⟨x, 0, none⟩) ∧ g6 < x ∧
  Mm w [(x, [.bool neg25x, .slice A25x n25x c25x, .bool ne25x, .slice B25x m25x d25x, .bool srx, .slice Arx nrx crx, .bool zrx, .slice Brx mrx drx]), (w.heap.size + 1, [.bool false, .slice none 0 0, .bool false, .slice none 0 0, .bool false, .slice none 0 0, .bool false, .slice none 0 0])] [(neg25x, A25x, n25x, c25x, (((xa - xd) / ((2 : Rat) * xc)) : Rat).num), (ne25x, B25x, m25x, d25x, (((((xa - xd) / ((2 : Rat) * xc)) : Rat).den : Nat) : Int)), (srx, Arx, nrx, crx, (k1 : Int)), (zrx, Brx, mrx, drx, (k2 : Int))] wx)
 case first =>
  go_region_held3 (fun w' => w'.cell? ⟨g6, 0, none⟩ = some (.bool sr) ∧ w'.cell? ⟨g6, 1, none⟩ = some (.slice Ar nr cr) ∧ w'.cell? ⟨g6, 2, none⟩ = some (.bool zr) ∧ w'.cell? ⟨g6, 3, none⟩ = some (.slice Br mr dr) ∧ w'.cell? ⟨w.heap.size, 0, none⟩ = some (.bool sa) ∧ w'.cell? ⟨w.heap.size, 1, none⟩ = some (.slice Aa na ca) ∧ w'.cell? ⟨w.heap.size, 2, none⟩ = some (.bool za) ∧ w'.cell? ⟨w.heap.size, 3, none⟩ = some (.slice Ba ma da) ∧ w'.cell? ⟨w.heap.size, 4, none⟩ = some (.bool sb) ∧ w'.cell? ⟨w.heap.size, 5, none⟩ = some (.slice Ab nb cb) ∧ w'.cell? ⟨w.heap.size, 6, none⟩ = some (.bool zb) ∧ w'.cell? ⟨w.heap.size, 7, none⟩ = some (.slice Bb mb db) ∧ w'.cell? ⟨w.heap.size, 8, none⟩ = some (.bool sc) ∧ w'.cell? ⟨w.heap.size, 9, none⟩ = some (.slice Ac nc cc) ∧ w'.cell? ⟨w.heap.size, 10, none⟩ = some (.bool zc) ∧ w'.cell? ⟨w.heap.size, 11, none⟩ = some (.slice Bc mc dc) ∧ w'.cell? ⟨w.heap.size, 12, none⟩ = some (.bool sd) ∧ w'.cell? ⟨w.heap.size, 13, none⟩ = some (.slice Ad nd cd) ∧ w'.cell? ⟨w.heap.size, 14, none⟩ = some (.bool zd) ∧ w'.cell? ⟨w.heap.size, 15, none⟩ = some (.slice Bd md dd))
   (go_keep)
   (first
    | (go_at_call 121; apply Calls.withMm (w0 := w); (case K => with_reducible repeat (first | exact K3 | apply Mm.drew | apply Mm.drewN | apply Mm.varz)); intro KX; (try simp only [hszA] at KX); (with_reducible refine (ref16_middle_any sa za Aa Ba na ca ma da xa sb zb Ab Bb nb cb mb db xb sc zc Ac Bc nc cc mc dc xc sd zd Ad Bd nd cd md dd xd M _ (KX.at_ (mE 9 rfl)) (KX.at_ (mE 8 rfl)) Ya.out (KX.at_ (mE 7 rfl)) (KX.at_ (mE 6 rfl)) Yb.out (KX.at_ (mE 5 rfl)) (KX.at_ (mE 4 rfl)) Yc.out (KX.at_ (mE 3 rfl)) (KX.at_ (mE 2 rfl)) Yd.out (by omega) nc0).mono ?_); rintro e25 w25 ⟨neg25, A25, n25, c25, ne25, B25, m25, d25, rfl, IS25, JS25, hb25⟩; (with_reducible have K25 := (((KX.next hb25).int JS25).int IS25)); obtain ⟨⟨_, _, _, _⟩, ⟨_, _, _, _⟩, _⟩ := (K25.blk (g := g6) (by first | exact mE 0 rfl | exact mE 1 rfl)).four; obtain ⟨_, _, _, _, _, _, _, _, _, _, _, _, _, _, _, _⟩ := (K25.blk (g := w.heap.size) (by first | exact mE 2 rfl | exact mE 3 rfl)).c16; have sz25 : g6 < w25.heap.size := (K25.blk (g := g6) (by first | exact mE 0 rfl | exact mE 1 rfl)).1; (try (have V0_25 := K25.blk (g := u3.heap.size) (vs := [.bool false, .slice none 0 0, .bool false, .slice none 0 0, .bool false, .slice none 0 0, .bool false, .slice none 0 0]) (by with_reducible exact List.mem_cons_self); obtain ⟨_, _, _, _, _, _, _, _⟩ := V0_25.c8; obtain ⟨_, _, _, _, _, _, _, _, _⟩ := V0_25.f8; obtain ⟨fa0_25_0, fb0_25_0⟩ := nq (a := w.heap.size + 1) (b := u3.heap.size) (by omega); obtain ⟨fa0_25_1, fb0_25_1⟩ := nq (a := w.heap.size) (b := u3.heap.size) (by omega); obtain ⟨fa0_25_2, fb0_25_2⟩ := nq (a := g6) (b := u3.heap.size) (by omega))); clear KX IS25 JS25 hb25))
  all_goals (go_wp2_with fail)
  all_goals go_meet
  all_goals (first
   | with_reducible exact ⟨w25.heap.size, neg25, A25, n25, c25, ne25, B25, m25, d25, sr, Ar, nr, cr, zr, Br, mr, dr, rfl, by assumption, (K25.var (g := w25.heap.size) rfl [.bool neg25, .slice A25 n25 c25, .bool ne25, .slice B25 m25 d25, .bool sr, .slice Ar nr cr, .bool zr, .slice Br mr dr] 30).pick (L' := [(w25.heap.size, [.bool neg25, .slice A25 n25 c25, .bool ne25, .slice B25 m25 d25, .bool sr, .slice Ar nr cr, .bool zr, .slice Br mr dr]), (w.heap.size + 1, [.bool false, .slice none 0 0, .bool false, .slice none 0 0, .bool false, .slice none 0 0, .bool false, .slice none 0 0])]) (l' := [(neg25, A25, n25, c25, (((xa - xd) / ((2 : Rat) * xc)) : Rat).num), (ne25, B25, m25, d25, (((((xa - xd) / ((2 : Rat) * xc)) : Rat).den : Nat) : Int)), (sr, Ar, nr, cr, (k1 : Int)), (zr, Br, mr, dr, (k2 : Int))]) (all_cons (mE 0 rfl) (all_cons (mE 2 rfl) all_nil)) (all_cons (mE 0 rfl) (all_cons (mE 1 rfl) (all_cons (mE 2 rfl) (all_cons (mE 3 rfl) all_nil))))⟩
   | with_reducible exact ⟨u3.heap.size, neg25, A25, n25, c25, ne25, B25, m25, d25, sr, Ar, nr, cr, zr, Br, mr, dr, rfl, by assumption, (K25.pick (L' := [(u3.heap.size, [.bool false, .slice none 0 0, .bool false, .slice none 0 0, .bool false, .slice none 0 0, .bool false, .slice none 0 0]), (w.heap.size + 1, [.bool false, .slice none 0 0, .bool false, .slice none 0 0, .bool false, .slice none 0 0, .bool false, .slice none 0 0])]) (l' := [(neg25, A25, n25, c25, (((xa - xd) / ((2 : Rat) * xc)) : Rat).num), (ne25, B25, m25, d25, (((((xa - xd) / ((2 : Rat) * xc)) : Rat).den : Nat) : Int)), (sr, Ar, nr, cr, (k1 : Int)), (zr, Br, mr, dr, (k2 : Int))]) (all_cons (mE 0 rfl) (all_cons (mE 2 rfl) all_nil)) (all_cons (mE 0 rfl) (all_cons (mE 1 rfl) (all_cons (mE 2 rfl) (all_cons (mE 3 rfl) all_nil))))).set8 (all_cons (show u3.heap.size ≠ w.heap.size + 1 by omega) all_nil) neg25 A25 n25 c25 ne25 B25 m25 d25 sr Ar nr cr zr Br mr dr⟩)
 case rest =>
 obtain ⟨x, neg25x, A25x, n25x, c25x, ne25x, B25x, m25x, d25x, srx, Arx, nrx, crx, zrx, Brx, mrx, drx, rfl, hx, KX⟩ := hcut
 clear K3
 rename World => wx
 have ix := KX.at_ (mE 0 rfl)
 have jx := KX.at_ (mE 1 rfl)
 have iy := KX.at_ (mE 2 rfl)
 have jy := KX.at_ (mE 3 rfl)
 have n1 := int_len ix SR.out.1
 have n2 := int_len jx SR.out.2
 have n3 := int_len iy (m := 100000) (by rw [Int.natAbs_natCast]; exact Nat.lt_of_le_of_lt (Nat.le_trans (Nat.le_mul_self k1) H1.out.1) SV.out.1)
 have n4 := int_len jy (m := 100000) (by rw [Int.natAbs_natCast]; exact Nat.lt_of_le_of_lt (Nat.le_trans (Nat.le_mul_self k2) H2.out.1) SV.out.2)
 have ix0 := ix
 have jx0 := jx
 have iy0 := iy
 have jy0 := jy
 obtain ⟨lx, S1, _⟩ := ix0
 obtain ⟨kx, S2, _⟩ := jx0
 obtain ⟨ly, S3, _⟩ := iy0
 obtain ⟨ky, S5, _⟩ := jy0
 have ox : LmE.at_ wx ((neg25x, A25x, n25x, c25x, lx), (ne25x, B25x, m25x, d25x, kx)) := ⟨S1, S2, by show n25x ≤ _; omega, by show m25x ≤ _; omega⟩
 have oy : LmE.at_ wx ((srx, Arx, nrx, crx, ly), (zrx, Brx, mrx, drx, ky)) := ⟨S3, S5, by show nrx ≤ _; omega, by show mrx ≤ _; omega⟩
 have HLG : Hid (lgAll (two ((neg25x, A25x, n25x, c25x, lx), (ne25x, B25x, m25x, d25x, kx)) ((srx, Arx, nrx, crx, ly), (zrx, Brx, mrx, drx, ky))) 2 = true) := Lib.hid (lg_two (by
  rw [Bool.or_eq_true]
  by_cases hz : Sz ((xa - xd) / ((2 : Rat) * xc)) M
  ·right
   show (decide (2048 < nrx) || decide (2048 < mrx)) = true
   rw [Bool.or_eq_true, decide_eq_true_eq, decide_eq_true_eq]
   by_cases e1 : 2048 < nrx
   ·exact .inl e1
   ·by_cases e2 : 2048 < mrx
    ·exact .inr e2
    ·exact absurd ⟨hz, lim_of iy (by omega), lim_of jy (by omega)⟩ HS.out
  ·left
   exact lg_of ix jx (by rw [hM] at hz; exact hz)))
 clear ix jx iy jy n1 n2 n3 n4 S1 S2 S3 S5 HS
 go_upto_region 8 with (fail)
 have HLF := Lib.hid (lfs_two wx (g := wx.heap.size) rfl 26 ox oy)
 obtain ⟨q0, q1, q2, q3, q4, q5, q6, q7⟩ := (KX.blk (g := x) (by repeat constructor)).c8
 go_wp2_with fail
 refine (ref2_long_any wx.heap.size 2 2 (two ((neg25x, A25x, n25x, c25x, lx), (ne25x, B25x, m25x, d25x, kx)) ((srx, Arx, nrx, crx, ly), (zrx, Brx, mrx, drx, ky))) _ HLF.out (by decide) (by decide)).mono ?_
 rintro e5 w5 ⟨rfl, hb⟩
 rw [HLG.out]
 have KY := KX.next (below_box hb)
 clear KX hb ox oy HLF q0 q1 q2 q3 q4 q5 q6 q7
 obtain ⟨f0, f1, f2, f3, f4, f5, f6, f7⟩ := (KY.blk (g := w.heap.size + 1) (by repeat constructor)).c8
 obtain ⟨ff0, ff1, ff2, ff3, ff4, ff5, ff6, ff7, _⟩ := (KY.blk (g := w.heap.size + 1) (by repeat constructor)).f8
 go_wp2_with fail
 have K9 := (KY.pick (L' := [(w.heap.size + 1, [.bool false, .slice none 0 0, .bool false, .slice none 0 0, .bool false, .slice none 0 0, .bool false, .slice none 0 0])]) (l' := []) (by simp) (by simp)).set8 (by simp) false none 0 0 false none 0 0 false none 0 0 false none 0 0
 exact bodyPost_ret (v := .tuple #[.agg #[.bool false, .slice none 0 0, .bool false, .slice none 0 0, .bool false, .slice none 0 0, .bool false, .slice none 0 0], .bool false, .int .i64 4]) (by simp [results, Tryz.results26, go_sem, f0, f1, f2, f3, f4, f5, f6, f7]) rfl ⟨false, none, 0, 0, false, none, 0, 0, false, none, 0, 0, false, none, 0, 0, rfl, isInt_nought, isInt_nought, isInt_nought, isInt_nought, K9.1⟩
end Go.Proofs.YtgekmbfmfiikkaaGreatDoor
