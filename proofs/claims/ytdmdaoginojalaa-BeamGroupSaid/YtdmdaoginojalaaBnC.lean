/-
  What undoes a matrix, and a bench the other way round (ray.Back, ray.Mirror).
-/
import Derived.Test.YtdmdaoginojalaaBnB
namespace Go.Proofs.Ytdmdaoginojalaa
open Go.RowKit

theorem sz_opp2 {x : Rat} {X : Nat} (h : Sz x X) : Sz (-x) X := by
  unfold Sz at *
  rw [Rat.neg_num, Rat.neg_den, Int.natAbs_neg]
  exact h

set_option maxRecDepth 100000 in
set_option maxHeartbeats 6400000 in
theorem ray_back1_ok (pm : Nat) (sa : Bool) (Aa : Option Addr) (na ca : Nat) (la : List Nat) (za : Bool) (Ba : Option Addr) (ma da : Nat) (ka : List Nat) (xa : Rat) (sb : Bool) (Ab : Option Addr) (nb cb : Nat) (lb : List Nat) (zb : Bool) (Bb : Option Addr) (mb db : Nat) (kb : List Nat) (xb : Rat) (sc : Bool) (Ac : Option Addr) (nc cc : Nat) (lc : List Nat) (zc : Bool) (Bc : Option Addr) (mc dc : Nat) (kc : List Nat) (xc : Rat) (sd : Bool) (Ad : Option Addr) (nd cd : Nat) (ld : List Nat) (zd : Bool) (Bd : Option Addr) (md dd : Nat) (kd : List Nat) (xd : Rat) (w : World) (oa : OkF w ((sa, Aa, na, ca, la), (za, Ba, ma, da, ka)) xa) (ob : OkF w ((sb, Ab, nb, cb, lb), (zb, Bb, mb, db, kb)) xb) (oc : OkF w ((sc, Ac, nc, cc, lc), (zc, Bc, mc, dc, kc)) xc) (od : OkF w ((sd, Ad, nd, cd, ld), (zd, Bd, md, dd, kd)) xd) (hpm : Blk w pm [.bool sa, .slice Aa na ca, .bool za, .slice Ba ma da, .bool sb, .slice Ab nb cb, .bool zb, .slice Bb mb db, .bool sc, .slice Ac nc cc, .bool zc, .slice Bc mc dc, .bool sd, .slice Ad nd cd, .bool zd, .slice Bd md dd]) :
    Calls Try.prog 34 #[.pointer (some ⟨pm, 0, none⟩)] w (RetL4 w xd (-xb) (-xc) xa) := by
  have Sa := Lib.hid oa.ints.2.2
  have lna := oa.lens.1
  have lma := oa.lens.2
  simp only at lna lma
  have Sb := Lib.hid ob.ints.2.2
  have lnb := ob.lens.1
  have lmb := ob.lens.2
  simp only at lnb lmb
  have Sc := Lib.hid oc.ints.2.2
  have lnc := oc.lens.1
  have lmc := oc.lens.2
  simp only at lnc lmc
  have Sd := Lib.hid od.ints.2.2
  have lnd := od.lens.1
  have lmd := od.lens.2
  simp only at lnd lmd
  have K0 := (((((((((Mm.nil w).int od.ints.2.1).int od.ints.1).int oc.ints.2.1).int oc.ints.1).int ob.ints.2.1).int ob.ints.1).int oa.ints.2.1).int oa.ints.1)
  have HP := Lib.hid hpm
  clear oa ob oc od
  obtain ⟨p0, p1, p2, p3, p4, p5, p6, p7, p8, p9, p10, p11, p12, p13, p14, p15⟩ := hpm.c16
  clear hpm
  go_enter Try.func34, Try.ntmps34
  go_upto_region 1 with (fail)
  go_region_held3 (fun w' => w'.cell? ⟨pm, 0, none⟩ = some (.bool sa) ∧ w'.cell? ⟨pm, 1, none⟩ = some (.slice Aa na ca) ∧ w'.cell? ⟨pm, 2, none⟩ = some (.bool za) ∧ w'.cell? ⟨pm, 3, none⟩ = some (.slice Ba ma da) ∧ w'.cell? ⟨pm, 4, none⟩ = some (.bool sb) ∧ w'.cell? ⟨pm, 5, none⟩ = some (.slice Ab nb cb) ∧ w'.cell? ⟨pm, 6, none⟩ = some (.bool zb) ∧ w'.cell? ⟨pm, 7, none⟩ = some (.slice Bb mb db) ∧ w'.cell? ⟨pm, 8, none⟩ = some (.bool sc) ∧ w'.cell? ⟨pm, 9, none⟩ = some (.slice Ac nc cc) ∧ w'.cell? ⟨pm, 10, none⟩ = some (.bool zc) ∧ w'.cell? ⟨pm, 11, none⟩ = some (.slice Bc mc dc) ∧ w'.cell? ⟨pm, 12, none⟩ = some (.bool sd) ∧ w'.cell? ⟨pm, 13, none⟩ = some (.slice Ad nd cd) ∧ w'.cell? ⟨pm, 14, none⟩ = some (.bool zd) ∧ w'.cell? ⟨pm, 15, none⟩ = some (.slice Bd md dd))
    (go_keep)
    (first
      | (go_at_call 35; apply Calls.withMm (w0 := w); (case K => (repeat (first | (with_reducible exact K3) | (with_reducible apply Mm.drewN) | (with_reducible apply Mm.drew) | (with_reducible apply Mm.varz)))); intro KX; (with_reducible refine (rat_copy_any sa za Aa Ba na ca ma da xa _ ?_ ?_ lna lma).mono ?_; with_reducible exact KX.at_ (List.mem_of_getElem? (i := 6) rfl); with_reducible exact KX.at_ (List.mem_of_getElem? (i := 7) rfl)); rintro e4 w4 ⟨sr4, Ar4, nr4, cr4, zr4, Br4, mr4, dr4, rfl, I, J, hb⟩; have K4 := ((KX.next hb).int J).int I; clear KX; obtain ⟨p4_0, p4_1, p4_2, p4_3, p4_4, p4_5, p4_6, p4_7, p4_8, p4_9, p4_10, p4_11, p4_12, p4_13, p4_14, p4_15⟩ := (HP.out.next K4.1).c16; clear I J hb)
      | (go_at_call 36; apply Calls.withMm (w0 := w); (case K => (repeat (first | (with_reducible exact K2) | (with_reducible apply Mm.drewN) | (with_reducible apply Mm.drew) | (with_reducible apply Mm.varz)))); intro KX; (with_reducible refine (rat_turnF_any sc zc Ac Bc nc cc mc dc xc _ ?_ ?_ lnc lmc).mono ?_; with_reducible exact KX.at_ (List.mem_of_getElem? (i := 8) rfl); with_reducible exact KX.at_ (List.mem_of_getElem? (i := 9) rfl)); rintro e3 w3 ⟨sr3, Ar3, nr3, cr3, zr3, Br3, mr3, dr3, rfl, I, J, hb⟩; have K3 := ((KX.next hb).int J).int I; clear KX; obtain ⟨p3_0, p3_1, p3_2, p3_3, p3_4, p3_5, p3_6, p3_7, p3_8, p3_9, p3_10, p3_11, p3_12, p3_13, p3_14, p3_15⟩ := (HP.out.next K3.1).c16; clear I J hb)
      | (go_at_call 36; apply Calls.withMm (w0 := w); (case K => (repeat (first | (with_reducible exact K1) | (with_reducible apply Mm.drewN) | (with_reducible apply Mm.drew) | (with_reducible apply Mm.varz)))); intro KX; (with_reducible refine (rat_turnF_any sb zb Ab Bb nb cb mb db xb _ ?_ ?_ lnb lmb).mono ?_; with_reducible exact KX.at_ (List.mem_of_getElem? (i := 4) rfl); with_reducible exact KX.at_ (List.mem_of_getElem? (i := 5) rfl)); rintro e2 w2 ⟨sr2, Ar2, nr2, cr2, zr2, Br2, mr2, dr2, rfl, I, J, hb⟩; have K2 := ((KX.next hb).int J).int I; clear KX; obtain ⟨p2_0, p2_1, p2_2, p2_3, p2_4, p2_5, p2_6, p2_7, p2_8, p2_9, p2_10, p2_11, p2_12, p2_13, p2_14, p2_15⟩ := (HP.out.next K2.1).c16; clear I J hb)
      | (go_at_call 35; apply Calls.withMm (w0 := w); (case K => (repeat (first | (with_reducible exact K0) | (with_reducible apply Mm.drewN) | (with_reducible apply Mm.drew) | (with_reducible apply Mm.varz)))); intro KX; (with_reducible refine (rat_copy_any sd zd Ad Bd nd cd md dd xd _ ?_ ?_ lnd lmd).mono ?_; with_reducible exact KX.at_ (List.mem_of_getElem? (i := 6) rfl); with_reducible exact KX.at_ (List.mem_of_getElem? (i := 7) rfl)); rintro e1 w1 ⟨sr1, Ar1, nr1, cr1, zr1, Br1, mr1, dr1, rfl, I, J, hb⟩; have K1 := ((KX.next hb).int J).int I; clear KX; obtain ⟨p1_0, p1_1, p1_2, p1_3, p1_4, p1_5, p1_6, p1_7, p1_8, p1_9, p1_10, p1_11, p1_12, p1_13, p1_14, p1_15⟩ := (HP.out.next K1.1).c16; clear I J hb)
      | fail)
  all_goals
    have K9 := K4.var (g := w4.heap.size) rfl [.bool sr1, .slice Ar1 nr1 cr1, .bool zr1, .slice Br1 mr1 dr1, .bool sr2, .slice Ar2 nr2 cr2, .bool zr2, .slice Br2 mr2 dr2, .bool sr3, .slice Ar3 nr3 cr3, .bool zr3, .slice Br3 mr3 dr3, .bool sr4, .slice Ar4 nr4 cr4, .bool zr4, .slice Br4 mr4 dr4] 26
    go_wp2_with fail
    obtain ⟨lr1, kr1, or1⟩ := okF_of (r := xd) (K9.at_ (neg := sr1) (A := Ar1) (n := nr1) (c := cr1) (z := (xd : Rat).num) (by repeat (first | exact List.mem_cons_self | apply List.mem_cons_of_mem))) (K9.at_ (neg := zr1) (A := Br1) (n := mr1) (c := dr1) (z := (((xd : Rat).den : Nat) : Int)) (by repeat (first | exact List.mem_cons_self | apply List.mem_cons_of_mem))) Sd.out
    obtain ⟨lr2, kr2, or2⟩ := okF_of (r := (-xb)) (K9.at_ (neg := sr2) (A := Ar2) (n := nr2) (c := cr2) (z := ((-xb) : Rat).num) (by repeat (first | exact List.mem_cons_self | apply List.mem_cons_of_mem))) (K9.at_ (neg := zr2) (A := Br2) (n := mr2) (c := dr2) (z := ((((-xb) : Rat).den : Nat) : Int)) (by repeat (first | exact List.mem_cons_self | apply List.mem_cons_of_mem))) (sz_opp2 Sb.out)
    obtain ⟨lr3, kr3, or3⟩ := okF_of (r := (-xc)) (K9.at_ (neg := sr3) (A := Ar3) (n := nr3) (c := cr3) (z := ((-xc) : Rat).num) (by repeat (first | exact List.mem_cons_self | apply List.mem_cons_of_mem))) (K9.at_ (neg := zr3) (A := Br3) (n := mr3) (c := dr3) (z := ((((-xc) : Rat).den : Nat) : Int)) (by repeat (first | exact List.mem_cons_self | apply List.mem_cons_of_mem))) (sz_opp2 Sc.out)
    obtain ⟨lr4, kr4, or4⟩ := okF_of (r := xa) (K9.at_ (neg := sr4) (A := Ar4) (n := nr4) (c := cr4) (z := (xa : Rat).num) (by repeat (first | exact List.mem_cons_self | apply List.mem_cons_of_mem))) (K9.at_ (neg := zr4) (A := Br4) (n := mr4) (c := dr4) (z := (((xa : Rat).den : Nat) : Int)) (by repeat (first | exact List.mem_cons_self | apply List.mem_cons_of_mem))) Sa.out
    go_ret
    exact ⟨w4.heap.size, 4, sr1, Ar1, nr1, cr1, lr1, zr1, Br1, mr1, dr1, kr1, sr2, Ar2, nr2, cr2, lr2, zr2, Br2, mr2, dr2, kr2, sr3, Ar3, nr3, cr3, lr3, zr3, Br3, mr3, dr3, kr3, sr4, Ar4, nr4, cr4, lr4, zr4, Br4, mr4, dr4, kr4, rfl, Nat.le_refl _, K9.blk List.mem_cons_self, or1, or2, or3, or4, K9.1⟩
set_option maxRecDepth 100000 in
set_option maxHeartbeats 6400000 in
theorem ray_back_ok (sa : Bool) (Aa : Option Addr) (na ca : Nat) (la : List Nat) (za : Bool) (Ba : Option Addr) (ma da : Nat) (ka : List Nat) (xa : Rat) (sb : Bool) (Ab : Option Addr) (nb cb : Nat) (lb : List Nat) (zb : Bool) (Bb : Option Addr) (mb db : Nat) (kb : List Nat) (xb : Rat) (sc : Bool) (Ac : Option Addr) (nc cc : Nat) (lc : List Nat) (zc : Bool) (Bc : Option Addr) (mc dc : Nat) (kc : List Nat) (xc : Rat) (sd : Bool) (Ad : Option Addr) (nd cd : Nat) (ld : List Nat) (zd : Bool) (Bd : Option Addr) (md dd : Nat) (kd : List Nat) (xd : Rat) (w : World) (oa : OkF w ((sa, Aa, na, ca, la), (za, Ba, ma, da, ka)) xa) (ob : OkF w ((sb, Ab, nb, cb, lb), (zb, Bb, mb, db, kb)) xb) (oc : OkF w ((sc, Ac, nc, cc, lc), (zc, Bc, mc, dc, kc)) xc) (od : OkF w ((sd, Ad, nd, cd, ld), (zd, Bd, md, dd, kd)) xd) (hdet : xa * xd - xb * xc = 1) :
    Calls Try.prog 9 #[.agg #[.bool sa, .slice Aa na ca, .bool za, .slice Ba ma da, .bool sb, .slice Ab nb cb, .bool zb, .slice Bb mb db, .bool sc, .slice Ac nc cc, .bool zc, .slice Bc mc dc, .bool sd, .slice Ad nd cd, .bool zd, .slice Bd md dd]] w (RetMo w xd (-xb) (-xc) xa) := by
  have K0 := (((Mm.nil w).var (g := w.heap.size) rfl [.bool sa, .slice Aa na ca, .bool za, .slice Ba ma da, .bool sb, .slice Ab nb cb, .bool zb, .slice Bb mb db, .bool sc, .slice Ac nc cc, .bool zc, .slice Bc mc dc, .bool sd, .slice Ad nd cd, .bool zd, .slice Bd md dd] 28).var (g := w.heap.size + 1) (by simp) [.bool false, .slice none 0 0, .bool false, .slice none 0 0, .bool false, .slice none 0 0, .bool false, .slice none 0 0, .bool false, .slice none 0 0, .bool false, .slice none 0 0, .bool false, .slice none 0 0, .bool false, .slice none 0 0] 28).var (g := w.heap.size + 1 + 1) (by simp) [.int .i64 0] 68
  have D := Lib.hid hdet
  replace oa := oa.next K0.1
  replace ob := ob.next K0.1
  replace oc := oc.next K0.1
  replace od := od.next K0.1
  clear hdet
  have g10 : ¬ w.heap.size + 1 = w.heap.size := by omega
  have g21 : ¬ w.heap.size + 1 + 1 = w.heap.size + 1 := by omega
  have g20 : ¬ w.heap.size + 1 + 1 = w.heap.size := by omega
  go_enter Try.func9, Try.ntmps9
  go_upto_region 2 with (fail)
  generalize ((w.alloc (.cells #[.bool sa, .slice Aa na ca, .bool za, .slice Ba ma da, .bool sb, .slice Ab nb cb, .bool zb, .slice Bb mb db, .bool sc, .slice Ac nc cc, .bool zc, .slice Bc mc dc, .bool sd, .slice Ad nd cd, .bool zd, .slice Bd md dd] 28)).alloc (.cells #[.bool false, .slice none 0 0, .bool false, .slice none 0 0, .bool false, .slice none 0 0, .bool false, .slice none 0 0, .bool false, .slice none 0 0, .bool false, .slice none 0 0, .bool false, .slice none 0 0, .bool false, .slice none 0 0] 28)).alloc (.cells #[.int .i64 0] 68) = w0 at K0 oa ob oc od ⊢
  obtain ⟨p0, p1, p2, p3, p4, p5, p6, p7, p8, p9, p10, p11, p12, p13, p14, p15⟩ := (K0.blk (g := w.heap.size) (vs := [.bool sa, .slice Aa na ca, .bool za, .slice Ba ma da, .bool sb, .slice Ab nb cb, .bool zb, .slice Bb mb db, .bool sc, .slice Ac nc cc, .bool zc, .slice Bc mc dc, .bool sd, .slice Ad nd cd, .bool zd, .slice Bd md dd]) (by simp)).c16
  have B0 := K0.blk (g := w.heap.size + 1 + 1) (vs := [.int .i64 0]) (by simp)
  go_wp2_with fail
  refine (keeper_matrix_ok (w.heap.size + 1 + 1) sa Aa na ca la za Ba ma da ka xa sb Ab nb cb lb zb Bb mb db kb xb sc Ac nc cc lc zc Bc mc dc kc xc sd Ad nd cd ld zd Bd md dd kd xd _ oa ob oc od D.out B0.1 (B0.2 0 _ rfl).1 (B0.2 0 _ rfl).2).mono ?_
  rintro e1 w1 ⟨rfl, hb⟩
  have K1 := K0.next hb
  replace oa := oa.next hb
  replace ob := ob.next hb
  replace oc := oc.next hb
  replace od := od.next hb
  clear K0 hb B0 p0 p1 p2 p3 p4 p5 p6 p7 p8 p9 p10 p11 p12 p13 p14 p15
  have B1 := K1.blk (g := w.heap.size + 1 + 1) (vs := [.int .i64 0]) (by simp)
  have B2 := K1.blk (g := w.heap.size) (vs := [.bool sa, .slice Aa na ca, .bool za, .slice Ba ma da, .bool sb, .slice Ab nb cb, .bool zb, .slice Bb mb db, .bool sc, .slice Ac nc cc, .bool zc, .slice Bc mc dc, .bool sd, .slice Ad nd cd, .bool zd, .slice Bd md dd]) (by simp)
  go_wp2_with fail
  refine (keeper_asMatrix_back (w.heap.size + 1 + 1) (.pointer (some ⟨w.heap.size, 0, none⟩)) xd (-xb) (-xc) xa _ B1.1 (B1.2 0 _ rfl).1 (B1.2 0 _ rfl).2 (fun W hb => ray_back1_ok w.heap.size sa Aa na ca la za Ba ma da ka xa sb Ab nb cb lb zb Bb mb db kb xb sc Ac nc cc lc zc Bc mc dc kc xc sd Ad nd cd ld zd Bd md dd kd xd W (oa.next hb) (ob.next hb) (oc.next hb) (od.next hb) (B2.next hb))).mono ?_
  clear B1 B2
  rintro e2 w2 ⟨sr1, Ar1, nr1, cr1, lr1, zr1, Br1, mr1, dr1, kr1, sr2, Ar2, nr2, cr2, lr2, zr2, Br2, mr2, dr2, kr2, sr3, Ar3, nr3, cr3, lr3, zr3, Br3, mr3, dr3, kr3, sr4, Ar4, nr4, cr4, lr4, zr4, Br4, mr4, dr4, kr4, rfl, or1, or2, or3, or4, hb⟩
  have K2 := K1.next hb
  clear K1 hb oa ob oc od
  obtain ⟨f0, f1, f2, f3, f4, f5, f6, f7, f8, f9, f10, f11, f12, f13, f14, f15⟩ := (K2.blk (g := w.heap.size + 1) (vs := [.bool false, .slice none 0 0, .bool false, .slice none 0 0, .bool false, .slice none 0 0, .bool false, .slice none 0 0, .bool false, .slice none 0 0, .bool false, .slice none 0 0, .bool false, .slice none 0 0, .bool false, .slice none 0 0]) (by simp)).c16
  obtain ⟨ff0, ff1, ff2, ff3, ff4, ff5, ff6, ff7, ff8, ff9, ff10, ff11, ff12, ff13, ff14, ff15, _⟩ := (K2.blk (g := w.heap.size + 1) (vs := [.bool false, .slice none 0 0, .bool false, .slice none 0 0, .bool false, .slice none 0 0, .bool false, .slice none 0 0, .bool false, .slice none 0 0, .bool false, .slice none 0 0, .bool false, .slice none 0 0, .bool false, .slice none 0 0]) (by simp)).f16
  go_wp2_with fail
  have K9 := (((((((((K2.int or1.ints.1).int or1.ints.2.1).int or2.ints.1).int or2.ints.2.1).int or3.ints.1).int or3.ints.2.1).int or4.ints.1).int or4.ints.2.1).pick (L' := [(w.heap.size + 1, [.bool false, .slice none 0 0, .bool false, .slice none 0 0, .bool false, .slice none 0 0, .bool false, .slice none 0 0, .bool false, .slice none 0 0, .bool false, .slice none 0 0, .bool false, .slice none 0 0, .bool false, .slice none 0 0])]) (l' := [(sr1, Ar1, nr1, cr1, xd.num), (zr1, Br1, mr1, dr1, (xd.den : Int)), (sr2, Ar2, nr2, cr2, (-xb).num), (zr2, Br2, mr2, dr2, ((-xb).den : Int)), (sr3, Ar3, nr3, cr3, (-xc).num), (zr3, Br3, mr3, dr3, ((-xc).den : Int)), (sr4, Ar4, nr4, cr4, xa.num), (zr4, Br4, mr4, dr4, (xa.den : Int))]) (by simp) (by simp)).set16 (by simp) sr1 Ar1 nr1 cr1 zr1 Br1 mr1 dr1 sr2 Ar2 nr2 cr2 zr2 Br2 mr2 dr2 sr3 Ar3 nr3 cr3 zr3 Br3 mr3 dr3 sr4 Ar4 nr4 cr4 zr4 Br4 mr4 dr4
  obtain ⟨l9r1, k9r1, o9r1⟩ := okF_of (r := xd) (K9.at_ (neg := sr1) (A := Ar1) (n := nr1) (c := cr1) (z := (xd : Rat).num) (by repeat (first | exact List.mem_cons_self | apply List.mem_cons_of_mem))) (K9.at_ (neg := zr1) (A := Br1) (n := mr1) (c := dr1) (z := (((xd : Rat).den : Nat) : Int)) (by repeat (first | exact List.mem_cons_self | apply List.mem_cons_of_mem))) or1.ints.2.2
  obtain ⟨l9r2, k9r2, o9r2⟩ := okF_of (r := (-xb)) (K9.at_ (neg := sr2) (A := Ar2) (n := nr2) (c := cr2) (z := ((-xb) : Rat).num) (by repeat (first | exact List.mem_cons_self | apply List.mem_cons_of_mem))) (K9.at_ (neg := zr2) (A := Br2) (n := mr2) (c := dr2) (z := ((((-xb) : Rat).den : Nat) : Int)) (by repeat (first | exact List.mem_cons_self | apply List.mem_cons_of_mem))) or2.ints.2.2
  obtain ⟨l9r3, k9r3, o9r3⟩ := okF_of (r := (-xc)) (K9.at_ (neg := sr3) (A := Ar3) (n := nr3) (c := cr3) (z := ((-xc) : Rat).num) (by repeat (first | exact List.mem_cons_self | apply List.mem_cons_of_mem))) (K9.at_ (neg := zr3) (A := Br3) (n := mr3) (c := dr3) (z := ((((-xc) : Rat).den : Nat) : Int)) (by repeat (first | exact List.mem_cons_self | apply List.mem_cons_of_mem))) or3.ints.2.2
  obtain ⟨l9r4, k9r4, o9r4⟩ := okF_of (r := xa) (K9.at_ (neg := sr4) (A := Ar4) (n := nr4) (c := cr4) (z := (xa : Rat).num) (by repeat (first | exact List.mem_cons_self | apply List.mem_cons_of_mem))) (K9.at_ (neg := zr4) (A := Br4) (n := mr4) (c := dr4) (z := (((xa : Rat).den : Nat) : Int)) (by repeat (first | exact List.mem_cons_self | apply List.mem_cons_of_mem))) or4.ints.2.2
  exact bodyPost_ret (v := .tuple #[.agg #[.bool sr1, .slice Ar1 nr1 cr1, .bool zr1, .slice Br1 mr1 dr1, .bool sr2, .slice Ar2 nr2 cr2, .bool zr2, .slice Br2 mr2 dr2, .bool sr3, .slice Ar3 nr3 cr3, .bool zr3, .slice Br3 mr3 dr3, .bool sr4, .slice Ar4 nr4 cr4, .bool zr4, .slice Br4 mr4 dr4], .int .i64 0]) (by simp [results, Try.results9, go_sem, f0, f1, f2, f3, f4, f5, f6, f7, f8, f9, f10, f11, f12, f13, f14, f15]) rfl ⟨_, _, _, _, _, _, _, _, _, _, _, _, _, _, _, _, _, _, _, _, _, _, _, _, _, _, _, _, _, _, _, _, _, _, _, _, _, _, _, _, rfl, o9r1, o9r2, o9r3, o9r4, K9.1⟩

set_option maxRecDepth 100000 in
set_option maxHeartbeats 6400000 in
theorem ray_mirror1_ok (pm : Nat) (sa : Bool) (Aa : Option Addr) (na ca : Nat) (la : List Nat) (za : Bool) (Ba : Option Addr) (ma da : Nat) (ka : List Nat) (xa : Rat) (sb : Bool) (Ab : Option Addr) (nb cb : Nat) (lb : List Nat) (zb : Bool) (Bb : Option Addr) (mb db : Nat) (kb : List Nat) (xb : Rat) (sc : Bool) (Ac : Option Addr) (nc cc : Nat) (lc : List Nat) (zc : Bool) (Bc : Option Addr) (mc dc : Nat) (kc : List Nat) (xc : Rat) (sd : Bool) (Ad : Option Addr) (nd cd : Nat) (ld : List Nat) (zd : Bool) (Bd : Option Addr) (md dd : Nat) (kd : List Nat) (xd : Rat) (w : World) (oa : OkF w ((sa, Aa, na, ca, la), (za, Ba, ma, da, ka)) xa) (ob : OkF w ((sb, Ab, nb, cb, lb), (zb, Bb, mb, db, kb)) xb) (oc : OkF w ((sc, Ac, nc, cc, lc), (zc, Bc, mc, dc, kc)) xc) (od : OkF w ((sd, Ad, nd, cd, ld), (zd, Bd, md, dd, kd)) xd) (hpm : Blk w pm [.bool sa, .slice Aa na ca, .bool za, .slice Ba ma da, .bool sb, .slice Ab nb cb, .bool zb, .slice Bb mb db, .bool sc, .slice Ac nc cc, .bool zc, .slice Bc mc dc, .bool sd, .slice Ad nd cd, .bool zd, .slice Bd md dd]) :
    Calls Try.prog 37 #[.pointer (some ⟨pm, 0, none⟩)] w (RetL4 w xd xb xc xa) := by
  have Sa := Lib.hid oa.ints.2.2
  have lna := oa.lens.1
  have lma := oa.lens.2
  simp only at lna lma
  have Sb := Lib.hid ob.ints.2.2
  have lnb := ob.lens.1
  have lmb := ob.lens.2
  simp only at lnb lmb
  have Sc := Lib.hid oc.ints.2.2
  have lnc := oc.lens.1
  have lmc := oc.lens.2
  simp only at lnc lmc
  have Sd := Lib.hid od.ints.2.2
  have lnd := od.lens.1
  have lmd := od.lens.2
  simp only at lnd lmd
  have K0 := (((((((((Mm.nil w).int od.ints.2.1).int od.ints.1).int oc.ints.2.1).int oc.ints.1).int ob.ints.2.1).int ob.ints.1).int oa.ints.2.1).int oa.ints.1)
  have HP := Lib.hid hpm
  clear oa ob oc od
  obtain ⟨p0, p1, p2, p3, p4, p5, p6, p7, p8, p9, p10, p11, p12, p13, p14, p15⟩ := hpm.c16
  clear hpm
  go_enter Try.func37, Try.ntmps37
  go_upto_region 1 with (fail)
  go_region_held3 (fun w' => w'.cell? ⟨pm, 0, none⟩ = some (.bool sa) ∧ w'.cell? ⟨pm, 1, none⟩ = some (.slice Aa na ca) ∧ w'.cell? ⟨pm, 2, none⟩ = some (.bool za) ∧ w'.cell? ⟨pm, 3, none⟩ = some (.slice Ba ma da) ∧ w'.cell? ⟨pm, 4, none⟩ = some (.bool sb) ∧ w'.cell? ⟨pm, 5, none⟩ = some (.slice Ab nb cb) ∧ w'.cell? ⟨pm, 6, none⟩ = some (.bool zb) ∧ w'.cell? ⟨pm, 7, none⟩ = some (.slice Bb mb db) ∧ w'.cell? ⟨pm, 8, none⟩ = some (.bool sc) ∧ w'.cell? ⟨pm, 9, none⟩ = some (.slice Ac nc cc) ∧ w'.cell? ⟨pm, 10, none⟩ = some (.bool zc) ∧ w'.cell? ⟨pm, 11, none⟩ = some (.slice Bc mc dc) ∧ w'.cell? ⟨pm, 12, none⟩ = some (.bool sd) ∧ w'.cell? ⟨pm, 13, none⟩ = some (.slice Ad nd cd) ∧ w'.cell? ⟨pm, 14, none⟩ = some (.bool zd) ∧ w'.cell? ⟨pm, 15, none⟩ = some (.slice Bd md dd))
    (go_keep)
    (first
      | (go_at_call 35; apply Calls.withMm (w0 := w); (case K => (repeat (first | (with_reducible exact K3) | (with_reducible apply Mm.drewN) | (with_reducible apply Mm.drew) | (with_reducible apply Mm.varz)))); intro KX; (with_reducible refine (rat_copy_any sa za Aa Ba na ca ma da xa _ ?_ ?_ lna lma).mono ?_; with_reducible exact KX.at_ (List.mem_of_getElem? (i := 6) rfl); with_reducible exact KX.at_ (List.mem_of_getElem? (i := 7) rfl)); rintro e4 w4 ⟨sr4, Ar4, nr4, cr4, zr4, Br4, mr4, dr4, rfl, I, J, hb⟩; have K4 := ((KX.next hb).int J).int I; clear KX; obtain ⟨p4_0, p4_1, p4_2, p4_3, p4_4, p4_5, p4_6, p4_7, p4_8, p4_9, p4_10, p4_11, p4_12, p4_13, p4_14, p4_15⟩ := (HP.out.next K4.1).c16; clear I J hb)
      | (go_at_call 35; apply Calls.withMm (w0 := w); (case K => (repeat (first | (with_reducible exact K2) | (with_reducible apply Mm.drewN) | (with_reducible apply Mm.drew) | (with_reducible apply Mm.varz)))); intro KX; (with_reducible refine (rat_copy_any sc zc Ac Bc nc cc mc dc xc _ ?_ ?_ lnc lmc).mono ?_; with_reducible exact KX.at_ (List.mem_of_getElem? (i := 8) rfl); with_reducible exact KX.at_ (List.mem_of_getElem? (i := 9) rfl)); rintro e3 w3 ⟨sr3, Ar3, nr3, cr3, zr3, Br3, mr3, dr3, rfl, I, J, hb⟩; have K3 := ((KX.next hb).int J).int I; clear KX; obtain ⟨p3_0, p3_1, p3_2, p3_3, p3_4, p3_5, p3_6, p3_7, p3_8, p3_9, p3_10, p3_11, p3_12, p3_13, p3_14, p3_15⟩ := (HP.out.next K3.1).c16; clear I J hb)
      | (go_at_call 35; apply Calls.withMm (w0 := w); (case K => (repeat (first | (with_reducible exact K1) | (with_reducible apply Mm.drewN) | (with_reducible apply Mm.drew) | (with_reducible apply Mm.varz)))); intro KX; (with_reducible refine (rat_copy_any sb zb Ab Bb nb cb mb db xb _ ?_ ?_ lnb lmb).mono ?_; with_reducible exact KX.at_ (List.mem_of_getElem? (i := 4) rfl); with_reducible exact KX.at_ (List.mem_of_getElem? (i := 5) rfl)); rintro e2 w2 ⟨sr2, Ar2, nr2, cr2, zr2, Br2, mr2, dr2, rfl, I, J, hb⟩; have K2 := ((KX.next hb).int J).int I; clear KX; obtain ⟨p2_0, p2_1, p2_2, p2_3, p2_4, p2_5, p2_6, p2_7, p2_8, p2_9, p2_10, p2_11, p2_12, p2_13, p2_14, p2_15⟩ := (HP.out.next K2.1).c16; clear I J hb)
      | (go_at_call 35; apply Calls.withMm (w0 := w); (case K => (repeat (first | (with_reducible exact K0) | (with_reducible apply Mm.drewN) | (with_reducible apply Mm.drew) | (with_reducible apply Mm.varz)))); intro KX; (with_reducible refine (rat_copy_any sd zd Ad Bd nd cd md dd xd _ ?_ ?_ lnd lmd).mono ?_; with_reducible exact KX.at_ (List.mem_of_getElem? (i := 6) rfl); with_reducible exact KX.at_ (List.mem_of_getElem? (i := 7) rfl)); rintro e1 w1 ⟨sr1, Ar1, nr1, cr1, zr1, Br1, mr1, dr1, rfl, I, J, hb⟩; have K1 := ((KX.next hb).int J).int I; clear KX; obtain ⟨p1_0, p1_1, p1_2, p1_3, p1_4, p1_5, p1_6, p1_7, p1_8, p1_9, p1_10, p1_11, p1_12, p1_13, p1_14, p1_15⟩ := (HP.out.next K1.1).c16; clear I J hb)
      | fail)
  all_goals
    have K9 := K4.var (g := w4.heap.size) rfl [.bool sr1, .slice Ar1 nr1 cr1, .bool zr1, .slice Br1 mr1 dr1, .bool sr2, .slice Ar2 nr2 cr2, .bool zr2, .slice Br2 mr2 dr2, .bool sr3, .slice Ar3 nr3 cr3, .bool zr3, .slice Br3 mr3 dr3, .bool sr4, .slice Ar4 nr4 cr4, .bool zr4, .slice Br4 mr4 dr4] 26
    go_wp2_with fail
    obtain ⟨lr1, kr1, or1⟩ := okF_of (r := xd) (K9.at_ (neg := sr1) (A := Ar1) (n := nr1) (c := cr1) (z := (xd : Rat).num) (by repeat (first | exact List.mem_cons_self | apply List.mem_cons_of_mem))) (K9.at_ (neg := zr1) (A := Br1) (n := mr1) (c := dr1) (z := (((xd : Rat).den : Nat) : Int)) (by repeat (first | exact List.mem_cons_self | apply List.mem_cons_of_mem))) Sd.out
    obtain ⟨lr2, kr2, or2⟩ := okF_of (r := xb) (K9.at_ (neg := sr2) (A := Ar2) (n := nr2) (c := cr2) (z := (xb : Rat).num) (by repeat (first | exact List.mem_cons_self | apply List.mem_cons_of_mem))) (K9.at_ (neg := zr2) (A := Br2) (n := mr2) (c := dr2) (z := (((xb : Rat).den : Nat) : Int)) (by repeat (first | exact List.mem_cons_self | apply List.mem_cons_of_mem))) Sb.out
    obtain ⟨lr3, kr3, or3⟩ := okF_of (r := xc) (K9.at_ (neg := sr3) (A := Ar3) (n := nr3) (c := cr3) (z := (xc : Rat).num) (by repeat (first | exact List.mem_cons_self | apply List.mem_cons_of_mem))) (K9.at_ (neg := zr3) (A := Br3) (n := mr3) (c := dr3) (z := (((xc : Rat).den : Nat) : Int)) (by repeat (first | exact List.mem_cons_self | apply List.mem_cons_of_mem))) Sc.out
    obtain ⟨lr4, kr4, or4⟩ := okF_of (r := xa) (K9.at_ (neg := sr4) (A := Ar4) (n := nr4) (c := cr4) (z := (xa : Rat).num) (by repeat (first | exact List.mem_cons_self | apply List.mem_cons_of_mem))) (K9.at_ (neg := zr4) (A := Br4) (n := mr4) (c := dr4) (z := (((xa : Rat).den : Nat) : Int)) (by repeat (first | exact List.mem_cons_self | apply List.mem_cons_of_mem))) Sa.out
    go_ret
    exact ⟨w4.heap.size, 4, sr1, Ar1, nr1, cr1, lr1, zr1, Br1, mr1, dr1, kr1, sr2, Ar2, nr2, cr2, lr2, zr2, Br2, mr2, dr2, kr2, sr3, Ar3, nr3, cr3, lr3, zr3, Br3, mr3, dr3, kr3, sr4, Ar4, nr4, cr4, lr4, zr4, Br4, mr4, dr4, kr4, rfl, Nat.le_refl _, K9.blk List.mem_cons_self, or1, or2, or3, or4, K9.1⟩
set_option maxRecDepth 100000 in
set_option maxHeartbeats 6400000 in
theorem ray_mirror_ok (sa : Bool) (Aa : Option Addr) (na ca : Nat) (la : List Nat) (za : Bool) (Ba : Option Addr) (ma da : Nat) (ka : List Nat) (xa : Rat) (sb : Bool) (Ab : Option Addr) (nb cb : Nat) (lb : List Nat) (zb : Bool) (Bb : Option Addr) (mb db : Nat) (kb : List Nat) (xb : Rat) (sc : Bool) (Ac : Option Addr) (nc cc : Nat) (lc : List Nat) (zc : Bool) (Bc : Option Addr) (mc dc : Nat) (kc : List Nat) (xc : Rat) (sd : Bool) (Ad : Option Addr) (nd cd : Nat) (ld : List Nat) (zd : Bool) (Bd : Option Addr) (md dd : Nat) (kd : List Nat) (xd : Rat) (w : World) (oa : OkF w ((sa, Aa, na, ca, la), (za, Ba, ma, da, ka)) xa) (ob : OkF w ((sb, Ab, nb, cb, lb), (zb, Bb, mb, db, kb)) xb) (oc : OkF w ((sc, Ac, nc, cc, lc), (zc, Bc, mc, dc, kc)) xc) (od : OkF w ((sd, Ad, nd, cd, ld), (zd, Bd, md, dd, kd)) xd) (hdet : xa * xd - xb * xc = 1) :
    Calls Try.prog 10 #[.agg #[.bool sa, .slice Aa na ca, .bool za, .slice Ba ma da, .bool sb, .slice Ab nb cb, .bool zb, .slice Bb mb db, .bool sc, .slice Ac nc cc, .bool zc, .slice Bc mc dc, .bool sd, .slice Ad nd cd, .bool zd, .slice Bd md dd]] w (RetMo w xd xb xc xa) := by
  have K0 := (((Mm.nil w).var (g := w.heap.size) rfl [.bool sa, .slice Aa na ca, .bool za, .slice Ba ma da, .bool sb, .slice Ab nb cb, .bool zb, .slice Bb mb db, .bool sc, .slice Ac nc cc, .bool zc, .slice Bc mc dc, .bool sd, .slice Ad nd cd, .bool zd, .slice Bd md dd] 28).var (g := w.heap.size + 1) (by simp) [.bool false, .slice none 0 0, .bool false, .slice none 0 0, .bool false, .slice none 0 0, .bool false, .slice none 0 0, .bool false, .slice none 0 0, .bool false, .slice none 0 0, .bool false, .slice none 0 0, .bool false, .slice none 0 0] 28).var (g := w.heap.size + 1 + 1) (by simp) [.int .i64 0] 68
  have D := Lib.hid hdet
  replace oa := oa.next K0.1
  replace ob := ob.next K0.1
  replace oc := oc.next K0.1
  replace od := od.next K0.1
  clear hdet
  have g10 : ¬ w.heap.size + 1 = w.heap.size := by omega
  have g21 : ¬ w.heap.size + 1 + 1 = w.heap.size + 1 := by omega
  have g20 : ¬ w.heap.size + 1 + 1 = w.heap.size := by omega
  go_enter Try.func10, Try.ntmps10
  go_upto_region 2 with (fail)
  generalize ((w.alloc (.cells #[.bool sa, .slice Aa na ca, .bool za, .slice Ba ma da, .bool sb, .slice Ab nb cb, .bool zb, .slice Bb mb db, .bool sc, .slice Ac nc cc, .bool zc, .slice Bc mc dc, .bool sd, .slice Ad nd cd, .bool zd, .slice Bd md dd] 28)).alloc (.cells #[.bool false, .slice none 0 0, .bool false, .slice none 0 0, .bool false, .slice none 0 0, .bool false, .slice none 0 0, .bool false, .slice none 0 0, .bool false, .slice none 0 0, .bool false, .slice none 0 0, .bool false, .slice none 0 0] 28)).alloc (.cells #[.int .i64 0] 68) = w0 at K0 oa ob oc od ⊢
  obtain ⟨p0, p1, p2, p3, p4, p5, p6, p7, p8, p9, p10, p11, p12, p13, p14, p15⟩ := (K0.blk (g := w.heap.size) (vs := [.bool sa, .slice Aa na ca, .bool za, .slice Ba ma da, .bool sb, .slice Ab nb cb, .bool zb, .slice Bb mb db, .bool sc, .slice Ac nc cc, .bool zc, .slice Bc mc dc, .bool sd, .slice Ad nd cd, .bool zd, .slice Bd md dd]) (by simp)).c16
  have B0 := K0.blk (g := w.heap.size + 1 + 1) (vs := [.int .i64 0]) (by simp)
  go_wp2_with fail
  refine (keeper_matrix_ok (w.heap.size + 1 + 1) sa Aa na ca la za Ba ma da ka xa sb Ab nb cb lb zb Bb mb db kb xb sc Ac nc cc lc zc Bc mc dc kc xc sd Ad nd cd ld zd Bd md dd kd xd _ oa ob oc od D.out B0.1 (B0.2 0 _ rfl).1 (B0.2 0 _ rfl).2).mono ?_
  rintro e1 w1 ⟨rfl, hb⟩
  have K1 := K0.next hb
  replace oa := oa.next hb
  replace ob := ob.next hb
  replace oc := oc.next hb
  replace od := od.next hb
  clear K0 hb B0 p0 p1 p2 p3 p4 p5 p6 p7 p8 p9 p10 p11 p12 p13 p14 p15
  have B1 := K1.blk (g := w.heap.size + 1 + 1) (vs := [.int .i64 0]) (by simp)
  have B2 := K1.blk (g := w.heap.size) (vs := [.bool sa, .slice Aa na ca, .bool za, .slice Ba ma da, .bool sb, .slice Ab nb cb, .bool zb, .slice Bb mb db, .bool sc, .slice Ac nc cc, .bool zc, .slice Bc mc dc, .bool sd, .slice Ad nd cd, .bool zd, .slice Bd md dd]) (by simp)
  go_wp2_with fail
  refine (keeper_asMatrix_mirror (w.heap.size + 1 + 1) (.pointer (some ⟨w.heap.size, 0, none⟩)) xd xb xc xa _ B1.1 (B1.2 0 _ rfl).1 (B1.2 0 _ rfl).2 (fun W hb => ray_mirror1_ok w.heap.size sa Aa na ca la za Ba ma da ka xa sb Ab nb cb lb zb Bb mb db kb xb sc Ac nc cc lc zc Bc mc dc kc xc sd Ad nd cd ld zd Bd md dd kd xd W (oa.next hb) (ob.next hb) (oc.next hb) (od.next hb) (B2.next hb))).mono ?_
  clear B1 B2
  rintro e2 w2 ⟨sr1, Ar1, nr1, cr1, lr1, zr1, Br1, mr1, dr1, kr1, sr2, Ar2, nr2, cr2, lr2, zr2, Br2, mr2, dr2, kr2, sr3, Ar3, nr3, cr3, lr3, zr3, Br3, mr3, dr3, kr3, sr4, Ar4, nr4, cr4, lr4, zr4, Br4, mr4, dr4, kr4, rfl, or1, or2, or3, or4, hb⟩
  have K2 := K1.next hb
  clear K1 hb oa ob oc od
  obtain ⟨f0, f1, f2, f3, f4, f5, f6, f7, f8, f9, f10, f11, f12, f13, f14, f15⟩ := (K2.blk (g := w.heap.size + 1) (vs := [.bool false, .slice none 0 0, .bool false, .slice none 0 0, .bool false, .slice none 0 0, .bool false, .slice none 0 0, .bool false, .slice none 0 0, .bool false, .slice none 0 0, .bool false, .slice none 0 0, .bool false, .slice none 0 0]) (by simp)).c16
  obtain ⟨ff0, ff1, ff2, ff3, ff4, ff5, ff6, ff7, ff8, ff9, ff10, ff11, ff12, ff13, ff14, ff15, _⟩ := (K2.blk (g := w.heap.size + 1) (vs := [.bool false, .slice none 0 0, .bool false, .slice none 0 0, .bool false, .slice none 0 0, .bool false, .slice none 0 0, .bool false, .slice none 0 0, .bool false, .slice none 0 0, .bool false, .slice none 0 0, .bool false, .slice none 0 0]) (by simp)).f16
  go_wp2_with fail
  have K9 := (((((((((K2.int or1.ints.1).int or1.ints.2.1).int or2.ints.1).int or2.ints.2.1).int or3.ints.1).int or3.ints.2.1).int or4.ints.1).int or4.ints.2.1).pick (L' := [(w.heap.size + 1, [.bool false, .slice none 0 0, .bool false, .slice none 0 0, .bool false, .slice none 0 0, .bool false, .slice none 0 0, .bool false, .slice none 0 0, .bool false, .slice none 0 0, .bool false, .slice none 0 0, .bool false, .slice none 0 0])]) (l' := [(sr1, Ar1, nr1, cr1, xd.num), (zr1, Br1, mr1, dr1, (xd.den : Int)), (sr2, Ar2, nr2, cr2, xb.num), (zr2, Br2, mr2, dr2, (xb.den : Int)), (sr3, Ar3, nr3, cr3, xc.num), (zr3, Br3, mr3, dr3, (xc.den : Int)), (sr4, Ar4, nr4, cr4, xa.num), (zr4, Br4, mr4, dr4, (xa.den : Int))]) (by simp) (by simp)).set16 (by simp) sr1 Ar1 nr1 cr1 zr1 Br1 mr1 dr1 sr2 Ar2 nr2 cr2 zr2 Br2 mr2 dr2 sr3 Ar3 nr3 cr3 zr3 Br3 mr3 dr3 sr4 Ar4 nr4 cr4 zr4 Br4 mr4 dr4
  obtain ⟨l9r1, k9r1, o9r1⟩ := okF_of (r := xd) (K9.at_ (neg := sr1) (A := Ar1) (n := nr1) (c := cr1) (z := (xd : Rat).num) (by repeat (first | exact List.mem_cons_self | apply List.mem_cons_of_mem))) (K9.at_ (neg := zr1) (A := Br1) (n := mr1) (c := dr1) (z := (((xd : Rat).den : Nat) : Int)) (by repeat (first | exact List.mem_cons_self | apply List.mem_cons_of_mem))) or1.ints.2.2
  obtain ⟨l9r2, k9r2, o9r2⟩ := okF_of (r := xb) (K9.at_ (neg := sr2) (A := Ar2) (n := nr2) (c := cr2) (z := (xb : Rat).num) (by repeat (first | exact List.mem_cons_self | apply List.mem_cons_of_mem))) (K9.at_ (neg := zr2) (A := Br2) (n := mr2) (c := dr2) (z := (((xb : Rat).den : Nat) : Int)) (by repeat (first | exact List.mem_cons_self | apply List.mem_cons_of_mem))) or2.ints.2.2
  obtain ⟨l9r3, k9r3, o9r3⟩ := okF_of (r := xc) (K9.at_ (neg := sr3) (A := Ar3) (n := nr3) (c := cr3) (z := (xc : Rat).num) (by repeat (first | exact List.mem_cons_self | apply List.mem_cons_of_mem))) (K9.at_ (neg := zr3) (A := Br3) (n := mr3) (c := dr3) (z := (((xc : Rat).den : Nat) : Int)) (by repeat (first | exact List.mem_cons_self | apply List.mem_cons_of_mem))) or3.ints.2.2
  obtain ⟨l9r4, k9r4, o9r4⟩ := okF_of (r := xa) (K9.at_ (neg := sr4) (A := Ar4) (n := nr4) (c := cr4) (z := (xa : Rat).num) (by repeat (first | exact List.mem_cons_self | apply List.mem_cons_of_mem))) (K9.at_ (neg := zr4) (A := Br4) (n := mr4) (c := dr4) (z := (((xa : Rat).den : Nat) : Int)) (by repeat (first | exact List.mem_cons_self | apply List.mem_cons_of_mem))) or4.ints.2.2
  exact bodyPost_ret (v := .tuple #[.agg #[.bool sr1, .slice Ar1 nr1 cr1, .bool zr1, .slice Br1 mr1 dr1, .bool sr2, .slice Ar2 nr2 cr2, .bool zr2, .slice Br2 mr2 dr2, .bool sr3, .slice Ar3 nr3 cr3, .bool zr3, .slice Br3 mr3 dr3, .bool sr4, .slice Ar4 nr4 cr4, .bool zr4, .slice Br4 mr4 dr4], .int .i64 0]) (by simp [results, Try.results10, go_sem, f0, f1, f2, f3, f4, f5, f6, f7, f8, f9, f10, f11, f12, f13, f14, f15]) rfl ⟨_, _, _, _, _, _, _, _, _, _, _, _, _, _, _, _, _, _, _, _, _, _, _, _, _, _, _, _, _, _, _, _, _, _, _, _, _, _, _, _, rfl, o9r1, o9r2, o9r3, o9r4, K9.1⟩
end Go.Proofs.Ytdmdaoginojalaa
