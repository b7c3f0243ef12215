/-
  What is so of whoever does something at all with beams (polestarlaw15.alive).
-/
import Derived.Test.YtgekmbfmfiikkaaGreatDoorMdR
namespace Go.Proofs.YtgekmbfmfiikkaaGreatDoor
open Go.RowKit
@[go_sem] theorem run_field_re (a b c d e f g h : Value) (w : World) : (Instr.field 30 (.agg #[a, b, c, d, e, f, g, h]) 0).run Tryz.prog w = .ok (.agg #[a, b, c, d]) w := by kernel_rfl
theorem chkBm_light {w : World} {a b : LmE} {x y : Rat} (ha : OkF w a x) (hb : OkF w b y) (h : ¬ 0 < y) : chkBm a b = 8 := by
 unfold chkBm
 rw [ha.2.1, hb.2.1, hb.2.2, if_neg h]
 rfl
theorem chkBm_none : chkBm ((false, none, 0, 0, []), (false, none, 0, 0, [])) ((false, none, 0, 0, []), (false, none, 0, 0, [])) = 1 := by
 unfold chkBm
 have h : okB ((false, none, 0, 0, []), (false, none, 0, 0, [])) = false := by
  cases h : okB ((false, none, 0, 0, []), (false, none, 0, 0, [])) with
  | false => rfl
  | true =>
   have h1 := ok_num h
   have h2 : (((rv ((false, none, 0, 0, []), (false, none, 0, 0, []))).den : Nat) : Int) = 0 := h1.2
   have := (rv ((false, none, 0, 0, []), (false, none, 0, 0, []))).den_pos
   omega
 rw [h]
 rfl
theorem at_none {w : World} : LmE.at_ w ((false, none, 0, 0, []), (false, none, 0, 0, [])) := ⟨Sl.nil, Sl.nil, by decide, by decide⟩
theorem sz_two : Sz 2 1 := ⟨by decide, by decide⟩
theorem sz_neg : Sz (-1) 1 := ⟨by decide, by decide⟩
set_option maxRecDepth 100000 in
set_option maxHeartbeats 6400000 in
theorem alive15 (w : World) : Calls Tryz.prog 23 #[] w (RetV w (.bool true)) := by
 have K0 := Mm.nil w
 go_enter Tryz.func23, Tryz.ntmps23
 go_wp2_with fail
 refine (ray_one_any _).mono ?_
 rintro e1 w1 ⟨sa, Aa, na, ca, la, za, Ba, ma, da, ka, sb, Ab, nb, cb, lb, zb, Bb, mb, db, kb, sc, Ac, nc, cc, lc, zc, Bc, mc, dc, kc, sd, Ad, nd, cd, ld, zd, Bd, md, dd, kd, rfl, oa, ob, oc, od, hb⟩
 have K1 := K0.next hb
 clear K0 hb
 go_wp2_with fail
 refine (gauss_of_any 1 1 1 1 _ (by decide) (by decide) (Lib.hid (by decide +kernel) : Hid (Rat.divInt 1 1 = (1 : Rat))) (Lib.hid (by decide +kernel) : Hid (Rat.divInt 1 1 = (1 : Rat)))).mono ?_
 rintro e2 w2 ⟨su, Au, nu, cu, lu, zu, Bu, mu, du, ku, sv, Av, nv, cv, lv, zv, Bv, mv, dv, kv, rfl, ou, ov, hb⟩
 have K2 := K1.next hb
 replace oa := oa.next hb
 replace ob := ob.next hb
 replace oc := oc.next hb
 replace od := od.next hb
 clear K1 hb
 go_wp2_with fail
 refine (beam_through_ok sa Aa na ca la za Ba ma da ka 1 sb Ab nb cb lb zb Bb mb db kb 0 sc Ac nc cc lc zc Bc mc dc kc 0 sd Ad nd cd ld zd Bd md dd kd 1 su Au nu cu lu zu Bu mu du ku 1 sv Av nv cv lv zv Bv mv dv kv 1 1 1 1 _ oa Sz.one ob Sz.zero oc Sz.zero od Sz.one ou Sz.one ov Sz.one (by decide) (by decide +kernel) (by decide +kernel) (by decide +kernel) (Lib.hid (by decide +kernel)) (Lib.hid (by decide +kernel)) (Sz.one.mono (by decide)) (Sz.one.mono (by decide))).mono ?_
 rintro e3 w3 ⟨sg, Ag, ng, cg, lg, zg, Bg, mg, dg, kg, sh, Ah, nh, ch, lh, zh, Bh, mh, dh, kh, rfl, og, oh, hb⟩
 have K3 := (((((K2.next hb).int og.ints.1).int og.ints.2.1).int oh.ints.1).int oh.ints.2.1).var (g := w3.heap.size) rfl [.bool sg, .slice Ag ng cg, .bool zg, .slice Bg mg dg, .bool sh, .slice Ah nh ch, .bool zh, .slice Bh mh dh] 30
 clear K2 hb oa ob oc od ou ov
 go_upto_region 2 with (fail)
 generalize w3.heap.size = g1 at K3 ⊢
 generalize w3.alloc (.cells #[.bool sg, .slice Ag ng cg, .bool zg, .slice Bg mg dg, .bool sh, .slice Ah nh ch, .bool zh, .slice Bh mh dh] 30) = u3 at K3 ⊢
 clear og oh
 go_wp2_with fail
 refine (gauss_of_any 1 1 1 1 _ (by decide) (by decide) (Lib.hid (by decide +kernel) : Hid (Rat.divInt 1 1 = (1 : Rat))) (Lib.hid (by decide +kernel) : Hid (Rat.divInt 1 1 = (1 : Rat)))).mono ?_
 rintro e4 w4 ⟨su, Au, nu, cu, lu, zu, Bu, mu, du, ku, sv, Av, nv, cv, lv, zv, Bv, mv, dv, kv, rfl, ou, ov, hb⟩
 have K4 := K3.next hb
 clear K3 hb
 go_wp2_with fail
 refine (beam_size_ok su Au nu cu lu zu Bu mu du ku 1 sv Av nv cv lv zv Bv mv dv kv 1 1 2 _ ou Sz.one ov Sz.one (by decide) (by decide +kernel) (by decide +kernel) (Lib.hid (by decide +kernel)) (sz_two.mono (by decide))).mono ?_
 rintro e5 w5 ⟨sr, Ar, nr, cr, lr, zr, Br, mr, dr, kr, rfl, or, hb⟩
 have K5 := (((K4.next hb).int or.ints.1).int or.ints.2.1).var (g := w5.heap.size) rfl [.bool sr, .slice Ar nr cr, .bool zr, .slice Br mr dr] 26
 clear K4 hb ou ov
 go_upto_region 3 with (fail)
 generalize w5.heap.size = g3 at K5 ⊢
 generalize w5.alloc (.cells #[.bool sr, .slice Ar nr cr, .bool zr, .slice Br mr dr] 26) = u5 at K5 ⊢
 clear or
 obtain ⟨_, _, _, _, _, _, _, _⟩ := (K5.blk (g := g1) (by repeat constructor)).c8
 obtain ⟨⟨_, _, _, _⟩, _, _⟩ := (K5.blk (g := g3) (by repeat constructor)).four
 go_region_held3 (fun w' => w'.cell? ⟨g1, 0, none⟩ = some (.bool sg) ∧ w'.cell? ⟨g1, 1, none⟩ = some (.slice Ag ng cg) ∧ w'.cell? ⟨g1, 2, none⟩ = some (.bool zg) ∧ w'.cell? ⟨g1, 3, none⟩ = some (.slice Bg mg dg) ∧ w'.cell? ⟨g1, 4, none⟩ = some (.bool sh) ∧ w'.cell? ⟨g1, 5, none⟩ = some (.slice Ah nh ch) ∧ w'.cell? ⟨g1, 6, none⟩ = some (.bool zh) ∧ w'.cell? ⟨g1, 7, none⟩ = some (.slice Bh mh dh) ∧ w'.cell? ⟨g3, 0, none⟩ = some (.bool sr) ∧ w'.cell? ⟨g3, 1, none⟩ = some (.slice Ar nr cr) ∧ w'.cell? ⟨g3, 2, none⟩ = some (.bool zr) ∧ w'.cell? ⟨g3, 3, none⟩ = some (.slice Br mr dr))
  (go_keep)
  (first
   | (go_at_call 16; apply Calls.withMm (w0 := w); (case K => (repeat (first | (with_reducible exact K11) | (with_reducible apply Mm.drewN) | (with_reducible apply Mm.drew) | (with_reducible apply Mm.varz)))); intro KX; (with_reducible refine (beam_check_any false none 0 0 [] false none 0 0 [] false none 0 0 [] false none 0 0 [] _ at_none at_none).mono ?_); rintro e12 w12 ⟨rfl, hb⟩; rw [chkBm_none]; have K12 := KX.next hb; clear KX hb; obtain ⟨_, _, _, _, _, _, _, _⟩ := (K12.blk (g := g1) (by repeat constructor)).c8; obtain ⟨⟨_, _, _, _⟩, _, _⟩ := (K12.blk (g := g3) (by repeat constructor)).four; skip)
   | (go_at_call 16; apply Calls.withMm (w0 := w); (case K => (repeat (first | (with_reducible exact K10) | (with_reducible apply Mm.drewN) | (with_reducible apply Mm.drew) | (with_reducible apply Mm.varz)))); intro KX; obtain ⟨lu9, ku9, ou⟩ := okF_of (r := 1) (KX.at_ (neg := su) (A := Au) (n := nu) (c := cu) (z := (1 : Rat).num) (by repeat (first | exact List.mem_cons_self | apply List.mem_cons_of_mem))) (KX.at_ (neg := zu) (A := Bu) (n := mu) (c := du) (z := (((1 : Rat).den : Nat) : Int)) (by repeat (first | exact List.mem_cons_self | apply List.mem_cons_of_mem))) (Sz.one.mono (by decide)); obtain ⟨lv9, kv9, ov⟩ := okF_of (r := (-1)) (KX.at_ (neg := sv) (A := Av) (n := nv) (c := cv) (z := ((-1) : Rat).num) (by repeat (first | exact List.mem_cons_self | apply List.mem_cons_of_mem))) (KX.at_ (neg := zv) (A := Bv) (n := mv) (c := dv) (z := ((((-1) : Rat).den : Nat) : Int)) (by repeat (first | exact List.mem_cons_self | apply List.mem_cons_of_mem))) (sz_neg.mono (by decide)); have HC := chkBm_light ou ov (by decide +kernel); have HU := ou.1; have HVV := ov.1; (with_reducible refine (beam_check_any su Au nu cu lu9 zu Bu mu du ku9 sv Av nv cv lv9 zv Bv mv dv kv9 _ HU HVV).mono ?_); rintro e11 w11 ⟨rfl, hb⟩; rw [HC]; have K11 := KX.next hb; clear KX ou ov hb HC HU HVV; obtain ⟨_, _, _, _, _, _, _, _⟩ := (K11.blk (g := g1) (by repeat constructor)).c8; obtain ⟨⟨_, _, _, _⟩, _, _⟩ := (K11.blk (g := g3) (by repeat constructor)).four; skip)
   | (go_at_call 109; apply Calls.withMm (w0 := w); (case K => (repeat (first | (with_reducible exact K9) | (with_reducible apply Mm.drewN) | (with_reducible apply Mm.drew) | (with_reducible apply Mm.varz)))); intro KX; (with_reducible refine (gauss_of_any 1 (-1) 1 (-1) _ (by decide) (by decide) (Lib.hid (by decide +kernel) : Hid (Rat.divInt 1 1 = (1 : Rat))) (Lib.hid (by decide +kernel) : Hid (Rat.divInt (-1) 1 = ((-1) : Rat)))).mono ?_); rintro e10 w10 ⟨su, Au, nu, cu, lu, zu, Bu, mu, du, ku, sv, Av, nv, cv, lv, zv, Bv, mv, dv, kv, rfl, ou, ov, hb⟩; have K10 := (((((KX.next hb).int ou.ints.1).int ou.ints.2.1).int ov.ints.1).int ov.ints.2.1); clear KX ou ov hb; obtain ⟨_, _, _, _, _, _, _, _⟩ := (K10.blk (g := g1) (by repeat constructor)).c8; obtain ⟨⟨_, _, _, _⟩, _, _⟩ := (K10.blk (g := g3) (by repeat constructor)).four; skip)
   | (go_at_call 28; apply Calls.withMm (w0 := w); (case K => (repeat (first | (with_reducible exact K8) | (with_reducible apply Mm.drewN) | (with_reducible apply Mm.drew) | (with_reducible apply Mm.varz)))); intro KX; obtain ⟨lr9, kr9, or⟩ := okF_of (r := 2) (KX.at_ (neg := sr) (A := Ar) (n := nr) (c := cr) (z := (2 : Rat).num) (by repeat (first | exact List.mem_cons_self | apply List.mem_cons_of_mem))) (KX.at_ (neg := zr) (A := Br) (n := mr) (c := dr) (z := (((2 : Rat).den : Nat) : Int)) (by repeat (first | exact List.mem_cons_self | apply List.mem_cons_of_mem))) (sz_two.mono (by decide)); obtain ⟨lc9, kc9, oc⟩ := okF_of (r := 2) (KX.at_ (neg := sc) (A := Ac) (n := nc) (c := cc) (z := (2 : Rat).num) (by repeat (first | exact List.mem_cons_self | apply List.mem_cons_of_mem))) (KX.at_ (neg := zc) (A := Bc) (n := mc) (c := dc) (z := (((2 : Rat).den : Nat) : Int)) (by repeat (first | exact List.mem_cons_self | apply List.mem_cons_of_mem))) (sz_two.mono (by decide)); (with_reducible refine (same_frac_ok sr Ar nr cr lr9 zr Br mr dr kr9 sc Ac nc cc lc9 zc Bc mc dc kc9 2 _ or oc).mono ?_); rintro e9 w9 ⟨rfl, hb⟩; have K9 := KX.next hb; clear KX or oc hb; obtain ⟨_, _, _, _, _, _, _, _⟩ := (K9.blk (g := g1) (by repeat constructor)).c8; obtain ⟨⟨_, _, _, _⟩, _, _⟩ := (K9.blk (g := g3) (by repeat constructor)).four; skip)
   | (go_at_call 109; apply Calls.withMm (w0 := w); (case K => (repeat (first | (with_reducible exact K7) | (with_reducible apply Mm.drewN) | (with_reducible apply Mm.drew) | (with_reducible apply Mm.varz)))); intro KX; (with_reducible refine (gauss_of_any 2 0 2 0 _ (by decide) (by decide) (Lib.hid (by decide +kernel) : Hid (Rat.divInt 2 1 = (2 : Rat))) (Lib.hid (by decide +kernel) : Hid (Rat.divInt 0 1 = (0 : Rat)))).mono ?_); rintro e8 w8 ⟨sc, Ac, nc, cc, lc, zc, Bc, mc, dc, kc, sd, Ad, nd, cd, ld, zd, Bd, md, dd, kd, rfl, oc, od, hb⟩; have K8 := (((((KX.next hb).int oc.ints.1).int oc.ints.2.1).int od.ints.1).int od.ints.2.1); clear KX oc od hb; obtain ⟨_, _, _, _, _, _, _, _⟩ := (K8.blk (g := g1) (by repeat constructor)).c8; obtain ⟨⟨_, _, _, _⟩, _, _⟩ := (K8.blk (g := g3) (by repeat constructor)).four; skip)
   | (go_at_call 15; apply Calls.withMm (w0 := w); (case K => (repeat (first | (with_reducible exact K6) | (with_reducible apply Mm.drewN) | (with_reducible apply Mm.drew) | (with_reducible apply Mm.varz)))); intro KX; obtain ⟨lg9, kg9, og⟩ := okF_of (r := 1) (KX.at_ (neg := sg) (A := Ag) (n := ng) (c := cg) (z := (1 : Rat).num) (by repeat (first | exact List.mem_cons_self | apply List.mem_cons_of_mem))) (KX.at_ (neg := zg) (A := Bg) (n := mg) (c := dg) (z := (((1 : Rat).den : Nat) : Int)) (by repeat (first | exact List.mem_cons_self | apply List.mem_cons_of_mem))) (Sz.one.mono (by decide)); obtain ⟨lh9, kh9, oh⟩ := okF_of (r := 1) (KX.at_ (neg := sh) (A := Ah) (n := nh) (c := ch) (z := (1 : Rat).num) (by repeat (first | exact List.mem_cons_self | apply List.mem_cons_of_mem))) (KX.at_ (neg := zh) (A := Bh) (n := mh) (c := dh) (z := (((1 : Rat).den : Nat) : Int)) (by repeat (first | exact List.mem_cons_self | apply List.mem_cons_of_mem))) (Sz.one.mono (by decide)); obtain ⟨la9, ka9, oa⟩ := okF_of (r := 1) (KX.at_ (neg := sa) (A := Aa) (n := na) (c := ca) (z := (1 : Rat).num) (by repeat (first | exact List.mem_cons_self | apply List.mem_cons_of_mem))) (KX.at_ (neg := za) (A := Ba) (n := ma) (c := da) (z := (((1 : Rat).den : Nat) : Int)) (by repeat (first | exact List.mem_cons_self | apply List.mem_cons_of_mem))) (Sz.one.mono (by decide)); obtain ⟨lb9, kb9, ob⟩ := okF_of (r := 1) (KX.at_ (neg := sb) (A := Ab) (n := nb) (c := cb) (z := (1 : Rat).num) (by repeat (first | exact List.mem_cons_self | apply List.mem_cons_of_mem))) (KX.at_ (neg := zb) (A := Bb) (n := mb) (c := db) (z := (((1 : Rat).den : Nat) : Int)) (by repeat (first | exact List.mem_cons_self | apply List.mem_cons_of_mem))) (Sz.one.mono (by decide)); (with_reducible refine (same_gauss_ok sg Ag ng cg lg9 zg Bg mg dg kg9 sh Ah nh ch lh9 zh Bh mh dh kh9 sa Aa na ca la9 za Ba ma da ka9 sb Ab nb cb lb9 zb Bb mb db kb9 1 1 _ og oh oa ob).mono ?_); rintro e7 w7 ⟨rfl, hb⟩; have K7 := KX.next hb; clear KX og oh oa ob hb; obtain ⟨_, _, _, _, _, _, _, _⟩ := (K7.blk (g := g1) (by repeat constructor)).c8; obtain ⟨⟨_, _, _, _⟩, _, _⟩ := (K7.blk (g := g3) (by repeat constructor)).four; skip)
   | (go_at_call 109; apply Calls.withMm (w0 := w); (case K => (repeat (first | (with_reducible exact K5) | (with_reducible apply Mm.drewN) | (with_reducible apply Mm.drew) | (with_reducible apply Mm.varz)))); intro KX; (with_reducible refine (gauss_of_any 1 1 1 1 _ (by decide) (by decide) (Lib.hid (by decide +kernel) : Hid (Rat.divInt 1 1 = (1 : Rat))) (Lib.hid (by decide +kernel) : Hid (Rat.divInt 1 1 = (1 : Rat)))).mono ?_); rintro e6 w6 ⟨sa, Aa, na, ca, la, za, Ba, ma, da, ka, sb, Ab, nb, cb, lb, zb, Bb, mb, db, kb, rfl, oa, ob, hb⟩; have K6 := (((((KX.next hb).int oa.ints.1).int oa.ints.2.1).int ob.ints.1).int ob.ints.2.1); clear KX oa ob hb; obtain ⟨_, _, _, _, _, _, _, _⟩ := (K6.blk (g := g1) (by repeat constructor)).c8; obtain ⟨⟨_, _, _, _⟩, _, _⟩ := (K6.blk (g := g3) (by repeat constructor)).four; skip)
   | fail)
 all_goals
  go_wp2_with fail
  go_ret
  exact ⟨rfl, K12.1⟩
end Go.Proofs.YtgekmbfmfiikkaaGreatDoor
