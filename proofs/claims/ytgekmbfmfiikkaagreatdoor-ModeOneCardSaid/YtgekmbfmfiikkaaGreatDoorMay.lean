/-
  Of the program: what a matrix comes to (row.Det); products of complex numbers (in mode.Keeps).
  The program's fractions (package ratio): small ones, one, signs.
  May a complex number, a beam, a matrix be? (argand.May, beam.Check, row.May)
-/
import Derived.Test.YtgekmbfmfiikkaaGreatDoorBey
import Derived.Test.YtgekmbfmfiikkaaGreatDoorMeg
import Derived.Test.YtgekmbfmfiikkaaGreatDoorOwH
import Derived.Test.YtgekmbfmfiikkaaGreatDoorRaL
set_option maxHeartbeats 6400000
set_option maxRecDepth 100000
namespace Go.Proofs.YtgekmbfmfiikkaaGreatDoor
open Go.RowKit
theorem row_det_any (sa za : Bool) (Aa Ba : Option Addr) (na ca ma da : Nat) (xa : Rat) (sb zb : Bool) (Ab Bb : Option Addr) (nb cb mb db : Nat) (xb : Rat) (sc zc : Bool) (Ac Bc : Option Addr) (nc cc mc dc : Nat) (xc : Rat) (sd zd : Bool) (Ad Bd : Option Addr) (nd cd md dd : Nat) (xd : Rat) (M : Nat) (w : World) (ha : IsInt w sa Aa na ca xa.num) (ia : IsInt w za Ba ma da (xa.den : Int)) (ya : Sz xa M) (hb : IsInt w sb Ab nb cb xb.num) (ib : IsInt w zb Bb mb db (xb.den : Int)) (yb : Sz xb M) (hc : IsInt w sc Ac nc cc xc.num) (ic : IsInt w zc Bc mc dc (xc.den : Int)) (yc : Sz xc M) (hd : IsInt w sd Ad nd cd xd.num) (id : IsInt w zd Bd md dd (xd.den : Int)) (yd : Sz xd M) (hM : M ≤ 100000) :
    Calls Tryz.prog 159 #[.agg #[.bool sa, .slice Aa na ca, .bool za, .slice Ba ma da, .bool sb, .slice Ab nb cb, .bool zb, .slice Bb mb db, .bool sc, .slice Ac nc cc, .bool zc, .slice Bc mc dc, .bool sd, .slice Ad nd cd, .bool zd, .slice Bd md dd]] w (RetFr w ((xa * xd) - (xb * xc))) := by
  have K0 := (((((((((((Mm.nil w).int ha).int ia).int hb).int ib).int hc).int ic).int hd).int id).var (g := w.heap.size) rfl [.bool sa, .slice Aa na ca, .bool za, .slice Ba ma da, .bool sb, .slice Ab nb cb, .bool zb, .slice Bb mb db, .bool sc, .slice Ac nc cc, .bool zc, .slice Bc mc dc, .bool sd, .slice Ad nd cd, .bool zd, .slice Bd md dd] 28).var (g := w.heap.size + 1) (by simp) [.bool false, .slice none 0 0, .bool false, .slice none 0 0] 26)
  have Ya := Lib.hid ya
  have Yb := Lib.hid yb
  have Yc := Lib.hid yc
  have Yd := Lib.hid yd
  have HS1 : Hid (Sz (xa * xd) (2 * M + 0)) := Lib.hid ((Sz.mul Ya.out Yd.out).mono (by omega))
  have HS2 : Hid (Sz (xb * xc) (2 * M + 0)) := Lib.hid ((Sz.mul Yb.out Yc.out).mono (by omega))
  have HS3 : Hid (Sz ((xa * xd) - (xb * xc)) (4 * M + 1)) := Lib.hid ((Sz.sub HS1.out HS2.out).mono (by omega))
  clear ha ia ya hb ib yb hc ic yc hd id yd
  have ne01 : ¬ w.heap.size = w.heap.size + 1 := by omega
  have ne10 : ¬ w.heap.size + 1 = w.heap.size := by omega
  go_enter Tryz.func159, Tryz.ntmps159
  go_wp2_with fail
  generalize (w.alloc (.cells #[.bool sa, .slice Aa na ca, .bool za, .slice Ba ma da, .bool sb, .slice Ab nb cb, .bool zb, .slice Bb mb db, .bool sc, .slice Ac nc cc, .bool zc, .slice Bc mc dc, .bool sd, .slice Ad nd cd, .bool zd, .slice Bd md dd] 28)).alloc (.cells #[.bool false, .slice none 0 0, .bool false, .slice none 0 0] 26) = w0 at K0 ⊢
  obtain ⟨_, _, _, _, _, _, _, _, _, _, _, _, _, _, _, _⟩ := (K0.blk (g := w.heap.size) (by repeat constructor)).c16
  go_region_held3 (fun w' => w'.cell? ⟨w.heap.size, 0, none⟩ = some (.bool sa) ∧ w'.cell? ⟨w.heap.size, 1, none⟩ = some (.slice Aa na ca) ∧ w'.cell? ⟨w.heap.size, 2, none⟩ = some (.bool za) ∧ w'.cell? ⟨w.heap.size, 3, none⟩ = some (.slice Ba ma da) ∧ w'.cell? ⟨w.heap.size, 4, none⟩ = some (.bool sb) ∧ w'.cell? ⟨w.heap.size, 5, none⟩ = some (.slice Ab nb cb) ∧ w'.cell? ⟨w.heap.size, 6, none⟩ = some (.bool zb) ∧ w'.cell? ⟨w.heap.size, 7, none⟩ = some (.slice Bb mb db) ∧ w'.cell? ⟨w.heap.size, 8, none⟩ = some (.bool sc) ∧ w'.cell? ⟨w.heap.size, 9, none⟩ = some (.slice Ac nc cc) ∧ w'.cell? ⟨w.heap.size, 10, none⟩ = some (.bool zc) ∧ w'.cell? ⟨w.heap.size, 11, none⟩ = some (.slice Bc mc dc) ∧ w'.cell? ⟨w.heap.size, 12, none⟩ = some (.bool sd) ∧ w'.cell? ⟨w.heap.size, 13, none⟩ = some (.slice Ad nd cd) ∧ w'.cell? ⟨w.heap.size, 14, none⟩ = some (.bool zd) ∧ w'.cell? ⟨w.heap.size, 15, none⟩ = some (.slice Bd md dd))
    (go_keep)
    (first
      | (go_at_call 140; apply Calls.withMm (w0 := w); (case K => with_reducible repeat (first | exact K0 | apply Mm.drew | apply Mm.drewN)); intro KX; (with_reducible refine (rat_times_any sa za Aa Ba na ca ma da sd zd Ad Bd nd cd md dd xa xd (xa * xd) M M _ (KX.at_ (mE 7 rfl)) (KX.at_ (mE 6 rfl)) (KX.at_ (mE 1 rfl)) (KX.at_ (mE 0 rfl)) Ya.out Yd.out (by omega) (Lib.hid rfl)).mono ?_); rintro e1 w1 ⟨neg1, A1, n1, c1, ne1, B1, m1, d1, rfl, IHS1, JHS1, hb1⟩; (with_reducible have K1 := (((KX.next hb1).int JHS1).int IHS1)); obtain ⟨_, _, _, _, _, _, _, _, _, _, _, _, _, _, _, _⟩ := (K1.blk (mE 1 rfl)).c16; clear KX IHS1 JHS1 hb1)
      | (go_at_call 140; apply Calls.withMm (w0 := w); (case K => with_reducible repeat (first | exact K1 | apply Mm.drew | apply Mm.drewN)); intro KX; (with_reducible refine (rat_times_any sb zb Ab Bb nb cb mb db sc zc Ac Bc nc cc mc dc xb xc (xb * xc) M M _ (KX.at_ (mE 7 rfl)) (KX.at_ (mE 6 rfl)) (KX.at_ (mE 5 rfl)) (KX.at_ (mE 4 rfl)) Yb.out Yc.out (by omega) (Lib.hid rfl)).mono ?_); rintro e2 w2 ⟨neg2, A2, n2, c2, ne2, B2, m2, d2, rfl, IHS2, JHS2, hb2⟩; (with_reducible have K2 := (((KX.next hb2).int JHS2).int IHS2)); obtain ⟨_, _, _, _, _, _, _, _, _, _, _, _, _, _, _, _⟩ := (K2.blk (mE 1 rfl)).c16; clear KX IHS2 JHS2 hb2)
      | (go_at_call 139; apply Calls.withMm (w0 := w); (case K => with_reducible repeat (first | exact K2 | apply Mm.drew | apply Mm.drewN)); intro KX; (with_reducible refine (rat_minus_any neg1 ne1 A1 B1 n1 c1 m1 d1 neg2 ne2 A2 B2 n2 c2 m2 d2 (xa * xd) (xb * xc) ((xa * xd) - (xb * xc)) (2 * M + 0) (2 * M + 0) _ (KX.at_ (mE 2 rfl)) (KX.at_ (mE 3 rfl)) (KX.at_ (mE 0 rfl)) (KX.at_ (mE 1 rfl)) HS1.out HS2.out (by omega) (Lib.hid rfl)).mono ?_); rintro e3 w3 ⟨neg3, A3, n3, c3, ne3, B3, m3, d3, rfl, IHS3, JHS3, hb3⟩; (with_reducible have K3 := (((KX.next hb3).int JHS3).int IHS3)); obtain ⟨_, _, _, _, _, _, _, _, _, _, _, _, _, _, _, _⟩ := (K3.blk (mE 1 rfl)).c16; obtain ⟨⟨qa3r, qb3r, qc3r, qd3r⟩, ⟨_, _, _, _⟩, _⟩ := (K3.blk (mE 0 rfl)).four; clear KX IHS3 JHS3 hb3))
  all_goals
   go_wp2_with fail
   have KE := (K3.pick (L' := [(w.heap.size + 1, [.bool false, .slice none 0 0, .bool false, .slice none 0 0])]) (l' := [(neg3, A3, n3, c3, (((xa * xd) - (xb * xc)) : Rat).num), (ne3, B3, m3, d3, (((((xa * xd) - (xb * xc)) : Rat).den : Nat) : Int))]) (by simp) (by simp)).set4 (by simp <;> omega) neg3 A3 n3 c3 ne3 B3 m3 d3
   exact bodyPost_ret (v := .agg #[.bool neg3, .slice A3 n3 c3, .bool ne3, .slice B3 m3 d3]) (by simp [results, Tryz.results159, go_sem, qa3r, qb3r, qc3r, qd3r]) rfl ⟨_, _, _, _, _, _, _, _, rfl, KE.at_ (by simp), KE.at_ (by simp), KE.1⟩
theorem keeps_times_any (sa za : Bool) (Aa Ba : Option Addr) (na ca ma da : Nat) (xa : Rat) (sb zb : Bool) (Ab Bb : Option Addr) (nb cb mb db : Nat) (xb : Rat) (sc zc : Bool) (Ac Bc : Option Addr) (nc cc mc dc : Nat) (xc : Rat) (sd zd : Bool) (Ad Bd : Option Addr) (nd cd md dd : Nat) (xd : Rat) (M : Nat) (w : World) (ha : IsInt w sa Aa na ca xa.num) (ia : IsInt w za Ba ma da (xa.den : Int)) (ya : Sz xa M) (hb : IsInt w sb Ab nb cb xb.num) (ib : IsInt w zb Bb mb db (xb.den : Int)) (yb : Sz xb M) (hc : IsInt w sc Ac nc cc xc.num) (ic : IsInt w zc Bc mc dc (xc.den : Int)) (yc : Sz xc M) (hd : IsInt w sd Ad nd cd xd.num) (id : IsInt w zd Bd md dd (xd.den : Int)) (yd : Sz xd M) (hM : M ≤ 100000) :
    Calls Tryz.prog 138 #[.agg #[.bool sa, .slice Aa na ca, .bool za, .slice Ba ma da, .bool sb, .slice Ab nb cb, .bool zb, .slice Bb mb db], .agg #[.bool sc, .slice Ac nc cc, .bool zc, .slice Bc mc dc, .bool sd, .slice Ad nd cd, .bool zd, .slice Bd md dd]] w (RetGa w ((xa * xc) - (xb * xd)) ((xa * xd) + (xb * xc))) := by
  have K0 := ((((((((((((Mm.nil w).int ha).int ia).int hb).int ib).int hc).int ic).int hd).int id).var (g := w.heap.size) rfl [.bool sa, .slice Aa na ca, .bool za, .slice Ba ma da, .bool sb, .slice Ab nb cb, .bool zb, .slice Bb mb db] 30).var (g := w.heap.size + 1) (by simp) [.bool sc, .slice Ac nc cc, .bool zc, .slice Bc mc dc, .bool sd, .slice Ad nd cd, .bool zd, .slice Bd md dd] 30).var (g := w.heap.size + 1 + 1) (by simp) [.bool false, .slice none 0 0, .bool false, .slice none 0 0, .bool false, .slice none 0 0, .bool false, .slice none 0 0] 30)
  have Ya := Lib.hid ya
  have Yb := Lib.hid yb
  have Yc := Lib.hid yc
  have Yd := Lib.hid yd
  have HS1 : Hid (Sz (xa * xc) (2 * M + 0)) := Lib.hid ((Sz.mul Ya.out Yc.out).mono (by omega))
  have HS2 : Hid (Sz (xb * xd) (2 * M + 0)) := Lib.hid ((Sz.mul Yb.out Yd.out).mono (by omega))
  have HS3 : Hid (Sz ((xa * xc) - (xb * xd)) (4 * M + 1)) := Lib.hid ((Sz.sub HS1.out HS2.out).mono (by omega))
  have HS4 : Hid (Sz (xa * xd) (2 * M + 0)) := Lib.hid ((Sz.mul Ya.out Yd.out).mono (by omega))
  have HS5 : Hid (Sz (xb * xc) (2 * M + 0)) := Lib.hid ((Sz.mul Yb.out Yc.out).mono (by omega))
  have HS6 : Hid (Sz ((xa * xd) + (xb * xc)) (4 * M + 1)) := Lib.hid ((Sz.add HS4.out HS5.out).mono (by omega))
  clear ha ia ya hb ib yb hc ic yc hd id yd
  have ne01 : ¬ w.heap.size = w.heap.size + 1 := by omega
  have ne02 : ¬ w.heap.size = w.heap.size + 1 + 1 := by omega
  have ne10 : ¬ w.heap.size + 1 = w.heap.size := by omega
  have ne12 : ¬ w.heap.size + 1 = w.heap.size + 1 + 1 := by omega
  have ne20 : ¬ w.heap.size + 1 + 1 = w.heap.size := by omega
  have ne21 : ¬ w.heap.size + 1 + 1 = w.heap.size + 1 := by omega
  go_enter Tryz.func138, Tryz.ntmps138
  go_wp2_with fail
  generalize ((w.alloc (.cells #[.bool sa, .slice Aa na ca, .bool za, .slice Ba ma da, .bool sb, .slice Ab nb cb, .bool zb, .slice Bb mb db] 30)).alloc (.cells #[.bool sc, .slice Ac nc cc, .bool zc, .slice Bc mc dc, .bool sd, .slice Ad nd cd, .bool zd, .slice Bd md dd] 30)).alloc (.cells #[.bool false, .slice none 0 0, .bool false, .slice none 0 0, .bool false, .slice none 0 0, .bool false, .slice none 0 0] 30) = w0 at K0 ⊢
  obtain ⟨_, _, _, _, _, _, _, _⟩ := (K0.blk (g := w.heap.size) (by repeat constructor)).c8
  obtain ⟨_, _, _, _, _, _, _, _⟩ := (K0.blk (g := w.heap.size + 1) (by repeat constructor)).c8
  go_region_held3 (fun w' => w'.cell? ⟨w.heap.size, 0, none⟩ = some (.bool sa) ∧ w'.cell? ⟨w.heap.size, 1, none⟩ = some (.slice Aa na ca) ∧ w'.cell? ⟨w.heap.size, 2, none⟩ = some (.bool za) ∧ w'.cell? ⟨w.heap.size, 3, none⟩ = some (.slice Ba ma da) ∧ w'.cell? ⟨w.heap.size, 4, none⟩ = some (.bool sb) ∧ w'.cell? ⟨w.heap.size, 5, none⟩ = some (.slice Ab nb cb) ∧ w'.cell? ⟨w.heap.size, 6, none⟩ = some (.bool zb) ∧ w'.cell? ⟨w.heap.size, 7, none⟩ = some (.slice Bb mb db) ∧ w'.cell? ⟨w.heap.size + 1, 0, none⟩ = some (.bool sc) ∧ w'.cell? ⟨w.heap.size + 1, 1, none⟩ = some (.slice Ac nc cc) ∧ w'.cell? ⟨w.heap.size + 1, 2, none⟩ = some (.bool zc) ∧ w'.cell? ⟨w.heap.size + 1, 3, none⟩ = some (.slice Bc mc dc) ∧ w'.cell? ⟨w.heap.size + 1, 4, none⟩ = some (.bool sd) ∧ w'.cell? ⟨w.heap.size + 1, 5, none⟩ = some (.slice Ad nd cd) ∧ w'.cell? ⟨w.heap.size + 1, 6, none⟩ = some (.bool zd) ∧ w'.cell? ⟨w.heap.size + 1, 7, none⟩ = some (.slice Bd md dd))
    (go_keep)
    (first
      | (go_at_call 140; apply Calls.withMm (w0 := w); (case K => with_reducible repeat (first | exact K0 | apply Mm.drew | apply Mm.drewN)); intro KX; (with_reducible refine (rat_times_any sa za Aa Ba na ca ma da sc zc Ac Bc nc cc mc dc xa xc (xa * xc) M M _ (KX.at_ (mE 7 rfl)) (KX.at_ (mE 6 rfl)) (KX.at_ (mE 3 rfl)) (KX.at_ (mE 2 rfl)) Ya.out Yc.out (by omega) (Lib.hid rfl)).mono ?_); rintro e1 w1 ⟨neg1, A1, n1, c1, ne1, B1, m1, d1, rfl, IHS1, JHS1, hb1⟩; (with_reducible have K1 := (((KX.next hb1).int JHS1).int IHS1)); obtain ⟨_, _, _, _, _, _, _, _⟩ := (K1.blk (mE 2 rfl)).c8; obtain ⟨_, _, _, _, _, _, _, _⟩ := (K1.blk (mE 1 rfl)).c8; clear KX IHS1 JHS1 hb1)
      | (go_at_call 140; apply Calls.withMm (w0 := w); (case K => with_reducible repeat (first | exact K1 | apply Mm.drew | apply Mm.drewN)); intro KX; (with_reducible refine (rat_times_any sb zb Ab Bb nb cb mb db sd zd Ad Bd nd cd md dd xb xd (xb * xd) M M _ (KX.at_ (mE 7 rfl)) (KX.at_ (mE 6 rfl)) (KX.at_ (mE 3 rfl)) (KX.at_ (mE 2 rfl)) Yb.out Yd.out (by omega) (Lib.hid rfl)).mono ?_); rintro e2 w2 ⟨neg2, A2, n2, c2, ne2, B2, m2, d2, rfl, IHS2, JHS2, hb2⟩; (with_reducible have K2 := (((KX.next hb2).int JHS2).int IHS2)); obtain ⟨_, _, _, _, _, _, _, _⟩ := (K2.blk (mE 2 rfl)).c8; obtain ⟨_, _, _, _, _, _, _, _⟩ := (K2.blk (mE 1 rfl)).c8; clear KX IHS2 JHS2 hb2)
      | (go_at_call 139; apply Calls.withMm (w0 := w); (case K => with_reducible repeat (first | exact K2 | apply Mm.drew | apply Mm.drewN)); intro KX; (with_reducible refine (rat_minus_any neg1 ne1 A1 B1 n1 c1 m1 d1 neg2 ne2 A2 B2 n2 c2 m2 d2 (xa * xc) (xb * xd) ((xa * xc) - (xb * xd)) (2 * M + 0) (2 * M + 0) _ (KX.at_ (mE 2 rfl)) (KX.at_ (mE 3 rfl)) (KX.at_ (mE 0 rfl)) (KX.at_ (mE 1 rfl)) HS1.out HS2.out (by omega) (Lib.hid rfl)).mono ?_); rintro e3 w3 ⟨neg3, A3, n3, c3, ne3, B3, m3, d3, rfl, IHS3, JHS3, hb3⟩; (with_reducible have K3 := (((KX.next hb3).int JHS3).int IHS3)); obtain ⟨_, _, _, _, _, _, _, _⟩ := (K3.blk (mE 2 rfl)).c8; obtain ⟨_, _, _, _, _, _, _, _⟩ := (K3.blk (mE 1 rfl)).c8; clear KX IHS3 JHS3 hb3)
      | (go_at_call 140; apply Calls.withMm (w0 := w); (case K => with_reducible repeat (first | exact K3 | apply Mm.drew | apply Mm.drewN)); intro KX; (with_reducible refine (rat_times_any sa za Aa Ba na ca ma da sd zd Ad Bd nd cd md dd xa xd (xa * xd) M M _ (KX.at_ (mE 13 rfl)) (KX.at_ (mE 12 rfl)) (KX.at_ (mE 7 rfl)) (KX.at_ (mE 6 rfl)) Ya.out Yd.out (by omega) (Lib.hid rfl)).mono ?_); rintro e4 w4 ⟨neg4, A4, n4, c4, ne4, B4, m4, d4, rfl, IHS4, JHS4, hb4⟩; (with_reducible have K4 := (((KX.next hb4).int JHS4).int IHS4)); obtain ⟨_, _, _, _, _, _, _, _⟩ := (K4.blk (mE 2 rfl)).c8; obtain ⟨_, _, _, _, _, _, _, _⟩ := (K4.blk (mE 1 rfl)).c8; clear KX IHS4 JHS4 hb4)
      | (go_at_call 140; apply Calls.withMm (w0 := w); (case K => with_reducible repeat (first | exact K4 | apply Mm.drew | apply Mm.drewN)); intro KX; (with_reducible refine (rat_times_any sb zb Ab Bb nb cb mb db sc zc Ac Bc nc cc mc dc xb xc (xb * xc) M M _ (KX.at_ (mE 13 rfl)) (KX.at_ (mE 12 rfl)) (KX.at_ (mE 11 rfl)) (KX.at_ (mE 10 rfl)) Yb.out Yc.out (by omega) (Lib.hid rfl)).mono ?_); rintro e5 w5 ⟨neg5, A5, n5, c5, ne5, B5, m5, d5, rfl, IHS5, JHS5, hb5⟩; (with_reducible have K5 := (((KX.next hb5).int JHS5).int IHS5)); obtain ⟨_, _, _, _, _, _, _, _⟩ := (K5.blk (mE 2 rfl)).c8; obtain ⟨_, _, _, _, _, _, _, _⟩ := (K5.blk (mE 1 rfl)).c8; clear KX IHS5 JHS5 hb5)
      | (go_at_call 141; apply Calls.withMm (w0 := w); (case K => with_reducible repeat (first | exact K5 | apply Mm.drew | apply Mm.drewN)); intro KX; (with_reducible refine (rat_plus_any neg4 ne4 A4 B4 n4 c4 m4 d4 neg5 ne5 A5 B5 n5 c5 m5 d5 (xa * xd) (xb * xc) ((xa * xd) + (xb * xc)) (2 * M + 0) (2 * M + 0) _ (KX.at_ (mE 2 rfl)) (KX.at_ (mE 3 rfl)) (KX.at_ (mE 0 rfl)) (KX.at_ (mE 1 rfl)) HS4.out HS5.out (by omega) (Lib.hid rfl)).mono ?_); rintro e6 w6 ⟨neg6, A6, n6, c6, ne6, B6, m6, d6, rfl, IHS6, JHS6, hb6⟩; (with_reducible have K6 := (((KX.next hb6).int JHS6).int IHS6)); obtain ⟨_, _, _, _, _, _, _, _⟩ := (K6.blk (mE 2 rfl)).c8; obtain ⟨_, _, _, _, _, _, _, _⟩ := (K6.blk (mE 1 rfl)).c8; obtain ⟨q0_6r, q1_6r, q2_6r, q3_6r, q4_6r, q5_6r, q6_6r, q7_6r⟩ := (K6.blk (mE 0 rfl)).c8; obtain ⟨_, _, _, _, _, _, _, _, _⟩ := (K6.blk (mE 0 rfl)).f8; clear KX IHS6 JHS6 hb6))
  all_goals
   go_wp2_with fail
   have KE := (K6.pick (L' := [(w.heap.size + 1 + 1, [.bool false, .slice none 0 0, .bool false, .slice none 0 0, .bool false, .slice none 0 0, .bool false, .slice none 0 0])]) (l' := [(neg3, A3, n3, c3, (((xa * xc) - (xb * xd)) : Rat).num), (ne3, B3, m3, d3, (((((xa * xc) - (xb * xd)) : Rat).den : Nat) : Int)), (neg6, A6, n6, c6, (((xa * xd) + (xb * xc)) : Rat).num), (ne6, B6, m6, d6, (((((xa * xd) + (xb * xc)) : Rat).den : Nat) : Int))]) (by simp) (by simp)).set8 (by simp <;> omega) neg3 A3 n3 c3 ne3 B3 m3 d3 neg6 A6 n6 c6 ne6 B6 m6 d6
   exact bodyPost_ret (v := .agg #[.bool neg3, .slice A3 n3 c3, .bool ne3, .slice B3 m3 d3, .bool neg6, .slice A6 n6 c6, .bool ne6, .slice B6 m6 d6]) (by simp [results, Tryz.results138, go_sem, q0_6r, q1_6r, q2_6r, q3_6r, q4_6r, q5_6r, q6_6r, q7_6r]) rfl ⟨_, _, _, _, _, _, _, _, _, _, _, _, _, _, _, _, rfl, KE.at_ (by simp), KE.at_ (by simp), KE.at_ (by simp), KE.at_ (by simp), KE.1⟩
end Go.Proofs.YtgekmbfmfiikkaaGreatDoor
namespace Go.Proofs.YtgekmbfmfiikkaaGreatDoor
open Go.RowKit
theorem rat_small_any (a b : Int) (r : Rat) (w : World) (ha : -9223372036854775808 ≤ a ∧ a ≤ 9223372036854775807) (hb : -9223372036854775808 ≤ b ∧ b ≤ 9223372036854775807) (h0 : b ≠ 0) (hr : Hid (Rat.divInt a b = r)) :
  Calls Tryz.prog 143 #[.int .i64 a, .int .i64 b] w (RetFr w r) :=
 (owr_small_any a b r w ha hb h0 hr).mono fun _ _ h => h.fg
theorem rat_one_any (w : World) : Calls Tryz.prog 160 #[] w (RetFr w 1) := by
 have K0 := (Mm.nil w).var (g := w.heap.size) rfl [.bool false, .slice none 0 0, .bool false, .slice none 0 0] 26
 have HR : Hid (Rat.divInt 1 1 = 1) := Lib.hid (by decide +kernel)
 go_enter Tryz.func160, Tryz.ntmps160
 go_wp2_with fail
 refine (rat_small_any 1 1 1 _ (by decide) (by decide) (by decide) HR).mono ?_
 rintro e3 w3 ⟨neg3, A3, n3, c3, ne3, B3, m3, d3, rfl, I3, J3, hb3⟩
 have K3 := ((K0.next hb3).int J3).int I3
 obtain ⟨⟨qa3r, qb3r, qc3r, qd3r⟩, ⟨_, _, _, _⟩, _⟩ := (K3.blk (g := w.heap.size) (by repeat constructor)).four
 clear I3 J3 hb3
 go_wp2_with fail
 have KE := (K3.pick (L' := [(w.heap.size, [.bool false, .slice none 0 0, .bool false, .slice none 0 0])]) (l' := [(neg3, A3, n3, c3, (1 : Rat).num), (ne3, B3, m3, d3, ((1 : Rat).den : Int))]) (by simp) (by simp)).set4 (by simp <;> omega) neg3 A3 n3 c3 ne3 B3 m3 d3
 exact bodyPost_ret (v := .agg #[.bool neg3, .slice A3 n3 c3, .bool ne3, .slice B3 m3 d3]) (by simp [results, Tryz.results160, go_sem, qa3r, qb3r, qc3r, qd3r]) rfl ⟨_, _, _, _, _, _, _, _, rfl, KE.at_ (by simp), KE.at_ (by simp), KE.1⟩
theorem rat_sign_any (neg neg' : Bool) (A A' : Option Addr) (n c n' c' : Nat) (x : Rat) (v : Int) (w : World) (hx : IsInt w neg A n c x.num) (hx' : IsInt w neg' A' n' c' (x.den : Int)) (hv : Hid (x.num.sign = v)) :
  Calls Tryz.prog 56 #[.agg #[.bool neg, .slice A n c, .bool neg', .slice A' n' c']] w (RetV w (.int .i64 v)) := by
 have K0 := ((((Mm.nil w).int hx).int hx').var (g := w.heap.size) rfl [.bool neg, .slice A n c, .bool neg', .slice A' n' c'] 26)
 clear hx hx'
 go_enter Tryz.func56, Tryz.ntmps56
 go_wp2_with fail
 refine (ex_sign_of neg A n c x.num v _ (K0.at_ (by simp)) hv).mono ?_
 rintro e4 w4 ⟨rfl, hb4⟩
 have K4 := K0.next hb4
 go_wp2_with fail
 go_ret
 exact ⟨rfl, K4.1⟩
end Go.Proofs.YtgekmbfmfiikkaaGreatDoor
namespace Go.Proofs.YtgekmbfmfiikkaaGreatDoor
open Go.RowKit
theorem argand_may_any (sa : Bool) (Aa : Option Addr) (na ca : Nat) (la : List Nat) (za : Bool) (Ba : Option Addr) (ma da : Nat) (ka : List Nat) (sb : Bool) (Ab : Option Addr) (nb cb : Nat) (lb : List Nat) (zb : Bool) (Bb : Option Addr) (mb db : Nat) (kb : List Nat) (w : World) (ha : LmE.at_ w ((sa, Aa, na, ca, la), (za, Ba, ma, da, ka))) (hb : LmE.at_ w ((sb, Ab, nb, cb, lb), (zb, Bb, mb, db, kb))) :
  Calls Tryz.prog 55 #[.agg #[.bool sa, .slice Aa na ca, .bool za, .slice Ba ma da, .bool sb, .slice Ab nb cb, .bool zb, .slice Bb mb db]] w (RetV w (.bool (okB ((sa, Aa, na, ca, la), (za, Ba, ma, da, ka)) && okB ((sb, Ab, nb, cb, lb), (zb, Bb, mb, db, kb))))) := by
 have hb0 : Below w.heap.size w (w.alloc (.cells #[.bool sa, .slice Aa na ca, .bool za, .slice Ba ma da, .bool sb, .slice Ab nb cb, .bool zb, .slice Bb mb db] 30)) := (Below.refl _ _).alloc (Nat.le_refl _) _
 have hL : Lfs ((w.alloc (.cells #[.bool sa, .slice Aa na ca, .bool za, .slice Ba ma da, .bool sb, .slice Ab nb cb, .bool zb, .slice Bb mb db] 30)).alloc (.cells #[.bool sa, .slice Aa na ca, .bool za, .slice Ba ma da, .bool sb, .slice Ab nb cb, .bool zb, .slice Bb mb db] 26)) (w.heap.size + 1) 2 (two ((sa, Aa, na, ca, la), (za, Ba, ma, da, ka)) ((sb, Ab, nb, cb, lb), (zb, Bb, mb, db, kb))) := lfs_two _ (by simp) _ (LmE.at_.below ha hb0) (LmE.at_.below hb hb0)
 have HL := Lib.hid hL
 have HO := Lib.hid (okAll_two ((sa, Aa, na, ca, la), (za, Ba, ma, da, ka)) ((sb, Ab, nb, cb, lb), (zb, Bb, mb, db, kb)))
 clear ha hb hL
 go_enter Tryz.func55, Tryz.ntmps55
 go_wp2_with fail
 refine (rat_checks_any (w.heap.size + 1) 2 2 (two ((sa, Aa, na, ca, la), (za, Ba, ma, da, ka)) ((sb, Ab, nb, cb, lb), (zb, Bb, mb, db, kb))) _ HL.out (by decide) (by decide)).mono ?_
 rintro e1 w1 ⟨rfl, hb1⟩
 rw [HO.out]
 go_wp2_with fail
 go_ret
 exact ⟨rfl, below_box2 hb1⟩
theorem beam_check_any (sa : Bool) (Aa : Option Addr) (na ca : Nat) (la : List Nat) (za : Bool) (Ba : Option Addr) (ma da : Nat) (ka : List Nat) (sb : Bool) (Ab : Option Addr) (nb cb : Nat) (lb : List Nat) (zb : Bool) (Bb : Option Addr) (mb db : Nat) (kb : List Nat) (w : World) (ha : LmE.at_ w ((sa, Aa, na, ca, la), (za, Ba, ma, da, ka))) (hb : LmE.at_ w ((sb, Ab, nb, cb, lb), (zb, Bb, mb, db, kb))) :
  Calls Tryz.prog 16 #[.agg #[.bool sa, .slice Aa na ca, .bool za, .slice Ba ma da, .bool sb, .slice Ab nb cb, .bool zb, .slice Bb mb db]] w (RetV w (.int .i64 (chkBm ((sa, Aa, na, ca, la), (za, Ba, ma, da, ka)) ((sb, Ab, nb, cb, lb), (zb, Bb, mb, db, kb))))) := by
 have K0 := (Mm.nil w).var (g := w.heap.size) rfl [.bool sa, .slice Aa na ca, .bool za, .slice Ba ma da, .bool sb, .slice Ab nb cb, .bool zb, .slice Bb mb db] 30
 have ha0 := LmE.at_.below ha K0.1
 have hb0 := LmE.at_.below hb K0.1
 clear ha hb
 obtain ⟨o, ho⟩ : ∃ o, (okB ((sa, Aa, na, ca, la), (za, Ba, ma, da, ka)) && okB ((sb, Ab, nb, cb, lb), (zb, Bb, mb, db, kb))) = o := ⟨_, rfl⟩
 have HC : Hid (chkBm ((sa, Aa, na, ca, la), (za, Ba, ma, da, ka)) ((sb, Ab, nb, cb, lb), (zb, Bb, mb, db, kb)) = if o then (if 0 < rv ((sb, Ab, nb, cb, lb), (zb, Bb, mb, db, kb)) then 0 else 8) else 1) := Lib.hid (by unfold chkBm; rw [ho])
 go_enter Tryz.func16, Tryz.ntmps16
 go_wp2_with fail
 refine (argand_may_any sa Aa na ca la za Ba ma da ka sb Ab nb cb lb zb Bb mb db kb _ ha0 hb0).mono ?_
 rintro e1 w1 ⟨rfl, hb1⟩
 rw [ho]
 have K1 := K0.next hb1
 have hb2 := LmE.at_.below hb0 hb1
 obtain ⟨_, _, _, _, _, _, _, _⟩ := (K1.blk (g := w.heap.size) (by repeat constructor)).c8
 cases o with
 | false =>
  go_wp2_with fail
  go_ret
  exact ⟨by rw [HC.out]; rfl, K1.1⟩
 | true =>
  have hbb : okB ((sb, Ab, nb, cb, lb), (zb, Bb, mb, db, kb)) = true := (Bool.and_eq_true _ _ ▸ ho).2
  obtain ⟨i1, i2, _⟩ := ok_ints hbb hb2
  obtain ⟨g1, g2⟩ := rat_num_sign (rv ((sb, Ab, nb, cb, lb), (zb, Bb, mb, db, kb)))
  obtain ⟨xb, hxb⟩ : ∃ xb, rv ((sb, Ab, nb, cb, lb), (zb, Bb, mb, db, kb)) = xb := ⟨_, rfl⟩
  rw [hxb] at i1 i2 g1 g2 HC
  have I1 := Lib.hid i1
  have I2 := Lib.hid i2
  clear i1 i2 hb1 K0 ha0 hb0 hb2 ho hbb
  go_wp2_with fail
  by_cases hp : 0 < xb
  ·refine (rat_sign_any sb zb Ab Bb nb cb mb db xb 1 _ I1.out I2.out (Lib.hid (g1 hp))).mono ?_
   rintro e2 w2 ⟨rfl, hb3⟩
   go_wp2_with fail
   go_ret
   exact ⟨by rw [HC.out, if_pos (by trivial), if_pos hp]; rfl, (K1.next hb3).1⟩
  ·rcases g2 hp with g | g
   ·refine (rat_sign_any sb zb Ab Bb nb cb mb db xb 0 _ I1.out I2.out (Lib.hid g)).mono ?_
    rintro e2 w2 ⟨rfl, hb3⟩
    go_wp2_with fail
    go_ret
    exact ⟨by rw [HC.out, if_pos (by trivial), if_neg hp]; rfl, (K1.next hb3).1⟩
   ·refine (rat_sign_any sb zb Ab Bb nb cb mb db xb (-1) _ I1.out I2.out (Lib.hid g)).mono ?_
    rintro e2 w2 ⟨rfl, hb3⟩
    go_wp2_with fail
    go_ret
    exact ⟨by rw [HC.out, if_pos (by trivial), if_neg hp]; rfl, (K1.next hb3).1⟩
theorem row_may_any (sa : Bool) (Aa : Option Addr) (na ca : Nat) (la : List Nat) (za : Bool) (Ba : Option Addr) (ma da : Nat) (ka : List Nat) (sb : Bool) (Ab : Option Addr) (nb cb : Nat) (lb : List Nat) (zb : Bool) (Bb : Option Addr) (mb db : Nat) (kb : List Nat) (sc : Bool) (Ac : Option Addr) (nc cc : Nat) (lc : List Nat) (zc : Bool) (Bc : Option Addr) (mc dc : Nat) (kc : List Nat) (sd : Bool) (Ad : Option Addr) (nd cd : Nat) (ld : List Nat) (zd : Bool) (Bd : Option Addr) (md dd : Nat) (kd : List Nat) (w : World) (ha : LmE.at_ w ((sa, Aa, na, ca, la), (za, Ba, ma, da, ka))) (hb : LmE.at_ w ((sb, Ab, nb, cb, lb), (zb, Bb, mb, db, kb))) (hc : LmE.at_ w ((sc, Ac, nc, cc, lc), (zc, Bc, mc, dc, kc))) (hd : LmE.at_ w ((sd, Ad, nd, cd, ld), (zd, Bd, md, dd, kd))) :
  Calls Tryz.prog 49 #[.agg #[.bool sa, .slice Aa na ca, .bool za, .slice Ba ma da, .bool sb, .slice Ab nb cb, .bool zb, .slice Bb mb db, .bool sc, .slice Ac nc cc, .bool zc, .slice Bc mc dc, .bool sd, .slice Ad nd cd, .bool zd, .slice Bd md dd]] w (RetV w (.bool (okM ((sa, Aa, na, ca, la), (za, Ba, ma, da, ka)) ((sb, Ab, nb, cb, lb), (zb, Bb, mb, db, kb)) ((sc, Ac, nc, cc, lc), (zc, Bc, mc, dc, kc)) ((sd, Ad, nd, cd, ld), (zd, Bd, md, dd, kd))))) := by
 have K0 := (Mm.nil w).var (g := w.heap.size) rfl [.bool sa, .slice Aa na ca, .bool za, .slice Ba ma da, .bool sb, .slice Ab nb cb, .bool zb, .slice Bb mb db, .bool sc, .slice Ac nc cc, .bool zc, .slice Bc mc dc, .bool sd, .slice Ad nd cd, .bool zd, .slice Bd md dd] 28
 have ha0 := LmE.at_.below ha K0.1
 have hb0 := LmE.at_.below hb K0.1
 have hc0 := LmE.at_.below hc K0.1
 have hd0 := LmE.at_.below hd K0.1
 have K1 := K0.box (.cells #[.bool sa, .slice Aa na ca, .bool za, .slice Ba ma da, .bool sb, .slice Ab nb cb, .bool zb, .slice Bb mb db, .bool sc, .slice Ac nc cc, .bool zc, .slice Bc mc dc, .bool sd, .slice Ad nd cd, .bool zd, .slice Bd md dd] 26)
 have hL : Lfs ((w.alloc (.cells #[.bool sa, .slice Aa na ca, .bool za, .slice Ba ma da, .bool sb, .slice Ab nb cb, .bool zb, .slice Bb mb db, .bool sc, .slice Ac nc cc, .bool zc, .slice Bc mc dc, .bool sd, .slice Ad nd cd, .bool zd, .slice Bd md dd] 28)).alloc (.cells #[.bool sa, .slice Aa na ca, .bool za, .slice Ba ma da, .bool sb, .slice Ab nb cb, .bool zb, .slice Bb mb db, .bool sc, .slice Ac nc cc, .bool zc, .slice Bc mc dc, .bool sd, .slice Ad nd cd, .bool zd, .slice Bd md dd] 26)) (w.heap.size + 1) 4 (four ((sa, Aa, na, ca, la), (za, Ba, ma, da, ka)) ((sb, Ab, nb, cb, lb), (zb, Bb, mb, db, kb)) ((sc, Ac, nc, cc, lc), (zc, Bc, mc, dc, kc)) ((sd, Ad, nd, cd, ld), (zd, Bd, md, dd, kd))) := lfs_four _ (by simp) _ ha0 hb0 hc0 hd0
 have HL := Lib.hid hL
 obtain ⟨o, ho⟩ : ∃ o, (okB ((sa, Aa, na, ca, la), (za, Ba, ma, da, ka)) && okB ((sb, Ab, nb, cb, lb), (zb, Bb, mb, db, kb)) && okB ((sc, Ac, nc, cc, lc), (zc, Bc, mc, dc, kc)) && okB ((sd, Ad, nd, cd, ld), (zd, Bd, md, dd, kd))) = o := ⟨_, rfl⟩
 have HO := Lib.hid ((okAll_four ((sa, Aa, na, ca, la), (za, Ba, ma, da, ka)) ((sb, Ab, nb, cb, lb), (zb, Bb, mb, db, kb)) ((sc, Ac, nc, cc, lc), (zc, Bc, mc, dc, kc)) ((sd, Ad, nd, cd, ld), (zd, Bd, md, dd, kd))).trans ho)
 have HM : Hid (okM ((sa, Aa, na, ca, la), (za, Ba, ma, da, ka)) ((sb, Ab, nb, cb, lb), (zb, Bb, mb, db, kb)) ((sc, Ac, nc, cc, lc), (zc, Bc, mc, dc, kc)) ((sd, Ad, nd, cd, ld), (zd, Bd, md, dd, kd)) = (o && decide (rv ((sa, Aa, na, ca, la), (za, Ba, ma, da, ka)) * rv ((sd, Ad, nd, cd, ld), (zd, Bd, md, dd, kd)) - rv ((sb, Ab, nb, cb, lb), (zb, Bb, mb, db, kb)) * rv ((sc, Ac, nc, cc, lc), (zc, Bc, mc, dc, kc)) = 1))) := Lib.hid (by unfold okM; rw [ho])
 have ha1 := LmE.at_.below ha K1.1
 have hb1 := LmE.at_.below hb K1.1
 have hc1 := LmE.at_.below hc K1.1
 have hd1 := LmE.at_.below hd K1.1
 clear ha hb hc hd hL K0 ha0 hb0 hc0 hd0
 go_enter Tryz.func49, Tryz.ntmps49
 go_wp2_with fail
 refine (rat_checks_any (w.heap.size + 1) 4 4 (four ((sa, Aa, na, ca, la), (za, Ba, ma, da, ka)) ((sb, Ab, nb, cb, lb), (zb, Bb, mb, db, kb)) ((sc, Ac, nc, cc, lc), (zc, Bc, mc, dc, kc)) ((sd, Ad, nd, cd, ld), (zd, Bd, md, dd, kd))) _ HL.out (by decide) (by decide)).mono ?_
 rintro e1 w1 ⟨rfl, hbw⟩
 rw [HO.out]
 clear HO HL
 have K2 := K1.next hbw
 have ha2 := LmE.at_.below ha1 hbw
 have hb2 := LmE.at_.below hb1 hbw
 have hc2 := LmE.at_.below hc1 hbw
 have hd2 := LmE.at_.below hd1 hbw
 clear ha1 hb1 hc1 hd1 K1 hbw
 obtain ⟨_, _, _, _, _, _, _, _, _, _, _, _, _, _, _, _⟩ := (K2.blk (g := w.heap.size) (by repeat constructor)).c16
 cases o with
 | false =>
  go_wp2_with fail
  go_ret
  exact ⟨by rw [HM.out]; rfl, K2.1⟩
 | true =>
  simp only [Bool.and_eq_true] at ho
  obtain ⟨⟨⟨oa, ob⟩, oc⟩, od⟩ := ho
  obtain ⟨ia, ja, ya⟩ := ok_ints oa ha2
  obtain ⟨ib, jb, yb⟩ := ok_ints ob hb2
  obtain ⟨ic, jc, yc⟩ := ok_ints oc hc2
  obtain ⟨id, jd, yd⟩ := ok_ints od hd2
  obtain ⟨xa, hxa⟩ : ∃ x, rv ((sa, Aa, na, ca, la), (za, Ba, ma, da, ka)) = x := ⟨_, rfl⟩
  obtain ⟨xb, hxb⟩ : ∃ x, rv ((sb, Ab, nb, cb, lb), (zb, Bb, mb, db, kb)) = x := ⟨_, rfl⟩
  obtain ⟨xc, hxc⟩ : ∃ x, rv ((sc, Ac, nc, cc, lc), (zc, Bc, mc, dc, kc)) = x := ⟨_, rfl⟩
  obtain ⟨xd, hxd⟩ : ∃ x, rv ((sd, Ad, nd, cd, ld), (zd, Bd, md, dd, kd)) = x := ⟨_, rfl⟩
  rw [hxa] at ia ja ya
  rw [hxb] at ib jb yb
  rw [hxc] at ic jc yc
  rw [hxd] at id jd yd
  rw [hxa, hxb, hxc, hxd] at HM
  have HSZ : Hid (Sz (xa * xd - xb * xc) 8193) := Lib.hid ((Sz.sub (Sz.mul ya yd) (Sz.mul yb yc)).mono (by omega))
  have K3 := ((((((((K2.int ia).int ja).int ib).int jb).int ic).int jc).int id).int jd)
  have YA := Lib.hid ya
  have YB := Lib.hid yb
  have YC := Lib.hid yc
  have YD := Lib.hid yd
  clear ia ja ib jb ic jc id jd ya yb yc yd oa ob oc od hxa hxb hxc hxd ha2 hb2 hc2 hd2 K2
  go_wp2_with fail
  refine (row_det_any sa za Aa Ba na ca ma da xa sb zb Ab Bb nb cb mb db xb sc zc Ac Bc nc cc mc dc xc sd zd Ad Bd nd cd md dd xd 2048 _ (K3.at_ (by simp)) (K3.at_ (by simp)) YA.out (K3.at_ (by simp)) (K3.at_ (by simp)) YB.out (K3.at_ (by simp)) (K3.at_ (by simp)) YC.out (K3.at_ (by simp)) (K3.at_ (by simp)) YD.out (by decide)).mono ?_
  rintro e4 w4 ⟨neg4, A4, n4, c4, ne4, B4, m4, d4, rfl, I4, J4, hb4⟩
  have K4 := ((K3.next hb4).int J4).int I4
  clear I4 J4 hb4 K3
  go_wp2_with fail
  refine (rat_one_any _).mono ?_
  rintro e5 w5 ⟨neg5, A5, n5, c5, ne5, B5, m5, d5, rfl, I5, J5, hb5⟩
  have K5 := ((K4.next hb5).int J5).int I5
  clear I5 J5 hb5 K4
  go_wp2_with fail
  obtain ⟨v, hv⟩ : ∃ v, rcmp (xa * xd - xb * xc) 1 = v := ⟨_, rfl⟩
  have hvb : (v == 0) = decide (xa * xd - xb * xc = 1) := by rw [← hv]; exact rcmp_eq _ _
  have HV := Lib.hid hv
  clear hv
  refine (rat_cmp_any neg4 ne4 A4 B4 n4 c4 m4 d4 neg5 ne5 A5 B5 n5 c5 m5 d5 (xa * xd - xb * xc) 1 v 8193 1 _ (K5.at_ (by simp)) (K5.at_ (by simp)) (K5.at_ (by simp)) (K5.at_ (by simp)) HSZ.out Sz.one (by decide) HV).mono ?_
  rintro e6 w6 ⟨rfl, hb6⟩
  go_wp2_with fail
  go_ret
  exact ⟨by rw [HM.out, Bool.true_and, ← hvb]; rfl, (K5.next hb6).1⟩
end Go.Proofs.YtgekmbfmfiikkaaGreatDoor
