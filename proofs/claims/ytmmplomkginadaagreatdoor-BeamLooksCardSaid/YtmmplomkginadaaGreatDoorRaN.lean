/-
  Of the program: what a matrix comes to (row.Det); products of complex numbers (in mode.Keeps).
  The program's fractions (package ratio): small ones, one, signs.
-/
import Derived.Test.YtmmplomkginadaaGreatDoorAnD
import Derived.Test.YtmmplomkginadaaGreatDoorOwH
import Derived.Test.YtmmplomkginadaaGreatDoorRaL
namespace Go.Proofs.YtmmplomkginadaaGreatDoor
open Go.RowKit

set_option maxRecDepth 100000 in
set_option maxHeartbeats 6400000 in
theorem row_det_any (sa za : Bool) (Aa Ba : Option Addr) (na ca ma da : Nat) (xa : Rat) (sb zb : Bool) (Ab Bb : Option Addr) (nb cb mb db : Nat) (xb : Rat) (sc zc : Bool) (Ac Bc : Option Addr) (nc cc mc dc : Nat) (xc : Rat) (sd zd : Bool) (Ad Bd : Option Addr) (nd cd md dd : Nat) (xd : Rat) (M : Nat) (w : World) (ha : IsInt w sa Aa na ca xa.num) (ia : IsInt w za Ba ma da (xa.den : Int)) (ya : Sz xa M) (hb : IsInt w sb Ab nb cb xb.num) (ib : IsInt w zb Bb mb db (xb.den : Int)) (yb : Sz xb M) (hc : IsInt w sc Ac nc cc xc.num) (ic : IsInt w zc Bc mc dc (xc.den : Int)) (yc : Sz xc M) (hd : IsInt w sd Ad nd cd xd.num) (id : IsInt w zd Bd md dd (xd.den : Int)) (yd : Sz xd M) (hM : M ≤ 100000) :
    Calls Tryz.prog 174 #[.agg #[.bool sa, .slice Aa na ca, .bool za, .slice Ba ma da, .bool sb, .slice Ab nb cb, .bool zb, .slice Bb mb db, .bool sc, .slice Ac nc cc, .bool zc, .slice Bc mc dc, .bool sd, .slice Ad nd cd, .bool zd, .slice Bd md dd]] w (RetFr w ((xa * xd) - (xb * xc))) := by
  have K0 := (((((((((((Mm.nil w).int ha).int ia).int hb).int ib).int hc).int ic).int hd).int id).var (g := w.heap.size) rfl [.bool sa, .slice Aa na ca, .bool za, .slice Ba ma da, .bool sb, .slice Ab nb cb, .bool zb, .slice Bb mb db, .bool sc, .slice Ac nc cc, .bool zc, .slice Bc mc dc, .bool sd, .slice Ad nd cd, .bool zd, .slice Bd md dd] 28).var (g := w.heap.size + 1) (by simp) [.bool false, .slice none 0 0, .bool false, .slice none 0 0] 26)
  have Ya := Lib.hid ya
  have Yb := Lib.hid yb
  have Yc := Lib.hid yc
  have Yd := Lib.hid yd
  have HS1 : Hid (Sz (xa * xd) (2 * M + 0)) := Lib.hid ((Sz.mul Ya.out Yd.out).mono (by omega))
  have HS2 : Hid (Sz (xb * xc) (2 * M + 0)) := Lib.hid ((Sz.mul Yb.out Yc.out).mono (by omega))
  have HS3 : Hid (Sz ((xa * xd) - (xb * xc)) (4 * M + 1)) := Lib.hid ((Sz.sub HS1.out HS2.out).mono (by omega))
  clear ha ia ya hb ib yb hc ic yc hd id yd
  have ne01 : ¬ w.heap.size = w.heap.size + 1 := by omega
  have ne10 : ¬ w.heap.size + 1 = w.heap.size := by omega
  go_enter Tryz.func174, Tryz.ntmps174
  go_wp2_with fail
  generalize (w.alloc (.cells #[.bool sa, .slice Aa na ca, .bool za, .slice Ba ma da, .bool sb, .slice Ab nb cb, .bool zb, .slice Bb mb db, .bool sc, .slice Ac nc cc, .bool zc, .slice Bc mc dc, .bool sd, .slice Ad nd cd, .bool zd, .slice Bd md dd] 28)).alloc (.cells #[.bool false, .slice none 0 0, .bool false, .slice none 0 0] 26) = w0 at K0 ⊢
  obtain ⟨q0_0x, q1_0x, q2_0x, q3_0x, q4_0x, q5_0x, q6_0x, q7_0x, q8_0x, q9_0x, q10_0x, q11_0x, q12_0x, q13_0x, q14_0x, q15_0x⟩ := (K0.blk (g := w.heap.size) (vs := [.bool sa, .slice Aa na ca, .bool za, .slice Ba ma da, .bool sb, .slice Ab nb cb, .bool zb, .slice Bb mb db, .bool sc, .slice Ac nc cc, .bool zc, .slice Bc mc dc, .bool sd, .slice Ad nd cd, .bool zd, .slice Bd md dd]) (by simp)).c16
  go_region_held3 (fun w' => w'.cell? ⟨w.heap.size, 0, none⟩ = some (.bool sa) ∧ w'.cell? ⟨w.heap.size, 1, none⟩ = some (.slice Aa na ca) ∧ w'.cell? ⟨w.heap.size, 2, none⟩ = some (.bool za) ∧ w'.cell? ⟨w.heap.size, 3, none⟩ = some (.slice Ba ma da) ∧ w'.cell? ⟨w.heap.size, 4, none⟩ = some (.bool sb) ∧ w'.cell? ⟨w.heap.size, 5, none⟩ = some (.slice Ab nb cb) ∧ w'.cell? ⟨w.heap.size, 6, none⟩ = some (.bool zb) ∧ w'.cell? ⟨w.heap.size, 7, none⟩ = some (.slice Bb mb db) ∧ w'.cell? ⟨w.heap.size, 8, none⟩ = some (.bool sc) ∧ w'.cell? ⟨w.heap.size, 9, none⟩ = some (.slice Ac nc cc) ∧ w'.cell? ⟨w.heap.size, 10, none⟩ = some (.bool zc) ∧ w'.cell? ⟨w.heap.size, 11, none⟩ = some (.slice Bc mc dc) ∧ w'.cell? ⟨w.heap.size, 12, none⟩ = some (.bool sd) ∧ w'.cell? ⟨w.heap.size, 13, none⟩ = some (.slice Ad nd cd) ∧ w'.cell? ⟨w.heap.size, 14, none⟩ = some (.bool zd) ∧ w'.cell? ⟨w.heap.size, 15, none⟩ = some (.slice Bd md dd))
    (go_keep)
    (first
      | (go_at_call 156; (with_reducible refine (rat_times_any sa za Aa Ba na ca ma da sd zd Ad Bd nd cd md dd xa xd (xa * xd) M M _ ?_ ?_ ?_ ?_ Ya.out Yd.out (by omega) (Lib.hid rfl)).mono ?_); (first | (with_reducible exact K0.at_ (List.mem_of_getElem? (i := 7) rfl)) | (with_reducible exact K0.drew.at_ (List.mem_of_getElem? (i := 7) rfl)) | (with_reducible exact (K0.drewN _).at_ (List.mem_of_getElem? (i := 7) rfl))); (first | (with_reducible exact K0.at_ (List.mem_of_getElem? (i := 6) rfl)) | (with_reducible exact K0.drew.at_ (List.mem_of_getElem? (i := 6) rfl)) | (with_reducible exact (K0.drewN _).at_ (List.mem_of_getElem? (i := 6) rfl))); (first | (with_reducible exact K0.at_ (List.mem_of_getElem? (i := 1) rfl)) | (with_reducible exact K0.drew.at_ (List.mem_of_getElem? (i := 1) rfl)) | (with_reducible exact (K0.drewN _).at_ (List.mem_of_getElem? (i := 1) rfl))); (first | (with_reducible exact K0.at_ (List.mem_of_getElem? (i := 0) rfl)) | (with_reducible exact K0.drew.at_ (List.mem_of_getElem? (i := 0) rfl)) | (with_reducible exact (K0.drewN _).at_ (List.mem_of_getElem? (i := 0) rfl))); rintro e1 w1 ⟨neg1, A1, n1, c1, ne1, B1, m1, d1, rfl, IHS1, JHS1, hb1⟩; (first | (with_reducible have K1 := (((K0.next hb1).int JHS1).int IHS1)) | (with_reducible have K1 := (((K0.drew.next hb1).int JHS1).int IHS1)) | (with_reducible have K1 := ((((K0.drewN _).next hb1).int JHS1).int IHS1))); obtain ⟨q0_1x, q1_1x, q2_1x, q3_1x, q4_1x, q5_1x, q6_1x, q7_1x, q8_1x, q9_1x, q10_1x, q11_1x, q12_1x, q13_1x, q14_1x, q15_1x⟩ := (K1.blk (g := w.heap.size) (vs := [.bool sa, .slice Aa na ca, .bool za, .slice Ba ma da, .bool sb, .slice Ab nb cb, .bool zb, .slice Bb mb db, .bool sc, .slice Ac nc cc, .bool zc, .slice Bc mc dc, .bool sd, .slice Ad nd cd, .bool zd, .slice Bd md dd]) (List.mem_of_getElem? (i := 1) rfl)).c16; clear IHS1 JHS1 hb1)
      | (go_at_call 156; (with_reducible refine (rat_times_any sb zb Ab Bb nb cb mb db sc zc Ac Bc nc cc mc dc xb xc (xb * xc) M M _ ?_ ?_ ?_ ?_ Yb.out Yc.out (by omega) (Lib.hid rfl)).mono ?_); (first | (with_reducible exact K1.at_ (List.mem_of_getElem? (i := 7) rfl)) | (with_reducible exact K1.drew.at_ (List.mem_of_getElem? (i := 7) rfl)) | (with_reducible exact (K1.drewN _).at_ (List.mem_of_getElem? (i := 7) rfl))); (first | (with_reducible exact K1.at_ (List.mem_of_getElem? (i := 6) rfl)) | (with_reducible exact K1.drew.at_ (List.mem_of_getElem? (i := 6) rfl)) | (with_reducible exact (K1.drewN _).at_ (List.mem_of_getElem? (i := 6) rfl))); (first | (with_reducible exact K1.at_ (List.mem_of_getElem? (i := 5) rfl)) | (with_reducible exact K1.drew.at_ (List.mem_of_getElem? (i := 5) rfl)) | (with_reducible exact (K1.drewN _).at_ (List.mem_of_getElem? (i := 5) rfl))); (first | (with_reducible exact K1.at_ (List.mem_of_getElem? (i := 4) rfl)) | (with_reducible exact K1.drew.at_ (List.mem_of_getElem? (i := 4) rfl)) | (with_reducible exact (K1.drewN _).at_ (List.mem_of_getElem? (i := 4) rfl))); rintro e2 w2 ⟨neg2, A2, n2, c2, ne2, B2, m2, d2, rfl, IHS2, JHS2, hb2⟩; (first | (with_reducible have K2 := (((K1.next hb2).int JHS2).int IHS2)) | (with_reducible have K2 := (((K1.drew.next hb2).int JHS2).int IHS2)) | (with_reducible have K2 := ((((K1.drewN _).next hb2).int JHS2).int IHS2))); obtain ⟨q0_2x, q1_2x, q2_2x, q3_2x, q4_2x, q5_2x, q6_2x, q7_2x, q8_2x, q9_2x, q10_2x, q11_2x, q12_2x, q13_2x, q14_2x, q15_2x⟩ := (K2.blk (g := w.heap.size) (vs := [.bool sa, .slice Aa na ca, .bool za, .slice Ba ma da, .bool sb, .slice Ab nb cb, .bool zb, .slice Bb mb db, .bool sc, .slice Ac nc cc, .bool zc, .slice Bc mc dc, .bool sd, .slice Ad nd cd, .bool zd, .slice Bd md dd]) (List.mem_of_getElem? (i := 1) rfl)).c16; clear IHS2 JHS2 hb2)
      | (go_at_call 155; (with_reducible refine (rat_minus_any neg1 ne1 A1 B1 n1 c1 m1 d1 neg2 ne2 A2 B2 n2 c2 m2 d2 (xa * xd) (xb * xc) ((xa * xd) - (xb * xc)) (2 * M + 0) (2 * M + 0) _ ?_ ?_ ?_ ?_ HS1.out HS2.out (by omega) (Lib.hid rfl)).mono ?_); (first | (with_reducible exact K2.at_ (List.mem_of_getElem? (i := 2) rfl)) | (with_reducible exact K2.drew.at_ (List.mem_of_getElem? (i := 2) rfl)) | (with_reducible exact (K2.drewN _).at_ (List.mem_of_getElem? (i := 2) rfl))); (first | (with_reducible exact K2.at_ (List.mem_of_getElem? (i := 3) rfl)) | (with_reducible exact K2.drew.at_ (List.mem_of_getElem? (i := 3) rfl)) | (with_reducible exact (K2.drewN _).at_ (List.mem_of_getElem? (i := 3) rfl))); (first | (with_reducible exact K2.at_ (List.mem_of_getElem? (i := 0) rfl)) | (with_reducible exact K2.drew.at_ (List.mem_of_getElem? (i := 0) rfl)) | (with_reducible exact (K2.drewN _).at_ (List.mem_of_getElem? (i := 0) rfl))); (first | (with_reducible exact K2.at_ (List.mem_of_getElem? (i := 1) rfl)) | (with_reducible exact K2.drew.at_ (List.mem_of_getElem? (i := 1) rfl)) | (with_reducible exact (K2.drewN _).at_ (List.mem_of_getElem? (i := 1) rfl))); rintro e3 w3 ⟨neg3, A3, n3, c3, ne3, B3, m3, d3, rfl, IHS3, JHS3, hb3⟩; (first | (with_reducible have K3 := (((K2.next hb3).int JHS3).int IHS3)) | (with_reducible have K3 := (((K2.drew.next hb3).int JHS3).int IHS3)) | (with_reducible have K3 := ((((K2.drewN _).next hb3).int JHS3).int IHS3))); obtain ⟨q0_3x, q1_3x, q2_3x, q3_3x, q4_3x, q5_3x, q6_3x, q7_3x, q8_3x, q9_3x, q10_3x, q11_3x, q12_3x, q13_3x, q14_3x, q15_3x⟩ := (K3.blk (g := w.heap.size) (vs := [.bool sa, .slice Aa na ca, .bool za, .slice Ba ma da, .bool sb, .slice Ab nb cb, .bool zb, .slice Bb mb db, .bool sc, .slice Ac nc cc, .bool zc, .slice Bc mc dc, .bool sd, .slice Ad nd cd, .bool zd, .slice Bd md dd]) (List.mem_of_getElem? (i := 1) rfl)).c16; obtain ⟨⟨qa3r, qb3r, qc3r, qd3r⟩, ⟨qe3r, qf3r, qg3r, qh3r⟩, qi3r⟩ := (K3.blk (g := w.heap.size + 1) (vs := [.bool false, .slice none 0 0, .bool false, .slice none 0 0]) (List.mem_of_getElem? (i := 0) rfl)).four; clear IHS3 JHS3 hb3))
  all_goals
   go_wp2_with fail
   have KE := (K3.pick (L' := [(w.heap.size + 1, [.bool false, .slice none 0 0, .bool false, .slice none 0 0])]) (l' := [(neg3, A3, n3, c3, (((xa * xd) - (xb * xc)) : Rat).num), (ne3, B3, m3, d3, (((((xa * xd) - (xb * xc)) : Rat).den : Nat) : Int))]) (by simp) (by simp)).set4 (by simp <;> omega) neg3 A3 n3 c3 ne3 B3 m3 d3
   exact bodyPost_ret (v := .agg #[.bool neg3, .slice A3 n3 c3, .bool ne3, .slice B3 m3 d3]) (by simp [results, Tryz.results174, go_sem, qa3r, qb3r, qc3r, qd3r]) rfl ⟨_, _, _, _, _, _, _, _, rfl, KE.at_ (by simp), KE.at_ (by simp), KE.1⟩

end Go.Proofs.YtmmplomkginadaaGreatDoor

namespace Go.Proofs.YtmmplomkginadaaGreatDoor
open Go.RowKit

theorem rat_small_any (a b : Int) (r : Rat) (w : World) (ha : -9223372036854775808 ≤ a ∧ a ≤ 9223372036854775807) (hb : -9223372036854775808 ≤ b ∧ b ≤ 9223372036854775807) (h0 : b ≠ 0) (hr : Hid (Rat.divInt a b = r)) :
    Calls Tryz.prog 159 #[.int .i64 a, .int .i64 b] w (RetFr w r) :=
  (owr_small_any a b r w ha hb h0 hr).mono fun _ _ h => h.fg
set_option maxRecDepth 100000 in
set_option maxHeartbeats 3200000 in
theorem rat_one_any (w : World) : Calls Tryz.prog 175 #[] w (RetFr w 1) := by
  have K0 := (Mm.nil w).var (g := w.heap.size) rfl [.bool false, .slice none 0 0, .bool false, .slice none 0 0] 26
  have HR : Hid (Rat.divInt 1 1 = 1) := Lib.hid (by decide +kernel)
  go_enter Tryz.func175, Tryz.ntmps175
  go_wp2_with fail
  refine (rat_small_any 1 1 1 _ (by decide) (by decide) (by decide) HR).mono ?_
  rintro e3 w3 ⟨neg3, A3, n3, c3, ne3, B3, m3, d3, rfl, I3, J3, hb3⟩
  have K3 := ((K0.next hb3).int J3).int I3
  obtain ⟨⟨qa3r, qb3r, qc3r, qd3r⟩, ⟨qe3r, qf3r, qg3r, qh3r⟩, qi3r⟩ := (K3.blk (g := w.heap.size) (vs := [.bool false, .slice none 0 0, .bool false, .slice none 0 0]) (by simp)).four
  clear I3 J3 hb3
  go_wp2_with fail
  have KE := (K3.pick (L' := [(w.heap.size, [.bool false, .slice none 0 0, .bool false, .slice none 0 0])]) (l' := [(neg3, A3, n3, c3, (1 : Rat).num), (ne3, B3, m3, d3, ((1 : Rat).den : Int))]) (by simp) (by simp)).set4 (by simp <;> omega) neg3 A3 n3 c3 ne3 B3 m3 d3
  exact bodyPost_ret (v := .agg #[.bool neg3, .slice A3 n3 c3, .bool ne3, .slice B3 m3 d3]) (by simp [results, Tryz.results175, go_sem, qa3r, qb3r, qc3r, qd3r]) rfl ⟨_, _, _, _, _, _, _, _, rfl, KE.at_ (by simp), KE.at_ (by simp), KE.1⟩

set_option maxRecDepth 100000 in
set_option maxHeartbeats 3200000 in
theorem rat_sign_any (neg neg' : Bool) (A A' : Option Addr) (n c n' c' : Nat) (x : Rat) (v : Int) (w : World) (hx : IsInt w neg A n c x.num) (hx' : IsInt w neg' A' n' c' (x.den : Int)) (hv : Hid (x.num.sign = v)) :
    Calls Tryz.prog 63 #[.agg #[.bool neg, .slice A n c, .bool neg', .slice A' n' c']] w (RetV w (.int .i64 v)) := by
  have K0 := ((((Mm.nil w).int hx).int hx').var (g := w.heap.size) rfl [.bool neg, .slice A n c, .bool neg', .slice A' n' c'] 26)
  clear hx hx'
  go_enter Tryz.func63, Tryz.ntmps63
  go_wp2_with fail
  refine (ex_sign_of neg A n c x.num v _ (K0.at_ (by simp)) hv).mono ?_
  rintro e4 w4 ⟨rfl, hb4⟩
  have K4 := K0.next hb4
  go_wp2_with fail
  go_ret
  exact ⟨rfl, K4.1⟩
end Go.Proofs.YtmmplomkginadaaGreatDoor
