/-
  A matrix that may be (ray.det, ray.Check, ray.One); small complex numbers (argand.Small, gauss.Of).
-/
import Derived.Test.YtdmdaoginojalaaBmF
import Derived.Test.YtdmdaoginojalaaRaN
import Derived.Test.YtdmdaoginojalaaTzF
namespace Go.Proofs.Ytdmdaoginojalaa
open Go.RowKit

set_option maxRecDepth 100000 in
set_option maxHeartbeats 6400000 in
theorem ray_det_any (sa za : Bool) (Aa Ba : Option Addr) (na ca ma da : Nat) (xa : Rat) (sb zb : Bool) (Ab Bb : Option Addr) (nb cb mb db : Nat) (xb : Rat) (sc zc : Bool) (Ac Bc : Option Addr) (nc cc mc dc : Nat) (xc : Rat) (sd zd : Bool) (Ad Bd : Option Addr) (nd cd md dd : Nat) (xd : Rat) (M : Nat) (w : World) (ha : IsInt w sa Aa na ca xa.num) (ia : IsInt w za Ba ma da (xa.den : Int)) (ya : Sz xa M) (hb : IsInt w sb Ab nb cb xb.num) (ib : IsInt w zb Bb mb db (xb.den : Int)) (yb : Sz xb M) (hc : IsInt w sc Ac nc cc xc.num) (ic : IsInt w zc Bc mc dc (xc.den : Int)) (yc : Sz xc M) (hd : IsInt w sd Ad nd cd xd.num) (id : IsInt w zd Bd md dd (xd.den : Int)) (yd : Sz xd M) (hM : M ≤ 100000) :
    Calls Try.prog 53 #[.agg #[.bool sa, .slice Aa na ca, .bool za, .slice Ba ma da], .agg #[.bool sb, .slice Ab nb cb, .bool zb, .slice Bb mb db], .agg #[.bool sc, .slice Ac nc cc, .bool zc, .slice Bc mc dc], .agg #[.bool sd, .slice Ad nd cd, .bool zd, .slice Bd md dd]] w (RetFr w ((xa * xd) - (xb * xc))) := by
  have K0 := ((((((((((((((Mm.nil w).int ha).int ia).int hb).int ib).int hc).int ic).int hd).int id).var (g := w.heap.size) rfl [.bool sa, .slice Aa na ca, .bool za, .slice Ba ma da] 26).var (g := w.heap.size + 1) (by simp) [.bool sb, .slice Ab nb cb, .bool zb, .slice Bb mb db] 26).var (g := w.heap.size + 1 + 1) (by simp) [.bool sc, .slice Ac nc cc, .bool zc, .slice Bc mc dc] 26).var (g := w.heap.size + 1 + 1 + 1) (by simp) [.bool sd, .slice Ad nd cd, .bool zd, .slice Bd md dd] 26).var (g := w.heap.size + 1 + 1 + 1 + 1) (by simp) [.bool false, .slice none 0 0, .bool false, .slice none 0 0] 26)
  have Ya := Lib.hid ya
  have Yb := Lib.hid yb
  have Yc := Lib.hid yc
  have Yd := Lib.hid yd
  have HS1 : Hid (Sz (xa * xd) (2 * M + 0)) := Lib.hid ((Sz.mul Ya.out Yd.out).mono (by omega))
  have HS2 : Hid (Sz (xb * xc) (2 * M + 0)) := Lib.hid ((Sz.mul Yb.out Yc.out).mono (by omega))
  have HS3 : Hid (Sz ((xa * xd) - (xb * xc)) (4 * M + 1)) := Lib.hid ((Sz.sub HS1.out HS2.out).mono (by omega))
  clear ha ia ya hb ib yb hc ic yc hd id yd
  have ne01 : ¬ w.heap.size = w.heap.size + 1 := by omega
  have ne02 : ¬ w.heap.size = w.heap.size + 1 + 1 := by omega
  have ne03 : ¬ w.heap.size = w.heap.size + 1 + 1 + 1 := by omega
  have ne04 : ¬ w.heap.size = w.heap.size + 1 + 1 + 1 + 1 := by omega
  have ne10 : ¬ w.heap.size + 1 = w.heap.size := by omega
  have ne12 : ¬ w.heap.size + 1 = w.heap.size + 1 + 1 := by omega
  have ne13 : ¬ w.heap.size + 1 = w.heap.size + 1 + 1 + 1 := by omega
  have ne14 : ¬ w.heap.size + 1 = w.heap.size + 1 + 1 + 1 + 1 := by omega
  have ne20 : ¬ w.heap.size + 1 + 1 = w.heap.size := by omega
  have ne21 : ¬ w.heap.size + 1 + 1 = w.heap.size + 1 := by omega
  have ne23 : ¬ w.heap.size + 1 + 1 = w.heap.size + 1 + 1 + 1 := by omega
  have ne24 : ¬ w.heap.size + 1 + 1 = w.heap.size + 1 + 1 + 1 + 1 := by omega
  have ne30 : ¬ w.heap.size + 1 + 1 + 1 = w.heap.size := by omega
  have ne31 : ¬ w.heap.size + 1 + 1 + 1 = w.heap.size + 1 := by omega
  have ne32 : ¬ w.heap.size + 1 + 1 + 1 = w.heap.size + 1 + 1 := by omega
  have ne34 : ¬ w.heap.size + 1 + 1 + 1 = w.heap.size + 1 + 1 + 1 + 1 := by omega
  have ne40 : ¬ w.heap.size + 1 + 1 + 1 + 1 = w.heap.size := by omega
  have ne41 : ¬ w.heap.size + 1 + 1 + 1 + 1 = w.heap.size + 1 := by omega
  have ne42 : ¬ w.heap.size + 1 + 1 + 1 + 1 = w.heap.size + 1 + 1 := by omega
  have ne43 : ¬ w.heap.size + 1 + 1 + 1 + 1 = w.heap.size + 1 + 1 + 1 := by omega
  go_enter Try.func53, Try.ntmps53
  go_wp2_with fail
  generalize ((((w.alloc (.cells #[.bool sa, .slice Aa na ca, .bool za, .slice Ba ma da] 26)).alloc (.cells #[.bool sb, .slice Ab nb cb, .bool zb, .slice Bb mb db] 26)).alloc (.cells #[.bool sc, .slice Ac nc cc, .bool zc, .slice Bc mc dc] 26)).alloc (.cells #[.bool sd, .slice Ad nd cd, .bool zd, .slice Bd md dd] 26)).alloc (.cells #[.bool false, .slice none 0 0, .bool false, .slice none 0 0] 26) = w0 at K0 ⊢
  obtain ⟨⟨qa0x, qb0x, qc0x, qd0x⟩, ⟨qe0x, qf0x, qg0x, qh0x⟩, qi0x⟩ := (K0.blk (g := w.heap.size) (vs := [.bool sa, .slice Aa na ca, .bool za, .slice Ba ma da]) (by simp)).four
  obtain ⟨⟨qa0y, qb0y, qc0y, qd0y⟩, ⟨qe0y, qf0y, qg0y, qh0y⟩, qi0y⟩ := (K0.blk (g := w.heap.size + 1) (vs := [.bool sb, .slice Ab nb cb, .bool zb, .slice Bb mb db]) (by simp)).four
  obtain ⟨⟨qa0u, qb0u, qc0u, qd0u⟩, ⟨qe0u, qf0u, qg0u, qh0u⟩, qi0u⟩ := (K0.blk (g := w.heap.size + 1 + 1) (vs := [.bool sc, .slice Ac nc cc, .bool zc, .slice Bc mc dc]) (by simp)).four
  obtain ⟨⟨qa0v, qb0v, qc0v, qd0v⟩, ⟨qe0v, qf0v, qg0v, qh0v⟩, qi0v⟩ := (K0.blk (g := w.heap.size + 1 + 1 + 1) (vs := [.bool sd, .slice Ad nd cd, .bool zd, .slice Bd md dd]) (by simp)).four
  go_region_held3 (fun w' => w'.cell? ⟨w.heap.size, 0, none⟩ = some (.bool sa) ∧ w'.cell? ⟨w.heap.size, 1, none⟩ = some (.slice Aa na ca) ∧ w'.cell? ⟨w.heap.size, 2, none⟩ = some (.bool za) ∧ w'.cell? ⟨w.heap.size, 3, none⟩ = some (.slice Ba ma da) ∧ w'.cell? ⟨w.heap.size + 1, 0, none⟩ = some (.bool sb) ∧ w'.cell? ⟨w.heap.size + 1, 1, none⟩ = some (.slice Ab nb cb) ∧ w'.cell? ⟨w.heap.size + 1, 2, none⟩ = some (.bool zb) ∧ w'.cell? ⟨w.heap.size + 1, 3, none⟩ = some (.slice Bb mb db) ∧ w'.cell? ⟨w.heap.size + 1 + 1, 0, none⟩ = some (.bool sc) ∧ w'.cell? ⟨w.heap.size + 1 + 1, 1, none⟩ = some (.slice Ac nc cc) ∧ w'.cell? ⟨w.heap.size + 1 + 1, 2, none⟩ = some (.bool zc) ∧ w'.cell? ⟨w.heap.size + 1 + 1, 3, none⟩ = some (.slice Bc mc dc) ∧ w'.cell? ⟨w.heap.size + 1 + 1 + 1, 0, none⟩ = some (.bool sd) ∧ w'.cell? ⟨w.heap.size + 1 + 1 + 1, 1, none⟩ = some (.slice Ad nd cd) ∧ w'.cell? ⟨w.heap.size + 1 + 1 + 1, 2, none⟩ = some (.bool zd) ∧ w'.cell? ⟨w.heap.size + 1 + 1 + 1, 3, none⟩ = some (.slice Bd md dd))
    (go_keep)
    (first
      | (go_at_call 64; (with_reducible refine (rat_times_any sa za Aa Ba na ca ma da sd zd Ad Bd nd cd md dd xa xd (xa * xd) M M _ ?_ ?_ ?_ ?_ Ya.out Yd.out (by omega) (Lib.hid rfl)).mono ?_); (first | (with_reducible exact K0.at_ (List.mem_of_getElem? (i := 7) rfl)) | (with_reducible exact K0.drew.at_ (List.mem_of_getElem? (i := 7) rfl)) | (with_reducible exact (K0.drewN _).at_ (List.mem_of_getElem? (i := 7) rfl))); (first | (with_reducible exact K0.at_ (List.mem_of_getElem? (i := 6) rfl)) | (with_reducible exact K0.drew.at_ (List.mem_of_getElem? (i := 6) rfl)) | (with_reducible exact (K0.drewN _).at_ (List.mem_of_getElem? (i := 6) rfl))); (first | (with_reducible exact K0.at_ (List.mem_of_getElem? (i := 1) rfl)) | (with_reducible exact K0.drew.at_ (List.mem_of_getElem? (i := 1) rfl)) | (with_reducible exact (K0.drewN _).at_ (List.mem_of_getElem? (i := 1) rfl))); (first | (with_reducible exact K0.at_ (List.mem_of_getElem? (i := 0) rfl)) | (with_reducible exact K0.drew.at_ (List.mem_of_getElem? (i := 0) rfl)) | (with_reducible exact (K0.drewN _).at_ (List.mem_of_getElem? (i := 0) rfl))); rintro e1 w1 ⟨neg1, A1, n1, c1, ne1, B1, m1, d1, rfl, IHS1, JHS1, hb1⟩; (first | (with_reducible have K1 := (((K0.next hb1).int JHS1).int IHS1)) | (with_reducible have K1 := (((K0.drew.next hb1).int JHS1).int IHS1)) | (with_reducible have K1 := ((((K0.drewN _).next hb1).int JHS1).int IHS1))); obtain ⟨⟨qa1x, qb1x, qc1x, qd1x⟩, ⟨qe1x, qf1x, qg1x, qh1x⟩, qi1x⟩ := (K1.blk (g := w.heap.size) (vs := [.bool sa, .slice Aa na ca, .bool za, .slice Ba ma da]) (List.mem_of_getElem? (i := 4) rfl)).four; obtain ⟨⟨qa1y, qb1y, qc1y, qd1y⟩, ⟨qe1y, qf1y, qg1y, qh1y⟩, qi1y⟩ := (K1.blk (g := w.heap.size + 1) (vs := [.bool sb, .slice Ab nb cb, .bool zb, .slice Bb mb db]) (List.mem_of_getElem? (i := 3) rfl)).four; obtain ⟨⟨qa1u, qb1u, qc1u, qd1u⟩, ⟨qe1u, qf1u, qg1u, qh1u⟩, qi1u⟩ := (K1.blk (g := w.heap.size + 1 + 1) (vs := [.bool sc, .slice Ac nc cc, .bool zc, .slice Bc mc dc]) (List.mem_of_getElem? (i := 2) rfl)).four; obtain ⟨⟨qa1v, qb1v, qc1v, qd1v⟩, ⟨qe1v, qf1v, qg1v, qh1v⟩, qi1v⟩ := (K1.blk (g := w.heap.size + 1 + 1 + 1) (vs := [.bool sd, .slice Ad nd cd, .bool zd, .slice Bd md dd]) (List.mem_of_getElem? (i := 1) rfl)).four; clear IHS1 JHS1 hb1)
      | (go_at_call 64; (with_reducible refine (rat_times_any sb zb Ab Bb nb cb mb db sc zc Ac Bc nc cc mc dc xb xc (xb * xc) M M _ ?_ ?_ ?_ ?_ Yb.out Yc.out (by omega) (Lib.hid rfl)).mono ?_); (first | (with_reducible exact K1.at_ (List.mem_of_getElem? (i := 7) rfl)) | (with_reducible exact K1.drew.at_ (List.mem_of_getElem? (i := 7) rfl)) | (with_reducible exact (K1.drewN _).at_ (List.mem_of_getElem? (i := 7) rfl))); (first | (with_reducible exact K1.at_ (List.mem_of_getElem? (i := 6) rfl)) | (with_reducible exact K1.drew.at_ (List.mem_of_getElem? (i := 6) rfl)) | (with_reducible exact (K1.drewN _).at_ (List.mem_of_getElem? (i := 6) rfl))); (first | (with_reducible exact K1.at_ (List.mem_of_getElem? (i := 5) rfl)) | (with_reducible exact K1.drew.at_ (List.mem_of_getElem? (i := 5) rfl)) | (with_reducible exact (K1.drewN _).at_ (List.mem_of_getElem? (i := 5) rfl))); (first | (with_reducible exact K1.at_ (List.mem_of_getElem? (i := 4) rfl)) | (with_reducible exact K1.drew.at_ (List.mem_of_getElem? (i := 4) rfl)) | (with_reducible exact (K1.drewN _).at_ (List.mem_of_getElem? (i := 4) rfl))); rintro e2 w2 ⟨neg2, A2, n2, c2, ne2, B2, m2, d2, rfl, IHS2, JHS2, hb2⟩; (first | (with_reducible have K2 := (((K1.next hb2).int JHS2).int IHS2)) | (with_reducible have K2 := (((K1.drew.next hb2).int JHS2).int IHS2)) | (with_reducible have K2 := ((((K1.drewN _).next hb2).int JHS2).int IHS2))); obtain ⟨⟨qa2x, qb2x, qc2x, qd2x⟩, ⟨qe2x, qf2x, qg2x, qh2x⟩, qi2x⟩ := (K2.blk (g := w.heap.size) (vs := [.bool sa, .slice Aa na ca, .bool za, .slice Ba ma da]) (List.mem_of_getElem? (i := 4) rfl)).four; obtain ⟨⟨qa2y, qb2y, qc2y, qd2y⟩, ⟨qe2y, qf2y, qg2y, qh2y⟩, qi2y⟩ := (K2.blk (g := w.heap.size + 1) (vs := [.bool sb, .slice Ab nb cb, .bool zb, .slice Bb mb db]) (List.mem_of_getElem? (i := 3) rfl)).four; obtain ⟨⟨qa2u, qb2u, qc2u, qd2u⟩, ⟨qe2u, qf2u, qg2u, qh2u⟩, qi2u⟩ := (K2.blk (g := w.heap.size + 1 + 1) (vs := [.bool sc, .slice Ac nc cc, .bool zc, .slice Bc mc dc]) (List.mem_of_getElem? (i := 2) rfl)).four; obtain ⟨⟨qa2v, qb2v, qc2v, qd2v⟩, ⟨qe2v, qf2v, qg2v, qh2v⟩, qi2v⟩ := (K2.blk (g := w.heap.size + 1 + 1 + 1) (vs := [.bool sd, .slice Ad nd cd, .bool zd, .slice Bd md dd]) (List.mem_of_getElem? (i := 1) rfl)).four; clear IHS2 JHS2 hb2)
      | (go_at_call 70; (with_reducible refine (rat_minus_any neg1 ne1 A1 B1 n1 c1 m1 d1 neg2 ne2 A2 B2 n2 c2 m2 d2 (xa * xd) (xb * xc) ((xa * xd) - (xb * xc)) (2 * M + 0) (2 * M + 0) _ ?_ ?_ ?_ ?_ HS1.out HS2.out (by omega) (Lib.hid rfl)).mono ?_); (first | (with_reducible exact K2.at_ (List.mem_of_getElem? (i := 2) rfl)) | (with_reducible exact K2.drew.at_ (List.mem_of_getElem? (i := 2) rfl)) | (with_reducible exact (K2.drewN _).at_ (List.mem_of_getElem? (i := 2) rfl))); (first | (with_reducible exact K2.at_ (List.mem_of_getElem? (i := 3) rfl)) | (with_reducible exact K2.drew.at_ (List.mem_of_getElem? (i := 3) rfl)) | (with_reducible exact (K2.drewN _).at_ (List.mem_of_getElem? (i := 3) rfl))); (first | (with_reducible exact K2.at_ (List.mem_of_getElem? (i := 0) rfl)) | (with_reducible exact K2.drew.at_ (List.mem_of_getElem? (i := 0) rfl)) | (with_reducible exact (K2.drewN _).at_ (List.mem_of_getElem? (i := 0) rfl))); (first | (with_reducible exact K2.at_ (List.mem_of_getElem? (i := 1) rfl)) | (with_reducible exact K2.drew.at_ (List.mem_of_getElem? (i := 1) rfl)) | (with_reducible exact (K2.drewN _).at_ (List.mem_of_getElem? (i := 1) rfl))); rintro e3 w3 ⟨neg3, A3, n3, c3, ne3, B3, m3, d3, rfl, IHS3, JHS3, hb3⟩; (first | (with_reducible have K3 := (((K2.next hb3).int JHS3).int IHS3)) | (with_reducible have K3 := (((K2.drew.next hb3).int JHS3).int IHS3)) | (with_reducible have K3 := ((((K2.drewN _).next hb3).int JHS3).int IHS3))); obtain ⟨⟨qa3x, qb3x, qc3x, qd3x⟩, ⟨qe3x, qf3x, qg3x, qh3x⟩, qi3x⟩ := (K3.blk (g := w.heap.size) (vs := [.bool sa, .slice Aa na ca, .bool za, .slice Ba ma da]) (List.mem_of_getElem? (i := 4) rfl)).four; obtain ⟨⟨qa3y, qb3y, qc3y, qd3y⟩, ⟨qe3y, qf3y, qg3y, qh3y⟩, qi3y⟩ := (K3.blk (g := w.heap.size + 1) (vs := [.bool sb, .slice Ab nb cb, .bool zb, .slice Bb mb db]) (List.mem_of_getElem? (i := 3) rfl)).four; obtain ⟨⟨qa3u, qb3u, qc3u, qd3u⟩, ⟨qe3u, qf3u, qg3u, qh3u⟩, qi3u⟩ := (K3.blk (g := w.heap.size + 1 + 1) (vs := [.bool sc, .slice Ac nc cc, .bool zc, .slice Bc mc dc]) (List.mem_of_getElem? (i := 2) rfl)).four; obtain ⟨⟨qa3v, qb3v, qc3v, qd3v⟩, ⟨qe3v, qf3v, qg3v, qh3v⟩, qi3v⟩ := (K3.blk (g := w.heap.size + 1 + 1 + 1) (vs := [.bool sd, .slice Ad nd cd, .bool zd, .slice Bd md dd]) (List.mem_of_getElem? (i := 1) rfl)).four; obtain ⟨⟨qa3r, qb3r, qc3r, qd3r⟩, ⟨qe3r, qf3r, qg3r, qh3r⟩, qi3r⟩ := (K3.blk (g := w.heap.size + 1 + 1 + 1 + 1) (vs := [.bool false, .slice none 0 0, .bool false, .slice none 0 0]) (List.mem_of_getElem? (i := 0) rfl)).four; clear IHS3 JHS3 hb3))
  all_goals
   go_wp2_with fail
   have KE := (K3.pick (L' := [(w.heap.size + 1 + 1 + 1 + 1, [.bool false, .slice none 0 0, .bool false, .slice none 0 0])]) (l' := [(neg3, A3, n3, c3, (((xa * xd) - (xb * xc)) : Rat).num), (ne3, B3, m3, d3, (((((xa * xd) - (xb * xc)) : Rat).den : Nat) : Int))]) (by simp) (by simp)).set4 (by simp <;> omega) neg3 A3 n3 c3 ne3 B3 m3 d3
   exact bodyPost_ret (v := .agg #[.bool neg3, .slice A3 n3 c3, .bool ne3, .slice B3 m3 d3]) (by simp [results, Try.results53, go_sem, qa3r, qb3r, qc3r, qd3r]) rfl ⟨_, _, _, _, _, _, _, _, rfl, KE.at_ (by simp), KE.at_ (by simp), KE.1⟩

noncomputable def chkM (a b c d : LmE) : Int := if okM a b c d then 0 else 1

set_option maxRecDepth 100000 in
set_option maxHeartbeats 6400000 in
theorem ray_check_any (sa : Bool) (Aa : Option Addr) (na ca : Nat) (la : List Nat) (za : Bool) (Ba : Option Addr) (ma da : Nat) (ka : List Nat) (sb : Bool) (Ab : Option Addr) (nb cb : Nat) (lb : List Nat) (zb : Bool) (Bb : Option Addr) (mb db : Nat) (kb : List Nat) (sc : Bool) (Ac : Option Addr) (nc cc : Nat) (lc : List Nat) (zc : Bool) (Bc : Option Addr) (mc dc : Nat) (kc : List Nat) (sd : Bool) (Ad : Option Addr) (nd cd : Nat) (ld : List Nat) (zd : Bool) (Bd : Option Addr) (md dd : Nat) (kd : List Nat) (w : World) (ha : LmE.at_ w ((sa, Aa, na, ca, la), (za, Ba, ma, da, ka))) (hb : LmE.at_ w ((sb, Ab, nb, cb, lb), (zb, Bb, mb, db, kb))) (hc : LmE.at_ w ((sc, Ac, nc, cc, lc), (zc, Bc, mc, dc, kc))) (hd : LmE.at_ w ((sd, Ad, nd, cd, ld), (zd, Bd, md, dd, kd))) :
    Calls Try.prog 22 #[.agg #[.bool sa, .slice Aa na ca, .bool za, .slice Ba ma da, .bool sb, .slice Ab nb cb, .bool zb, .slice Bb mb db, .bool sc, .slice Ac nc cc, .bool zc, .slice Bc mc dc, .bool sd, .slice Ad nd cd, .bool zd, .slice Bd md dd]] w (RetV w (.int .i64 (chkM ((sa, Aa, na, ca, la), (za, Ba, ma, da, ka)) ((sb, Ab, nb, cb, lb), (zb, Bb, mb, db, kb)) ((sc, Ac, nc, cc, lc), (zc, Bc, mc, dc, kc)) ((sd, Ad, nd, cd, ld), (zd, Bd, md, dd, kd))))) := by
  have K0 := (Mm.nil w).var (g := w.heap.size) rfl [.bool sa, .slice Aa na ca, .bool za, .slice Ba ma da, .bool sb, .slice Ab nb cb, .bool zb, .slice Bb mb db, .bool sc, .slice Ac nc cc, .bool zc, .slice Bc mc dc, .bool sd, .slice Ad nd cd, .bool zd, .slice Bd md dd] 28
  have ha0 := LmE.at_.below ha K0.1
  have hb0 := LmE.at_.below hb K0.1
  have hc0 := LmE.at_.below hc K0.1
  have hd0 := LmE.at_.below hd K0.1
  have K1 := K0.box (.cells #[.bool sa, .slice Aa na ca, .bool za, .slice Ba ma da, .bool sb, .slice Ab nb cb, .bool zb, .slice Bb mb db, .bool sc, .slice Ac nc cc, .bool zc, .slice Bc mc dc, .bool sd, .slice Ad nd cd, .bool zd, .slice Bd md dd] 26)
  have hL : Lfs ((w.alloc (.cells #[.bool sa, .slice Aa na ca, .bool za, .slice Ba ma da, .bool sb, .slice Ab nb cb, .bool zb, .slice Bb mb db, .bool sc, .slice Ac nc cc, .bool zc, .slice Bc mc dc, .bool sd, .slice Ad nd cd, .bool zd, .slice Bd md dd] 28)).alloc (.cells #[.bool sa, .slice Aa na ca, .bool za, .slice Ba ma da, .bool sb, .slice Ab nb cb, .bool zb, .slice Bb mb db, .bool sc, .slice Ac nc cc, .bool zc, .slice Bc mc dc, .bool sd, .slice Ad nd cd, .bool zd, .slice Bd md dd] 26)) (w.heap.size + 1) 4 (four ((sa, Aa, na, ca, la), (za, Ba, ma, da, ka)) ((sb, Ab, nb, cb, lb), (zb, Bb, mb, db, kb)) ((sc, Ac, nc, cc, lc), (zc, Bc, mc, dc, kc)) ((sd, Ad, nd, cd, ld), (zd, Bd, md, dd, kd))) := lfs_four _ (by simp) _ ha0 hb0 hc0 hd0
  have HL := Lib.hid hL
  obtain ⟨o, ho⟩ : ∃ o, (okB ((sa, Aa, na, ca, la), (za, Ba, ma, da, ka)) && okB ((sb, Ab, nb, cb, lb), (zb, Bb, mb, db, kb)) && okB ((sc, Ac, nc, cc, lc), (zc, Bc, mc, dc, kc)) && okB ((sd, Ad, nd, cd, ld), (zd, Bd, md, dd, kd))) = o := ⟨_, rfl⟩
  have HO := Lib.hid ((okAll_four ((sa, Aa, na, ca, la), (za, Ba, ma, da, ka)) ((sb, Ab, nb, cb, lb), (zb, Bb, mb, db, kb)) ((sc, Ac, nc, cc, lc), (zc, Bc, mc, dc, kc)) ((sd, Ad, nd, cd, ld), (zd, Bd, md, dd, kd))).trans ho)
  have HM : Hid (okM ((sa, Aa, na, ca, la), (za, Ba, ma, da, ka)) ((sb, Ab, nb, cb, lb), (zb, Bb, mb, db, kb)) ((sc, Ac, nc, cc, lc), (zc, Bc, mc, dc, kc)) ((sd, Ad, nd, cd, ld), (zd, Bd, md, dd, kd)) = (o && decide (rv ((sa, Aa, na, ca, la), (za, Ba, ma, da, ka)) * rv ((sd, Ad, nd, cd, ld), (zd, Bd, md, dd, kd)) - rv ((sb, Ab, nb, cb, lb), (zb, Bb, mb, db, kb)) * rv ((sc, Ac, nc, cc, lc), (zc, Bc, mc, dc, kc)) = 1))) := Lib.hid (by unfold okM; rw [ho])
  have ha1 := LmE.at_.below ha K1.1
  have hb1 := LmE.at_.below hb K1.1
  have hc1 := LmE.at_.below hc K1.1
  have hd1 := LmE.at_.below hd K1.1
  clear ha hb hc hd hL K0 ha0 hb0 hc0 hd0
  go_enter Try.func22, Try.ntmps22
  go_wp2_with fail
  refine (rat_checks_any (w.heap.size + 1) 4 4 (four ((sa, Aa, na, ca, la), (za, Ba, ma, da, ka)) ((sb, Ab, nb, cb, lb), (zb, Bb, mb, db, kb)) ((sc, Ac, nc, cc, lc), (zc, Bc, mc, dc, kc)) ((sd, Ad, nd, cd, ld), (zd, Bd, md, dd, kd))) _ HL.out (by decide) (by decide)).mono ?_
  rintro e1 w1 ⟨rfl, hbw⟩
  rw [HO.out]
  clear HO HL
  have K2 := K1.next hbw
  have ha2 := LmE.at_.below ha1 hbw
  have hb2 := LmE.at_.below hb1 hbw
  have hc2 := LmE.at_.below hc1 hbw
  have hd2 := LmE.at_.below hd1 hbw
  clear ha1 hb1 hc1 hd1 K1 hbw
  obtain ⟨q0, q1, q2, q3, q4, q5, q6, q7, q8, q9, q10, q11, q12, q13, q14, q15⟩ := (K2.blk (g := w.heap.size) (vs := [.bool sa, .slice Aa na ca, .bool za, .slice Ba ma da, .bool sb, .slice Ab nb cb, .bool zb, .slice Bb mb db, .bool sc, .slice Ac nc cc, .bool zc, .slice Bc mc dc, .bool sd, .slice Ad nd cd, .bool zd, .slice Bd md dd]) (by simp)).c16
  cases o with
  | false =>
    go_wp2_with fail
    go_ret
    exact ⟨by unfold chkM; rw [HM.out]; rfl, K2.1⟩
  | true =>
    simp only [Bool.and_eq_true] at ho
    obtain ⟨⟨⟨oa, ob⟩, oc⟩, od⟩ := ho
    obtain ⟨ia, ja, ya⟩ := ok_ints oa ha2
    obtain ⟨ib, jb, yb⟩ := ok_ints ob hb2
    obtain ⟨ic, jc, yc⟩ := ok_ints oc hc2
    obtain ⟨id, jd, yd⟩ := ok_ints od hd2
    obtain ⟨xa, hxa⟩ : ∃ x, rv ((sa, Aa, na, ca, la), (za, Ba, ma, da, ka)) = x := ⟨_, rfl⟩
    obtain ⟨xb, hxb⟩ : ∃ x, rv ((sb, Ab, nb, cb, lb), (zb, Bb, mb, db, kb)) = x := ⟨_, rfl⟩
    obtain ⟨xc, hxc⟩ : ∃ x, rv ((sc, Ac, nc, cc, lc), (zc, Bc, mc, dc, kc)) = x := ⟨_, rfl⟩
    obtain ⟨xd, hxd⟩ : ∃ x, rv ((sd, Ad, nd, cd, ld), (zd, Bd, md, dd, kd)) = x := ⟨_, rfl⟩
    rw [hxa] at ia ja ya
    rw [hxb] at ib jb yb
    rw [hxc] at ic jc yc
    rw [hxd] at id jd yd
    rw [hxa, hxb, hxc, hxd] at HM
    have HSZ : Hid (Sz (xa * xd - xb * xc) 8193) := Lib.hid ((Sz.sub (Sz.mul ya yd) (Sz.mul yb yc)).mono (by omega))
    have K3 := ((((((((K2.int ia).int ja).int ib).int jb).int ic).int jc).int id).int jd)
    have YA := Lib.hid ya
    have YB := Lib.hid yb
    have YC := Lib.hid yc
    have YD := Lib.hid yd
    clear ia ja ib jb ic jc id jd ya yb yc yd oa ob oc od hxa hxb hxc hxd ha2 hb2 hc2 hd2 K2
    go_wp2_with fail
    refine (ray_det_any sa za Aa Ba na ca ma da xa sb zb Ab Bb nb cb mb db xb sc zc Ac Bc nc cc mc dc xc sd zd Ad Bd nd cd md dd xd 2048 _ (K3.at_ (by simp)) (K3.at_ (by simp)) YA.out (K3.at_ (by simp)) (K3.at_ (by simp)) YB.out (K3.at_ (by simp)) (K3.at_ (by simp)) YC.out (K3.at_ (by simp)) (K3.at_ (by simp)) YD.out (by decide)).mono ?_
    rintro e4 w4 ⟨neg4, A4, n4, c4, ne4, B4, m4, d4, rfl, I4, J4, hb4⟩
    have K4 := ((K3.next hb4).int J4).int I4
    clear I4 J4 hb4 K3
    go_wp2_with fail
    refine (rat_one_any _).mono ?_
    rintro e5 w5 ⟨neg5, A5, n5, c5, ne5, B5, m5, d5, rfl, I5, J5, hb5⟩
    have K5 := ((K4.next hb5).int J5).int I5
    clear I5 J5 hb5 K4
    go_wp2_with fail
    obtain ⟨v, hv⟩ : ∃ v, rcmp (xa * xd - xb * xc) 1 = v := ⟨_, rfl⟩
    have hvb : (v == 0) = decide (xa * xd - xb * xc = 1) := by rw [← hv]; exact rcmp_eq _ _
    have HV := Lib.hid hv
    clear hv
    refine (rat_cmp_any neg4 ne4 A4 B4 n4 c4 m4 d4 neg5 ne5 A5 B5 n5 c5 m5 d5 (xa * xd - xb * xc) 1 v 8193 1 _ (K5.at_ (by simp)) (K5.at_ (by simp)) (K5.at_ (by simp)) (K5.at_ (by simp)) HSZ.out Sz.one (by decide) HV).mono ?_
    rintro e6 w6 ⟨rfl, hb6⟩
    have KE := K5.next hb6
    clear K5 hb6
    by_cases hz : v = 0
    · have HR : Hid (decide (xa * xd - xb * xc = 1) = true) := Lib.hid (by rw [← hvb, hz]; rfl)
      subst hz
      clear hvb
      go_wp2_with fail
      go_ret
      exact ⟨by unfold chkM; rw [HM.out, Bool.true_and, HR.out]; rfl, KE.1⟩
    · have HR : Hid (decide (xa * xd - xb * xc = 1) = false) := Lib.hid (by rw [← hvb]; exact beq_eq_false_iff_ne.2 hz)
      have hz2 : (v == 0) = false := beq_eq_false_iff_ne.2 hz
      clear hvb
      go_wp2_with fail
      go_ret
      exact ⟨by unfold chkM; rw [HM.out, Bool.true_and, HR.out]; rfl, KE.1⟩

set_option maxRecDepth 100000 in
set_option maxHeartbeats 6400000 in
theorem four_matrix_any (sa : Bool) (Aa : Option Addr) (na ca : Nat) (za : Bool) (Ba : Option Addr) (ma da : Nat) (sb : Bool) (Ab : Option Addr) (nb cb : Nat) (zb : Bool) (Bb : Option Addr) (mb db : Nat) (sc : Bool) (Ac : Option Addr) (nc cc : Nat) (zc : Bool) (Bc : Option Addr) (mc dc : Nat) (sd : Bool) (Ad : Option Addr) (nd cd : Nat) (zd : Bool) (Bd : Option Addr) (md dd : Nat) (w : World) :
    Calls Try.prog 45 #[.agg #[.bool sa, .slice Aa na ca, .bool za, .slice Ba ma da, .bool sb, .slice Ab nb cb, .bool zb, .slice Bb mb db, .bool sc, .slice Ac nc cc, .bool zc, .slice Bc mc dc, .bool sd, .slice Ad nd cd, .bool zd, .slice Bd md dd]] w (RetV w (.agg #[.bool sa, .slice Aa na ca, .bool za, .slice Ba ma da, .bool sb, .slice Ab nb cb, .bool zb, .slice Bb mb db, .bool sc, .slice Ac nc cc, .bool zc, .slice Bc mc dc, .bool sd, .slice Ad nd cd, .bool zd, .slice Bd md dd])) := by
  have K0 := ((Mm.nil w).var (g := w.heap.size) rfl [.bool sa, .slice Aa na ca, .bool za, .slice Ba ma da, .bool sb, .slice Ab nb cb, .bool zb, .slice Bb mb db, .bool sc, .slice Ac nc cc, .bool zc, .slice Bc mc dc, .bool sd, .slice Ad nd cd, .bool zd, .slice Bd md dd] 73).var (g := w.heap.size + 1) (by simp) [.bool false, .slice none 0 0, .bool false, .slice none 0 0, .bool false, .slice none 0 0, .bool false, .slice none 0 0, .bool false, .slice none 0 0, .bool false, .slice none 0 0, .bool false, .slice none 0 0, .bool false, .slice none 0 0] 28
  have g01 : ¬ w.heap.size = w.heap.size + 1 := by omega
  go_enter Try.func45, Try.ntmps45
  go_upto_region 1 with (fail)
  generalize (w.alloc (.cells #[.bool sa, .slice Aa na ca, .bool za, .slice Ba ma da, .bool sb, .slice Ab nb cb, .bool zb, .slice Bb mb db, .bool sc, .slice Ac nc cc, .bool zc, .slice Bc mc dc, .bool sd, .slice Ad nd cd, .bool zd, .slice Bd md dd] 73)).alloc (.cells #[.bool false, .slice none 0 0, .bool false, .slice none 0 0, .bool false, .slice none 0 0, .bool false, .slice none 0 0, .bool false, .slice none 0 0, .bool false, .slice none 0 0, .bool false, .slice none 0 0, .bool false, .slice none 0 0] 28) = w0 at K0 ⊢
  obtain ⟨p0, p1, p2, p3, p4, p5, p6, p7, p8, p9, p10, p11, p12, p13, p14, p15⟩ := (K0.blk (g := w.heap.size) (vs := [.bool sa, .slice Aa na ca, .bool za, .slice Ba ma da, .bool sb, .slice Ab nb cb, .bool zb, .slice Bb mb db, .bool sc, .slice Ac nc cc, .bool zc, .slice Bc mc dc, .bool sd, .slice Ad nd cd, .bool zd, .slice Bd md dd]) (by simp)).c16
  obtain ⟨f0, f1, f2, f3, f4, f5, f6, f7, f8, f9, f10, f11, f12, f13, f14, f15⟩ := (K0.blk (g := w.heap.size + 1) (vs := [.bool false, .slice none 0 0, .bool false, .slice none 0 0, .bool false, .slice none 0 0, .bool false, .slice none 0 0, .bool false, .slice none 0 0, .bool false, .slice none 0 0, .bool false, .slice none 0 0, .bool false, .slice none 0 0]) (by simp)).c16
  obtain ⟨ff0, ff1, ff2, ff3, ff4, ff5, ff6, ff7, ff8, ff9, ff10, ff11, ff12, ff13, ff14, ff15, _⟩ := (K0.blk (g := w.heap.size + 1) (vs := [.bool false, .slice none 0 0, .bool false, .slice none 0 0, .bool false, .slice none 0 0, .bool false, .slice none 0 0, .bool false, .slice none 0 0, .bool false, .slice none 0 0, .bool false, .slice none 0 0, .bool false, .slice none 0 0]) (by simp)).f16
  go_wp2_with fail
  have K9 := (K0.pick (L' := [(w.heap.size + 1, [.bool false, .slice none 0 0, .bool false, .slice none 0 0, .bool false, .slice none 0 0, .bool false, .slice none 0 0, .bool false, .slice none 0 0, .bool false, .slice none 0 0, .bool false, .slice none 0 0, .bool false, .slice none 0 0])]) (l' := []) (by simp) (by simp)).set16 (by simp) sa Aa na ca za Ba ma da sb Ab nb cb zb Bb mb db sc Ac nc cc zc Bc mc dc sd Ad nd cd zd Bd md dd
  exact bodyPost_ret (v := .agg #[.bool sa, .slice Aa na ca, .bool za, .slice Ba ma da, .bool sb, .slice Ab nb cb, .bool zb, .slice Bb mb db, .bool sc, .slice Ac nc cc, .bool zc, .slice Bc mc dc, .bool sd, .slice Ad nd cd, .bool zd, .slice Bd md dd]) (by simp [results, Try.results45, go_sem, f0, f1, f2, f3, f4, f5, f6, f7, f8, f9, f10, f11, f12, f13, f14, f15]) rfl ⟨rfl, K9.1⟩

/-- A matrix that may be. -/
def RetMk (W : World) (x y z t : Rat) (e : Ending) (w' : World) : Prop :=
  ∃ (sa : Bool) (Aa : Option Addr) (na ca : Nat) (la : List Nat) (za : Bool) (Ba : Option Addr) (ma da : Nat) (ka : List Nat) (sb : Bool) (Ab : Option Addr) (nb cb : Nat) (lb : List Nat) (zb : Bool) (Bb : Option Addr) (mb db : Nat) (kb : List Nat) (sc : Bool) (Ac : Option Addr) (nc cc : Nat) (lc : List Nat) (zc : Bool) (Bc : Option Addr) (mc dc : Nat) (kc : List Nat) (sd : Bool) (Ad : Option Addr) (nd cd : Nat) (ld : List Nat) (zd : Bool) (Bd : Option Addr) (md dd : Nat) (kd : List Nat), e = .returned (.agg #[.bool sa, .slice Aa na ca, .bool za, .slice Ba ma da, .bool sb, .slice Ab nb cb, .bool zb, .slice Bb mb db, .bool sc, .slice Ac nc cc, .bool zc, .slice Bc mc dc, .bool sd, .slice Ad nd cd, .bool zd, .slice Bd md dd]) ∧ OkF w' ((sa, Aa, na, ca, la), (za, Ba, ma, da, ka)) x ∧ OkF w' ((sb, Ab, nb, cb, lb), (zb, Bb, mb, db, kb)) y ∧ OkF w' ((sc, Ac, nc, cc, lc), (zc, Bc, mc, dc, kc)) z ∧ OkF w' ((sd, Ad, nd, cd, ld), (zd, Bd, md, dd, kd)) t ∧ Below W.heap.size W w'

set_option maxRecDepth 100000 in
set_option maxHeartbeats 6400000 in
theorem ray_one_any (w : World) : Calls Try.prog 16 #[] w (RetMk w 1 0 0 1) := by
  have K0 := (Mm.nil w).var (g := w.heap.size) rfl [.bool false, .slice none 0 0, .bool false, .slice none 0 0, .bool false, .slice none 0 0, .bool false, .slice none 0 0, .bool false, .slice none 0 0, .bool false, .slice none 0 0, .bool false, .slice none 0 0, .bool false, .slice none 0 0] 28
  go_enter Try.func16, Try.ntmps16
  go_upto_region 1 with (fail)
  generalize w.alloc (.cells #[.bool false, .slice none 0 0, .bool false, .slice none 0 0, .bool false, .slice none 0 0, .bool false, .slice none 0 0, .bool false, .slice none 0 0, .bool false, .slice none 0 0, .bool false, .slice none 0 0, .bool false, .slice none 0 0] 28) = w0 at K0 ⊢
  go_wp2_with fail
  refine (rat_one_any _).mono ?_
  rintro e1 w1 ⟨sa, Aa, na, ca, za, Ba, ma, da, rfl, I, J, hb⟩
  have K1 := ((K0.next hb).int J).int I
  clear K0 I J hb
  go_wp2_with fail
  refine (rat_nou_any _).mono ?_
  rintro e2 w2 ⟨sb, Ab, nb, cb, zb, Bb, mb, db, rfl, I, J, hb⟩
  have K2 := ((K1.next hb).int J).int I
  clear K1 I J hb
  go_wp2_with fail
  refine (rat_nou_any _).mono ?_
  rintro e3 w3 ⟨sc, Ac, nc, cc, zc, Bc, mc, dc, rfl, I, J, hb⟩
  have K3 := ((K2.next hb).int J).int I
  clear K2 I J hb
  go_wp2_with fail
  refine (rat_one_any _).mono ?_
  rintro e4 w4 ⟨sd, Ad, nd, cd, zd, Bd, md, dd, rfl, I, J, hb⟩
  have K4 := ((K3.next hb).int J).int I
  clear K3 I J hb
  go_wp2_with fail
  obtain ⟨la, ka, oa⟩ := okF_of (r := 1) (K4.at_ (neg := sa) (A := Aa) (n := na) (c := ca) (z := (1 : Rat).num) (by simp)) (K4.at_ (neg := za) (A := Ba) (n := ma) (c := da) (z := (((1 : Rat).den : Nat) : Int)) (by simp)) (Sz.one.mono (by decide))
  obtain ⟨lb, kb, ob⟩ := okF_of (r := 0) (K4.at_ (neg := sb) (A := Ab) (n := nb) (c := cb) (z := (0 : Rat).num) (by simp)) (K4.at_ (neg := zb) (A := Bb) (n := mb) (c := db) (z := (((0 : Rat).den : Nat) : Int)) (by simp)) (Sz.zero.mono (by decide))
  obtain ⟨lc, kc, oc⟩ := okF_of (r := 0) (K4.at_ (neg := sc) (A := Ac) (n := nc) (c := cc) (z := (0 : Rat).num) (by simp)) (K4.at_ (neg := zc) (A := Bc) (n := mc) (c := dc) (z := (((0 : Rat).den : Nat) : Int)) (by simp)) (Sz.zero.mono (by decide))
  obtain ⟨ld, kd, od⟩ := okF_of (r := 1) (K4.at_ (neg := sd) (A := Ad) (n := nd) (c := cd) (z := (1 : Rat).num) (by simp)) (K4.at_ (neg := zd) (A := Bd) (n := md) (c := dd) (z := (((1 : Rat).den : Nat) : Int)) (by simp)) (Sz.one.mono (by decide))
  refine (four_matrix_any sa Aa na ca za Ba ma da sb Ab nb cb zb Bb mb db sc Ac nc cc zc Bc mc dc sd Ad nd cd zd Bd md dd _).mono ?_
  rintro e5 w5 ⟨rfl, hb⟩
  have K5 := K4.next hb
  replace oa := oa.next hb
  replace ob := ob.next hb
  replace oc := oc.next hb
  replace od := od.next hb
  clear K4 hb
  obtain ⟨f0, f1, f2, f3, f4, f5, f6, f7, f8, f9, f10, f11, f12, f13, f14, f15⟩ := (K5.blk (g := w.heap.size) (vs := [.bool false, .slice none 0 0, .bool false, .slice none 0 0, .bool false, .slice none 0 0, .bool false, .slice none 0 0, .bool false, .slice none 0 0, .bool false, .slice none 0 0, .bool false, .slice none 0 0, .bool false, .slice none 0 0]) (by simp)).c16
  obtain ⟨ff0, ff1, ff2, ff3, ff4, ff5, ff6, ff7, ff8, ff9, ff10, ff11, ff12, ff13, ff14, ff15, _⟩ := (K5.blk (g := w.heap.size) (vs := [.bool false, .slice none 0 0, .bool false, .slice none 0 0, .bool false, .slice none 0 0, .bool false, .slice none 0 0, .bool false, .slice none 0 0, .bool false, .slice none 0 0, .bool false, .slice none 0 0, .bool false, .slice none 0 0]) (by simp)).f16
  go_wp2_with fail
  have K9 := (((((((((K5.int oa.ints.1).int oa.ints.2.1).int ob.ints.1).int ob.ints.2.1).int oc.ints.1).int oc.ints.2.1).int od.ints.1).int od.ints.2.1).pick (L' := [(w.heap.size, [.bool false, .slice none 0 0, .bool false, .slice none 0 0, .bool false, .slice none 0 0, .bool false, .slice none 0 0, .bool false, .slice none 0 0, .bool false, .slice none 0 0, .bool false, .slice none 0 0, .bool false, .slice none 0 0])]) (l' := [(sa, Aa, na, ca, (1 : Rat).num), (za, Ba, ma, da, ((1 : Rat).den : Int)), (sb, Ab, nb, cb, (0 : Rat).num), (zb, Bb, mb, db, ((0 : Rat).den : Int)), (sc, Ac, nc, cc, (0 : Rat).num), (zc, Bc, mc, dc, ((0 : Rat).den : Int)), (sd, Ad, nd, cd, (1 : Rat).num), (zd, Bd, md, dd, ((1 : Rat).den : Int))]) (by simp) (by simp)).set16 (by simp) sa Aa na ca za Ba ma da sb Ab nb cb zb Bb mb db sc Ac nc cc zc Bc mc dc sd Ad nd cd zd Bd md dd
  obtain ⟨l9a, k9a, o9a⟩ := okF_of (r := (1 : Rat)) (K9.at_ (neg := sa) (A := Aa) (n := na) (c := ca) (z := (1 : Rat).num) (by simp)) (K9.at_ (neg := za) (A := Ba) (n := ma) (c := da) (z := (((1 : Rat).den : Nat) : Int)) (by simp)) oa.ints.2.2
  obtain ⟨l9b, k9b, o9b⟩ := okF_of (r := (0 : Rat)) (K9.at_ (neg := sb) (A := Ab) (n := nb) (c := cb) (z := (0 : Rat).num) (by simp)) (K9.at_ (neg := zb) (A := Bb) (n := mb) (c := db) (z := (((0 : Rat).den : Nat) : Int)) (by simp)) ob.ints.2.2
  obtain ⟨l9c, k9c, o9c⟩ := okF_of (r := (0 : Rat)) (K9.at_ (neg := sc) (A := Ac) (n := nc) (c := cc) (z := (0 : Rat).num) (by simp)) (K9.at_ (neg := zc) (A := Bc) (n := mc) (c := dc) (z := (((0 : Rat).den : Nat) : Int)) (by simp)) oc.ints.2.2
  obtain ⟨l9d, k9d, o9d⟩ := okF_of (r := (1 : Rat)) (K9.at_ (neg := sd) (A := Ad) (n := nd) (c := cd) (z := (1 : Rat).num) (by simp)) (K9.at_ (neg := zd) (A := Bd) (n := md) (c := dd) (z := (((1 : Rat).den : Nat) : Int)) (by simp)) od.ints.2.2
  exact bodyPost_ret (v := .agg #[.bool sa, .slice Aa na ca, .bool za, .slice Ba ma da, .bool sb, .slice Ab nb cb, .bool zb, .slice Bb mb db, .bool sc, .slice Ac nc cc, .bool zc, .slice Bc mc dc, .bool sd, .slice Ad nd cd, .bool zd, .slice Bd md dd]) (by simp [results, Try.results16, go_sem, f0, f1, f2, f3, f4, f5, f6, f7, f8, f9, f10, f11, f12, f13, f14, f15]) rfl ⟨_, _, _, _, _, _, _, _, _, _, _, _, _, _, _, _, _, _, _, _, _, _, _, _, _, _, _, _, _, _, _, _, _, _, _, _, _, _, _, _, rfl, o9a, o9b, o9c, o9d, K9.1⟩

set_option maxRecDepth 100000 in
set_option maxHeartbeats 6400000 in
theorem arg_small_any (p q : Int) (x y : Rat) (w : World) (hp : -9223372036854775808 ≤ p ∧ p ≤ 9223372036854775807) (hq : -9223372036854775808 ≤ q ∧ q ≤ 9223372036854775807) (hx : Hid (Rat.divInt p 1 = x)) (hy : Hid (Rat.divInt q 1 = y)) :
    Calls Try.prog 54 #[.int .i64 p, .int .i64 q] w (RetGv w x y) := by
  have K0 := (Mm.nil w).var (g := w.heap.size) rfl [.bool false, .slice none 0 0, .bool false, .slice none 0 0, .bool false, .slice none 0 0, .bool false, .slice none 0 0] 30
  have SX : Hid (Sz x 2) := Lib.hid (by rw [← hx.out]; exact Sz.divInt (m := 2) (by decide) (by omega) (by decide))
  have SY : Hid (Sz y 2) := Lib.hid (by rw [← hy.out]; exact Sz.divInt (m := 2) (by decide) (by omega) (by decide))
  have HP := Lib.hid hp
  have HQ := Lib.hid hq
  clear hp hq
  go_enter Try.func54, Try.ntmps54
  go_upto_region 1 with (fail)
  generalize w.alloc (.cells #[.bool false, .slice none 0 0, .bool false, .slice none 0 0, .bool false, .slice none 0 0, .bool false, .slice none 0 0] 30) = w0 at K0 ⊢
  go_wp2_with fail
  refine (rat_small_any p 1 x _ HP.out (by decide) (by decide) hx).mono ?_
  rintro e1 w1 ⟨sa, Aa, na, ca, za, Ba, ma, da, rfl, I, J, hb⟩
  have K1 := ((K0.next hb).int J).int I
  clear K0 I J hb
  go_wp2_with fail
  refine (rat_small_any q 1 y _ HQ.out (by decide) (by decide) hy).mono ?_
  rintro e2 w2 ⟨sb, Ab, nb, cb, zb, Bb, mb, db, rfl, I, J, hb⟩
  have K2 := ((K1.next hb).int J).int I
  clear K1 I J hb
  obtain ⟨la, ka, oa⟩ := okF_of (K2.at_ (neg := sa) (A := Aa) (n := na) (c := ca) (z := x.num) (by simp)) (K2.at_ (neg := za) (A := Ba) (n := ma) (c := da) (z := (x.den : Int)) (by simp)) (SX.out.mono (by decide))
  obtain ⟨lb, kb, ob⟩ := okF_of (K2.at_ (neg := sb) (A := Ab) (n := nb) (c := cb) (z := y.num) (by simp)) (K2.at_ (neg := zb) (A := Bb) (n := mb) (c := db) (z := (y.den : Int)) (by simp)) (SY.out.mono (by decide))
  obtain ⟨f0, f1, f2, f3, f4, f5, f6, f7⟩ := (K2.blk (g := w.heap.size) (vs := [.bool false, .slice none 0 0, .bool false, .slice none 0 0, .bool false, .slice none 0 0, .bool false, .slice none 0 0]) (by simp)).c8
  obtain ⟨ff0, ff1, ff2, ff3, ff4, ff5, ff6, ff7, _⟩ := (K2.blk (g := w.heap.size) (vs := [.bool false, .slice none 0 0, .bool false, .slice none 0 0, .bool false, .slice none 0 0, .bool false, .slice none 0 0]) (by simp)).f8
  go_wp2_with fail
  have K9 := (((((K2.int oa.ints.1).int oa.ints.2.1).int ob.ints.1).int ob.ints.2.1).pick (L' := [(w.heap.size, [.bool false, .slice none 0 0, .bool false, .slice none 0 0, .bool false, .slice none 0 0, .bool false, .slice none 0 0])]) (l' := [(sa, Aa, na, ca, x.num), (za, Ba, ma, da, (x.den : Int)), (sb, Ab, nb, cb, y.num), (zb, Bb, mb, db, (y.den : Int))]) (by simp) (by simp)).set8 (by simp) sa Aa na ca za Ba ma da sb Ab nb cb zb Bb mb db
  obtain ⟨l9a, k9a, o9a⟩ := okF_of (K9.at_ (neg := sa) (A := Aa) (n := na) (c := ca) (z := x.num) (by simp)) (K9.at_ (neg := za) (A := Ba) (n := ma) (c := da) (z := (x.den : Int)) (by simp)) oa.ints.2.2
  obtain ⟨l9b, k9b, o9b⟩ := okF_of (K9.at_ (neg := sb) (A := Ab) (n := nb) (c := cb) (z := y.num) (by simp)) (K9.at_ (neg := zb) (A := Bb) (n := mb) (c := db) (z := (y.den : Int)) (by simp)) ob.ints.2.2
  exact bodyPost_ret (v := .agg #[.bool sa, .slice Aa na ca, .bool za, .slice Ba ma da, .bool sb, .slice Ab nb cb, .bool zb, .slice Bb mb db]) (by simp [results, Try.results54, go_sem, f0, f1, f2, f3, f4, f5, f6, f7]) rfl ⟨_, _, _, _, _, _, _, _, _, _, _, _, _, _, _, _, _, _, _, _, rfl, o9a, o9b, K9.1⟩

set_option maxRecDepth 100000 in
set_option maxHeartbeats 6400000 in
theorem gauss_of_any (p q : Int) (x y : Rat) (w : World) (hp : -9223372036854775808 ≤ p ∧ p ≤ 9223372036854775807) (hq : -9223372036854775808 ≤ q ∧ q ≤ 9223372036854775807) (hx : Hid (Rat.divInt p 1 = x)) (hy : Hid (Rat.divInt q 1 = y)) :
    Calls Try.prog 23 #[.int .i64 p, .int .i64 q] w (RetGv w x y) := by
  have K0 := (Mm.nil w).var (g := w.heap.size) rfl [.bool false, .slice none 0 0, .bool false, .slice none 0 0, .bool false, .slice none 0 0, .bool false, .slice none 0 0] 30
  have HP := Lib.hid hp
  have HQ := Lib.hid hq
  clear hp hq
  go_enter Try.func23, Try.ntmps23
  go_upto_region 1 with (fail)
  generalize w.alloc (.cells #[.bool false, .slice none 0 0, .bool false, .slice none 0 0, .bool false, .slice none 0 0, .bool false, .slice none 0 0] 30) = w0 at K0 ⊢
  go_wp2_with fail
  refine (arg_small_any p q x y _ HP.out HQ.out hx hy).mono ?_
  rintro e1 w1 ⟨sa, Aa, na, ca, la, za, Ba, ma, da, ka, sb, Ab, nb, cb, lb, zb, Bb, mb, db, kb, rfl, oa, ob, hb⟩
  have K2 := K0.next hb
  clear K0 hb
  obtain ⟨f0, f1, f2, f3, f4, f5, f6, f7⟩ := (K2.blk (g := w.heap.size) (vs := [.bool false, .slice none 0 0, .bool false, .slice none 0 0, .bool false, .slice none 0 0, .bool false, .slice none 0 0]) (by simp)).c8
  obtain ⟨ff0, ff1, ff2, ff3, ff4, ff5, ff6, ff7, _⟩ := (K2.blk (g := w.heap.size) (vs := [.bool false, .slice none 0 0, .bool false, .slice none 0 0, .bool false, .slice none 0 0, .bool false, .slice none 0 0]) (by simp)).f8
  go_wp2_with fail
  have K9 := (((((K2.int oa.ints.1).int oa.ints.2.1).int ob.ints.1).int ob.ints.2.1).pick (L' := [(w.heap.size, [.bool false, .slice none 0 0, .bool false, .slice none 0 0, .bool false, .slice none 0 0, .bool false, .slice none 0 0])]) (l' := [(sa, Aa, na, ca, x.num), (za, Ba, ma, da, (x.den : Int)), (sb, Ab, nb, cb, y.num), (zb, Bb, mb, db, (y.den : Int))]) (by simp) (by simp)).set8 (by simp) sa Aa na ca za Ba ma da sb Ab nb cb zb Bb mb db
  obtain ⟨l9a, k9a, o9a⟩ := okF_of (K9.at_ (neg := sa) (A := Aa) (n := na) (c := ca) (z := x.num) (by simp)) (K9.at_ (neg := za) (A := Ba) (n := ma) (c := da) (z := (x.den : Int)) (by simp)) oa.ints.2.2
  obtain ⟨l9b, k9b, o9b⟩ := okF_of (K9.at_ (neg := sb) (A := Ab) (n := nb) (c := cb) (z := y.num) (by simp)) (K9.at_ (neg := zb) (A := Bb) (n := mb) (c := db) (z := (y.den : Int)) (by simp)) ob.ints.2.2
  exact bodyPost_ret (v := .agg #[.bool sa, .slice Aa na ca, .bool za, .slice Ba ma da, .bool sb, .slice Ab nb cb, .bool zb, .slice Bb mb db]) (by simp [results, Try.results23, go_sem, f0, f1, f2, f3, f4, f5, f6, f7]) rfl ⟨_, _, _, _, _, _, _, _, _, _, _, _, _, _, _, _, _, _, _, _, rfl, o9a, o9b, K9.1⟩
end Go.Proofs.Ytdmdaoginojalaa
