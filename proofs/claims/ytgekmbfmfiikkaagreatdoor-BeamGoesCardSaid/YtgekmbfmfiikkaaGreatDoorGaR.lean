/-
  The references' complex numbers (polestarref03): sums, norms, mirrored ones, fractions; polestarref09.cross.
-/
import Derived.Test.YtgekmbfmfiikkaaGreatDoorFrN
import Derived.Test.YtgekmbfmfiikkaaGreatDoorAnD
set_option maxHeartbeats 6400000
set_option maxRecDepth 100000
namespace Go.Proofs.YtgekmbfmfiikkaaGreatDoor
open Go.RowKit
theorem ga_plus_any (sa za : Bool) (Aa Ba : Option Addr) (na ca ma da : Nat) (xa : Rat) (sb zb : Bool) (Ab Bb : Option Addr) (nb cb mb db : Nat) (xb : Rat) (sc zc : Bool) (Ac Bc : Option Addr) (nc cc mc dc : Nat) (xc : Rat) (sd zd : Bool) (Ad Bd : Option Addr) (nd cd md dd : Nat) (xd : Rat) (M : Nat) (w : World) (ha : IsInt w sa Aa na ca xa.num) (ia : IsInt w za Ba ma da (xa.den : Int)) (ya : Sz xa M) (hb : IsInt w sb Ab nb cb xb.num) (ib : IsInt w zb Bb mb db (xb.den : Int)) (yb : Sz xb M) (hc : IsInt w sc Ac nc cc xc.num) (ic : IsInt w zc Bc mc dc (xc.den : Int)) (yc : Sz xc M) (hd : IsInt w sd Ad nd cd xd.num) (id : IsInt w zd Bd md dd (xd.den : Int)) (yd : Sz xd M) (hM : M ≤ 100000) :
    Calls Tryz.prog 170 #[.agg #[.bool sa, .slice Aa na ca, .bool za, .slice Ba ma da, .bool sb, .slice Ab nb cb, .bool zb, .slice Bb mb db], .agg #[.bool sc, .slice Ac nc cc, .bool zc, .slice Bc mc dc, .bool sd, .slice Ad nd cd, .bool zd, .slice Bd md dd]] w (RetGa w (xa + xc) (xb + xd)) := by
  have K0 := ((((((((((((Mm.nil w).int ha).int ia).int hb).int ib).int hc).int ic).int hd).int id).var (g := w.heap.size) rfl [.bool sa, .slice Aa na ca, .bool za, .slice Ba ma da, .bool sb, .slice Ab nb cb, .bool zb, .slice Bb mb db] 30).var (g := w.heap.size + 1) (by simp) [.bool sc, .slice Ac nc cc, .bool zc, .slice Bc mc dc, .bool sd, .slice Ad nd cd, .bool zd, .slice Bd md dd] 30).var (g := w.heap.size + 1 + 1) (by simp) [.bool false, .slice none 0 0, .bool false, .slice none 0 0, .bool false, .slice none 0 0, .bool false, .slice none 0 0] 30)
  have Ya := Lib.hid ya
  have Yb := Lib.hid yb
  have Yc := Lib.hid yc
  have Yd := Lib.hid yd
  have HS1 : Hid (Sz (xa + xc) (2 * M + 1)) := Lib.hid ((Sz.add Ya.out Yc.out).mono (by omega))
  have HS2 : Hid (Sz (xb + xd) (2 * M + 1)) := Lib.hid ((Sz.add Yb.out Yd.out).mono (by omega))
  clear ha ia ya hb ib yb hc ic yc hd id yd
  have ne01 : ¬ w.heap.size = w.heap.size + 1 := by omega
  have ne02 : ¬ w.heap.size = w.heap.size + 1 + 1 := by omega
  have ne10 : ¬ w.heap.size + 1 = w.heap.size := by omega
  have ne12 : ¬ w.heap.size + 1 = w.heap.size + 1 + 1 := by omega
  have ne20 : ¬ w.heap.size + 1 + 1 = w.heap.size := by omega
  have ne21 : ¬ w.heap.size + 1 + 1 = w.heap.size + 1 := by omega
  go_enter Tryz.func170, Tryz.ntmps170
  go_wp2_with fail
  generalize ((w.alloc (.cells #[.bool sa, .slice Aa na ca, .bool za, .slice Ba ma da, .bool sb, .slice Ab nb cb, .bool zb, .slice Bb mb db] 30)).alloc (.cells #[.bool sc, .slice Ac nc cc, .bool zc, .slice Bc mc dc, .bool sd, .slice Ad nd cd, .bool zd, .slice Bd md dd] 30)).alloc (.cells #[.bool false, .slice none 0 0, .bool false, .slice none 0 0, .bool false, .slice none 0 0, .bool false, .slice none 0 0] 30) = w0 at K0 ⊢
  obtain ⟨_, _, _, _, _, _, _, _⟩ := (K0.blk (g := w.heap.size) (by repeat constructor)).c8
  obtain ⟨_, _, _, _, _, _, _, _⟩ := (K0.blk (g := w.heap.size + 1) (by repeat constructor)).c8
  go_region_held3 (fun w' => w'.cell? ⟨w.heap.size, 0, none⟩ = some (.bool sa) ∧ w'.cell? ⟨w.heap.size, 1, none⟩ = some (.slice Aa na ca) ∧ w'.cell? ⟨w.heap.size, 2, none⟩ = some (.bool za) ∧ w'.cell? ⟨w.heap.size, 3, none⟩ = some (.slice Ba ma da) ∧ w'.cell? ⟨w.heap.size, 4, none⟩ = some (.bool sb) ∧ w'.cell? ⟨w.heap.size, 5, none⟩ = some (.slice Ab nb cb) ∧ w'.cell? ⟨w.heap.size, 6, none⟩ = some (.bool zb) ∧ w'.cell? ⟨w.heap.size, 7, none⟩ = some (.slice Bb mb db) ∧ w'.cell? ⟨w.heap.size + 1, 0, none⟩ = some (.bool sc) ∧ w'.cell? ⟨w.heap.size + 1, 1, none⟩ = some (.slice Ac nc cc) ∧ w'.cell? ⟨w.heap.size + 1, 2, none⟩ = some (.bool zc) ∧ w'.cell? ⟨w.heap.size + 1, 3, none⟩ = some (.slice Bc mc dc) ∧ w'.cell? ⟨w.heap.size + 1, 4, none⟩ = some (.bool sd) ∧ w'.cell? ⟨w.heap.size + 1, 5, none⟩ = some (.slice Ad nd cd) ∧ w'.cell? ⟨w.heap.size + 1, 6, none⟩ = some (.bool zd) ∧ w'.cell? ⟨w.heap.size + 1, 7, none⟩ = some (.slice Bd md dd))
    (go_keep)
    (first
      | (go_at_call 226; apply Calls.withMm (w0 := w); (case K => with_reducible repeat (first | exact K0 | apply Mm.drew | apply Mm.drewN)); intro KX; (with_reducible refine (ref2_plus_any sa za Aa Ba na ca ma da sc zc Ac Bc nc cc mc dc xa xc (xa + xc) M M _ (KX.at_ (mE 7 rfl)) (KX.at_ (mE 6 rfl)) (KX.at_ (mE 3 rfl)) (KX.at_ (mE 2 rfl)) Ya.out Yc.out (by omega) (Lib.hid rfl)).mono ?_); rintro e1 w1 ⟨neg1, A1, n1, c1, ne1, B1, m1, d1, rfl, IHS1, JHS1, hb1⟩; (with_reducible have K1 := (((KX.next hb1).int JHS1).int IHS1)); obtain ⟨_, _, _, _, _, _, _, _⟩ := (K1.blk (mE 2 rfl)).c8; obtain ⟨_, _, _, _, _, _, _, _⟩ := (K1.blk (mE 1 rfl)).c8; clear KX IHS1 JHS1 hb1)
      | (go_at_call 226; apply Calls.withMm (w0 := w); (case K => with_reducible repeat (first | exact K1 | apply Mm.drew | apply Mm.drewN)); intro KX; (with_reducible refine (ref2_plus_any sb zb Ab Bb nb cb mb db sd zd Ad Bd nd cd md dd xb xd (xb + xd) M M _ (KX.at_ (mE 7 rfl)) (KX.at_ (mE 6 rfl)) (KX.at_ (mE 3 rfl)) (KX.at_ (mE 2 rfl)) Yb.out Yd.out (by omega) (Lib.hid rfl)).mono ?_); rintro e2 w2 ⟨neg2, A2, n2, c2, ne2, B2, m2, d2, rfl, IHS2, JHS2, hb2⟩; (with_reducible have K2 := (((KX.next hb2).int JHS2).int IHS2)); obtain ⟨_, _, _, _, _, _, _, _⟩ := (K2.blk (mE 2 rfl)).c8; obtain ⟨_, _, _, _, _, _, _, _⟩ := (K2.blk (mE 1 rfl)).c8; obtain ⟨q0_2r, q1_2r, q2_2r, q3_2r, q4_2r, q5_2r, q6_2r, q7_2r⟩ := (K2.blk (mE 0 rfl)).c8; obtain ⟨_, _, _, _, _, _, _, _, _⟩ := (K2.blk (mE 0 rfl)).f8; clear KX IHS2 JHS2 hb2))
  all_goals
   go_wp2_with fail
   have KE := (K2.pick (L' := [(w.heap.size + 1 + 1, [.bool false, .slice none 0 0, .bool false, .slice none 0 0, .bool false, .slice none 0 0, .bool false, .slice none 0 0])]) (l' := [(neg1, A1, n1, c1, ((xa + xc) : Rat).num), (ne1, B1, m1, d1, ((((xa + xc) : Rat).den : Nat) : Int)), (neg2, A2, n2, c2, ((xb + xd) : Rat).num), (ne2, B2, m2, d2, ((((xb + xd) : Rat).den : Nat) : Int))]) (by simp) (by simp)).set8 (by simp <;> omega) neg1 A1 n1 c1 ne1 B1 m1 d1 neg2 A2 n2 c2 ne2 B2 m2 d2
   exact bodyPost_ret (v := .agg #[.bool neg1, .slice A1 n1 c1, .bool ne1, .slice B1 m1 d1, .bool neg2, .slice A2 n2 c2, .bool ne2, .slice B2 m2 d2]) (by simp [results, Tryz.results170, go_sem, q0_2r, q1_2r, q2_2r, q3_2r, q4_2r, q5_2r, q6_2r, q7_2r]) rfl ⟨_, _, _, _, _, _, _, _, _, _, _, _, _, _, _, _, rfl, KE.at_ (by simp), KE.at_ (by simp), KE.at_ (by simp), KE.at_ (by simp), KE.1⟩
theorem ga_norm_any (sa za : Bool) (Aa Ba : Option Addr) (na ca ma da : Nat) (xa : Rat) (sb zb : Bool) (Ab Bb : Option Addr) (nb cb mb db : Nat) (xb : Rat) (M : Nat) (w : World) (ha : IsInt w sa Aa na ca xa.num) (ia : IsInt w za Ba ma da (xa.den : Int)) (ya : Sz xa M) (hb : IsInt w sb Ab nb cb xb.num) (ib : IsInt w zb Bb mb db (xb.den : Int)) (yb : Sz xb M) (hM : M ≤ 100000) :
    Calls Tryz.prog 261 #[.agg #[.bool sa, .slice Aa na ca, .bool za, .slice Ba ma da, .bool sb, .slice Ab nb cb, .bool zb, .slice Bb mb db]] w (RetFr w ((xa * xa) + (xb * xb))) := by
  have K0 := (((((((Mm.nil w).int ha).int ia).int hb).int ib).var (g := w.heap.size) rfl [.bool sa, .slice Aa na ca, .bool za, .slice Ba ma da, .bool sb, .slice Ab nb cb, .bool zb, .slice Bb mb db] 30).var (g := w.heap.size + 1) (by simp) [.bool false, .slice none 0 0, .bool false, .slice none 0 0] 26)
  have Ya := Lib.hid ya
  have Yb := Lib.hid yb
  have HS1 : Hid (Sz (xa * xa) (2 * M + 0)) := Lib.hid ((Sz.mul Ya.out Ya.out).mono (by omega))
  have HS2 : Hid (Sz (xb * xb) (2 * M + 0)) := Lib.hid ((Sz.mul Yb.out Yb.out).mono (by omega))
  have HS3 : Hid (Sz ((xa * xa) + (xb * xb)) (4 * M + 1)) := Lib.hid ((Sz.add HS1.out HS2.out).mono (by omega))
  clear ha ia ya hb ib yb
  have ne01 : ¬ w.heap.size = w.heap.size + 1 := by omega
  have ne10 : ¬ w.heap.size + 1 = w.heap.size := by omega
  go_enter Tryz.func261, Tryz.ntmps261
  go_wp2_with fail
  generalize (w.alloc (.cells #[.bool sa, .slice Aa na ca, .bool za, .slice Ba ma da, .bool sb, .slice Ab nb cb, .bool zb, .slice Bb mb db] 30)).alloc (.cells #[.bool false, .slice none 0 0, .bool false, .slice none 0 0] 26) = w0 at K0 ⊢
  obtain ⟨_, _, _, _, _, _, _, _⟩ := (K0.blk (g := w.heap.size) (by repeat constructor)).c8
  go_region_held3 (fun w' => w'.cell? ⟨w.heap.size, 0, none⟩ = some (.bool sa) ∧ w'.cell? ⟨w.heap.size, 1, none⟩ = some (.slice Aa na ca) ∧ w'.cell? ⟨w.heap.size, 2, none⟩ = some (.bool za) ∧ w'.cell? ⟨w.heap.size, 3, none⟩ = some (.slice Ba ma da) ∧ w'.cell? ⟨w.heap.size, 4, none⟩ = some (.bool sb) ∧ w'.cell? ⟨w.heap.size, 5, none⟩ = some (.slice Ab nb cb) ∧ w'.cell? ⟨w.heap.size, 6, none⟩ = some (.bool zb) ∧ w'.cell? ⟨w.heap.size, 7, none⟩ = some (.slice Bb mb db))
    (go_keep)
    (first
      | (go_at_call 230; apply Calls.withMm (w0 := w); (case K => with_reducible repeat (first | exact K0 | apply Mm.drew | apply Mm.drewN)); intro KX; (with_reducible refine (ref2_times_any sa za Aa Ba na ca ma da sa za Aa Ba na ca ma da xa xa (xa * xa) M M _ (KX.at_ (mE 3 rfl)) (KX.at_ (mE 2 rfl)) (KX.at_ (mE 3 rfl)) (KX.at_ (mE 2 rfl)) Ya.out Ya.out (by omega) (Lib.hid rfl)).mono ?_); rintro e1 w1 ⟨neg1, A1, n1, c1, ne1, B1, m1, d1, rfl, IHS1, JHS1, hb1⟩; (with_reducible have K1 := (((KX.next hb1).int JHS1).int IHS1)); obtain ⟨_, _, _, _, _, _, _, _⟩ := (K1.blk (mE 1 rfl)).c8; clear KX IHS1 JHS1 hb1)
      | (go_at_call 230; apply Calls.withMm (w0 := w); (case K => with_reducible repeat (first | exact K1 | apply Mm.drew | apply Mm.drewN)); intro KX; (with_reducible refine (ref2_times_any sb zb Ab Bb nb cb mb db sb zb Ab Bb nb cb mb db xb xb (xb * xb) M M _ (KX.at_ (mE 3 rfl)) (KX.at_ (mE 2 rfl)) (KX.at_ (mE 3 rfl)) (KX.at_ (mE 2 rfl)) Yb.out Yb.out (by omega) (Lib.hid rfl)).mono ?_); rintro e2 w2 ⟨neg2, A2, n2, c2, ne2, B2, m2, d2, rfl, IHS2, JHS2, hb2⟩; (with_reducible have K2 := (((KX.next hb2).int JHS2).int IHS2)); obtain ⟨_, _, _, _, _, _, _, _⟩ := (K2.blk (mE 1 rfl)).c8; clear KX IHS2 JHS2 hb2)
      | (go_at_call 226; apply Calls.withMm (w0 := w); (case K => with_reducible repeat (first | exact K2 | apply Mm.drew | apply Mm.drewN)); intro KX; (with_reducible refine (ref2_plus_any neg1 ne1 A1 B1 n1 c1 m1 d1 neg2 ne2 A2 B2 n2 c2 m2 d2 (xa * xa) (xb * xb) ((xa * xa) + (xb * xb)) (2 * M + 0) (2 * M + 0) _ (KX.at_ (mE 2 rfl)) (KX.at_ (mE 3 rfl)) (KX.at_ (mE 0 rfl)) (KX.at_ (mE 1 rfl)) HS1.out HS2.out (by omega) (Lib.hid rfl)).mono ?_); rintro e3 w3 ⟨neg3, A3, n3, c3, ne3, B3, m3, d3, rfl, IHS3, JHS3, hb3⟩; (with_reducible have K3 := (((KX.next hb3).int JHS3).int IHS3)); obtain ⟨_, _, _, _, _, _, _, _⟩ := (K3.blk (mE 1 rfl)).c8; obtain ⟨⟨qa3r, qb3r, qc3r, qd3r⟩, ⟨_, _, _, _⟩, _⟩ := (K3.blk (mE 0 rfl)).four; clear KX IHS3 JHS3 hb3))
  all_goals
   go_wp2_with fail
   have KE := (K3.pick (L' := [(w.heap.size + 1, [.bool false, .slice none 0 0, .bool false, .slice none 0 0])]) (l' := [(neg3, A3, n3, c3, (((xa * xa) + (xb * xb)) : Rat).num), (ne3, B3, m3, d3, (((((xa * xa) + (xb * xb)) : Rat).den : Nat) : Int))]) (by simp) (by simp)).set4 (by simp <;> omega) neg3 A3 n3 c3 ne3 B3 m3 d3
   exact bodyPost_ret (v := .agg #[.bool neg3, .slice A3 n3 c3, .bool ne3, .slice B3 m3 d3]) (by simp [results, Tryz.results261, go_sem, qa3r, qb3r, qc3r, qd3r]) rfl ⟨_, _, _, _, _, _, _, _, rfl, KE.at_ (by simp), KE.at_ (by simp), KE.1⟩
theorem ga_conj_any (sa za : Bool) (Aa Ba : Option Addr) (na ca ma da : Nat) (xa : Rat) (sb zb : Bool) (Ab Bb : Option Addr) (nb cb mb db : Nat) (xb : Rat) (M : Nat) (w : World) (ha : IsInt w sa Aa na ca xa.num) (ia : IsInt w za Ba ma da (xa.den : Int)) (ya : Sz xa M) (hb : IsInt w sb Ab nb cb xb.num) (ib : IsInt w zb Bb mb db (xb.den : Int)) (yb : Sz xb M) (hM : M ≤ 100000) :
    Calls Tryz.prog 262 #[.agg #[.bool sa, .slice Aa na ca, .bool za, .slice Ba ma da, .bool sb, .slice Ab nb cb, .bool zb, .slice Bb mb db]] w (RetGa w (xa + 0) (0 - xb)) := by
  have K0 := (((((((Mm.nil w).int ha).int ia).int hb).int ib).var (g := w.heap.size) rfl [.bool sa, .slice Aa na ca, .bool za, .slice Ba ma da, .bool sb, .slice Ab nb cb, .bool zb, .slice Bb mb db] 30).var (g := w.heap.size + 1) (by simp) [.bool false, .slice none 0 0, .bool false, .slice none 0 0, .bool false, .slice none 0 0, .bool false, .slice none 0 0] 30)
  have Ya := Lib.hid ya
  have Yb := Lib.hid yb
  have HS1 : Hid (Sz 0 (0 * M + 1)) := Lib.hid (Sz.zero.mono (by omega))
  have HS2 : Hid (Sz (xa + 0) (1 * M + 2)) := Lib.hid ((Sz.add Ya.out HS1.out).mono (by omega))
  have HS3 : Hid (Sz 0 (0 * M + 1)) := Lib.hid (Sz.zero.mono (by omega))
  have HS4 : Hid (Sz (0 - xb) (1 * M + 2)) := Lib.hid ((Sz.sub HS3.out Yb.out).mono (by omega))
  clear ha ia ya hb ib yb
  have ne01 : ¬ w.heap.size = w.heap.size + 1 := by omega
  have ne10 : ¬ w.heap.size + 1 = w.heap.size := by omega
  go_enter Tryz.func262, Tryz.ntmps262
  go_wp2_with fail
  generalize (w.alloc (.cells #[.bool sa, .slice Aa na ca, .bool za, .slice Ba ma da, .bool sb, .slice Ab nb cb, .bool zb, .slice Bb mb db] 30)).alloc (.cells #[.bool false, .slice none 0 0, .bool false, .slice none 0 0, .bool false, .slice none 0 0, .bool false, .slice none 0 0] 30) = w0 at K0 ⊢
  obtain ⟨_, _, _, _, _, _, _, _⟩ := (K0.blk (g := w.heap.size) (by repeat constructor)).c8
  go_region_held3 (fun w' => w'.cell? ⟨w.heap.size, 0, none⟩ = some (.bool sa) ∧ w'.cell? ⟨w.heap.size, 1, none⟩ = some (.slice Aa na ca) ∧ w'.cell? ⟨w.heap.size, 2, none⟩ = some (.bool za) ∧ w'.cell? ⟨w.heap.size, 3, none⟩ = some (.slice Ba ma da) ∧ w'.cell? ⟨w.heap.size, 4, none⟩ = some (.bool sb) ∧ w'.cell? ⟨w.heap.size, 5, none⟩ = some (.slice Ab nb cb) ∧ w'.cell? ⟨w.heap.size, 6, none⟩ = some (.bool zb) ∧ w'.cell? ⟨w.heap.size, 7, none⟩ = some (.slice Bb mb db))
    (go_keep)
    (first
      | (go_at_call 260; apply Calls.withMm (w0 := w); (case K => with_reducible repeat (first | exact K0 | apply Mm.drew | apply Mm.drewN)); intro KX; (with_reducible refine (ref2_nou_any _).mono ?_); rintro e1 w1 ⟨neg1, A1, n1, c1, ne1, B1, m1, d1, rfl, IHS1, JHS1, hb1⟩; (with_reducible have K1 := (((KX.next hb1).int JHS1).int IHS1)); obtain ⟨_, _, _, _, _, _, _, _⟩ := (K1.blk (mE 1 rfl)).c8; clear KX IHS1 JHS1 hb1)
      | (go_at_call 226; apply Calls.withMm (w0 := w); (case K => with_reducible repeat (first | exact K1 | apply Mm.drew | apply Mm.drewN)); intro KX; (with_reducible refine (ref2_plus_any sa za Aa Ba na ca ma da neg1 ne1 A1 B1 n1 c1 m1 d1 xa 0 (xa + 0) M (0 * M + 1) _ (KX.at_ (mE 5 rfl)) (KX.at_ (mE 4 rfl)) (KX.at_ (mE 0 rfl)) (KX.at_ (mE 1 rfl)) Ya.out HS1.out (by omega) (Lib.hid rfl)).mono ?_); rintro e2 w2 ⟨neg2, A2, n2, c2, ne2, B2, m2, d2, rfl, IHS2, JHS2, hb2⟩; (with_reducible have K2 := (((KX.next hb2).int JHS2).int IHS2)); obtain ⟨_, _, _, _, _, _, _, _⟩ := (K2.blk (mE 1 rfl)).c8; clear KX IHS2 JHS2 hb2)
      | (go_at_call 260; apply Calls.withMm (w0 := w); (case K => with_reducible repeat (first | exact K2 | apply Mm.drew | apply Mm.drewN)); intro KX; (with_reducible refine (ref2_nou_any _).mono ?_); rintro e3 w3 ⟨neg3, A3, n3, c3, ne3, B3, m3, d3, rfl, IHS3, JHS3, hb3⟩; (with_reducible have K3 := (((KX.next hb3).int JHS3).int IHS3)); obtain ⟨_, _, _, _, _, _, _, _⟩ := (K3.blk (mE 1 rfl)).c8; clear KX IHS3 JHS3 hb3)
      | (go_at_call 229; apply Calls.withMm (w0 := w); (case K => with_reducible repeat (first | exact K3 | apply Mm.drew | apply Mm.drewN)); intro KX; (with_reducible refine (ref2_minus_any neg3 ne3 A3 B3 n3 c3 m3 d3 sb zb Ab Bb nb cb mb db 0 xb (0 - xb) (0 * M + 1) M _ (KX.at_ (mE 0 rfl)) (KX.at_ (mE 1 rfl)) (KX.at_ (mE 7 rfl)) (KX.at_ (mE 6 rfl)) HS3.out Yb.out (by omega) (Lib.hid rfl)).mono ?_); rintro e4 w4 ⟨neg4, A4, n4, c4, ne4, B4, m4, d4, rfl, IHS4, JHS4, hb4⟩; (with_reducible have K4 := (((KX.next hb4).int JHS4).int IHS4)); obtain ⟨_, _, _, _, _, _, _, _⟩ := (K4.blk (mE 1 rfl)).c8; obtain ⟨q0_4r, q1_4r, q2_4r, q3_4r, q4_4r, q5_4r, q6_4r, q7_4r⟩ := (K4.blk (mE 0 rfl)).c8; obtain ⟨_, _, _, _, _, _, _, _, _⟩ := (K4.blk (mE 0 rfl)).f8; clear KX IHS4 JHS4 hb4))
  all_goals
   go_wp2_with fail
   have KE := (K4.pick (L' := [(w.heap.size + 1, [.bool false, .slice none 0 0, .bool false, .slice none 0 0, .bool false, .slice none 0 0, .bool false, .slice none 0 0])]) (l' := [(neg2, A2, n2, c2, ((xa + 0) : Rat).num), (ne2, B2, m2, d2, ((((xa + 0) : Rat).den : Nat) : Int)), (neg4, A4, n4, c4, ((0 - xb) : Rat).num), (ne4, B4, m4, d4, ((((0 - xb) : Rat).den : Nat) : Int))]) (by simp) (by simp)).set8 (by simp <;> omega) neg2 A2 n2 c2 ne2 B2 m2 d2 neg4 A4 n4 c4 ne4 B4 m4 d4
   exact bodyPost_ret (v := .agg #[.bool neg2, .slice A2 n2 c2, .bool ne2, .slice B2 m2 d2, .bool neg4, .slice A4 n4 c4, .bool ne4, .slice B4 m4 d4]) (by simp [results, Tryz.results262, go_sem, q0_4r, q1_4r, q2_4r, q3_4r, q4_4r, q5_4r, q6_4r, q7_4r]) rfl ⟨_, _, _, _, _, _, _, _, _, _, _, _, _, _, _, _, rfl, KE.at_ (by simp), KE.at_ (by simp), KE.at_ (by simp), KE.at_ (by simp), KE.1⟩
theorem ga_real_any (sa za : Bool) (Aa Ba : Option Addr) (na ca ma da : Nat) (xa : Rat) (M : Nat) (w : World) (ha : IsInt w sa Aa na ca xa.num) (ia : IsInt w za Ba ma da (xa.den : Int)) (ya : Sz xa M) (hM : M ≤ 100000) :
    Calls Tryz.prog 172 #[.agg #[.bool sa, .slice Aa na ca, .bool za, .slice Ba ma da]] w (RetGa w (xa + 0) 0) := by
  have K0 := (((((Mm.nil w).int ha).int ia).var (g := w.heap.size) rfl [.bool sa, .slice Aa na ca, .bool za, .slice Ba ma da] 26).var (g := w.heap.size + 1) (by simp) [.bool false, .slice none 0 0, .bool false, .slice none 0 0, .bool false, .slice none 0 0, .bool false, .slice none 0 0] 30)
  have Ya := Lib.hid ya
  have HS1 : Hid (Sz 0 (0 * M + 1)) := Lib.hid (Sz.zero.mono (by omega))
  have HS2 : Hid (Sz (xa + 0) (1 * M + 2)) := Lib.hid ((Sz.add Ya.out HS1.out).mono (by omega))
  have HS3 : Hid (Sz 0 (0 * M + 1)) := Lib.hid (Sz.zero.mono (by omega))
  clear ha ia ya
  have ne01 : ¬ w.heap.size = w.heap.size + 1 := by omega
  have ne10 : ¬ w.heap.size + 1 = w.heap.size := by omega
  go_enter Tryz.func172, Tryz.ntmps172
  go_wp2_with fail
  generalize (w.alloc (.cells #[.bool sa, .slice Aa na ca, .bool za, .slice Ba ma da] 26)).alloc (.cells #[.bool false, .slice none 0 0, .bool false, .slice none 0 0, .bool false, .slice none 0 0, .bool false, .slice none 0 0] 30) = w0 at K0 ⊢
  obtain ⟨⟨_, _, _, _⟩, ⟨_, _, _, _⟩, _⟩ := (K0.blk (g := w.heap.size) (by repeat constructor)).four
  go_region_held3 (fun w' => w'.cell? ⟨w.heap.size, 0, none⟩ = some (.bool sa) ∧ w'.cell? ⟨w.heap.size, 1, none⟩ = some (.slice Aa na ca) ∧ w'.cell? ⟨w.heap.size, 2, none⟩ = some (.bool za) ∧ w'.cell? ⟨w.heap.size, 3, none⟩ = some (.slice Ba ma da))
    (go_keep)
    (first
      | (go_at_call 260; apply Calls.withMm (w0 := w); (case K => with_reducible repeat (first | exact K0 | apply Mm.drew | apply Mm.drewN)); intro KX; (with_reducible refine (ref2_nou_any _).mono ?_); rintro e1 w1 ⟨neg1, A1, n1, c1, ne1, B1, m1, d1, rfl, IHS1, JHS1, hb1⟩; (with_reducible have K1 := (((KX.next hb1).int JHS1).int IHS1)); obtain ⟨⟨_, _, _, _⟩, ⟨_, _, _, _⟩, _⟩ := (K1.blk (mE 1 rfl)).four; clear KX IHS1 JHS1 hb1)
      | (go_at_call 226; apply Calls.withMm (w0 := w); (case K => with_reducible repeat (first | exact K1 | apply Mm.drew | apply Mm.drewN)); intro KX; (with_reducible refine (ref2_plus_any sa za Aa Ba na ca ma da neg1 ne1 A1 B1 n1 c1 m1 d1 xa 0 (xa + 0) M (0 * M + 1) _ (KX.at_ (mE 3 rfl)) (KX.at_ (mE 2 rfl)) (KX.at_ (mE 0 rfl)) (KX.at_ (mE 1 rfl)) Ya.out HS1.out (by omega) (Lib.hid rfl)).mono ?_); rintro e2 w2 ⟨neg2, A2, n2, c2, ne2, B2, m2, d2, rfl, IHS2, JHS2, hb2⟩; (with_reducible have K2 := (((KX.next hb2).int JHS2).int IHS2)); obtain ⟨⟨_, _, _, _⟩, ⟨_, _, _, _⟩, _⟩ := (K2.blk (mE 1 rfl)).four; clear KX IHS2 JHS2 hb2)
      | (go_at_call 260; apply Calls.withMm (w0 := w); (case K => with_reducible repeat (first | exact K2 | apply Mm.drew | apply Mm.drewN)); intro KX; (with_reducible refine (ref2_nou_any _).mono ?_); rintro e3 w3 ⟨neg3, A3, n3, c3, ne3, B3, m3, d3, rfl, IHS3, JHS3, hb3⟩; (with_reducible have K3 := (((KX.next hb3).int JHS3).int IHS3)); obtain ⟨⟨_, _, _, _⟩, ⟨_, _, _, _⟩, _⟩ := (K3.blk (mE 1 rfl)).four; obtain ⟨q0_3r, q1_3r, q2_3r, q3_3r, q4_3r, q5_3r, q6_3r, q7_3r⟩ := (K3.blk (mE 0 rfl)).c8; obtain ⟨_, _, _, _, _, _, _, _, _⟩ := (K3.blk (mE 0 rfl)).f8; clear KX IHS3 JHS3 hb3))
  all_goals
   go_wp2_with fail
   have KE := (K3.pick (L' := [(w.heap.size + 1, [.bool false, .slice none 0 0, .bool false, .slice none 0 0, .bool false, .slice none 0 0, .bool false, .slice none 0 0])]) (l' := [(neg2, A2, n2, c2, ((xa + 0) : Rat).num), (ne2, B2, m2, d2, ((((xa + 0) : Rat).den : Nat) : Int)), (neg3, A3, n3, c3, (0 : Rat).num), (ne3, B3, m3, d3, (((0 : Rat).den : Nat) : Int))]) (by simp) (by simp)).set8 (by simp <;> omega) neg2 A2 n2 c2 ne2 B2 m2 d2 neg3 A3 n3 c3 ne3 B3 m3 d3
   exact bodyPost_ret (v := .agg #[.bool neg2, .slice A2 n2 c2, .bool ne2, .slice B2 m2 d2, .bool neg3, .slice A3 n3 c3, .bool ne3, .slice B3 m3 d3]) (by simp [results, Tryz.results172, go_sem, q0_3r, q1_3r, q2_3r, q3_3r, q4_3r, q5_3r, q6_3r, q7_3r]) rfl ⟨_, _, _, _, _, _, _, _, _, _, _, _, _, _, _, _, rfl, KE.at_ (by simp), KE.at_ (by simp), KE.at_ (by simp), KE.at_ (by simp), KE.1⟩
theorem ref9_cross_any (sa za : Bool) (Aa Ba : Option Addr) (na ca ma da : Nat) (xa : Rat) (sb zb : Bool) (Ab Bb : Option Addr) (nb cb mb db : Nat) (xb : Rat) (sc zc : Bool) (Ac Bc : Option Addr) (nc cc mc dc : Nat) (xc : Rat) (sd zd : Bool) (Ad Bd : Option Addr) (nd cd md dd : Nat) (xd : Rat) (M : Nat) (w : World) (ha : IsInt w sa Aa na ca xa.num) (ia : IsInt w za Ba ma da (xa.den : Int)) (ya : Sz xa M) (hb : IsInt w sb Ab nb cb xb.num) (ib : IsInt w zb Bb mb db (xb.den : Int)) (yb : Sz xb M) (hc : IsInt w sc Ac nc cc xc.num) (ic : IsInt w zc Bc mc dc (xc.den : Int)) (yc : Sz xc M) (hd : IsInt w sd Ad nd cd xd.num) (id : IsInt w zd Bd md dd (xd.den : Int)) (yd : Sz xd M) (hM : M ≤ 100000) :
    Calls Tryz.prog 167 #[.agg #[.bool sa, .slice Aa na ca, .bool za, .slice Ba ma da], .agg #[.bool sb, .slice Ab nb cb, .bool zb, .slice Bb mb db], .agg #[.bool sc, .slice Ac nc cc, .bool zc, .slice Bc mc dc], .agg #[.bool sd, .slice Ad nd cd, .bool zd, .slice Bd md dd]] w (RetFr w ((xa * xd) - (xb * xc))) := by
  have K0 := ((((((((((((((Mm.nil w).int ha).int ia).int hb).int ib).int hc).int ic).int hd).int id).var (g := w.heap.size) rfl [.bool sa, .slice Aa na ca, .bool za, .slice Ba ma da] 26).var (g := w.heap.size + 1) (by simp) [.bool sb, .slice Ab nb cb, .bool zb, .slice Bb mb db] 26).var (g := w.heap.size + 1 + 1) (by simp) [.bool sc, .slice Ac nc cc, .bool zc, .slice Bc mc dc] 26).var (g := w.heap.size + 1 + 1 + 1) (by simp) [.bool sd, .slice Ad nd cd, .bool zd, .slice Bd md dd] 26).var (g := w.heap.size + 1 + 1 + 1 + 1) (by simp) [.bool false, .slice none 0 0, .bool false, .slice none 0 0] 26)
  have Ya := Lib.hid ya
  have Yb := Lib.hid yb
  have Yc := Lib.hid yc
  have Yd := Lib.hid yd
  have HS1 : Hid (Sz (xa * xd) (2 * M + 0)) := Lib.hid ((Sz.mul Ya.out Yd.out).mono (by omega))
  have HS2 : Hid (Sz (xb * xc) (2 * M + 0)) := Lib.hid ((Sz.mul Yb.out Yc.out).mono (by omega))
  have HS3 : Hid (Sz ((xa * xd) - (xb * xc)) (4 * M + 1)) := Lib.hid ((Sz.sub HS1.out HS2.out).mono (by omega))
  clear ha ia ya hb ib yb hc ic yc hd id yd
  have ne01 : ¬ w.heap.size = w.heap.size + 1 := by omega
  have ne02 : ¬ w.heap.size = w.heap.size + 1 + 1 := by omega
  have ne03 : ¬ w.heap.size = w.heap.size + 1 + 1 + 1 := by omega
  have ne04 : ¬ w.heap.size = w.heap.size + 1 + 1 + 1 + 1 := by omega
  have ne10 : ¬ w.heap.size + 1 = w.heap.size := by omega
  have ne12 : ¬ w.heap.size + 1 = w.heap.size + 1 + 1 := by omega
  have ne13 : ¬ w.heap.size + 1 = w.heap.size + 1 + 1 + 1 := by omega
  have ne14 : ¬ w.heap.size + 1 = w.heap.size + 1 + 1 + 1 + 1 := by omega
  have ne20 : ¬ w.heap.size + 1 + 1 = w.heap.size := by omega
  have ne21 : ¬ w.heap.size + 1 + 1 = w.heap.size + 1 := by omega
  have ne23 : ¬ w.heap.size + 1 + 1 = w.heap.size + 1 + 1 + 1 := by omega
  have ne24 : ¬ w.heap.size + 1 + 1 = w.heap.size + 1 + 1 + 1 + 1 := by omega
  have ne30 : ¬ w.heap.size + 1 + 1 + 1 = w.heap.size := by omega
  have ne31 : ¬ w.heap.size + 1 + 1 + 1 = w.heap.size + 1 := by omega
  have ne32 : ¬ w.heap.size + 1 + 1 + 1 = w.heap.size + 1 + 1 := by omega
  have ne34 : ¬ w.heap.size + 1 + 1 + 1 = w.heap.size + 1 + 1 + 1 + 1 := by omega
  have ne40 : ¬ w.heap.size + 1 + 1 + 1 + 1 = w.heap.size := by omega
  have ne41 : ¬ w.heap.size + 1 + 1 + 1 + 1 = w.heap.size + 1 := by omega
  have ne42 : ¬ w.heap.size + 1 + 1 + 1 + 1 = w.heap.size + 1 + 1 := by omega
  have ne43 : ¬ w.heap.size + 1 + 1 + 1 + 1 = w.heap.size + 1 + 1 + 1 := by omega
  go_enter Tryz.func167, Tryz.ntmps167
  go_wp2_with fail
  generalize ((((w.alloc (.cells #[.bool sa, .slice Aa na ca, .bool za, .slice Ba ma da] 26)).alloc (.cells #[.bool sb, .slice Ab nb cb, .bool zb, .slice Bb mb db] 26)).alloc (.cells #[.bool sc, .slice Ac nc cc, .bool zc, .slice Bc mc dc] 26)).alloc (.cells #[.bool sd, .slice Ad nd cd, .bool zd, .slice Bd md dd] 26)).alloc (.cells #[.bool false, .slice none 0 0, .bool false, .slice none 0 0] 26) = w0 at K0 ⊢
  obtain ⟨⟨_, _, _, _⟩, ⟨_, _, _, _⟩, _⟩ := (K0.blk (g := w.heap.size) (by repeat constructor)).four
  obtain ⟨⟨_, _, _, _⟩, ⟨_, _, _, _⟩, _⟩ := (K0.blk (g := w.heap.size + 1) (by repeat constructor)).four
  obtain ⟨⟨_, _, _, _⟩, ⟨_, _, _, _⟩, _⟩ := (K0.blk (g := w.heap.size + 1 + 1) (by repeat constructor)).four
  obtain ⟨⟨_, _, _, _⟩, ⟨_, _, _, _⟩, _⟩ := (K0.blk (g := w.heap.size + 1 + 1 + 1) (by repeat constructor)).four
  go_region_held3 (fun w' => w'.cell? ⟨w.heap.size, 0, none⟩ = some (.bool sa) ∧ w'.cell? ⟨w.heap.size, 1, none⟩ = some (.slice Aa na ca) ∧ w'.cell? ⟨w.heap.size, 2, none⟩ = some (.bool za) ∧ w'.cell? ⟨w.heap.size, 3, none⟩ = some (.slice Ba ma da) ∧ w'.cell? ⟨w.heap.size + 1, 0, none⟩ = some (.bool sb) ∧ w'.cell? ⟨w.heap.size + 1, 1, none⟩ = some (.slice Ab nb cb) ∧ w'.cell? ⟨w.heap.size + 1, 2, none⟩ = some (.bool zb) ∧ w'.cell? ⟨w.heap.size + 1, 3, none⟩ = some (.slice Bb mb db) ∧ w'.cell? ⟨w.heap.size + 1 + 1, 0, none⟩ = some (.bool sc) ∧ w'.cell? ⟨w.heap.size + 1 + 1, 1, none⟩ = some (.slice Ac nc cc) ∧ w'.cell? ⟨w.heap.size + 1 + 1, 2, none⟩ = some (.bool zc) ∧ w'.cell? ⟨w.heap.size + 1 + 1, 3, none⟩ = some (.slice Bc mc dc) ∧ w'.cell? ⟨w.heap.size + 1 + 1 + 1, 0, none⟩ = some (.bool sd) ∧ w'.cell? ⟨w.heap.size + 1 + 1 + 1, 1, none⟩ = some (.slice Ad nd cd) ∧ w'.cell? ⟨w.heap.size + 1 + 1 + 1, 2, none⟩ = some (.bool zd) ∧ w'.cell? ⟨w.heap.size + 1 + 1 + 1, 3, none⟩ = some (.slice Bd md dd))
    (go_keep)
    (first
      | (go_at_call 230; apply Calls.withMm (w0 := w); (case K => with_reducible repeat (first | exact K0 | apply Mm.drew | apply Mm.drewN)); intro KX; (with_reducible refine (ref2_times_any sa za Aa Ba na ca ma da sd zd Ad Bd nd cd md dd xa xd (xa * xd) M M _ (KX.at_ (mE 7 rfl)) (KX.at_ (mE 6 rfl)) (KX.at_ (mE 1 rfl)) (KX.at_ (mE 0 rfl)) Ya.out Yd.out (by omega) (Lib.hid rfl)).mono ?_); rintro e1 w1 ⟨neg1, A1, n1, c1, ne1, B1, m1, d1, rfl, IHS1, JHS1, hb1⟩; (with_reducible have K1 := (((KX.next hb1).int JHS1).int IHS1)); obtain ⟨⟨_, _, _, _⟩, ⟨_, _, _, _⟩, _⟩ := (K1.blk (mE 4 rfl)).four; obtain ⟨⟨_, _, _, _⟩, ⟨_, _, _, _⟩, _⟩ := (K1.blk (mE 3 rfl)).four; obtain ⟨⟨_, _, _, _⟩, ⟨_, _, _, _⟩, _⟩ := (K1.blk (mE 2 rfl)).four; obtain ⟨⟨_, _, _, _⟩, ⟨_, _, _, _⟩, _⟩ := (K1.blk (mE 1 rfl)).four; clear KX IHS1 JHS1 hb1)
      | (go_at_call 230; apply Calls.withMm (w0 := w); (case K => with_reducible repeat (first | exact K1 | apply Mm.drew | apply Mm.drewN)); intro KX; (with_reducible refine (ref2_times_any sb zb Ab Bb nb cb mb db sc zc Ac Bc nc cc mc dc xb xc (xb * xc) M M _ (KX.at_ (mE 7 rfl)) (KX.at_ (mE 6 rfl)) (KX.at_ (mE 5 rfl)) (KX.at_ (mE 4 rfl)) Yb.out Yc.out (by omega) (Lib.hid rfl)).mono ?_); rintro e2 w2 ⟨neg2, A2, n2, c2, ne2, B2, m2, d2, rfl, IHS2, JHS2, hb2⟩; (with_reducible have K2 := (((KX.next hb2).int JHS2).int IHS2)); obtain ⟨⟨_, _, _, _⟩, ⟨_, _, _, _⟩, _⟩ := (K2.blk (mE 4 rfl)).four; obtain ⟨⟨_, _, _, _⟩, ⟨_, _, _, _⟩, _⟩ := (K2.blk (mE 3 rfl)).four; obtain ⟨⟨_, _, _, _⟩, ⟨_, _, _, _⟩, _⟩ := (K2.blk (mE 2 rfl)).four; obtain ⟨⟨_, _, _, _⟩, ⟨_, _, _, _⟩, _⟩ := (K2.blk (mE 1 rfl)).four; clear KX IHS2 JHS2 hb2)
      | (go_at_call 229; apply Calls.withMm (w0 := w); (case K => with_reducible repeat (first | exact K2 | apply Mm.drew | apply Mm.drewN)); intro KX; (with_reducible refine (ref2_minus_any neg1 ne1 A1 B1 n1 c1 m1 d1 neg2 ne2 A2 B2 n2 c2 m2 d2 (xa * xd) (xb * xc) ((xa * xd) - (xb * xc)) (2 * M + 0) (2 * M + 0) _ (KX.at_ (mE 2 rfl)) (KX.at_ (mE 3 rfl)) (KX.at_ (mE 0 rfl)) (KX.at_ (mE 1 rfl)) HS1.out HS2.out (by omega) (Lib.hid rfl)).mono ?_); rintro e3 w3 ⟨neg3, A3, n3, c3, ne3, B3, m3, d3, rfl, IHS3, JHS3, hb3⟩; (with_reducible have K3 := (((KX.next hb3).int JHS3).int IHS3)); obtain ⟨⟨_, _, _, _⟩, ⟨_, _, _, _⟩, _⟩ := (K3.blk (mE 4 rfl)).four; obtain ⟨⟨_, _, _, _⟩, ⟨_, _, _, _⟩, _⟩ := (K3.blk (mE 3 rfl)).four; obtain ⟨⟨_, _, _, _⟩, ⟨_, _, _, _⟩, _⟩ := (K3.blk (mE 2 rfl)).four; obtain ⟨⟨_, _, _, _⟩, ⟨_, _, _, _⟩, _⟩ := (K3.blk (mE 1 rfl)).four; obtain ⟨⟨qa3r, qb3r, qc3r, qd3r⟩, ⟨_, _, _, _⟩, _⟩ := (K3.blk (mE 0 rfl)).four; clear KX IHS3 JHS3 hb3))
  all_goals
   go_wp2_with fail
   have KE := (K3.pick (L' := [(w.heap.size + 1 + 1 + 1 + 1, [.bool false, .slice none 0 0, .bool false, .slice none 0 0])]) (l' := [(neg3, A3, n3, c3, (((xa * xd) - (xb * xc)) : Rat).num), (ne3, B3, m3, d3, (((((xa * xd) - (xb * xc)) : Rat).den : Nat) : Int))]) (by simp) (by simp)).set4 (by simp <;> omega) neg3 A3 n3 c3 ne3 B3 m3 d3
   exact bodyPost_ret (v := .agg #[.bool neg3, .slice A3 n3 c3, .bool ne3, .slice B3 m3 d3]) (by simp [results, Tryz.results167, go_sem, qa3r, qb3r, qc3r, qd3r]) rfl ⟨_, _, _, _, _, _, _, _, rfl, KE.at_ (by simp), KE.at_ (by simp), KE.1⟩
end Go.Proofs.YtgekmbfmfiikkaaGreatDoor
