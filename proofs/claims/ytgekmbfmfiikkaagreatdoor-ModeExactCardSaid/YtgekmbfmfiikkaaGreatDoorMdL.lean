/-
  The middle and the depth of a stable cavity, by the reference (polestarref16.middle, depth, root).
-/
import Derived.Test.YtgekmbfmfiikkaaGreatDoorMdC
import Derived.Test.YtgekmbfmfiikkaaGreatDoorFrame2
import Derived.Test.YtgekmbfmfiikkaaGreatDoorRtB
namespace Go.Proofs.YtgekmbfmfiikkaaGreatDoor
open Go.RowKit

set_option maxRecDepth 100000 in
set_option maxHeartbeats 6400000 in
theorem ref16_middle_any (sa za : Bool) (Aa Ba : Option Addr) (na ca ma da : Nat) (xa : Rat) (sb zb : Bool) (Ab Bb : Option Addr) (nb cb mb db : Nat) (xb : Rat) (sc zc : Bool) (Ac Bc : Option Addr) (nc cc mc dc : Nat) (xc : Rat) (sd zd : Bool) (Ad Bd : Option Addr) (nd cd md dd : Nat) (xd : Rat) (M : Nat) (w : World) (ha : IsInt w sa Aa na ca xa.num) (ia : IsInt w za Ba ma da (xa.den : Int)) (ya : Sz xa M) (hb : IsInt w sb Ab nb cb xb.num) (ib : IsInt w zb Bb mb db (xb.den : Int)) (yb : Sz xb M) (hc : IsInt w sc Ac nc cc xc.num) (ic : IsInt w zc Bc mc dc (xc.den : Int)) (yc : Sz xc M) (hd : IsInt w sd Ad nd cd xd.num) (id : IsInt w zd Bd md dd (xd.den : Int)) (yd : Sz xd M) (hM : M ≤ 100000) (nc0 : xc ≠ 0) :
    Calls Tryz.prog 121 #[.agg #[.bool sa, .slice Aa na ca, .bool za, .slice Ba ma da, .bool sb, .slice Ab nb cb, .bool zb, .slice Bb mb db, .bool sc, .slice Ac nc cc, .bool zc, .slice Bc mc dc, .bool sd, .slice Ad nd cd, .bool zd, .slice Bd md dd]] w (RetFr w ((xa - xd) / ((2 : Rat) * xc))) := by
  have K0 := (((((((((((Mm.nil w).int ha).int ia).int hb).int ib).int hc).int ic).int hd).int id).var (g := w.heap.size) rfl [.bool sa, .slice Aa na ca, .bool za, .slice Ba ma da, .bool sb, .slice Ab nb cb, .bool zb, .slice Bb mb db, .bool sc, .slice Ac nc cc, .bool zc, .slice Bc mc dc, .bool sd, .slice Ad nd cd, .bool zd, .slice Bd md dd] 28).var (g := w.heap.size + 1) (by simp) [.bool false, .slice none 0 0, .bool false, .slice none 0 0] 26)
  have Ya := Lib.hid ya
  have Yb := Lib.hid yb
  have Yc := Lib.hid yc
  have Yd := Lib.hid yd
  have S2 : Hid (Sz (2 : Rat) (0 * M + 1)) := Lib.hid (Sz.mono (⟨by decide, by decide⟩ : Sz (2 : Rat) 1) (by omega))
  have HT : Hid ((2 : Rat) * xc ≠ 0) := Lib.hid (st_two nc0)
  have HS7 : Hid (Sz (xa - xd) (2 * M + 1)) := Lib.hid ((Sz.sub Ya.out Yd.out).mono (by omega))
  have HS11 : Hid (Sz ((2 : Rat) * xc) (1 * M + 1)) := Lib.hid ((Sz.mul S2.out Yc.out).mono (by omega))
  have HS12 : Hid (Sz ((xa - xd) / ((2 : Rat) * xc)) (3 * M + 2)) := Lib.hid ((Sz.div HS7.out HS11.out HT.out).mono (by omega))
  clear ha ia ya hb ib yb hc ic yc hd id yd
  have ne01 : ¬ w.heap.size = w.heap.size + 1 := by omega
  have ne10 : ¬ w.heap.size + 1 = w.heap.size := by omega
  go_enter Tryz.func121, Tryz.ntmps121
  go_wp2_with fail
  generalize (w.alloc (.cells #[.bool sa, .slice Aa na ca, .bool za, .slice Ba ma da, .bool sb, .slice Ab nb cb, .bool zb, .slice Bb mb db, .bool sc, .slice Ac nc cc, .bool zc, .slice Bc mc dc, .bool sd, .slice Ad nd cd, .bool zd, .slice Bd md dd] 28)).alloc (.cells #[.bool false, .slice none 0 0, .bool false, .slice none 0 0] 26) = w0 at K0 ⊢
  obtain ⟨_, _, _, _, _, _, _, _, _, _, _, _, _, _, _, _⟩ := (K0.blk (g := w.heap.size) (by repeat constructor)).c16
  go_region_held3 (fun w' => w'.cell? ⟨w.heap.size, 0, none⟩ = some (.bool sa) ∧ w'.cell? ⟨w.heap.size, 1, none⟩ = some (.slice Aa na ca) ∧ w'.cell? ⟨w.heap.size, 2, none⟩ = some (.bool za) ∧ w'.cell? ⟨w.heap.size, 3, none⟩ = some (.slice Ba ma da) ∧ w'.cell? ⟨w.heap.size, 4, none⟩ = some (.bool sb) ∧ w'.cell? ⟨w.heap.size, 5, none⟩ = some (.slice Ab nb cb) ∧ w'.cell? ⟨w.heap.size, 6, none⟩ = some (.bool zb) ∧ w'.cell? ⟨w.heap.size, 7, none⟩ = some (.slice Bb mb db) ∧ w'.cell? ⟨w.heap.size, 8, none⟩ = some (.bool sc) ∧ w'.cell? ⟨w.heap.size, 9, none⟩ = some (.slice Ac nc cc) ∧ w'.cell? ⟨w.heap.size, 10, none⟩ = some (.bool zc) ∧ w'.cell? ⟨w.heap.size, 11, none⟩ = some (.slice Bc mc dc) ∧ w'.cell? ⟨w.heap.size, 12, none⟩ = some (.bool sd) ∧ w'.cell? ⟨w.heap.size, 13, none⟩ = some (.slice Ad nd cd) ∧ w'.cell? ⟨w.heap.size, 14, none⟩ = some (.bool zd) ∧ w'.cell? ⟨w.heap.size, 15, none⟩ = some (.slice Bd md dd))
    (go_keep)
    (first
      | (go_at_call 229; apply Calls.withMm (w0 := w); (case K => with_reducible repeat (first | exact K0 | apply Mm.drew | apply Mm.drewN)); intro KX; (with_reducible refine (ref2_minus_any sa za Aa Ba na ca ma da sd zd Ad Bd nd cd md dd xa xd (xa - xd) M M _ (KX.at_ (mE 7 rfl)) (KX.at_ (mE 6 rfl)) (KX.at_ (mE 1 rfl)) (KX.at_ (mE 0 rfl)) Ya.out Yd.out (by omega) (Lib.hid rfl)).mono ?_); rintro e7 w7 ⟨neg7, A7, n7, c7, ne7, B7, m7, d7, rfl, IHS7, JHS7, hb7⟩; (with_reducible have K7 := (((KX.next hb7).int JHS7).int IHS7)); obtain ⟨_, _, _, _, _, _, _, _, _, _, _, _, _, _, _, _⟩ := (K7.blk (mE 1 rfl)).c16; clear KX IHS7 JHS7 hb7)
      | (go_at_call 227; apply Calls.withMm (w0 := w); (case K => with_reducible repeat (first | exact K7 | apply Mm.drew | apply Mm.drewN)); intro KX; (with_reducible refine (ref2_small_any 2 1 2 _ (by decide) (by decide) (by decide) (Lib.hid (by decide +kernel))).mono ?_); rintro e8 w8 ⟨neg8, A8, n8, c8, ne8, B8, m8, d8, rfl, IS2, JS2, hb8⟩; (with_reducible have K8 := (((KX.next hb8).int JS2).int IS2)); obtain ⟨_, _, _, _, _, _, _, _, _, _, _, _, _, _, _, _⟩ := (K8.blk (mE 1 rfl)).c16; clear KX IS2 JS2 hb8)
      | (go_at_call 230; apply Calls.withMm (w0 := w); (case K => with_reducible repeat (first | exact K8 | apply Mm.drew | apply Mm.drewN)); intro KX; (with_reducible refine (ref2_times_any neg8 ne8 A8 B8 n8 c8 m8 d8 sc zc Ac Bc nc cc mc dc (2 : Rat) xc ((2 : Rat) * xc) (0 * M + 1) M _ (KX.at_ (mE 0 rfl)) (KX.at_ (mE 1 rfl)) (KX.at_ (mE 7 rfl)) (KX.at_ (mE 6 rfl)) S2.out Yc.out (by omega) (Lib.hid rfl)).mono ?_); rintro e11 w11 ⟨neg11, A11, n11, c11, ne11, B11, m11, d11, rfl, IHS11, JHS11, hb11⟩; (with_reducible have K11 := (((KX.next hb11).int JHS11).int IHS11)); obtain ⟨_, _, _, _, _, _, _, _, _, _, _, _, _, _, _, _⟩ := (K11.blk (mE 1 rfl)).c16; clear KX IHS11 JHS11 hb11)
      | (go_at_call 228; apply Calls.withMm (w0 := w); (case K => with_reducible repeat (first | exact K11 | apply Mm.drew | apply Mm.drewN)); intro KX; (with_reducible refine (ref2_over_any neg7 ne7 A7 B7 n7 c7 m7 d7 neg11 ne11 A11 B11 n11 c11 m11 d11 (xa - xd) ((2 : Rat) * xc) ((xa - xd) / ((2 : Rat) * xc)) (2 * M + 1) (1 * M + 1) _ (KX.at_ (mE 4 rfl)) (KX.at_ (mE 5 rfl)) (KX.at_ (mE 0 rfl)) (KX.at_ (mE 1 rfl)) HS7.out HS11.out (by omega) HT.out (Lib.hid rfl)).mono ?_); rintro e12 w12 ⟨neg12, A12, n12, c12, ne12, B12, m12, d12, rfl, IHS12, JHS12, hb12⟩; (with_reducible have K12 := (((KX.next hb12).int JHS12).int IHS12)); obtain ⟨_, _, _, _, _, _, _, _, _, _, _, _, _, _, _, _⟩ := (K12.blk (mE 1 rfl)).c16; obtain ⟨⟨qa12r, qb12r, qc12r, qd12r⟩, ⟨_, _, _, _⟩, _⟩ := (K12.blk (mE 0 rfl)).four; clear KX IHS12 JHS12 hb12))
  all_goals
   go_wp2_with fail
   have KE := (K12.pick (L' := [(w.heap.size + 1, [.bool false, .slice none 0 0, .bool false, .slice none 0 0])]) (l' := [(neg12, A12, n12, c12, (((xa - xd) / ((2 : Rat) * xc)) : Rat).num), (ne12, B12, m12, d12, (((((xa - xd) / ((2 : Rat) * xc)) : Rat).den : Nat) : Int))]) (by simp) (by simp)).set4 (by simp <;> omega) neg12 A12 n12 c12 ne12 B12 m12 d12
   exact bodyPost_ret (v := .agg #[.bool neg12, .slice A12 n12 c12, .bool ne12, .slice B12 m12 d12]) (by simp [results, Tryz.results121, go_sem, qa12r, qb12r, qc12r, qd12r]) rfl ⟨_, _, _, _, _, _, _, _, rfl, KE.at_ (by simp), KE.at_ (by simp), KE.1⟩

set_option maxRecDepth 100000 in
set_option maxHeartbeats 6400000 in
theorem ref16_depth_any (sa za : Bool) (Aa Ba : Option Addr) (na ca ma da : Nat) (xa : Rat) (sb zb : Bool) (Ab Bb : Option Addr) (nb cb mb db : Nat) (xb : Rat) (sc zc : Bool) (Ac Bc : Option Addr) (nc cc mc dc : Nat) (xc : Rat) (sd zd : Bool) (Ad Bd : Option Addr) (nd cd md dd : Nat) (xd : Rat) (M : Nat) (w : World) (ha : IsInt w sa Aa na ca xa.num) (ia : IsInt w za Ba ma da (xa.den : Int)) (ya : Sz xa M) (hb : IsInt w sb Ab nb cb xb.num) (ib : IsInt w zb Bb mb db (xb.den : Int)) (yb : Sz xb M) (hc : IsInt w sc Ac nc cc xc.num) (ic : IsInt w zc Bc mc dc (xc.den : Int)) (yc : Sz xc M) (hd : IsInt w sd Ad nd cd xd.num) (id : IsInt w zd Bd md dd (xd.den : Int)) (yd : Sz xd M) (hM : M ≤ 100000) (nc0 : xc ≠ 0) :
    Calls Tryz.prog 120 #[.agg #[.bool sa, .slice Aa na ca, .bool za, .slice Ba ma da, .bool sb, .slice Ab nb cb, .bool zb, .slice Bb mb db, .bool sc, .slice Ac nc cc, .bool zc, .slice Bc mc dc, .bool sd, .slice Ad nd cd, .bool zd, .slice Bd md dd]] w (RetFr w (((4 : Rat) - ((xa + xd) * (xa + xd))) / ((4 : Rat) * (xc * xc)))) := by
  have K0 := (((((((((((Mm.nil w).int ha).int ia).int hb).int ib).int hc).int ic).int hd).int id).var (g := w.heap.size) rfl [.bool sa, .slice Aa na ca, .bool za, .slice Ba ma da, .bool sb, .slice Ab nb cb, .bool zb, .slice Bb mb db, .bool sc, .slice Ac nc cc, .bool zc, .slice Bc mc dc, .bool sd, .slice Ad nd cd, .bool zd, .slice Bd md dd] 28).var (g := w.heap.size + 1) (by simp) [.bool false, .slice none 0 0, .bool false, .slice none 0 0] 26)
  have Ya := Lib.hid ya
  have Yb := Lib.hid yb
  have Yc := Lib.hid yc
  have Yd := Lib.hid yd
  have S4 : Hid (Sz (4 : Rat) (0 * M + 1)) := Lib.hid (Sz.mono (⟨by decide, by decide⟩ : Sz (4 : Rat) 1) (by omega))
  have HD : Hid (((4 : Rat) * (xc * xc)) ≠ 0) := Lib.hid (fun e => by have := st_sq nc0; rw [e] at this; exact absurd this (by decide))
  have ST : Hid (Sz (xa + xd) (2 * M + 1)) := Lib.hid ((Sz.add Ya.out Yd.out).mono (by omega))
  clear ha ia ya hb ib yb hc ic yc hd id yd
  have ne01 : ¬ w.heap.size = w.heap.size + 1 := by omega
  have ne10 : ¬ w.heap.size + 1 = w.heap.size := by omega
  go_enter Tryz.func120, Tryz.ntmps120
  go_wp2_with fail
  generalize (w.alloc (.cells #[.bool sa, .slice Aa na ca, .bool za, .slice Ba ma da, .bool sb, .slice Ab nb cb, .bool zb, .slice Bb mb db, .bool sc, .slice Ac nc cc, .bool zc, .slice Bc mc dc, .bool sd, .slice Ad nd cd, .bool zd, .slice Bd md dd] 28)).alloc (.cells #[.bool false, .slice none 0 0, .bool false, .slice none 0 0] 26) = w0 at K0 ⊢
  obtain ⟨q0_0x, q1_0x, q2_0x, q3_0x, q4_0x, q5_0x, q6_0x, q7_0x, q8_0x, q9_0x, q10_0x, q11_0x, q12_0x, q13_0x, q14_0x, q15_0x⟩ := (K0.blk (g := w.heap.size) (by repeat constructor)).c16
  go_wp2_with fail
  refine (ref2_plus_any sa za Aa Ba na ca ma da sd zd Ad Bd nd cd md dd xa xd (xa + xd) M M _ (K0.at_ (mE 7 rfl)) (K0.at_ (mE 6 rfl)) (K0.at_ (mE 1 rfl)) (K0.at_ (mE 0 rfl)) Ya.out Yd.out (by omega) (Lib.hid rfl)).mono ?_
  rintro e1 w1 ⟨st, At, nt, ct, zt, Bt, mt, dt, rfl, I1, J1, hb⟩
  have K1 := (((K0.next hb).int J1).int I1).var (g := w1.heap.size) rfl [.bool st, .slice At nt ct, .bool zt, .slice Bt mt dt] 26
  have z1 : w.heap.size + 1 < w1.heap.size := ((K0.next hb).blk (mE 0 rfl)).1
  clear K0 hb I1 J1 q0_0x q1_0x q2_0x q3_0x q4_0x q5_0x q6_0x q7_0x q8_0x q9_0x q10_0x q11_0x q12_0x q13_0x q14_0x q15_0x
  go_upto_region 2 with (fail)
  generalize w1.heap.size = gt at K1 z1 ⊢
  generalize w1.alloc (.cells #[.bool st, .slice At nt ct, .bool zt, .slice Bt mt dt] 26) = u1 at K1 ⊢
  go_wp2_with fail
  refine (ref2_small_any 4 1 4 _ (by decide) (by decide) (by decide) (Lib.hid (by decide +kernel))).mono ?_
  rintro e2 w2 ⟨sf, Af, nf, cf, zf, Bf, mf, df, rfl, I2, J2, hb⟩
  have K2 := (((K1.next hb).int J2).int I2).var (g := w2.heap.size) rfl [.bool sf, .slice Af nf cf, .bool zf, .slice Bf mf df] 26
  have z2 : gt < w2.heap.size := ((K1.next hb).blk (mE 0 rfl)).1
  clear K1 hb I2 J2
  go_upto_region 3 with (fail)
  generalize w2.heap.size = gf at K2 z2 ⊢
  generalize w2.alloc (.cells #[.bool sf, .slice Af nf cf, .bool zf, .slice Bf mf df] 26) = u2 at K2 ⊢
  have HS14 : Hid (Sz ((xa + xd) * (xa + xd)) (4 * M + 2)) := Lib.hid ((Sz.mul ST.out ST.out).mono (by omega))
  have HS15 : Hid (Sz ((4 : Rat) - ((xa + xd) * (xa + xd))) (4 * M + 4)) := Lib.hid ((Sz.sub S4.out HS14.out).mono (by omega))
  have HS21 : Hid (Sz (xc * xc) (2 * M + 0)) := Lib.hid ((Sz.mul Yc.out Yc.out).mono (by omega))
  have HS22 : Hid (Sz ((4 : Rat) * (xc * xc)) (2 * M + 1)) := Lib.hid ((Sz.mul S4.out HS21.out).mono (by omega))
  have HS23 : Hid (Sz (((4 : Rat) - ((xa + xd) * (xa + xd))) / ((4 : Rat) * (xc * xc))) (6 * M + 5)) := Lib.hid ((Sz.div HS15.out HS22.out HD.out).mono (by omega))
  have n_gf_r : ¬ gf = w.heap.size + 1 := by omega
  have n_r_gf : ¬ w.heap.size + 1 = gf := by omega
  have n_gf_m : ¬ gf = w.heap.size := by omega
  have n_m_gf : ¬ w.heap.size = gf := by omega
  have n_gt_r : ¬ gt = w.heap.size + 1 := by omega
  have n_r_gt : ¬ w.heap.size + 1 = gt := by omega
  have n_gt_m : ¬ gt = w.heap.size := by omega
  have n_m_gt : ¬ w.heap.size = gt := by omega
  have n_gf_gt : ¬ gf = gt := by omega
  have n_gt_gf : ¬ gt = gf := by omega
  obtain ⟨⟨_, _, _, _⟩, ⟨_, _, _, _⟩, _⟩ := (K2.blk (g := gf) (by repeat constructor)).four
  obtain ⟨⟨_, _, _, _⟩, ⟨_, _, _, _⟩, _⟩ := (K2.blk (g := gt) (by repeat constructor)).four
  obtain ⟨_, _, _, _, _, _, _, _, _, _, _, _, _, _, _, _⟩ := (K2.blk (g := w.heap.size) (by repeat constructor)).c16
  go_region_held3 (fun w' => w'.cell? ⟨gf, 0, none⟩ = some (.bool sf) ∧ w'.cell? ⟨gf, 1, none⟩ = some (.slice Af nf cf) ∧ w'.cell? ⟨gf, 2, none⟩ = some (.bool zf) ∧ w'.cell? ⟨gf, 3, none⟩ = some (.slice Bf mf df) ∧ w'.cell? ⟨gt, 0, none⟩ = some (.bool st) ∧ w'.cell? ⟨gt, 1, none⟩ = some (.slice At nt ct) ∧ w'.cell? ⟨gt, 2, none⟩ = some (.bool zt) ∧ w'.cell? ⟨gt, 3, none⟩ = some (.slice Bt mt dt) ∧ w'.cell? ⟨w.heap.size, 0, none⟩ = some (.bool sa) ∧ w'.cell? ⟨w.heap.size, 1, none⟩ = some (.slice Aa na ca) ∧ w'.cell? ⟨w.heap.size, 2, none⟩ = some (.bool za) ∧ w'.cell? ⟨w.heap.size, 3, none⟩ = some (.slice Ba ma da) ∧ w'.cell? ⟨w.heap.size, 4, none⟩ = some (.bool sb) ∧ w'.cell? ⟨w.heap.size, 5, none⟩ = some (.slice Ab nb cb) ∧ w'.cell? ⟨w.heap.size, 6, none⟩ = some (.bool zb) ∧ w'.cell? ⟨w.heap.size, 7, none⟩ = some (.slice Bb mb db) ∧ w'.cell? ⟨w.heap.size, 8, none⟩ = some (.bool sc) ∧ w'.cell? ⟨w.heap.size, 9, none⟩ = some (.slice Ac nc cc) ∧ w'.cell? ⟨w.heap.size, 10, none⟩ = some (.bool zc) ∧ w'.cell? ⟨w.heap.size, 11, none⟩ = some (.slice Bc mc dc) ∧ w'.cell? ⟨w.heap.size, 12, none⟩ = some (.bool sd) ∧ w'.cell? ⟨w.heap.size, 13, none⟩ = some (.slice Ad nd cd) ∧ w'.cell? ⟨w.heap.size, 14, none⟩ = some (.bool zd) ∧ w'.cell? ⟨w.heap.size, 15, none⟩ = some (.slice Bd md dd))
    (go_keep)
    (first
      | (go_at_call 230; apply Calls.withMm (w0 := w); (case K => with_reducible repeat (first | exact K2 | apply Mm.drew | apply Mm.drewN)); intro KX; (with_reducible refine (ref2_times_any st zt At Bt nt ct mt dt st zt At Bt nt ct mt dt (xa + xd) (xa + xd) ((xa + xd) * (xa + xd)) (2 * M + 1) (2 * M + 1) _ (KX.at_ (mE 2 rfl)) (KX.at_ (mE 3 rfl)) (KX.at_ (mE 2 rfl)) (KX.at_ (mE 3 rfl)) ST.out ST.out (by omega) (Lib.hid rfl)).mono ?_); rintro e14 w14 ⟨neg14, A14, n14, c14, ne14, B14, m14, d14, rfl, IHS14, JHS14, hb14⟩; (with_reducible have K14 := (((KX.next hb14).int JHS14).int IHS14)); obtain ⟨⟨_, _, _, _⟩, ⟨_, _, _, _⟩, _⟩ := (K14.blk (mE 0 rfl)).four; obtain ⟨⟨_, _, _, _⟩, ⟨_, _, _, _⟩, _⟩ := (K14.blk (mE 1 rfl)).four; obtain ⟨_, _, _, _, _, _, _, _, _, _, _, _, _, _, _, _⟩ := (K14.blk (mE 3 rfl)).c16; clear KX IHS14 JHS14 hb14)
      | (go_at_call 229; apply Calls.withMm (w0 := w); (case K => with_reducible repeat (first | exact K14 | apply Mm.drew | apply Mm.drewN)); intro KX; (with_reducible refine (ref2_minus_any sf zf Af Bf nf cf mf df neg14 ne14 A14 B14 n14 c14 m14 d14 (4 : Rat) ((xa + xd) * (xa + xd)) ((4 : Rat) - ((xa + xd) * (xa + xd))) (0 * M + 1) (4 * M + 2) _ (KX.at_ (mE 2 rfl)) (KX.at_ (mE 3 rfl)) (KX.at_ (mE 0 rfl)) (KX.at_ (mE 1 rfl)) S4.out HS14.out (by omega) (Lib.hid rfl)).mono ?_); rintro e15 w15 ⟨neg15, A15, n15, c15, ne15, B15, m15, d15, rfl, IHS15, JHS15, hb15⟩; (with_reducible have K15 := (((KX.next hb15).int JHS15).int IHS15)); obtain ⟨⟨_, _, _, _⟩, ⟨_, _, _, _⟩, _⟩ := (K15.blk (mE 0 rfl)).four; obtain ⟨⟨_, _, _, _⟩, ⟨_, _, _, _⟩, _⟩ := (K15.blk (mE 1 rfl)).four; obtain ⟨_, _, _, _, _, _, _, _, _, _, _, _, _, _, _, _⟩ := (K15.blk (mE 3 rfl)).c16; clear KX IHS15 JHS15 hb15)
      | (go_at_call 230; apply Calls.withMm (w0 := w); (case K => with_reducible repeat (first | exact K15 | apply Mm.drew | apply Mm.drewN)); intro KX; (with_reducible refine (ref2_times_any sc zc Ac Bc nc cc mc dc sc zc Ac Bc nc cc mc dc xc xc (xc * xc) M M _ (KX.at_ (mE 11 rfl)) (KX.at_ (mE 10 rfl)) (KX.at_ (mE 11 rfl)) (KX.at_ (mE 10 rfl)) Yc.out Yc.out (by omega) (Lib.hid rfl)).mono ?_); rintro e21 w21 ⟨neg21, A21, n21, c21, ne21, B21, m21, d21, rfl, IHS21, JHS21, hb21⟩; (with_reducible have K21 := (((KX.next hb21).int JHS21).int IHS21)); obtain ⟨⟨_, _, _, _⟩, ⟨_, _, _, _⟩, _⟩ := (K21.blk (mE 0 rfl)).four; obtain ⟨⟨_, _, _, _⟩, ⟨_, _, _, _⟩, _⟩ := (K21.blk (mE 1 rfl)).four; obtain ⟨_, _, _, _, _, _, _, _, _, _, _, _, _, _, _, _⟩ := (K21.blk (mE 3 rfl)).c16; clear KX IHS21 JHS21 hb21)
      | (go_at_call 230; apply Calls.withMm (w0 := w); (case K => with_reducible repeat (first | exact K21 | apply Mm.drew | apply Mm.drewN)); intro KX; (with_reducible refine (ref2_times_any sf zf Af Bf nf cf mf df neg21 ne21 A21 B21 n21 c21 m21 d21 (4 : Rat) (xc * xc) ((4 : Rat) * (xc * xc)) (0 * M + 1) (2 * M + 0) _ (KX.at_ (mE 6 rfl)) (KX.at_ (mE 7 rfl)) (KX.at_ (mE 0 rfl)) (KX.at_ (mE 1 rfl)) S4.out HS21.out (by omega) (Lib.hid rfl)).mono ?_); rintro e22 w22 ⟨neg22, A22, n22, c22, ne22, B22, m22, d22, rfl, IHS22, JHS22, hb22⟩; (with_reducible have K22 := (((KX.next hb22).int JHS22).int IHS22)); obtain ⟨⟨_, _, _, _⟩, ⟨_, _, _, _⟩, _⟩ := (K22.blk (mE 0 rfl)).four; obtain ⟨⟨_, _, _, _⟩, ⟨_, _, _, _⟩, _⟩ := (K22.blk (mE 1 rfl)).four; obtain ⟨_, _, _, _, _, _, _, _, _, _, _, _, _, _, _, _⟩ := (K22.blk (mE 3 rfl)).c16; clear KX IHS22 JHS22 hb22)
      | (go_at_call 228; apply Calls.withMm (w0 := w); (case K => with_reducible repeat (first | exact K22 | apply Mm.drew | apply Mm.drewN)); intro KX; (with_reducible refine (ref2_over_any neg15 ne15 A15 B15 n15 c15 m15 d15 neg22 ne22 A22 B22 n22 c22 m22 d22 ((4 : Rat) - ((xa + xd) * (xa + xd))) ((4 : Rat) * (xc * xc)) (((4 : Rat) - ((xa + xd) * (xa + xd))) / ((4 : Rat) * (xc * xc))) (4 * M + 4) (2 * M + 1) _ (KX.at_ (mE 4 rfl)) (KX.at_ (mE 5 rfl)) (KX.at_ (mE 0 rfl)) (KX.at_ (mE 1 rfl)) HS15.out HS22.out (by omega) HD.out (Lib.hid rfl)).mono ?_); rintro e23 w23 ⟨neg23, A23, n23, c23, ne23, B23, m23, d23, rfl, IHS23, JHS23, hb23⟩; (with_reducible have K23 := (((KX.next hb23).int JHS23).int IHS23)); obtain ⟨⟨_, _, _, _⟩, ⟨_, _, _, _⟩, _⟩ := (K23.blk (mE 0 rfl)).four; obtain ⟨⟨_, _, _, _⟩, ⟨_, _, _, _⟩, _⟩ := (K23.blk (mE 1 rfl)).four; obtain ⟨_, _, _, _, _, _, _, _, _, _, _, _, _, _, _, _⟩ := (K23.blk (mE 3 rfl)).c16; obtain ⟨⟨qa23r, qb23r, qc23r, qd23r⟩, ⟨_, _, _, _⟩, _⟩ := (K23.blk (mE 2 rfl)).four; clear KX IHS23 JHS23 hb23))
  all_goals
   go_wp2_with fail
   have KE := (K23.pick (L' := [(w.heap.size + 1, [.bool false, .slice none 0 0, .bool false, .slice none 0 0])]) (l' := [(neg23, A23, n23, c23, ((((4 : Rat) - ((xa + xd) * (xa + xd))) / ((4 : Rat) * (xc * xc))) : Rat).num), (ne23, B23, m23, d23, ((((((4 : Rat) - ((xa + xd) * (xa + xd))) / ((4 : Rat) * (xc * xc))) : Rat).den : Nat) : Int))]) (by simp) (by simp)).set4 (by simp <;> omega) neg23 A23 n23 c23 ne23 B23 m23 d23
   exact bodyPost_ret (v := .agg #[.bool neg23, .slice A23 n23 c23, .bool ne23, .slice B23 m23 d23]) (by simp [results, Tryz.results120, go_sem, qa23r, qb23r, qc23r, qd23r]) rfl ⟨_, _, _, _, _, _, _, _, rfl, KE.at_ (by simp), KE.at_ (by simp), KE.1⟩

/-- The answer of polestarref16.root. -/
def RetRF (W : World) (x y : Int) (b : Bool) (e : Ending) (w' : World) : Prop :=
 ∃ (s : Bool) (A : Option Addr) (n c : Nat) (z : Bool) (B : Option Addr) (m d : Nat), e = .returned (.tuple #[.agg #[.bool s, .slice A n c, .bool z, .slice B m d], .bool b]) ∧ IsInt w' s A n c x ∧ IsInt w' z B m d y ∧ Below W.heap.size W w'

set_option maxRecDepth 100000 in
set_option maxHeartbeats 6400000 in
theorem ref16_root_any (A : Option Addr) (n c : Nat) (B : Option Addr) (m d : Nat) (X D k1 k2 : Nat) (w : World) (ix : IsInt w false A n c (X : Int)) (jx : IsInt w false B m d (D : Int)) (hX : 0 < X) (hD : 0 < D) (hn : n ≤ 100000) (hm : m ≤ 100000) (h1 : IsRt X k1) (h2 : IsRt D k2) :
  Calls Tryz.prog 119 #[.agg #[.bool false, .slice A n c, .bool false, .slice B m d]] w (RetRF w (k1 : Int) (k2 : Int) (decide (k1 * k1 = X) && decide (k2 * k2 = D))) := by
 have K0 := ((((Mm.nil w).int jx).int ix).var (g := w.heap.size) rfl [.bool false, .slice A n c, .bool false, .slice B m d] 26).var (g := w.heap.size + 1) (by simp) [.bool false, .slice none 0 0, .bool false, .slice none 0 0] 26
 obtain ⟨b1, hb1⟩ : ∃ b, decide (k1 * k1 = X) = b := ⟨_, rfl⟩
 obtain ⟨b2, hb2⟩ : ∃ b, decide (k2 * k2 = D) = b := ⟨_, rfl⟩
 have B1 := Lib.hid hb1
 have B2 := Lib.hid hb2
 have H1 := Lib.hid h1
 have H2 := Lib.hid h2
 rw [hb1, hb2]
 clear hb1 hb2 h1 h2 ix jx
 have g01 : ¬ w.heap.size = w.heap.size + 1 := by omega
 have g10 : ¬ w.heap.size + 1 = w.heap.size := by omega
 go_enter Tryz.func119, Tryz.ntmps119
 go_upto_region 1 with (fail)
 generalize (w.alloc (.cells #[.bool false, .slice A n c, .bool false, .slice B m d] 26)).alloc (.cells #[.bool false, .slice none 0 0, .bool false, .slice none 0 0] 26) = w0 at K0 ⊢
 obtain ⟨⟨q0, q1, q2, q3⟩, _, _⟩ := (K0.blk (g := w.heap.size) (by repeat constructor)).four
 go_wp2_with fail
 refine (ref_root_big A n c X _ (K0.at_ (mE 0 rfl)) hX hn).mono ?_
 rintro e1 w1 ⟨sr, Ar, nr, cr, kr, rfl, I1, hk1, hb⟩
 obtain rfl : k1 = kr := rt_uniq H1.out hk1
 rw [B1.out]
 have K1 := ((K0.next hb).int I1).var (g := w1.heap.size) rfl [.bool sr, .slice Ar nr cr] 24
 have z1 : w.heap.size + 1 < w1.heap.size := ((K0.next hb).blk (mE 0 rfl)).1
 clear K0 hb I1 hk1 q0 q1 q2 q3
 go_upto_region 2 with (fail)
 generalize w1.heap.size = g4 at K1 z1 ⊢
 generalize w1.alloc (.cells #[.bool sr, .slice Ar nr cr] 24) = u1 at K1 ⊢
 obtain ⟨⟨q0, q1, q2, q3⟩, _, _⟩ := (K1.blk (g := w.heap.size) (by repeat constructor)).four
 go_wp2_with fail
 refine (ref_root_big B m d D _ (K1.at_ (mE 2 rfl)) hD hm).mono ?_
 rintro e2 w2 ⟨sq, Aq, nq, cq, kq, rfl, I2, hk2, hb⟩
 obtain rfl : k2 = kq := rt_uniq H2.out hk2
 rw [B2.out]
 have K2 := ((K1.next hb).int I2).var (g := w2.heap.size) rfl [.bool sq, .slice Aq nq cq] 24
 have z2 : g4 < w2.heap.size := ((K1.next hb).blk (mE 0 rfl)).1
 clear K1 hb I2 hk2 q0 q1 q2 q3
 go_upto_region 3 with (fail)
 generalize w2.heap.size = g6 at K2 z2 ⊢
 generalize w2.alloc (.cells #[.bool sq, .slice Aq nq cq] 24) = u2 at K2 ⊢
 obtain ⟨_, _, _, _, _⟩ := (K2.blk (mE 1 rfl)).two
 obtain ⟨_, _, _, _, _⟩ := (K2.blk (mE 0 rfl)).two
 obtain ⟨⟨f0, f1, f2, f3⟩, ⟨ff0, ff1, ff2, ff3⟩, _⟩ := (K2.blk (g := w.heap.size + 1) (by repeat constructor)).four
 have K9 := (K2.pick (L' := [(w.heap.size + 1, [.bool false, .slice none 0 0, .bool false, .slice none 0 0])]) (l' := [(sr, Ar, nr, cr, (k1 : Int)), (sq, Aq, nq, cq, (k2 : Int))]) (by simp) (by simp)).set4 (by simp) sr Ar nr cr sq Aq nq cq
 cases b1 with
 | false =>
  go_wp2_with fail
  exact bodyPost_ret (v := .tuple #[.agg #[.bool sr, .slice Ar nr cr, .bool sq, .slice Aq nq cq], .bool false]) (by simp [results, Tryz.results119, go_sem, f0, f1, f2, f3]) rfl ⟨_, _, _, _, _, _, _, _, rfl, K9.at_ (by simp), K9.at_ (by simp), K9.1⟩
 | true =>
  go_wp2_with fail
  exact bodyPost_ret (v := .tuple #[.agg #[.bool sr, .slice Ar nr cr, .bool sq, .slice Aq nq cq], .bool b2]) (by simp [results, Tryz.results119, go_sem, f0, f1, f2, f3]) rfl ⟨_, _, _, _, _, _, _, _, rfl, K9.at_ (by simp), K9.at_ (by simp), K9.1⟩
end Go.Proofs.YtgekmbfmfiikkaaGreatDoor
