/-
  What the reference compares a cavity with (polestarref09.One, polestarref12.minus, alike).
-/
import Derived.Test.YtgekmbfmfiikkaaGreatDoorMdC
import Derived.Test.YtgekmbfmfiikkaaGreatDoorFrame2
namespace Go.Proofs.YtgekmbfmfiikkaaGreatDoor
open Go.RowKit

/-- The answer of a function that makes a matrix. -/
def RetMa (W : World) (x y z u : Rat) (e : Ending) (w' : World) : Prop :=
 ∃ (s0 : Bool) (A0 : Option Addr) (n0 c0 : Nat) (z0 : Bool) (B0 : Option Addr) (m0 d0 : Nat) (s1 : Bool) (A1 : Option Addr) (n1 c1 : Nat) (z1 : Bool) (B1 : Option Addr) (m1 d1 : Nat) (s2 : Bool) (A2 : Option Addr) (n2 c2 : Nat) (z2 : Bool) (B2 : Option Addr) (m2 d2 : Nat) (s3 : Bool) (A3 : Option Addr) (n3 c3 : Nat) (z3 : Bool) (B3 : Option Addr) (m3 d3 : Nat), e = .returned (.agg #[.bool s0, .slice A0 n0 c0, .bool z0, .slice B0 m0 d0, .bool s1, .slice A1 n1 c1, .bool z1, .slice B1 m1 d1, .bool s2, .slice A2 n2 c2, .bool z2, .slice B2 m2 d2, .bool s3, .slice A3 n3 c3, .bool z3, .slice B3 m3 d3]) ∧
  IsInt w' s0 A0 n0 c0 x.num ∧ IsInt w' z0 B0 m0 d0 (x.den : Int) ∧ IsInt w' s1 A1 n1 c1 y.num ∧ IsInt w' z1 B1 m1 d1 (y.den : Int) ∧ IsInt w' s2 A2 n2 c2 z.num ∧ IsInt w' z2 B2 m2 d2 (z.den : Int) ∧ IsInt w' s3 A3 n3 c3 u.num ∧ IsInt w' z3 B3 m3 d3 (u.den : Int) ∧ Below W.heap.size W w'

set_option maxRecDepth 100000 in
set_option maxHeartbeats 6400000 in
theorem ref9_one_any (w : World) : Calls Tryz.prog 240 #[] w (RetMa w 1 0 0 1) := by
 have K0 := (Mm.nil w).var (g := w.heap.size) rfl [.bool false, .slice none 0 0, .bool false, .slice none 0 0, .bool false, .slice none 0 0, .bool false, .slice none 0 0, .bool false, .slice none 0 0, .bool false, .slice none 0 0, .bool false, .slice none 0 0, .bool false, .slice none 0 0] 28
 go_enter Tryz.func240, Tryz.ntmps240
 go_upto_region 1 with (fail)
 generalize w.alloc (.cells #[.bool false, .slice none 0 0, .bool false, .slice none 0 0, .bool false, .slice none 0 0, .bool false, .slice none 0 0, .bool false, .slice none 0 0, .bool false, .slice none 0 0, .bool false, .slice none 0 0, .bool false, .slice none 0 0] 28) = w0 at K0 ⊢
 go_wp2_with fail
 refine (ref2_one_any _).mono ?_
 rintro e0 w1 ⟨s0, A0, n0, c0, z0, B0, m0, d0, rfl, I, J, hb⟩
 have K1 := ((K0.next hb).int J).int I
 clear K0 hb I J
 go_wp2_with fail
 refine (ref2_nou_any _).mono ?_
 rintro e1 w2 ⟨s1, A1, n1, c1, z1, B1, m1, d1, rfl, I, J, hb⟩
 have K2 := ((K1.next hb).int J).int I
 clear K1 hb I J
 go_wp2_with fail
 refine (ref2_nou_any _).mono ?_
 rintro e2 w3 ⟨s2, A2, n2, c2, z2, B2, m2, d2, rfl, I, J, hb⟩
 have K3 := ((K2.next hb).int J).int I
 clear K2 hb I J
 go_wp2_with fail
 refine (ref2_one_any _).mono ?_
 rintro e3 w4 ⟨s3, A3, n3, c3, z3, B3, m3, d3, rfl, I, J, hb⟩
 have K4 := ((K3.next hb).int J).int I
 clear K3 hb I J
 obtain ⟨q0_r, q1_r, q2_r, q3_r, q4_r, q5_r, q6_r, q7_r, q8_r, q9_r, q10_r, q11_r, q12_r, q13_r, q14_r, q15_r⟩ := (K4.blk (g := w.heap.size) (by repeat constructor)).c16; obtain ⟨_, _, _, _, _, _, _, _, _, _, _, _, _, _, _, _, rz_r⟩ := (K4.blk (g := w.heap.size) (by repeat constructor)).f16
 go_wp2_with fail
 have KE := (K4.pick (L' := [(w.heap.size, [.bool false, .slice none 0 0, .bool false, .slice none 0 0, .bool false, .slice none 0 0, .bool false, .slice none 0 0, .bool false, .slice none 0 0, .bool false, .slice none 0 0, .bool false, .slice none 0 0, .bool false, .slice none 0 0])]) (l' := [(s0, A0, n0, c0, (1 : Rat).num), (z0, B0, m0, d0, (((1 : Rat).den : Nat) : Int)), (s1, A1, n1, c1, (0 : Rat).num), (z1, B1, m1, d1, (((0 : Rat).den : Nat) : Int)), (s2, A2, n2, c2, (0 : Rat).num), (z2, B2, m2, d2, (((0 : Rat).den : Nat) : Int)), (s3, A3, n3, c3, (1 : Rat).num), (z3, B3, m3, d3, (((1 : Rat).den : Nat) : Int))]) (by simp) (by simp)).set16 (by simp) s0 A0 n0 c0 z0 B0 m0 d0 s1 A1 n1 c1 z1 B1 m1 d1 s2 A2 n2 c2 z2 B2 m2 d2 s3 A3 n3 c3 z3 B3 m3 d3
 exact bodyPost_ret (v := .agg #[.bool s0, .slice A0 n0 c0, .bool z0, .slice B0 m0 d0, .bool s1, .slice A1 n1 c1, .bool z1, .slice B1 m1 d1, .bool s2, .slice A2 n2 c2, .bool z2, .slice B2 m2 d2, .bool s3, .slice A3 n3 c3, .bool z3, .slice B3 m3 d3]) (by simp [results, Tryz.results240, go_sem, q0_r, q1_r, q2_r, q3_r, q4_r, q5_r, q6_r, q7_r, q8_r, q9_r, q10_r, q11_r, q12_r, q13_r, q14_r, q15_r]) rfl ⟨_, _, _, _, _, _, _, _, _, _, _, _, _, _, _, _, _, _, _, _, _, _, _, _, _, _, _, _, _, _, _, _, rfl, KE.at_ (by simp), KE.at_ (by simp), KE.at_ (by simp), KE.at_ (by simp), KE.at_ (by simp), KE.at_ (by simp), KE.at_ (by simp), KE.at_ (by simp), KE.1⟩

set_option maxRecDepth 100000 in
set_option maxHeartbeats 6400000 in
theorem ref12_minus_any (w : World) : Calls Tryz.prog 282 #[] w (RetMa w (-1) 0 0 (-1)) := by
 have K0 := (Mm.nil w).var (g := w.heap.size) rfl [.bool false, .slice none 0 0, .bool false, .slice none 0 0, .bool false, .slice none 0 0, .bool false, .slice none 0 0, .bool false, .slice none 0 0, .bool false, .slice none 0 0, .bool false, .slice none 0 0, .bool false, .slice none 0 0] 28
 go_enter Tryz.func282, Tryz.ntmps282
 go_upto_region 1 with (fail)
 generalize w.alloc (.cells #[.bool false, .slice none 0 0, .bool false, .slice none 0 0, .bool false, .slice none 0 0, .bool false, .slice none 0 0, .bool false, .slice none 0 0, .bool false, .slice none 0 0, .bool false, .slice none 0 0, .bool false, .slice none 0 0] 28) = w0 at K0 ⊢
 go_wp2_with fail
 refine (ref2_small_any (-1) 1 (-1) _ (by decide) (by decide) (by decide) (Lib.hid (by decide +kernel))).mono ?_
 rintro e0 w1 ⟨s0, A0, n0, c0, z0, B0, m0, d0, rfl, I, J, hb⟩
 have K1 := ((K0.next hb).int J).int I
 clear K0 hb I J
 go_wp2_with fail
 refine (ref2_nou_any _).mono ?_
 rintro e1 w2 ⟨s1, A1, n1, c1, z1, B1, m1, d1, rfl, I, J, hb⟩
 have K2 := ((K1.next hb).int J).int I
 clear K1 hb I J
 go_wp2_with fail
 refine (ref2_nou_any _).mono ?_
 rintro e2 w3 ⟨s2, A2, n2, c2, z2, B2, m2, d2, rfl, I, J, hb⟩
 have K3 := ((K2.next hb).int J).int I
 clear K2 hb I J
 go_wp2_with fail
 refine (ref2_small_any (-1) 1 (-1) _ (by decide) (by decide) (by decide) (Lib.hid (by decide +kernel))).mono ?_
 rintro e3 w4 ⟨s3, A3, n3, c3, z3, B3, m3, d3, rfl, I, J, hb⟩
 have K4 := ((K3.next hb).int J).int I
 clear K3 hb I J
 obtain ⟨q0_r, q1_r, q2_r, q3_r, q4_r, q5_r, q6_r, q7_r, q8_r, q9_r, q10_r, q11_r, q12_r, q13_r, q14_r, q15_r⟩ := (K4.blk (g := w.heap.size) (by repeat constructor)).c16; obtain ⟨_, _, _, _, _, _, _, _, _, _, _, _, _, _, _, _, rz_r⟩ := (K4.blk (g := w.heap.size) (by repeat constructor)).f16
 go_wp2_with fail
 have KE := (K4.pick (L' := [(w.heap.size, [.bool false, .slice none 0 0, .bool false, .slice none 0 0, .bool false, .slice none 0 0, .bool false, .slice none 0 0, .bool false, .slice none 0 0, .bool false, .slice none 0 0, .bool false, .slice none 0 0, .bool false, .slice none 0 0])]) (l' := [(s0, A0, n0, c0, ((-1) : Rat).num), (z0, B0, m0, d0, ((((-1) : Rat).den : Nat) : Int)), (s1, A1, n1, c1, (0 : Rat).num), (z1, B1, m1, d1, (((0 : Rat).den : Nat) : Int)), (s2, A2, n2, c2, (0 : Rat).num), (z2, B2, m2, d2, (((0 : Rat).den : Nat) : Int)), (s3, A3, n3, c3, ((-1) : Rat).num), (z3, B3, m3, d3, ((((-1) : Rat).den : Nat) : Int))]) (by simp) (by simp)).set16 (by simp) s0 A0 n0 c0 z0 B0 m0 d0 s1 A1 n1 c1 z1 B1 m1 d1 s2 A2 n2 c2 z2 B2 m2 d2 s3 A3 n3 c3 z3 B3 m3 d3
 exact bodyPost_ret (v := .agg #[.bool s0, .slice A0 n0 c0, .bool z0, .slice B0 m0 d0, .bool s1, .slice A1 n1 c1, .bool z1, .slice B1 m1 d1, .bool s2, .slice A2 n2 c2, .bool z2, .slice B2 m2 d2, .bool s3, .slice A3 n3 c3, .bool z3, .slice B3 m3 d3]) (by simp [results, Tryz.results282, go_sem, q0_r, q1_r, q2_r, q3_r, q4_r, q5_r, q6_r, q7_r, q8_r, q9_r, q10_r, q11_r, q12_r, q13_r, q14_r, q15_r]) rfl ⟨_, _, _, _, _, _, _, _, _, _, _, _, _, _, _, _, _, _, _, _, _, _, _, _, _, _, _, _, _, _, _, _, rfl, KE.at_ (by simp), KE.at_ (by simp), KE.at_ (by simp), KE.at_ (by simp), KE.at_ (by simp), KE.at_ (by simp), KE.at_ (by simp), KE.at_ (by simp), KE.1⟩

set_option maxRecDepth 100000 in
set_option maxHeartbeats 6400000 in
theorem alike_any (sa za : Bool) (Aa Ba : Option Addr) (na ca ma da : Nat) (xa : Rat) (sb zb : Bool) (Ab Bb : Option Addr) (nb cb mb db : Nat) (xb : Rat) (sc zc : Bool) (Ac Bc : Option Addr) (nc cc mc dc : Nat) (xc : Rat) (sd zd : Bool) (Ad Bd : Option Addr) (nd cd md dd : Nat) (xd : Rat) (se ze : Bool) (Ae Be : Option Addr) (ne ce me de : Nat) (xe : Rat) (sg zg : Bool) (Ag Bg : Option Addr) (ng cg mg dg : Nat) (xg : Rat) (sh zh : Bool) (Ah Bh : Option Addr) (nh ch mh dh : Nat) (xh : Rat) (sj zj : Bool) (Aj Bj : Option Addr) (nj cj mj dj : Nat) (xj : Rat) (M : Nat) (w : World) (ha : IsInt w sa Aa na ca xa.num) (ia : IsInt w za Ba ma da (xa.den : Int)) (ya : Sz xa M) (hb : IsInt w sb Ab nb cb xb.num) (ib : IsInt w zb Bb mb db (xb.den : Int)) (yb : Sz xb M) (hc : IsInt w sc Ac nc cc xc.num) (ic : IsInt w zc Bc mc dc (xc.den : Int)) (yc : Sz xc M) (hd : IsInt w sd Ad nd cd xd.num) (id : IsInt w zd Bd md dd (xd.den : Int)) (yd : Sz xd M) (he : IsInt w se Ae ne ce xe.num) (ie : IsInt w ze Be me de (xe.den : Int)) (ye : Sz xe M) (hg : IsInt w sg Ag ng cg xg.num) (ig : IsInt w zg Bg mg dg (xg.den : Int)) (yg : Sz xg M) (hh : IsInt w sh Ah nh ch xh.num) (ih : IsInt w zh Bh mh dh (xh.den : Int)) (yh : Sz xh M) (hj : IsInt w sj Aj nj cj xj.num) (ij : IsInt w zj Bj mj dj (xj.den : Int)) (yj : Sz xj M) (hM : M ≤ 100000) :
  Calls Tryz.prog 281 #[.agg #[.bool sa, .slice Aa na ca, .bool za, .slice Ba ma da, .bool sb, .slice Ab nb cb, .bool zb, .slice Bb mb db, .bool sc, .slice Ac nc cc, .bool zc, .slice Bc mc dc, .bool sd, .slice Ad nd cd, .bool zd, .slice Bd md dd], .agg #[.bool se, .slice Ae ne ce, .bool ze, .slice Be me de, .bool sg, .slice Ag ng cg, .bool zg, .slice Bg mg dg, .bool sh, .slice Ah nh ch, .bool zh, .slice Bh mh dh, .bool sj, .slice Aj nj cj, .bool zj, .slice Bj mj dj]] w (RetV w (.bool (decide (xa = xe) && decide (xb = xg) && decide (xc = xh) && decide (xd = xj)))) := by
 have K0 := (((((((((((((((((((Mm.nil w).int ha).int ia).int hb).int ib).int hc).int ic).int hd).int id).int he).int ie).int hg).int ig).int hh).int ih).int hj).int ij).var (g := w.heap.size) rfl [.bool sa, .slice Aa na ca, .bool za, .slice Ba ma da, .bool sb, .slice Ab nb cb, .bool zb, .slice Bb mb db, .bool sc, .slice Ac nc cc, .bool zc, .slice Bc mc dc, .bool sd, .slice Ad nd cd, .bool zd, .slice Bd md dd] 28).var (g := w.heap.size + 1) (by simp) [.bool se, .slice Ae ne ce, .bool ze, .slice Be me de, .bool sg, .slice Ag ng cg, .bool zg, .slice Bg mg dg, .bool sh, .slice Ah nh ch, .bool zh, .slice Bh mh dh, .bool sj, .slice Aj nj cj, .bool zj, .slice Bj mj dj] 28)
 have Ya := Lib.hid ya
 have Yb := Lib.hid yb
 have Yc := Lib.hid yc
 have Yd := Lib.hid yd
 have Ye := Lib.hid ye
 have Yg := Lib.hid yg
 have Yh := Lib.hid yh
 have Yj := Lib.hid yj
 clear ha ia ya hb ib yb hc ic yc hd id yd he ie ye hg ig yg hh ih yh hj ij yj
 have ne01 : ¬ w.heap.size = w.heap.size + 1 := by omega
 have ne10 : ¬ w.heap.size + 1 = w.heap.size := by omega
 go_enter Tryz.func281, Tryz.ntmps281
 go_wp2_with fail
 generalize (w.alloc (.cells #[.bool sa, .slice Aa na ca, .bool za, .slice Ba ma da, .bool sb, .slice Ab nb cb, .bool zb, .slice Bb mb db, .bool sc, .slice Ac nc cc, .bool zc, .slice Bc mc dc, .bool sd, .slice Ad nd cd, .bool zd, .slice Bd md dd] 28)).alloc (.cells #[.bool se, .slice Ae ne ce, .bool ze, .slice Be me de, .bool sg, .slice Ag ng cg, .bool zg, .slice Bg mg dg, .bool sh, .slice Ah nh ch, .bool zh, .slice Bh mh dh, .bool sj, .slice Aj nj cj, .bool zj, .slice Bj mj dj] 28) = w0 at K0 ⊢
 obtain ⟨q0_0x, q1_0x, q2_0x, q3_0x, q4_0x, q5_0x, q6_0x, q7_0x, q8_0x, q9_0x, q10_0x, q11_0x, q12_0x, q13_0x, q14_0x, q15_0x⟩ := (K0.blk (g := w.heap.size) (by repeat constructor)).c16
 obtain ⟨q0_0y, q1_0y, q2_0y, q3_0y, q4_0y, q5_0y, q6_0y, q7_0y, q8_0y, q9_0y, q10_0y, q11_0y, q12_0y, q13_0y, q14_0y, q15_0y⟩ := (K0.blk (g := w.heap.size + 1) (by repeat constructor)).c16
 obtain ⟨b0, hb0⟩ : ∃ b, decide (xa = xe) = b := ⟨_, rfl⟩
 have HB0 := Lib.hid hb0
 obtain ⟨b1, hb1⟩ : ∃ b, decide (xb = xg) = b := ⟨_, rfl⟩
 have HB1 := Lib.hid hb1
 obtain ⟨b2, hb2⟩ : ∃ b, decide (xc = xh) = b := ⟨_, rfl⟩
 have HB2 := Lib.hid hb2
 obtain ⟨b3, hb3⟩ : ∃ b, decide (xd = xj) = b := ⟨_, rfl⟩
 have HB3 := Lib.hid hb3
 clear hb0 hb1 hb2 hb3
 go_wp2_with fail
 refine (ref2_same_any sa za Aa Ba na ca ma da se ze Ae Be ne ce me de xa xe b0 M M _ (K0.at_ (mE 15 rfl)) (K0.at_ (mE 14 rfl)) (K0.at_ (mE 7 rfl)) (K0.at_ (mE 6 rfl)) Ya.out Ye.out (by omega) HB0).mono ?_
 rintro e1 w1 ⟨rfl, hb⟩
 have K1 := K0.next hb
 clear K0 hb q0_0x q1_0x q2_0x q3_0x q4_0x q5_0x q6_0x q7_0x q8_0x q9_0x q10_0x q11_0x q12_0x q13_0x q14_0x q15_0x q0_0y q1_0y q2_0y q3_0y q4_0y q5_0y q6_0y q7_0y q8_0y q9_0y q10_0y q11_0y q12_0y q13_0y q14_0y q15_0y
 obtain ⟨q0_1x, q1_1x, q2_1x, q3_1x, q4_1x, q5_1x, q6_1x, q7_1x, q8_1x, q9_1x, q10_1x, q11_1x, q12_1x, q13_1x, q14_1x, q15_1x⟩ := (K1.blk (mE 1 rfl)).c16
 obtain ⟨q0_1y, q1_1y, q2_1y, q3_1y, q4_1y, q5_1y, q6_1y, q7_1y, q8_1y, q9_1y, q10_1y, q11_1y, q12_1y, q13_1y, q14_1y, q15_1y⟩ := (K1.blk (mE 0 rfl)).c16
 cases b0 with
 | false =>
  go_wp2_with fail
  go_ret
  exact ⟨by rw [HB0.out]; rfl, K1.1⟩
 | true =>
  go_wp2_with fail
  refine (ref2_same_any sb zb Ab Bb nb cb mb db sg zg Ag Bg ng cg mg dg xb xg b1 M M _ (K1.at_ (mE 13 rfl)) (K1.at_ (mE 12 rfl)) (K1.at_ (mE 5 rfl)) (K1.at_ (mE 4 rfl)) Yb.out Yg.out (by omega) HB1).mono ?_
  rintro e2 w2 ⟨rfl, hb⟩
  have K2 := K1.next hb
  clear K1 hb q0_1x q1_1x q2_1x q3_1x q4_1x q5_1x q6_1x q7_1x q8_1x q9_1x q10_1x q11_1x q12_1x q13_1x q14_1x q15_1x q0_1y q1_1y q2_1y q3_1y q4_1y q5_1y q6_1y q7_1y q8_1y q9_1y q10_1y q11_1y q12_1y q13_1y q14_1y q15_1y
  obtain ⟨q0_2x, q1_2x, q2_2x, q3_2x, q4_2x, q5_2x, q6_2x, q7_2x, q8_2x, q9_2x, q10_2x, q11_2x, q12_2x, q13_2x, q14_2x, q15_2x⟩ := (K2.blk (mE 1 rfl)).c16
  obtain ⟨q0_2y, q1_2y, q2_2y, q3_2y, q4_2y, q5_2y, q6_2y, q7_2y, q8_2y, q9_2y, q10_2y, q11_2y, q12_2y, q13_2y, q14_2y, q15_2y⟩ := (K2.blk (mE 0 rfl)).c16
  cases b1 with
  | false =>
   go_wp2_with fail
   go_ret
   exact ⟨by rw [HB0.out, HB1.out]; rfl, K2.1⟩
  | true =>
   go_wp2_with fail
   refine (ref2_same_any sc zc Ac Bc nc cc mc dc sh zh Ah Bh nh ch mh dh xc xh b2 M M _ (K2.at_ (mE 11 rfl)) (K2.at_ (mE 10 rfl)) (K2.at_ (mE 3 rfl)) (K2.at_ (mE 2 rfl)) Yc.out Yh.out (by omega) HB2).mono ?_
   rintro e3 w3 ⟨rfl, hb⟩
   have K3 := K2.next hb
   clear K2 hb q0_2x q1_2x q2_2x q3_2x q4_2x q5_2x q6_2x q7_2x q8_2x q9_2x q10_2x q11_2x q12_2x q13_2x q14_2x q15_2x q0_2y q1_2y q2_2y q3_2y q4_2y q5_2y q6_2y q7_2y q8_2y q9_2y q10_2y q11_2y q12_2y q13_2y q14_2y q15_2y
   obtain ⟨q0_3x, q1_3x, q2_3x, q3_3x, q4_3x, q5_3x, q6_3x, q7_3x, q8_3x, q9_3x, q10_3x, q11_3x, q12_3x, q13_3x, q14_3x, q15_3x⟩ := (K3.blk (mE 1 rfl)).c16
   obtain ⟨q0_3y, q1_3y, q2_3y, q3_3y, q4_3y, q5_3y, q6_3y, q7_3y, q8_3y, q9_3y, q10_3y, q11_3y, q12_3y, q13_3y, q14_3y, q15_3y⟩ := (K3.blk (mE 0 rfl)).c16
   cases b2 with
   | false =>
    go_wp2_with fail
    go_ret
    exact ⟨by rw [HB0.out, HB1.out, HB2.out]; rfl, K3.1⟩
   | true =>
    go_wp2_with fail
    refine (ref2_same_any sd zd Ad Bd nd cd md dd sj zj Aj Bj nj cj mj dj xd xj b3 M M _ (K3.at_ (mE 9 rfl)) (K3.at_ (mE 8 rfl)) (K3.at_ (mE 1 rfl)) (K3.at_ (mE 0 rfl)) Yd.out Yj.out (by omega) HB3).mono ?_
    rintro e4 w4 ⟨rfl, hb⟩
    have K4 := K3.next hb
    clear K3 hb q0_3x q1_3x q2_3x q3_3x q4_3x q5_3x q6_3x q7_3x q8_3x q9_3x q10_3x q11_3x q12_3x q13_3x q14_3x q15_3x q0_3y q1_3y q2_3y q3_3y q4_3y q5_3y q6_3y q7_3y q8_3y q9_3y q10_3y q11_3y q12_3y q13_3y q14_3y q15_3y
    go_wp2_with fail
    go_ret
    exact ⟨by rw [HB0.out, HB1.out, HB2.out, HB3.out]; rfl, K4.1⟩
end Go.Proofs.YtgekmbfmfiikkaaGreatDoor
