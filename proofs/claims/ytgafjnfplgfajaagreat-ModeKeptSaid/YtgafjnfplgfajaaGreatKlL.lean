/-
  Are the twins of complex numbers and matrices as they were? (LeftGauss, LeftMatrix)
-/
import Derived.Test.YtgafjnfplgfajaaGreatExFe
import Derived.Test.YtgafjnfplgfajaaGreatMaP
import Derived.Test.YtgafjnfplgfajaaGreatLst
namespace Go.Proofs.YtgafjnfplgfajaaGreat
open Go.RowKit

set_option maxRecDepth 100000 in
set_option maxHeartbeats 6400000 in
theorem left_gauss_any (su : Bool) (Au : Option Addr) (nu cu : Nat) (lu : List Nat) (zu : Bool) (Bu : Option Addr) (mu du : Nat) (ku : List Nat) (sv : Bool) (Av : Option Addr) (nv cv : Nat) (lv : List Nat) (zv : Bool) (Bv : Option Addr) (mv dv : Nat) (kv : List Nat) (gu eu hu fu gv ev hv fv : Nat) (w : World) (Hu : LmE.at_ w ((su, Au, nu, cu, lu), (zu, Bu, mu, du, ku))) (Tu : Twl w gu nu eu lu) (Uu : Twl w hu mu fu ku) (Hv : LmE.at_ w ((sv, Av, nv, cv, lv), (zv, Bv, mv, dv, kv))) (Tv : Twl w gv nv ev lv) (Uv : Twl w hv mv fv kv) :
    Calls Tryz.prog 12 #[.agg #[.bool su, .slice (some ⟨gu, 0, none⟩) nu eu, .bool zu, .slice (some ⟨hu, 0, none⟩) mu fu, .bool sv, .slice (some ⟨gv, 0, none⟩) nv ev, .bool zv, .slice (some ⟨hv, 0, none⟩) mv fv], .agg #[.bool su, .slice Au nu cu, .bool zu, .slice Bu mu du, .bool sv, .slice Av nv cv, .bool zv, .slice Bv mv dv]] w (RetV w (.bool true)) := by
  have K0 := ((Mm.nil w).var (g := w.heap.size) rfl [.bool su, .slice (some ⟨gu, 0, none⟩) nu eu, .bool zu, .slice (some ⟨hu, 0, none⟩) mu fu, .bool sv, .slice (some ⟨gv, 0, none⟩) nv ev, .bool zv, .slice (some ⟨hv, 0, none⟩) mv fv] 30).var (g := w.heap.size + 1) (by simp) [.bool su, .slice Au nu cu, .bool zu, .slice Bu mu du, .bool sv, .slice Av nv cv, .bool zv, .slice Bv mv dv] 30
  have Hu0 := LmE.at_.below Hu K0.1
  have Tu0 := Twl.below Tu K0.1
  have Uu0 := Twl.below Uu K0.1
  have Hv0 := LmE.at_.below Hv K0.1
  have Tv0 := Twl.below Tv K0.1
  have Uv0 := Twl.below Uv K0.1
  clear Hu Tu Uu Hv Tv Uv
  go_enter Tryz.func12, Tryz.ntmps12
  go_wp2_with fail
  refine (left_frac_any su zu Au Bu nu cu mu du gu eu hu fu lu ku _ Hu0.1 Hu0.2.1 Tu0 Uu0 Hu0.2.2.1 Hu0.2.2.2).mono ?_
  rintro e1 w1 ⟨rfl, hB1⟩
  have K1 := K0.next hB1
  have Hv1 := LmE.at_.below Hv0 hB1
  have Tv1 := Twl.below Tv0 hB1
  have Uv1 := Twl.below Uv0 hB1
  obtain ⟨q0_1x, q1_1x, q2_1x, q3_1x, q4_1x, q5_1x, q6_1x, q7_1x⟩ := (K1.blk (g := w.heap.size) (vs := [.bool su, .slice (some ⟨gu, 0, none⟩) nu eu, .bool zu, .slice (some ⟨hu, 0, none⟩) mu fu, .bool sv, .slice (some ⟨gv, 0, none⟩) nv ev, .bool zv, .slice (some ⟨hv, 0, none⟩) mv fv]) (List.mem_of_getElem? (i := 1) rfl)).c8
  obtain ⟨q0_1y, q1_1y, q2_1y, q3_1y, q4_1y, q5_1y, q6_1y, q7_1y⟩ := (K1.blk (g := w.heap.size + 1) (vs := [.bool su, .slice Au nu cu, .bool zu, .slice Bu mu du, .bool sv, .slice Av nv cv, .bool zv, .slice Bv mv dv]) (List.mem_of_getElem? (i := 0) rfl)).c8
  clear hB1 K0
  go_wp2_with fail
  refine (left_frac_any sv zv Av Bv nv cv mv dv gv ev hv fv lv kv _ Hv1.1 Hv1.2.1 Tv1 Uv1 Hv1.2.2.1 Hv1.2.2.2).mono ?_
  rintro e2 w2 ⟨rfl, hB2⟩
  have K2 := K1.next hB2
  obtain ⟨q0_2x, q1_2x, q2_2x, q3_2x, q4_2x, q5_2x, q6_2x, q7_2x⟩ := (K2.blk (g := w.heap.size) (vs := [.bool su, .slice (some ⟨gu, 0, none⟩) nu eu, .bool zu, .slice (some ⟨hu, 0, none⟩) mu fu, .bool sv, .slice (some ⟨gv, 0, none⟩) nv ev, .bool zv, .slice (some ⟨hv, 0, none⟩) mv fv]) (List.mem_of_getElem? (i := 1) rfl)).c8
  obtain ⟨q0_2y, q1_2y, q2_2y, q3_2y, q4_2y, q5_2y, q6_2y, q7_2y⟩ := (K2.blk (g := w.heap.size + 1) (vs := [.bool su, .slice Au nu cu, .bool zu, .slice Bu mu du, .bool sv, .slice Av nv cv, .bool zv, .slice Bv mv dv]) (List.mem_of_getElem? (i := 0) rfl)).c8
  clear hB2 K1
  go_wp2_with fail
  go_ret
  exact ⟨rfl, K2.1⟩

set_option maxRecDepth 100000 in
set_option maxHeartbeats 6400000 in
theorem left_matrix_any (sa : Bool) (Aa : Option Addr) (na ca : Nat) (la : List Nat) (za : Bool) (Ba : Option Addr) (ma da : Nat) (ka : List Nat) (sb : Bool) (Ab : Option Addr) (nb cb : Nat) (lb : List Nat) (zb : Bool) (Bb : Option Addr) (mb db : Nat) (kb : List Nat) (sc : Bool) (Ac : Option Addr) (nc cc : Nat) (lc : List Nat) (zc : Bool) (Bc : Option Addr) (mc dc : Nat) (kc : List Nat) (sd : Bool) (Ad : Option Addr) (nd cd : Nat) (ld : List Nat) (zd : Bool) (Bd : Option Addr) (md dd : Nat) (kd : List Nat) (ga ea ha fa gb eb hb fb gc ec hc fc gd ed hd fd : Nat) (w : World) (Ha : LmE.at_ w ((sa, Aa, na, ca, la), (za, Ba, ma, da, ka))) (Ta : Twl w ga na ea la) (Ua : Twl w ha ma fa ka) (Hb : LmE.at_ w ((sb, Ab, nb, cb, lb), (zb, Bb, mb, db, kb))) (Tb : Twl w gb nb eb lb) (Ub : Twl w hb mb fb kb) (Hc : LmE.at_ w ((sc, Ac, nc, cc, lc), (zc, Bc, mc, dc, kc))) (Tc : Twl w gc nc ec lc) (Uc : Twl w hc mc fc kc) (Hd : LmE.at_ w ((sd, Ad, nd, cd, ld), (zd, Bd, md, dd, kd))) (Td : Twl w gd nd ed ld) (Ud : Twl w hd md fd kd) :
    Calls Tryz.prog 11 #[.agg #[.bool sa, .slice (some ⟨ga, 0, none⟩) na ea, .bool za, .slice (some ⟨ha, 0, none⟩) ma fa, .bool sb, .slice (some ⟨gb, 0, none⟩) nb eb, .bool zb, .slice (some ⟨hb, 0, none⟩) mb fb, .bool sc, .slice (some ⟨gc, 0, none⟩) nc ec, .bool zc, .slice (some ⟨hc, 0, none⟩) mc fc, .bool sd, .slice (some ⟨gd, 0, none⟩) nd ed, .bool zd, .slice (some ⟨hd, 0, none⟩) md fd], .agg #[.bool sa, .slice Aa na ca, .bool za, .slice Ba ma da, .bool sb, .slice Ab nb cb, .bool zb, .slice Bb mb db, .bool sc, .slice Ac nc cc, .bool zc, .slice Bc mc dc, .bool sd, .slice Ad nd cd, .bool zd, .slice Bd md dd]] w (RetV w (.bool true)) := by
  have K0 := ((Mm.nil w).var (g := w.heap.size) rfl [.bool sa, .slice (some ⟨ga, 0, none⟩) na ea, .bool za, .slice (some ⟨ha, 0, none⟩) ma fa, .bool sb, .slice (some ⟨gb, 0, none⟩) nb eb, .bool zb, .slice (some ⟨hb, 0, none⟩) mb fb, .bool sc, .slice (some ⟨gc, 0, none⟩) nc ec, .bool zc, .slice (some ⟨hc, 0, none⟩) mc fc, .bool sd, .slice (some ⟨gd, 0, none⟩) nd ed, .bool zd, .slice (some ⟨hd, 0, none⟩) md fd] 28).var (g := w.heap.size + 1) (by simp) [.bool sa, .slice Aa na ca, .bool za, .slice Ba ma da, .bool sb, .slice Ab nb cb, .bool zb, .slice Bb mb db, .bool sc, .slice Ac nc cc, .bool zc, .slice Bc mc dc, .bool sd, .slice Ad nd cd, .bool zd, .slice Bd md dd] 28
  have Ha0 := LmE.at_.below Ha K0.1
  have Ta0 := Twl.below Ta K0.1
  have Ua0 := Twl.below Ua K0.1
  have Hb0 := LmE.at_.below Hb K0.1
  have Tb0 := Twl.below Tb K0.1
  have Ub0 := Twl.below Ub K0.1
  have Hc0 := LmE.at_.below Hc K0.1
  have Tc0 := Twl.below Tc K0.1
  have Uc0 := Twl.below Uc K0.1
  have Hd0 := LmE.at_.below Hd K0.1
  have Td0 := Twl.below Td K0.1
  have Ud0 := Twl.below Ud K0.1
  clear Ha Ta Ua Hb Tb Ub Hc Tc Uc Hd Td Ud
  go_enter Tryz.func11, Tryz.ntmps11
  go_wp2_with fail
  refine (left_frac_any sa za Aa Ba na ca ma da ga ea ha fa la ka _ Ha0.1 Ha0.2.1 Ta0 Ua0 Ha0.2.2.1 Ha0.2.2.2).mono ?_
  rintro e1 w1 ⟨rfl, hB1⟩
  have K1 := K0.next hB1
  have Hb1 := LmE.at_.below Hb0 hB1
  have Tb1 := Twl.below Tb0 hB1
  have Ub1 := Twl.below Ub0 hB1
  have Hc1 := LmE.at_.below Hc0 hB1
  have Tc1 := Twl.below Tc0 hB1
  have Uc1 := Twl.below Uc0 hB1
  have Hd1 := LmE.at_.below Hd0 hB1
  have Td1 := Twl.below Td0 hB1
  have Ud1 := Twl.below Ud0 hB1
  obtain ⟨q0_1x, q1_1x, q2_1x, q3_1x, q4_1x, q5_1x, q6_1x, q7_1x, q8_1x, q9_1x, q10_1x, q11_1x, q12_1x, q13_1x, q14_1x, q15_1x⟩ := (K1.blk (g := w.heap.size) (vs := [.bool sa, .slice (some ⟨ga, 0, none⟩) na ea, .bool za, .slice (some ⟨ha, 0, none⟩) ma fa, .bool sb, .slice (some ⟨gb, 0, none⟩) nb eb, .bool zb, .slice (some ⟨hb, 0, none⟩) mb fb, .bool sc, .slice (some ⟨gc, 0, none⟩) nc ec, .bool zc, .slice (some ⟨hc, 0, none⟩) mc fc, .bool sd, .slice (some ⟨gd, 0, none⟩) nd ed, .bool zd, .slice (some ⟨hd, 0, none⟩) md fd]) (List.mem_of_getElem? (i := 1) rfl)).c16
  obtain ⟨q0_1y, q1_1y, q2_1y, q3_1y, q4_1y, q5_1y, q6_1y, q7_1y, q8_1y, q9_1y, q10_1y, q11_1y, q12_1y, q13_1y, q14_1y, q15_1y⟩ := (K1.blk (g := w.heap.size + 1) (vs := [.bool sa, .slice Aa na ca, .bool za, .slice Ba ma da, .bool sb, .slice Ab nb cb, .bool zb, .slice Bb mb db, .bool sc, .slice Ac nc cc, .bool zc, .slice Bc mc dc, .bool sd, .slice Ad nd cd, .bool zd, .slice Bd md dd]) (List.mem_of_getElem? (i := 0) rfl)).c16
  clear hB1 K0
  go_wp2_with fail
  refine (left_frac_any sb zb Ab Bb nb cb mb db gb eb hb fb lb kb _ Hb1.1 Hb1.2.1 Tb1 Ub1 Hb1.2.2.1 Hb1.2.2.2).mono ?_
  rintro e2 w2 ⟨rfl, hB2⟩
  have K2 := K1.next hB2
  have Hc2 := LmE.at_.below Hc1 hB2
  have Tc2 := Twl.below Tc1 hB2
  have Uc2 := Twl.below Uc1 hB2
  have Hd2 := LmE.at_.below Hd1 hB2
  have Td2 := Twl.below Td1 hB2
  have Ud2 := Twl.below Ud1 hB2
  obtain ⟨q0_2x, q1_2x, q2_2x, q3_2x, q4_2x, q5_2x, q6_2x, q7_2x, q8_2x, q9_2x, q10_2x, q11_2x, q12_2x, q13_2x, q14_2x, q15_2x⟩ := (K2.blk (g := w.heap.size) (vs := [.bool sa, .slice (some ⟨ga, 0, none⟩) na ea, .bool za, .slice (some ⟨ha, 0, none⟩) ma fa, .bool sb, .slice (some ⟨gb, 0, none⟩) nb eb, .bool zb, .slice (some ⟨hb, 0, none⟩) mb fb, .bool sc, .slice (some ⟨gc, 0, none⟩) nc ec, .bool zc, .slice (some ⟨hc, 0, none⟩) mc fc, .bool sd, .slice (some ⟨gd, 0, none⟩) nd ed, .bool zd, .slice (some ⟨hd, 0, none⟩) md fd]) (List.mem_of_getElem? (i := 1) rfl)).c16
  obtain ⟨q0_2y, q1_2y, q2_2y, q3_2y, q4_2y, q5_2y, q6_2y, q7_2y, q8_2y, q9_2y, q10_2y, q11_2y, q12_2y, q13_2y, q14_2y, q15_2y⟩ := (K2.blk (g := w.heap.size + 1) (vs := [.bool sa, .slice Aa na ca, .bool za, .slice Ba ma da, .bool sb, .slice Ab nb cb, .bool zb, .slice Bb mb db, .bool sc, .slice Ac nc cc, .bool zc, .slice Bc mc dc, .bool sd, .slice Ad nd cd, .bool zd, .slice Bd md dd]) (List.mem_of_getElem? (i := 0) rfl)).c16
  clear hB2 K1
  go_wp2_with fail
  refine (left_frac_any sc zc Ac Bc nc cc mc dc gc ec hc fc lc kc _ Hc2.1 Hc2.2.1 Tc2 Uc2 Hc2.2.2.1 Hc2.2.2.2).mono ?_
  rintro e3 w3 ⟨rfl, hB3⟩
  have K3 := K2.next hB3
  have Hd3 := LmE.at_.below Hd2 hB3
  have Td3 := Twl.below Td2 hB3
  have Ud3 := Twl.below Ud2 hB3
  obtain ⟨q0_3x, q1_3x, q2_3x, q3_3x, q4_3x, q5_3x, q6_3x, q7_3x, q8_3x, q9_3x, q10_3x, q11_3x, q12_3x, q13_3x, q14_3x, q15_3x⟩ := (K3.blk (g := w.heap.size) (vs := [.bool sa, .slice (some ⟨ga, 0, none⟩) na ea, .bool za, .slice (some ⟨ha, 0, none⟩) ma fa, .bool sb, .slice (some ⟨gb, 0, none⟩) nb eb, .bool zb, .slice (some ⟨hb, 0, none⟩) mb fb, .bool sc, .slice (some ⟨gc, 0, none⟩) nc ec, .bool zc, .slice (some ⟨hc, 0, none⟩) mc fc, .bool sd, .slice (some ⟨gd, 0, none⟩) nd ed, .bool zd, .slice (some ⟨hd, 0, none⟩) md fd]) (List.mem_of_getElem? (i := 1) rfl)).c16
  obtain ⟨q0_3y, q1_3y, q2_3y, q3_3y, q4_3y, q5_3y, q6_3y, q7_3y, q8_3y, q9_3y, q10_3y, q11_3y, q12_3y, q13_3y, q14_3y, q15_3y⟩ := (K3.blk (g := w.heap.size + 1) (vs := [.bool sa, .slice Aa na ca, .bool za, .slice Ba ma da, .bool sb, .slice Ab nb cb, .bool zb, .slice Bb mb db, .bool sc, .slice Ac nc cc, .bool zc, .slice Bc mc dc, .bool sd, .slice Ad nd cd, .bool zd, .slice Bd md dd]) (List.mem_of_getElem? (i := 0) rfl)).c16
  clear hB3 K2
  go_wp2_with fail
  refine (left_frac_any sd zd Ad Bd nd cd md dd gd ed hd fd ld kd _ Hd3.1 Hd3.2.1 Td3 Ud3 Hd3.2.2.1 Hd3.2.2.2).mono ?_
  rintro e4 w4 ⟨rfl, hB4⟩
  have K4 := K3.next hB4
  obtain ⟨q0_4x, q1_4x, q2_4x, q3_4x, q4_4x, q5_4x, q6_4x, q7_4x, q8_4x, q9_4x, q10_4x, q11_4x, q12_4x, q13_4x, q14_4x, q15_4x⟩ := (K4.blk (g := w.heap.size) (vs := [.bool sa, .slice (some ⟨ga, 0, none⟩) na ea, .bool za, .slice (some ⟨ha, 0, none⟩) ma fa, .bool sb, .slice (some ⟨gb, 0, none⟩) nb eb, .bool zb, .slice (some ⟨hb, 0, none⟩) mb fb, .bool sc, .slice (some ⟨gc, 0, none⟩) nc ec, .bool zc, .slice (some ⟨hc, 0, none⟩) mc fc, .bool sd, .slice (some ⟨gd, 0, none⟩) nd ed, .bool zd, .slice (some ⟨hd, 0, none⟩) md fd]) (List.mem_of_getElem? (i := 1) rfl)).c16
  obtain ⟨q0_4y, q1_4y, q2_4y, q3_4y, q4_4y, q5_4y, q6_4y, q7_4y, q8_4y, q9_4y, q10_4y, q11_4y, q12_4y, q13_4y, q14_4y, q15_4y⟩ := (K4.blk (g := w.heap.size + 1) (vs := [.bool sa, .slice Aa na ca, .bool za, .slice Ba ma da, .bool sb, .slice Ab nb cb, .bool zb, .slice Bb mb db, .bool sc, .slice Ac nc cc, .bool zc, .slice Bc mc dc, .bool sd, .slice Ad nd cd, .bool zd, .slice Bd md dd]) (List.mem_of_getElem? (i := 0) rfl)).c16
  clear hB4 K3
  go_wp2_with fail
  go_ret
  exact ⟨rfl, K4.1⟩
end Go.Proofs.YtgafjnfplgfajaaGreat
