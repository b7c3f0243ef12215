/-
  RoundExact answers true.
-/
import Derived.Test.YtjcjphgpmpjmbaaDoorNeaW
import Derived.Test.YtjcjphgpmpjmbaaDoorAnQ
namespace Go.Proofs.YtjcjphgpmpjmbaaDoor
open Go.RowKit

set_option maxRecDepth 100000 in
set_option maxHeartbeats 25600000 in
theorem law_roundExact (a b : Nat) (w : World) (ha : a < 2 ^ 64) (hb : b < 2 ^ 64) (hT : Tab w) :
    Calls Tryd.prog 5 #[.float .f64 a, .float .f64 b] w (RetV w (.bool true)) := by
  have HT := Lib.hid hT
  clear hT
  go_enter Tryd.func5, Tryd.ntmps5
  go_wp2_with fail
  refine (law_worth w.heap.size 2 2 (fun i => if i = 0 then a else b) _ (by simp) (by decide) (by decide) (two_floats w a b 27 ha hb) (HT.out.box _)).mono ?_
  rintro e2 w2 (⟨hall, gr, cr, F, rfl, hcr, hF, hV, _, hb2⟩ | ⟨⟨j, hj, hno⟩, rfl, hb2⟩)
  · have HFA : Hid (Flt.Fin a) := Lib.hid (hall 0 (by decide))
    have HFB : Hid (Flt.Fin b) := Lib.hid (hall 1 (by decide))
    have HVV := Lib.hid hV
    have hB := below_box hb2
    clear hall hV hb2
    have HS1 : Hid (Sz (fr a + fr b) 2048) := Lib.hid (((fr_sz HFA.out).add (fr_sz HFB.out)).mono (by decide))
    have HS2 : Hid (Sz (fr a - fr b) 2048) := Lib.hid (((fr_sz HFA.out).sub (fr_sz HFB.out)).mono (by decide))
    have HS3 : Hid (Sz (fr a * fr b) 2048) := Lib.hid (((fr_sz HFA.out).mul (fr_sz HFB.out)).mono (by decide))
    have c01 : (0 : Nat) < 2 := by decide
    go_wp2_with fail
    refine (law_alive _).mono ?_
    rintro e3 w3 ⟨rfl, hb3⟩
    replace hF := hF.next hb3
    replace hB := below_next hB hb3
    clear hb3
    go_upto_region 4 with (fail)
    obtain ⟨s1, A1, n1, p1, l1, z1, B1, m1, d1, k1, q1a, q1b, q1c, q1d, O1⟩ := frs_ok hF 0 (by decide) (HVV.out 0 (by decide)) HFA.out
    change w3.cell? ⟨gr, 0, none⟩ = some (.bool s1) at q1a
    change w3.cell? ⟨gr, 1, none⟩ = some (.slice A1 n1 p1) at q1b
    change w3.cell? ⟨gr, 2, none⟩ = some (.bool z1) at q1c
    change w3.cell? ⟨gr, 3, none⟩ = some (.slice B1 m1 d1) at q1d
    obtain ⟨s2, A2, n2, p2, l2, z2, B2, m2, d2, k2, q2a, q2b, q2c, q2d, O2⟩ := frs_ok hF 1 (by decide) (HVV.out 1 (by decide)) HFB.out
    change w3.cell? ⟨gr, 4, none⟩ = some (.bool s2) at q2a
    change w3.cell? ⟨gr, 5, none⟩ = some (.slice A2 n2 p2) at q2b
    change w3.cell? ⟨gr, 6, none⟩ = some (.bool z2) at q2c
    change w3.cell? ⟨gr, 7, none⟩ = some (.slice B2 m2 d2) at q2d
    have hgr := hF.1
    have ne5 : ¬ w3.heap.size = gr := by omega
    have ne6 : ¬ gr = w3.heap.size := by omega
    have KZ := Mm.nil w3
    go_cut [7, 8] from 58 to 67 (fun sp se wx => se = .int .i64 0 ∧ BoxF w3 (fr a + fr b) sp wx)
    case first =>
      go_wp2_with fail
      go_region_held3 (fun w' => w'.cell? ⟨gr, 0, none⟩ = some (.bool s1) ∧ w'.cell? ⟨gr, 1, none⟩ = some (.slice A1 n1 p1) ∧ w'.cell? ⟨gr, 2, none⟩ = some (.bool z1) ∧ w'.cell? ⟨gr, 3, none⟩ = some (.slice B1 m1 d1) ∧ w'.cell? ⟨gr, 4, none⟩ = some (.bool s2) ∧ w'.cell? ⟨gr, 5, none⟩ = some (.slice A2 n2 p2) ∧ w'.cell? ⟨gr, 6, none⟩ = some (.bool z2) ∧ w'.cell? ⟨gr, 7, none⟩ = some (.slice B2 m2 d2))
        (go_keep)
        (first
          | (go_at_call 20; (with_reducible refine (frac_add_any s1 A1 n1 p1 l1 z1 B1 m1 d1 k1 s2 A2 n2 p2 l2 z2 B2 m2 d2 k2 _ _ (fr a + fr b) _ ?_ ?_ HS1.out (Lib.hid rfl)).mono ?_); (first | (with_reducible exact O1) | exact O1.next KZ.1 | exact O1.next KZ.drew.1 | exact O1.next (KZ.drewN _).1 | exact O1.next (KZ.var (g := w3.heap.size) rfl [.bool false, .slice none 0 0, .bool false, .slice none 0 0] 26).1 | exact O1.next (KZ.var (g := w3.heap.size) rfl [.bool false, .slice none 0 0, .bool false, .slice none 0 0] 26).drew.1 | exact O1.next ((KZ.var (g := w3.heap.size) rfl [.bool false, .slice none 0 0, .bool false, .slice none 0 0] 26).drewN _).1 | exact O1.next (KZ.drew.var (g := w3.heap.size) rfl [.bool false, .slice none 0 0, .bool false, .slice none 0 0] 26).1 | exact O1.next ((KZ.drewN _).var (g := w3.heap.size) rfl [.bool false, .slice none 0 0, .bool false, .slice none 0 0] 26).1); (first | (with_reducible exact O2) | exact O2.next KZ.1 | exact O2.next KZ.drew.1 | exact O2.next (KZ.drewN _).1 | exact O2.next (KZ.var (g := w3.heap.size) rfl [.bool false, .slice none 0 0, .bool false, .slice none 0 0] 26).1 | exact O2.next (KZ.var (g := w3.heap.size) rfl [.bool false, .slice none 0 0, .bool false, .slice none 0 0] 26).drew.1 | exact O2.next ((KZ.var (g := w3.heap.size) rfl [.bool false, .slice none 0 0, .bool false, .slice none 0 0] 26).drewN _).1 | exact O2.next (KZ.drew.var (g := w3.heap.size) rfl [.bool false, .slice none 0 0, .bool false, .slice none 0 0] 26).1 | exact O2.next ((KZ.drewN _).var (g := w3.heap.size) rfl [.bool false, .slice none 0 0, .bool false, .slice none 0 0] 26).1); rintro e1x w1 ⟨t1, C1, u1, e1, v1, t2, C2, u2, e2, v2, rfl, O3, hb1⟩; obtain ⟨I1, J1, _⟩ := O3.ints; (first | (with_reducible have K1 := ((KZ.next hb1).int J1).int I1) | (with_reducible have K1 := ((KZ.drew.next hb1).int J1).int I1) | (with_reducible have K1 := (((KZ.drewN _).next hb1).int J1).int I1) | (with_reducible have K1 := (((KZ.var (g := w3.heap.size) rfl [.bool false, .slice none 0 0, .bool false, .slice none 0 0] 26).next hb1).int J1).int I1) | (with_reducible have K1 := (((KZ.var (g := w3.heap.size) rfl [.bool false, .slice none 0 0, .bool false, .slice none 0 0] 26).drew.next hb1).int J1).int I1) | (with_reducible have K1 := ((((KZ.var (g := w3.heap.size) rfl [.bool false, .slice none 0 0, .bool false, .slice none 0 0] 26).drewN _).next hb1).int J1).int I1) | (with_reducible have K1 := (((KZ.drew.var (g := w3.heap.size) rfl [.bool false, .slice none 0 0, .bool false, .slice none 0 0] 26).next hb1).int J1).int I1) | (with_reducible have K1 := ((((KZ.drewN _).var (g := w3.heap.size) rfl [.bool false, .slice none 0 0, .bool false, .slice none 0 0] 26).next hb1).int J1).int I1)); have y0 := ((bcell K1.1).1 gr 0 hgr).trans q1a; have y1 := ((bcell K1.1).1 gr 1 hgr).trans q1b; have y2 := ((bcell K1.1).1 gr 2 hgr).trans q1c; have y3 := ((bcell K1.1).1 gr 3 hgr).trans q1d; have y4 := ((bcell K1.1).1 gr 4 hgr).trans q2a; have y5 := ((bcell K1.1).1 gr 5 hgr).trans q2b; have y6 := ((bcell K1.1).1 gr 6 hgr).trans q2c; have y7 := ((bcell K1.1).1 gr 7 hgr).trans q2d; (try (obtain ⟨⟨ra, rb, rc, rd⟩, ⟨re, rf, rg, rh⟩, ri⟩ := (K1.blk (g := w3.heap.size) (vs := [.bool false, .slice none 0 0, .bool false, .slice none 0 0]) List.mem_cons_self).four)); clear I1 J1 O3)
          | fail)
      all_goals (go_wp2_with fail)
      all_goals go_meet
      all_goals (first
        | exact ⟨rfl, BoxF.of (K1.var (g := w1.heap.size) rfl [.bool t1, .slice C1 u1 e1, .bool t2, .slice C2 u2 e2] 26) HS1.out⟩
        | exact ⟨rfl, BoxF.of (K1.set4 (by simp) t1 C1 u1 e1 t2 C2 u2 e2) HS1.out⟩
        | exact ⟨rfl, BoxF.of ((K1.var (g := w1.heap.size) rfl [.bool false, .slice none 0 0, .bool false, .slice none 0 0] 26).set4 (by simp) t1 C1 u1 e1 t2 C2 u2 e2) HS1.out⟩)
    case rest =>
      obtain ⟨rfl, g7, s7, A7, n7, p7, l7, z7, B7, m7, d7, k7, rfl, BK7, O7, hb7⟩ := hcut
      clear O1 O2 q1a q1b q1c q1d q2a q2b q2c q2d KZ ne5 ne6 hgr
      replace hF := hF.next hb7
      replace hB := below_next hB hb7
      go_upto_region 5 with (fail)
      obtain ⟨s3, A3, n3, p3, l3, z3, B3, m3, d3, k3, q3a, q3b, q3c, q3d, O3⟩ := frs_ok hF 0 (by decide) (HVV.out 0 (by decide)) HFA.out
      change wc.cell? ⟨gr, 0, none⟩ = some (.bool s3) at q3a
      change wc.cell? ⟨gr, 1, none⟩ = some (.slice A3 n3 p3) at q3b
      change wc.cell? ⟨gr, 2, none⟩ = some (.bool z3) at q3c
      change wc.cell? ⟨gr, 3, none⟩ = some (.slice B3 m3 d3) at q3d
      obtain ⟨s4, A4, n4, p4, l4, z4, B4, m4, d4, k4, q4a, q4b, q4c, q4d, O4⟩ := frs_ok hF 1 (by decide) (HVV.out 1 (by decide)) HFB.out
      change wc.cell? ⟨gr, 4, none⟩ = some (.bool s4) at q4a
      change wc.cell? ⟨gr, 5, none⟩ = some (.slice A4 n4 p4) at q4b
      change wc.cell? ⟨gr, 6, none⟩ = some (.bool z4) at q4c
      change wc.cell? ⟨gr, 7, none⟩ = some (.slice B4 m4 d4) at q4d
      have hgr := hF.1
      have ne5 : ¬ wc.heap.size = gr := by omega
      have ne6 : ¬ gr = wc.heap.size := by omega
      have KZ := Mm.nil wc
      go_cut [9, 10] from 68 to 77 (fun sp se wx => se = .int .i64 0 ∧ BoxF wc (fr a - fr b) sp wx)
      case first =>
        go_wp2_with fail
        go_region_held3 (fun w' => w'.cell? ⟨gr, 0, none⟩ = some (.bool s3) ∧ w'.cell? ⟨gr, 1, none⟩ = some (.slice A3 n3 p3) ∧ w'.cell? ⟨gr, 2, none⟩ = some (.bool z3) ∧ w'.cell? ⟨gr, 3, none⟩ = some (.slice B3 m3 d3) ∧ w'.cell? ⟨gr, 4, none⟩ = some (.bool s4) ∧ w'.cell? ⟨gr, 5, none⟩ = some (.slice A4 n4 p4) ∧ w'.cell? ⟨gr, 6, none⟩ = some (.bool z4) ∧ w'.cell? ⟨gr, 7, none⟩ = some (.slice B4 m4 d4))
          (go_keep)
          (first
            | (go_at_call 22; (with_reducible refine (frac_sub_any s3 A3 n3 p3 l3 z3 B3 m3 d3 k3 s4 A4 n4 p4 l4 z4 B4 m4 d4 k4 _ _ (fr a - fr b) _ ?_ ?_ HS2.out (Lib.hid rfl)).mono ?_); (first | (with_reducible exact O3) | exact O3.next KZ.1 | exact O3.next KZ.drew.1 | exact O3.next (KZ.drewN _).1 | exact O3.next (KZ.var (g := wc.heap.size) rfl [.bool false, .slice none 0 0, .bool false, .slice none 0 0] 26).1 | exact O3.next (KZ.var (g := wc.heap.size) rfl [.bool false, .slice none 0 0, .bool false, .slice none 0 0] 26).drew.1 | exact O3.next ((KZ.var (g := wc.heap.size) rfl [.bool false, .slice none 0 0, .bool false, .slice none 0 0] 26).drewN _).1 | exact O3.next (KZ.drew.var (g := wc.heap.size) rfl [.bool false, .slice none 0 0, .bool false, .slice none 0 0] 26).1 | exact O3.next ((KZ.drewN _).var (g := wc.heap.size) rfl [.bool false, .slice none 0 0, .bool false, .slice none 0 0] 26).1); (first | (with_reducible exact O4) | exact O4.next KZ.1 | exact O4.next KZ.drew.1 | exact O4.next (KZ.drewN _).1 | exact O4.next (KZ.var (g := wc.heap.size) rfl [.bool false, .slice none 0 0, .bool false, .slice none 0 0] 26).1 | exact O4.next (KZ.var (g := wc.heap.size) rfl [.bool false, .slice none 0 0, .bool false, .slice none 0 0] 26).drew.1 | exact O4.next ((KZ.var (g := wc.heap.size) rfl [.bool false, .slice none 0 0, .bool false, .slice none 0 0] 26).drewN _).1 | exact O4.next (KZ.drew.var (g := wc.heap.size) rfl [.bool false, .slice none 0 0, .bool false, .slice none 0 0] 26).1 | exact O4.next ((KZ.drewN _).var (g := wc.heap.size) rfl [.bool false, .slice none 0 0, .bool false, .slice none 0 0] 26).1); rintro e1x w1 ⟨t1, C1, u1, e1, v1, t2, C2, u2, e2, v2, rfl, O3, hb1⟩; obtain ⟨I1, J1, _⟩ := O3.ints; (first | (with_reducible have K1 := ((KZ.next hb1).int J1).int I1) | (with_reducible have K1 := ((KZ.drew.next hb1).int J1).int I1) | (with_reducible have K1 := (((KZ.drewN _).next hb1).int J1).int I1) | (with_reducible have K1 := (((KZ.var (g := wc.heap.size) rfl [.bool false, .slice none 0 0, .bool false, .slice none 0 0] 26).next hb1).int J1).int I1) | (with_reducible have K1 := (((KZ.var (g := wc.heap.size) rfl [.bool false, .slice none 0 0, .bool false, .slice none 0 0] 26).drew.next hb1).int J1).int I1) | (with_reducible have K1 := ((((KZ.var (g := wc.heap.size) rfl [.bool false, .slice none 0 0, .bool false, .slice none 0 0] 26).drewN _).next hb1).int J1).int I1) | (with_reducible have K1 := (((KZ.drew.var (g := wc.heap.size) rfl [.bool false, .slice none 0 0, .bool false, .slice none 0 0] 26).next hb1).int J1).int I1) | (with_reducible have K1 := ((((KZ.drewN _).var (g := wc.heap.size) rfl [.bool false, .slice none 0 0, .bool false, .slice none 0 0] 26).next hb1).int J1).int I1)); have y0 := ((bcell K1.1).1 gr 0 hgr).trans q3a; have y1 := ((bcell K1.1).1 gr 1 hgr).trans q3b; have y2 := ((bcell K1.1).1 gr 2 hgr).trans q3c; have y3 := ((bcell K1.1).1 gr 3 hgr).trans q3d; have y4 := ((bcell K1.1).1 gr 4 hgr).trans q4a; have y5 := ((bcell K1.1).1 gr 5 hgr).trans q4b; have y6 := ((bcell K1.1).1 gr 6 hgr).trans q4c; have y7 := ((bcell K1.1).1 gr 7 hgr).trans q4d; (try (obtain ⟨⟨ra, rb, rc, rd⟩, ⟨re, rf, rg, rh⟩, ri⟩ := (K1.blk (g := wc.heap.size) (vs := [.bool false, .slice none 0 0, .bool false, .slice none 0 0]) List.mem_cons_self).four)); clear I1 J1 O3)
            | fail)
        all_goals (go_wp2_with fail)
        all_goals go_meet
        all_goals (first
          | exact ⟨rfl, BoxF.of (K1.var (g := w1.heap.size) rfl [.bool t1, .slice C1 u1 e1, .bool t2, .slice C2 u2 e2] 26) HS2.out⟩
          | exact ⟨rfl, BoxF.of (K1.set4 (by simp) t1 C1 u1 e1 t2 C2 u2 e2) HS2.out⟩
          | exact ⟨rfl, BoxF.of ((K1.var (g := w1.heap.size) rfl [.bool false, .slice none 0 0, .bool false, .slice none 0 0] 26).set4 (by simp) t1 C1 u1 e1 t2 C2 u2 e2) HS2.out⟩)
      case rest =>
        obtain ⟨rfl, g9, s9, A9, n9, p9, l9, z9, B9, m9, d9, k9, rfl, BK9, O9, hb9⟩ := hcut
        clear O3 O4 q3a q3b q3c q3d q4a q4b q4c q4d KZ ne5 ne6 hgr
        replace hF := hF.next hb9
        replace BK7 := BK7.next hb9
        replace O7 := O7.next hb9
        replace hB := below_next hB hb9
        go_upto_region 6 with (fail)
        obtain ⟨s5, A5, n5, p5, l5, z5, B5, m5, d5, k5, q5a, q5b, q5c, q5d, O5⟩ := frs_ok hF 0 (by decide) (HVV.out 0 (by decide)) HFA.out
        change wc.cell? ⟨gr, 0, none⟩ = some (.bool s5) at q5a
        change wc.cell? ⟨gr, 1, none⟩ = some (.slice A5 n5 p5) at q5b
        change wc.cell? ⟨gr, 2, none⟩ = some (.bool z5) at q5c
        change wc.cell? ⟨gr, 3, none⟩ = some (.slice B5 m5 d5) at q5d
        obtain ⟨s6, A6, n6, p6, l6, z6, B6, m6, d6, k6, q6a, q6b, q6c, q6d, O6⟩ := frs_ok hF 1 (by decide) (HVV.out 1 (by decide)) HFB.out
        change wc.cell? ⟨gr, 4, none⟩ = some (.bool s6) at q6a
        change wc.cell? ⟨gr, 5, none⟩ = some (.slice A6 n6 p6) at q6b
        change wc.cell? ⟨gr, 6, none⟩ = some (.bool z6) at q6c
        change wc.cell? ⟨gr, 7, none⟩ = some (.slice B6 m6 d6) at q6d
        have hgr := hF.1
        have ne5 : ¬ wc.heap.size = gr := by omega
        have ne6 : ¬ gr = wc.heap.size := by omega
        have KZ := Mm.nil wc
        go_cut [11, 12] from 78 to 87 (fun sp se wx => se = .int .i64 0 ∧ BoxF wc (fr a * fr b) sp wx)
        case first =>
          go_wp2_with fail
          go_region_held3 (fun w' => w'.cell? ⟨gr, 0, none⟩ = some (.bool s5) ∧ w'.cell? ⟨gr, 1, none⟩ = some (.slice A5 n5 p5) ∧ w'.cell? ⟨gr, 2, none⟩ = some (.bool z5) ∧ w'.cell? ⟨gr, 3, none⟩ = some (.slice B5 m5 d5) ∧ w'.cell? ⟨gr, 4, none⟩ = some (.bool s6) ∧ w'.cell? ⟨gr, 5, none⟩ = some (.slice A6 n6 p6) ∧ w'.cell? ⟨gr, 6, none⟩ = some (.bool z6) ∧ w'.cell? ⟨gr, 7, none⟩ = some (.slice B6 m6 d6))
            (go_keep)
            (first
              | (go_at_call 23; (with_reducible refine (frac_mul_any s5 A5 n5 p5 l5 z5 B5 m5 d5 k5 s6 A6 n6 p6 l6 z6 B6 m6 d6 k6 _ _ (fr a * fr b) _ ?_ ?_ HS3.out (Lib.hid rfl)).mono ?_); (first | (with_reducible exact O5) | exact O5.next KZ.1 | exact O5.next KZ.drew.1 | exact O5.next (KZ.drewN _).1 | exact O5.next (KZ.var (g := wc.heap.size) rfl [.bool false, .slice none 0 0, .bool false, .slice none 0 0] 26).1 | exact O5.next (KZ.var (g := wc.heap.size) rfl [.bool false, .slice none 0 0, .bool false, .slice none 0 0] 26).drew.1 | exact O5.next ((KZ.var (g := wc.heap.size) rfl [.bool false, .slice none 0 0, .bool false, .slice none 0 0] 26).drewN _).1 | exact O5.next (KZ.drew.var (g := wc.heap.size) rfl [.bool false, .slice none 0 0, .bool false, .slice none 0 0] 26).1 | exact O5.next ((KZ.drewN _).var (g := wc.heap.size) rfl [.bool false, .slice none 0 0, .bool false, .slice none 0 0] 26).1); (first | (with_reducible exact O6) | exact O6.next KZ.1 | exact O6.next KZ.drew.1 | exact O6.next (KZ.drewN _).1 | exact O6.next (KZ.var (g := wc.heap.size) rfl [.bool false, .slice none 0 0, .bool false, .slice none 0 0] 26).1 | exact O6.next (KZ.var (g := wc.heap.size) rfl [.bool false, .slice none 0 0, .bool false, .slice none 0 0] 26).drew.1 | exact O6.next ((KZ.var (g := wc.heap.size) rfl [.bool false, .slice none 0 0, .bool false, .slice none 0 0] 26).drewN _).1 | exact O6.next (KZ.drew.var (g := wc.heap.size) rfl [.bool false, .slice none 0 0, .bool false, .slice none 0 0] 26).1 | exact O6.next ((KZ.drewN _).var (g := wc.heap.size) rfl [.bool false, .slice none 0 0, .bool false, .slice none 0 0] 26).1); rintro e1x w1 ⟨t1, C1, u1, e1, v1, t2, C2, u2, e2, v2, rfl, O3, hb1⟩; obtain ⟨I1, J1, _⟩ := O3.ints; (first | (with_reducible have K1 := ((KZ.next hb1).int J1).int I1) | (with_reducible have K1 := ((KZ.drew.next hb1).int J1).int I1) | (with_reducible have K1 := (((KZ.drewN _).next hb1).int J1).int I1) | (with_reducible have K1 := (((KZ.var (g := wc.heap.size) rfl [.bool false, .slice none 0 0, .bool false, .slice none 0 0] 26).next hb1).int J1).int I1) | (with_reducible have K1 := (((KZ.var (g := wc.heap.size) rfl [.bool false, .slice none 0 0, .bool false, .slice none 0 0] 26).drew.next hb1).int J1).int I1) | (with_reducible have K1 := ((((KZ.var (g := wc.heap.size) rfl [.bool false, .slice none 0 0, .bool false, .slice none 0 0] 26).drewN _).next hb1).int J1).int I1) | (with_reducible have K1 := (((KZ.drew.var (g := wc.heap.size) rfl [.bool false, .slice none 0 0, .bool false, .slice none 0 0] 26).next hb1).int J1).int I1) | (with_reducible have K1 := ((((KZ.drewN _).var (g := wc.heap.size) rfl [.bool false, .slice none 0 0, .bool false, .slice none 0 0] 26).next hb1).int J1).int I1)); have y0 := ((bcell K1.1).1 gr 0 hgr).trans q5a; have y1 := ((bcell K1.1).1 gr 1 hgr).trans q5b; have y2 := ((bcell K1.1).1 gr 2 hgr).trans q5c; have y3 := ((bcell K1.1).1 gr 3 hgr).trans q5d; have y4 := ((bcell K1.1).1 gr 4 hgr).trans q6a; have y5 := ((bcell K1.1).1 gr 5 hgr).trans q6b; have y6 := ((bcell K1.1).1 gr 6 hgr).trans q6c; have y7 := ((bcell K1.1).1 gr 7 hgr).trans q6d; (try (obtain ⟨⟨ra, rb, rc, rd⟩, ⟨re, rf, rg, rh⟩, ri⟩ := (K1.blk (g := wc.heap.size) (vs := [.bool false, .slice none 0 0, .bool false, .slice none 0 0]) List.mem_cons_self).four)); clear I1 J1 O3)
              | fail)
          all_goals (go_wp2_with fail)
          all_goals go_meet
          all_goals (first
            | exact ⟨rfl, BoxF.of (K1.var (g := w1.heap.size) rfl [.bool t1, .slice C1 u1 e1, .bool t2, .slice C2 u2 e2] 26) HS3.out⟩
            | exact ⟨rfl, BoxF.of (K1.set4 (by simp) t1 C1 u1 e1 t2 C2 u2 e2) HS3.out⟩
            | exact ⟨rfl, BoxF.of ((K1.var (g := w1.heap.size) rfl [.bool false, .slice none 0 0, .bool false, .slice none 0 0] 26).set4 (by simp) t1 C1 u1 e1 t2 C2 u2 e2) HS3.out⟩)
        case rest =>
          obtain ⟨rfl, g11, s11, A11, n11, p11, l11, z11, B11, m11, d11, k11, rfl, BK11, O11, hb11⟩ := hcut
          clear O5 O6 q5a q5b q5c q5d q6a q6b q6c q6d KZ ne5 ne6 hgr
          replace hF := hF.next hb11
          replace BK7 := BK7.next hb11
          replace O7 := O7.next hb11
          replace BK9 := BK9.next hb11
          replace O9 := O9.next hb11
          replace hB := below_next hB hb11
          go_wp2_with fail
          refine (rnd_add_any a b ha hb _).mono ?_
          rintro e1y w1y ⟨d1, u1, rfl, h, hbz⟩
          have HQ1 : Hid (AtQ (fr a + fr b) d1 u1) := Lib.hid (atQ_add h HFA.out HFB.out)
          clear h
          replace hF := hF.next hbz
          replace BK7 := BK7.next hbz
          replace O7 := O7.next hbz
          replace BK9 := BK9.next hbz
          replace O9 := O9.next hbz
          replace BK11 := BK11.next hbz
          replace O11 := O11.next hbz
          replace hB := below_next hB hbz
          clear hbz
          go_wp2_with fail
          refine (rnd_sub_any a b ha hb _).mono ?_
          rintro e2y w2y ⟨d2, u2, rfl, h, hbz⟩
          have HQ2 : Hid (AtQ (fr a - fr b) d2 u2) := Lib.hid (atQ_sub h HFA.out HFB.out)
          clear h
          replace hF := hF.next hbz
          replace BK7 := BK7.next hbz
          replace O7 := O7.next hbz
          replace BK9 := BK9.next hbz
          replace O9 := O9.next hbz
          replace BK11 := BK11.next hbz
          replace O11 := O11.next hbz
          replace hB := below_next hB hbz
          clear hbz
          go_wp2_with fail
          refine (rnd_mul_any a b ha hb _).mono ?_
          rintro e3y w3y ⟨d3, u3, rfl, h, hbz⟩
          have HQ3 : Hid (AtQ (fr a * fr b) d3 u3) := Lib.hid (atQ_mul h HFA.out HFB.out)
          clear h
          replace hF := hF.next hbz
          replace BK7 := BK7.next hbz
          replace O7 := O7.next hbz
          replace BK9 := BK9.next hbz
          replace O9 := O9.next hbz
          replace BK11 := BK11.next hbz
          replace O11 := O11.next hbz
          replace hB := below_next hB hbz
          clear hbz
          go_upto_region 10 with (fail)
          obtain ⟨⟨xa, xb, xc, xd⟩, _, _⟩ := BK7.four
          go_wp2_with fail
          refine (law_between s7 A7 n7 p7 l7 z7 B7 m7 d7 k7 _ d1 u1 _ O7 (HT.out.next hB) HQ1.out.1 HQ1.out.2).mono ?_
          rintro e1z w1z ⟨rfl, hbz⟩
          clear xa xb xc xd
          clear BK7 O7 HQ1
          replace hF := hF.next hbz
          replace BK9 := BK9.next hbz
          replace O9 := O9.next hbz
          replace BK11 := BK11.next hbz
          replace O11 := O11.next hbz
          replace hB := below_next hB hbz
          clear hbz
          obtain ⟨⟨xa, xb, xc, xd⟩, _, _⟩ := BK9.four
          go_wp2_with fail
          refine (law_between s9 A9 n9 p9 l9 z9 B9 m9 d9 k9 _ d2 u2 _ O9 (HT.out.next hB) HQ2.out.1 HQ2.out.2).mono ?_
          rintro e2z w2z ⟨rfl, hbz⟩
          clear xa xb xc xd
          clear BK9 O9 HQ2
          replace hF := hF.next hbz
          replace BK11 := BK11.next hbz
          replace O11 := O11.next hbz
          replace hB := below_next hB hbz
          clear hbz
          obtain ⟨⟨xa, xb, xc, xd⟩, _, _⟩ := BK11.four
          go_wp2_with fail
          refine (law_between s11 A11 n11 p11 l11 z11 B11 m11 d11 k11 _ d3 u3 _ O11 (HT.out.next hB) HQ3.out.1 HQ3.out.2).mono ?_
          rintro e3z w3z ⟨rfl, hbz⟩
          clear xa xb xc xd
          clear BK11 O11 HQ3
          replace hF := hF.next hbz
          replace hB := below_next hB hbz
          clear hbz
          have nb : ¬ Flt.Nan b := by have := HFB.out; unfold Flt.Fin at this; unfold Flt.Nan; omega
          have na : ¬ Flt.Nan a := by have := HFA.out; unfold Flt.Fin at this; unfold Flt.Nan; omega
          have ob := Flt.eq_spec nb nan_zero
          have oa := Flt.lt_spec na nan_zero
          have sz : Flt.sv 0 = 0 := sv_zero
          rw [sz] at ob oa
          have OB := Lib.hid ob
          have OA := Lib.hid oa
          clear ob oa
          go_upto_if 138 with (fail)
          generalize hnz : (Ieee.double.order b 0 != some .eq) = nz
          have HNZ : Hid (nz = !decide (Flt.sv b = 0)) := Lib.hid (by
            rw [← hnz]
            show (!(Ieee.double.order b 0 == some .eq)) = _
            rw [OB.out])
          clear hnz
          go_cut [19, 20, 21, 22, 138] from 139 to 163 (fun _ _ _ _ _ wx => Below w.heap.size w wx ∧ Frs wx gr 2 F)
          case first =>
            cases nz with
            | false =>
              go_wp2_with fail
              go_meet
              exact ⟨hB, hF⟩
            | true =>
              have h0 : Flt.rg b ≠ 0 := fun c => by
                have := HNZ.out
                rw [decide_eq_true (Flt.sv_zero_iff.2 c)] at this
                cases this
              have HN0 : Hid (fr b ≠ 0) := Lib.hid (fr_ne0 h0)
              have HR0 : Hid (Flt.rg b ≠ 0) := Lib.hid h0
              have HS4 : Hid (Sz (fr a / fr b) 2048) := Lib.hid (((fr_sz HFA.out).div (fr_sz HFB.out) HN0.out).mono (by decide))
              clear h0
              go_upto_region 13 with (fail)
              obtain ⟨s7, A7, n7, p7, l7, z7, B7, m7, d7, k7, q7a, q7b, q7c, q7d, O7⟩ := frs_ok hF 0 (by decide) (HVV.out 0 (by decide)) HFA.out
              change w3z.cell? ⟨gr, 0, none⟩ = some (.bool s7) at q7a
              change w3z.cell? ⟨gr, 1, none⟩ = some (.slice A7 n7 p7) at q7b
              change w3z.cell? ⟨gr, 2, none⟩ = some (.bool z7) at q7c
              change w3z.cell? ⟨gr, 3, none⟩ = some (.slice B7 m7 d7) at q7d
              obtain ⟨s8, A8, n8, p8, l8, z8, B8, m8, d8, k8, q8a, q8b, q8c, q8d, O8⟩ := frs_ok hF 1 (by decide) (HVV.out 1 (by decide)) HFB.out
              change w3z.cell? ⟨gr, 4, none⟩ = some (.bool s8) at q8a
              change w3z.cell? ⟨gr, 5, none⟩ = some (.slice A8 n8 p8) at q8b
              change w3z.cell? ⟨gr, 6, none⟩ = some (.bool z8) at q8c
              change w3z.cell? ⟨gr, 7, none⟩ = some (.slice B8 m8 d8) at q8d
              have hgr := hF.1
              have ne5 : ¬ w3z.heap.size = gr := by omega
              have ne6 : ¬ gr = w3z.heap.size := by omega
              have KZ := Mm.nil w3z
              go_cut [19, 20] from 139 to 148 (fun sp se wx => se = .int .i64 0 ∧ BoxF w3z (fr a / fr b) sp wx)
              case first =>
                go_wp2_with fail
                go_region_held3 (fun w' => w'.cell? ⟨gr, 0, none⟩ = some (.bool s7) ∧ w'.cell? ⟨gr, 1, none⟩ = some (.slice A7 n7 p7) ∧ w'.cell? ⟨gr, 2, none⟩ = some (.bool z7) ∧ w'.cell? ⟨gr, 3, none⟩ = some (.slice B7 m7 d7) ∧ w'.cell? ⟨gr, 4, none⟩ = some (.bool s8) ∧ w'.cell? ⟨gr, 5, none⟩ = some (.slice A8 n8 p8) ∧ w'.cell? ⟨gr, 6, none⟩ = some (.bool z8) ∧ w'.cell? ⟨gr, 7, none⟩ = some (.slice B8 m8 d8))
                  (go_keep)
                  (first
                    | (go_at_call 27; (with_reducible refine (frac_quo_any s7 A7 n7 p7 l7 z7 B7 m7 d7 k7 s8 A8 n8 p8 l8 z8 B8 m8 d8 k8 _ _ (fr a / fr b) _ HN0 ?_ ?_ HS4.out (Lib.hid rfl)).mono ?_); (first | (with_reducible exact O7) | exact O7.next KZ.1 | exact O7.next KZ.drew.1 | exact O7.next (KZ.drewN _).1 | exact O7.next (KZ.var (g := w3z.heap.size) rfl [.bool false, .slice none 0 0, .bool false, .slice none 0 0] 26).1 | exact O7.next (KZ.var (g := w3z.heap.size) rfl [.bool false, .slice none 0 0, .bool false, .slice none 0 0] 26).drew.1 | exact O7.next ((KZ.var (g := w3z.heap.size) rfl [.bool false, .slice none 0 0, .bool false, .slice none 0 0] 26).drewN _).1 | exact O7.next (KZ.drew.var (g := w3z.heap.size) rfl [.bool false, .slice none 0 0, .bool false, .slice none 0 0] 26).1 | exact O7.next ((KZ.drewN _).var (g := w3z.heap.size) rfl [.bool false, .slice none 0 0, .bool false, .slice none 0 0] 26).1); (first | (with_reducible exact O8) | exact O8.next KZ.1 | exact O8.next KZ.drew.1 | exact O8.next (KZ.drewN _).1 | exact O8.next (KZ.var (g := w3z.heap.size) rfl [.bool false, .slice none 0 0, .bool false, .slice none 0 0] 26).1 | exact O8.next (KZ.var (g := w3z.heap.size) rfl [.bool false, .slice none 0 0, .bool false, .slice none 0 0] 26).drew.1 | exact O8.next ((KZ.var (g := w3z.heap.size) rfl [.bool false, .slice none 0 0, .bool false, .slice none 0 0] 26).drewN _).1 | exact O8.next (KZ.drew.var (g := w3z.heap.size) rfl [.bool false, .slice none 0 0, .bool false, .slice none 0 0] 26).1 | exact O8.next ((KZ.drewN _).var (g := w3z.heap.size) rfl [.bool false, .slice none 0 0, .bool false, .slice none 0 0] 26).1); rintro e1x w1 ⟨t1, C1, u1, e1, v1, t2, C2, u2, e2, v2, rfl, O3, hb1⟩; obtain ⟨I1, J1, _⟩ := O3.ints; (first | (with_reducible have K1 := ((KZ.next hb1).int J1).int I1) | (with_reducible have K1 := ((KZ.drew.next hb1).int J1).int I1) | (with_reducible have K1 := (((KZ.drewN _).next hb1).int J1).int I1) | (with_reducible have K1 := (((KZ.var (g := w3z.heap.size) rfl [.bool false, .slice none 0 0, .bool false, .slice none 0 0] 26).next hb1).int J1).int I1) | (with_reducible have K1 := (((KZ.var (g := w3z.heap.size) rfl [.bool false, .slice none 0 0, .bool false, .slice none 0 0] 26).drew.next hb1).int J1).int I1) | (with_reducible have K1 := ((((KZ.var (g := w3z.heap.size) rfl [.bool false, .slice none 0 0, .bool false, .slice none 0 0] 26).drewN _).next hb1).int J1).int I1) | (with_reducible have K1 := (((KZ.drew.var (g := w3z.heap.size) rfl [.bool false, .slice none 0 0, .bool false, .slice none 0 0] 26).next hb1).int J1).int I1) | (with_reducible have K1 := ((((KZ.drewN _).var (g := w3z.heap.size) rfl [.bool false, .slice none 0 0, .bool false, .slice none 0 0] 26).next hb1).int J1).int I1)); have y0 := ((bcell K1.1).1 gr 0 hgr).trans q7a; have y1 := ((bcell K1.1).1 gr 1 hgr).trans q7b; have y2 := ((bcell K1.1).1 gr 2 hgr).trans q7c; have y3 := ((bcell K1.1).1 gr 3 hgr).trans q7d; have y4 := ((bcell K1.1).1 gr 4 hgr).trans q8a; have y5 := ((bcell K1.1).1 gr 5 hgr).trans q8b; have y6 := ((bcell K1.1).1 gr 6 hgr).trans q8c; have y7 := ((bcell K1.1).1 gr 7 hgr).trans q8d; (try (obtain ⟨⟨ra, rb, rc, rd⟩, ⟨re, rf, rg, rh⟩, ri⟩ := (K1.blk (g := w3z.heap.size) (vs := [.bool false, .slice none 0 0, .bool false, .slice none 0 0]) List.mem_cons_self).four)); clear I1 J1 O3)
                    | fail)
                all_goals (go_wp2_with fail)
                all_goals go_meet
                all_goals (first
                  | exact ⟨rfl, BoxF.of (K1.var (g := w1.heap.size) rfl [.bool t1, .slice C1 u1 e1, .bool t2, .slice C2 u2 e2] 26) HS4.out⟩
                  | exact ⟨rfl, BoxF.of (K1.set4 (by simp) t1 C1 u1 e1 t2 C2 u2 e2) HS4.out⟩
                  | exact ⟨rfl, BoxF.of ((K1.var (g := w1.heap.size) rfl [.bool false, .slice none 0 0, .bool false, .slice none 0 0] 26).set4 (by simp) t1 C1 u1 e1 t2 C2 u2 e2) HS4.out⟩)
              case rest =>
                obtain ⟨rfl, g19, s19, A19, n19, p19, l19, z19, B19, m19, d19, k19, rfl, BK19, O19, hb19⟩ := hcut
                clear O7 O8 q7a q7b q7c q7d q8a q8b q8c q8d KZ ne5 ne6 hgr
                replace hF := hF.next hb19
                replace hB := below_next hB hb19
                go_wp2_with fail
                refine (rnd_quo_any a b ha hb _).mono ?_
                rintro e4y w4y ⟨d4, u4, rfl, h, hbz⟩
                have HQ4 : Hid (AtQ (fr a / fr b) d4 u4) := Lib.hid (atQ_quo h HFA.out HFB.out HR0.out)
                clear h
                replace hF := hF.next hbz
                replace BK19 := BK19.next hbz
                replace O19 := O19.next hbz
                replace hB := below_next hB hbz
                clear hbz
                obtain ⟨⟨xa, xb, xc, xd⟩, _, _⟩ := BK19.four
                go_wp2_with fail
                refine (law_between s19 A19 n19 p19 l19 z19 B19 m19 d19 k19 _ d4 u4 _ O19 (HT.out.next hB) HQ4.out.1 HQ4.out.2).mono ?_
                rintro e4z w4z ⟨rfl, hbz⟩
                have hB2 := below_next hB hbz
                have hF2 := hF.next hbz
                clear xa xb xc xd BK19 O19 HQ4 hB hF
                go_wp2_with fail
                go_meet
                exact ⟨hB2, hF2⟩
          case rest =>
            clear hB hF
            obtain ⟨hB, hF⟩ := hcut
            have oa := OA.out
            clear OA OB HNZ
            by_cases hneg : Flt.sv a < 0
            · rw [decide_eq_true hneg] at oa
              go_wp2_with fail
              go_ret
              exact ⟨rfl, hB⟩
            · rw [decide_eq_false hneg] at oa
              have HPOS : Hid (0 ≤ Flt.sv a) := Lib.hid (by omega)
              clear hneg
              go_wp2_with fail
              refine (rnd_sqrt_any a ha _).mono ?_
              rintro e5 w5 ⟨rd, ru, rfl, h, hbz⟩
              obtain ⟨frd, fru, rd64, ru64, Lq, Hq, hLq, hHq, hE⟩ := root_btw ha HFA.out HPOS.out h
              have HLQ := Lib.hid hLq
              have HHQ := Lib.hid hHq
              have HEQ := Lib.hid hE
              have HRD := Lib.hid frd
              have HRU := Lib.hid fru
              clear h hLq hHq hE frd fru
              replace hF := hF.next hbz
              replace hB := below_next hB hbz
              clear hbz
              have HT5 := Lib.hid (HT.out.next hB)
              go_wp2_with fail
              refine (law_worth w5.heap.size 2 2 (fun i => if i = 0 then rd else ru) _ (by simp) (by decide) (by decide) (two_floats w5 rd ru 27 rd64 ru64) (HT5.out.box _)).mono ?_
              rintro e6 w6 (⟨_, gq, cq, G, rfl, hcq, hG, hVG, _, hb6⟩ | ⟨⟨j, hj, hno⟩, _⟩)
              · have hb7x := below_box hb6
                replace hF := hF.next hb7x
                replace hB := below_next hB hb7x
                have HVG := Lib.hid hVG
                clear hVG hb6 hb7x
                have HS5 : Hid (Sz (fr rd * fr rd) 2048) := Lib.hid (((fr_sz HRD.out).mul (fr_sz HRD.out)).mono (by decide))
                have HS6 : Hid (Sz (fr ru * fr ru) 2048) := Lib.hid (((fr_sz HRU.out).mul (fr_sz HRU.out)).mono (by decide))
                go_upto_region 23 with (fail)
                obtain ⟨s9, A9, n9, p9, l9, z9, B9, m9, d9, k9, q9a, q9b, q9c, q9d, O9⟩ := frs_ok hG 0 (by decide) (HVG.out 0 (by decide)) HRD.out
                change w6.cell? ⟨gq, 0, none⟩ = some (.bool s9) at q9a
                change w6.cell? ⟨gq, 1, none⟩ = some (.slice A9 n9 p9) at q9b
                change w6.cell? ⟨gq, 2, none⟩ = some (.bool z9) at q9c
                change w6.cell? ⟨gq, 3, none⟩ = some (.slice B9 m9 d9) at q9d
                have hgr := hG.1
                have ne5 : ¬ w6.heap.size = gq := by omega
                have ne6 : ¬ gq = w6.heap.size := by omega
                have KZ := Mm.nil w6
                go_cut [26, 27] from 180 to 189 (fun sp se wx => se = .int .i64 0 ∧ BoxF w6 (fr rd * fr rd) sp wx)
                case first =>
                  go_wp2_with fail
                  go_region_held3 (fun w' => w'.cell? ⟨gq, 0, none⟩ = some (.bool s9) ∧ w'.cell? ⟨gq, 1, none⟩ = some (.slice A9 n9 p9) ∧ w'.cell? ⟨gq, 2, none⟩ = some (.bool z9) ∧ w'.cell? ⟨gq, 3, none⟩ = some (.slice B9 m9 d9))
                    (go_keep)
                    (first
                      | (go_at_call 23; (with_reducible refine (frac_mul_any s9 A9 n9 p9 l9 z9 B9 m9 d9 k9 s9 A9 n9 p9 l9 z9 B9 m9 d9 k9 _ _ (fr rd * fr rd) _ ?_ ?_ HS5.out (Lib.hid rfl)).mono ?_); (first | (with_reducible exact O9) | exact O9.next KZ.1 | exact O9.next KZ.drew.1 | exact O9.next (KZ.drewN _).1 | exact O9.next (KZ.var (g := w6.heap.size) rfl [.bool false, .slice none 0 0, .bool false, .slice none 0 0] 26).1 | exact O9.next (KZ.var (g := w6.heap.size) rfl [.bool false, .slice none 0 0, .bool false, .slice none 0 0] 26).drew.1 | exact O9.next ((KZ.var (g := w6.heap.size) rfl [.bool false, .slice none 0 0, .bool false, .slice none 0 0] 26).drewN _).1 | exact O9.next (KZ.drew.var (g := w6.heap.size) rfl [.bool false, .slice none 0 0, .bool false, .slice none 0 0] 26).1 | exact O9.next ((KZ.drewN _).var (g := w6.heap.size) rfl [.bool false, .slice none 0 0, .bool false, .slice none 0 0] 26).1); (first | (with_reducible exact O9) | exact O9.next KZ.1 | exact O9.next KZ.drew.1 | exact O9.next (KZ.drewN _).1 | exact O9.next (KZ.var (g := w6.heap.size) rfl [.bool false, .slice none 0 0, .bool false, .slice none 0 0] 26).1 | exact O9.next (KZ.var (g := w6.heap.size) rfl [.bool false, .slice none 0 0, .bool false, .slice none 0 0] 26).drew.1 | exact O9.next ((KZ.var (g := w6.heap.size) rfl [.bool false, .slice none 0 0, .bool false, .slice none 0 0] 26).drewN _).1 | exact O9.next (KZ.drew.var (g := w6.heap.size) rfl [.bool false, .slice none 0 0, .bool false, .slice none 0 0] 26).1 | exact O9.next ((KZ.drewN _).var (g := w6.heap.size) rfl [.bool false, .slice none 0 0, .bool false, .slice none 0 0] 26).1); rintro e1x w1 ⟨t1, C1, u1, e1, v1, t2, C2, u2, e2, v2, rfl, O3, hb1⟩; obtain ⟨I1, J1, _⟩ := O3.ints; (first | (with_reducible have K1 := ((KZ.next hb1).int J1).int I1) | (with_reducible have K1 := ((KZ.drew.next hb1).int J1).int I1) | (with_reducible have K1 := (((KZ.drewN _).next hb1).int J1).int I1) | (with_reducible have K1 := (((KZ.var (g := w6.heap.size) rfl [.bool false, .slice none 0 0, .bool false, .slice none 0 0] 26).next hb1).int J1).int I1) | (with_reducible have K1 := (((KZ.var (g := w6.heap.size) rfl [.bool false, .slice none 0 0, .bool false, .slice none 0 0] 26).drew.next hb1).int J1).int I1) | (with_reducible have K1 := ((((KZ.var (g := w6.heap.size) rfl [.bool false, .slice none 0 0, .bool false, .slice none 0 0] 26).drewN _).next hb1).int J1).int I1) | (with_reducible have K1 := (((KZ.drew.var (g := w6.heap.size) rfl [.bool false, .slice none 0 0, .bool false, .slice none 0 0] 26).next hb1).int J1).int I1) | (with_reducible have K1 := ((((KZ.drewN _).var (g := w6.heap.size) rfl [.bool false, .slice none 0 0, .bool false, .slice none 0 0] 26).next hb1).int J1).int I1)); have y0 := ((bcell K1.1).1 gq 0 hgr).trans q9a; have y1 := ((bcell K1.1).1 gq 1 hgr).trans q9b; have y2 := ((bcell K1.1).1 gq 2 hgr).trans q9c; have y3 := ((bcell K1.1).1 gq 3 hgr).trans q9d; (try (obtain ⟨⟨ra, rb, rc, rd⟩, ⟨re, rf, rg, rh⟩, ri⟩ := (K1.blk (g := w6.heap.size) (vs := [.bool false, .slice none 0 0, .bool false, .slice none 0 0]) List.mem_cons_self).four)); clear I1 J1 O3)
                      | fail)
                  all_goals (go_wp2_with fail)
                  all_goals go_meet
                  all_goals (first
                    | exact ⟨rfl, BoxF.of (K1.var (g := w1.heap.size) rfl [.bool t1, .slice C1 u1 e1, .bool t2, .slice C2 u2 e2] 26) HS5.out⟩
                    | exact ⟨rfl, BoxF.of (K1.set4 (by simp) t1 C1 u1 e1 t2 C2 u2 e2) HS5.out⟩
                    | exact ⟨rfl, BoxF.of ((K1.var (g := w1.heap.size) rfl [.bool false, .slice none 0 0, .bool false, .slice none 0 0] 26).set4 (by simp) t1 C1 u1 e1 t2 C2 u2 e2) HS5.out⟩)
                case rest =>
                  obtain ⟨rfl, g26, s26, A26, n26, p26, l26, z26, B26, m26, d26, k26, rfl, BK26, O26, hb26⟩ := hcut
                  clear O9 q9a q9b q9c q9d KZ ne5 ne6 hgr
                  replace hF := hF.next hb26
                  replace hG := hG.next hb26
                  replace hB := below_next hB hb26
                  go_upto_region 24 with (fail)
                  obtain ⟨s10, A10, n10, p10, l10, z10, B10, m10, d10, k10, q10a, q10b, q10c, q10d, O10⟩ := frs_ok hG 1 (by decide) (HVG.out 1 (by decide)) HRU.out
                  change wc.cell? ⟨gq, 4, none⟩ = some (.bool s10) at q10a
                  change wc.cell? ⟨gq, 5, none⟩ = some (.slice A10 n10 p10) at q10b
                  change wc.cell? ⟨gq, 6, none⟩ = some (.bool z10) at q10c
                  change wc.cell? ⟨gq, 7, none⟩ = some (.slice B10 m10 d10) at q10d
                  have hgr := hG.1
                  have ne5 : ¬ wc.heap.size = gq := by omega
                  have ne6 : ¬ gq = wc.heap.size := by omega
                  have KZ := Mm.nil wc
                  go_cut [28, 29] from 190 to 199 (fun sp se wx => se = .int .i64 0 ∧ BoxF wc (fr ru * fr ru) sp wx)
                  case first =>
                    go_wp2_with fail
                    go_region_held3 (fun w' => w'.cell? ⟨gq, 4, none⟩ = some (.bool s10) ∧ w'.cell? ⟨gq, 5, none⟩ = some (.slice A10 n10 p10) ∧ w'.cell? ⟨gq, 6, none⟩ = some (.bool z10) ∧ w'.cell? ⟨gq, 7, none⟩ = some (.slice B10 m10 d10))
                      (go_keep)
                      (first
                        | (go_at_call 23; (with_reducible refine (frac_mul_any s10 A10 n10 p10 l10 z10 B10 m10 d10 k10 s10 A10 n10 p10 l10 z10 B10 m10 d10 k10 _ _ (fr ru * fr ru) _ ?_ ?_ HS6.out (Lib.hid rfl)).mono ?_); (first | (with_reducible exact O10) | exact O10.next KZ.1 | exact O10.next KZ.drew.1 | exact O10.next (KZ.drewN _).1 | exact O10.next (KZ.var (g := wc.heap.size) rfl [.bool false, .slice none 0 0, .bool false, .slice none 0 0] 26).1 | exact O10.next (KZ.var (g := wc.heap.size) rfl [.bool false, .slice none 0 0, .bool false, .slice none 0 0] 26).drew.1 | exact O10.next ((KZ.var (g := wc.heap.size) rfl [.bool false, .slice none 0 0, .bool false, .slice none 0 0] 26).drewN _).1 | exact O10.next (KZ.drew.var (g := wc.heap.size) rfl [.bool false, .slice none 0 0, .bool false, .slice none 0 0] 26).1 | exact O10.next ((KZ.drewN _).var (g := wc.heap.size) rfl [.bool false, .slice none 0 0, .bool false, .slice none 0 0] 26).1); (first | (with_reducible exact O10) | exact O10.next KZ.1 | exact O10.next KZ.drew.1 | exact O10.next (KZ.drewN _).1 | exact O10.next (KZ.var (g := wc.heap.size) rfl [.bool false, .slice none 0 0, .bool false, .slice none 0 0] 26).1 | exact O10.next (KZ.var (g := wc.heap.size) rfl [.bool false, .slice none 0 0, .bool false, .slice none 0 0] 26).drew.1 | exact O10.next ((KZ.var (g := wc.heap.size) rfl [.bool false, .slice none 0 0, .bool false, .slice none 0 0] 26).drewN _).1 | exact O10.next (KZ.drew.var (g := wc.heap.size) rfl [.bool false, .slice none 0 0, .bool false, .slice none 0 0] 26).1 | exact O10.next ((KZ.drewN _).var (g := wc.heap.size) rfl [.bool false, .slice none 0 0, .bool false, .slice none 0 0] 26).1); rintro e1x w1 ⟨t1, C1, u1, e1, v1, t2, C2, u2, e2, v2, rfl, O3, hb1⟩; obtain ⟨I1, J1, _⟩ := O3.ints; (first | (with_reducible have K1 := ((KZ.next hb1).int J1).int I1) | (with_reducible have K1 := ((KZ.drew.next hb1).int J1).int I1) | (with_reducible have K1 := (((KZ.drewN _).next hb1).int J1).int I1) | (with_reducible have K1 := (((KZ.var (g := wc.heap.size) rfl [.bool false, .slice none 0 0, .bool false, .slice none 0 0] 26).next hb1).int J1).int I1) | (with_reducible have K1 := (((KZ.var (g := wc.heap.size) rfl [.bool false, .slice none 0 0, .bool false, .slice none 0 0] 26).drew.next hb1).int J1).int I1) | (with_reducible have K1 := ((((KZ.var (g := wc.heap.size) rfl [.bool false, .slice none 0 0, .bool false, .slice none 0 0] 26).drewN _).next hb1).int J1).int I1) | (with_reducible have K1 := (((KZ.drew.var (g := wc.heap.size) rfl [.bool false, .slice none 0 0, .bool false, .slice none 0 0] 26).next hb1).int J1).int I1) | (with_reducible have K1 := ((((KZ.drewN _).var (g := wc.heap.size) rfl [.bool false, .slice none 0 0, .bool false, .slice none 0 0] 26).next hb1).int J1).int I1)); have y0 := ((bcell K1.1).1 gq 4 hgr).trans q10a; have y1 := ((bcell K1.1).1 gq 5 hgr).trans q10b; have y2 := ((bcell K1.1).1 gq 6 hgr).trans q10c; have y3 := ((bcell K1.1).1 gq 7 hgr).trans q10d; (try (obtain ⟨⟨ra, rb, rc, rd⟩, ⟨re, rf, rg, rh⟩, ri⟩ := (K1.blk (g := wc.heap.size) (vs := [.bool false, .slice none 0 0, .bool false, .slice none 0 0]) List.mem_cons_self).four)); clear I1 J1 O3)
                        | fail)
                    all_goals (go_wp2_with fail)
                    all_goals go_meet
                    all_goals (first
                      | exact ⟨rfl, BoxF.of (K1.var (g := w1.heap.size) rfl [.bool t1, .slice C1 u1 e1, .bool t2, .slice C2 u2 e2] 26) HS6.out⟩
                      | exact ⟨rfl, BoxF.of (K1.set4 (by simp) t1 C1 u1 e1 t2 C2 u2 e2) HS6.out⟩
                      | exact ⟨rfl, BoxF.of ((K1.var (g := w1.heap.size) rfl [.bool false, .slice none 0 0, .bool false, .slice none 0 0] 26).set4 (by simp) t1 C1 u1 e1 t2 C2 u2 e2) HS6.out⟩)
                  case rest =>
                    obtain ⟨rfl, g28, s28, A28, n28, p28, l28, z28, B28, m28, d28, k28, rfl, BK28, O28, hb28⟩ := hcut
                    clear O10 q10a q10b q10c q10d KZ ne5 ne6 hgr
                    replace hF := hF.next hb28
                    replace hG := hG.next hb28
                    replace BK26 := BK26.next hb28
                    replace O26 := O26.next hb28
                    replace hB := below_next hB hb28
                    go_upto_region 27 with (fail)
                    obtain ⟨s11, A11, n11, p11, l11, z11, B11, m11, d11, k11, q11a, q11b, q11c, q11d, O11⟩ := frs_ok hF 0 (by decide) (HVV.out 0 (by decide)) HFA.out
                    change wc.cell? ⟨gr, 0, none⟩ = some (.bool s11) at q11a
                    change wc.cell? ⟨gr, 1, none⟩ = some (.slice A11 n11 p11) at q11b
                    change wc.cell? ⟨gr, 2, none⟩ = some (.bool z11) at q11c
                    change wc.cell? ⟨gr, 3, none⟩ = some (.slice B11 m11 d11) at q11d
                    have hgr := hF.1
                    have KZ := Mm.nil wc
                    obtain ⟨⟨xa, xb, xc, xd⟩, _, hg26⟩ := BK26.four
                    obtain ⟨⟨ya, yb, yc, yd⟩, _, hg28⟩ := BK28.four
                    go_wp2_with fail
                    go_region_held3 (fun w' => w'.cell? ⟨gr, 0, none⟩ = some (.bool s11) ∧ w'.cell? ⟨gr, 1, none⟩ = some (.slice A11 n11 p11) ∧ w'.cell? ⟨gr, 2, none⟩ = some (.bool z11) ∧ w'.cell? ⟨gr, 3, none⟩ = some (.slice B11 m11 d11) ∧ w'.cell? ⟨g26, 0, none⟩ = some (.bool s26) ∧ w'.cell? ⟨g26, 1, none⟩ = some (.slice A26 n26 p26) ∧ w'.cell? ⟨g26, 2, none⟩ = some (.bool z26) ∧ w'.cell? ⟨g26, 3, none⟩ = some (.slice B26 m26 d26) ∧ w'.cell? ⟨g28, 0, none⟩ = some (.bool s28) ∧ w'.cell? ⟨g28, 1, none⟩ = some (.slice A28 n28 p28) ∧ w'.cell? ⟨g28, 2, none⟩ = some (.bool z28) ∧ w'.cell? ⟨g28, 3, none⟩ = some (.slice B28 m28 d28))
                      (go_keep)
                      (first
                        | (go_at_call 21; (with_reducible refine (frac_cmp_any s26 A26 n26 p26 l26 z26 B26 m26 d26 k26 s11 A11 n11 p11 l11 z11 B11 m11 d11 k11 (fr rd * fr rd) (fr a) Lq _ ?_ ?_ HLQ).mono ?_); (first | (with_reducible exact O26) | exact O26.next KZ.1 | exact O26.next KZ.drew.1 | exact O26.next (KZ.drewN _).1); (first | (with_reducible exact O11) | exact O11.next KZ.1 | exact O11.next KZ.drew.1 | exact O11.next (KZ.drewN _).1); rintro e1q w1q ⟨rfl, hb1q⟩; (first | (with_reducible have K1 := KZ.next hb1q) | (with_reducible have K1 := KZ.drew.next hb1q) | (with_reducible have K1 := (KZ.drewN _).next hb1q)); have k1y0 := ((bcell K1.1).1 gr 0 hgr).trans q11a; have k1y1 := ((bcell K1.1).1 gr 1 hgr).trans q11b; have k1y2 := ((bcell K1.1).1 gr 2 hgr).trans q11c; have k1y3 := ((bcell K1.1).1 gr 3 hgr).trans q11d; have k1y4 := ((bcell K1.1).1 g26 0 hg26).trans xa; have k1y5 := ((bcell K1.1).1 g26 1 hg26).trans xb; have k1y6 := ((bcell K1.1).1 g26 2 hg26).trans xc; have k1y7 := ((bcell K1.1).1 g26 3 hg26).trans xd; have k1y8 := ((bcell K1.1).1 g28 0 hg28).trans ya; have k1y9 := ((bcell K1.1).1 g28 1 hg28).trans yb; have k1y10 := ((bcell K1.1).1 g28 2 hg28).trans yc; have k1y11 := ((bcell K1.1).1 g28 3 hg28).trans yd)
                        | (go_at_call 21; (with_reducible refine (frac_cmp_any s28 A28 n28 p28 l28 z28 B28 m28 d28 k28 s11 A11 n11 p11 l11 z11 B11 m11 d11 k11 (fr ru * fr ru) (fr a) Hq _ ?_ ?_ HHQ).mono ?_); (first | (with_reducible exact O28) | exact O28.next K1.1 | exact O28.next K1.drew.1 | exact O28.next (K1.drewN _).1); (first | (with_reducible exact O11) | exact O11.next K1.1 | exact O11.next K1.drew.1 | exact O11.next (K1.drewN _).1); rintro e2q w2q ⟨rfl, hb2q⟩; (first | (with_reducible have K2 := K1.next hb2q) | (with_reducible have K2 := K1.drew.next hb2q) | (with_reducible have K2 := (K1.drewN _).next hb2q)); have k2y0 := ((bcell K2.1).1 gr 0 hgr).trans q11a; have k2y1 := ((bcell K2.1).1 gr 1 hgr).trans q11b; have k2y2 := ((bcell K2.1).1 gr 2 hgr).trans q11c; have k2y3 := ((bcell K2.1).1 gr 3 hgr).trans q11d; have k2y4 := ((bcell K2.1).1 g26 0 hg26).trans xa; have k2y5 := ((bcell K2.1).1 g26 1 hg26).trans xb; have k2y6 := ((bcell K2.1).1 g26 2 hg26).trans xc; have k2y7 := ((bcell K2.1).1 g26 3 hg26).trans xd; have k2y8 := ((bcell K2.1).1 g28 0 hg28).trans ya; have k2y9 := ((bcell K2.1).1 g28 1 hg28).trans yb; have k2y10 := ((bcell K2.1).1 g28 2 hg28).trans yc; have k2y11 := ((bcell K2.1).1 g28 3 hg28).trans yd)
                        | fail)
                    all_goals
                      have hBZ := below_next hB K2.1
                      rcases HEQ.out with ⟨rfl, rfl, ho⟩ | ⟨rfl, rfl, ho⟩
                      · go_wp2_with fail
                        go_ret
                        exact ⟨rfl, hBZ⟩
                      · go_wp2_with fail
                        go_ret
                        exact ⟨rfl, hBZ⟩
              · exfalso
                match j, hj with
                | 0, _ => exact hno HRD.out
                | 1, _ => exact hno HRU.out
  · have hB := below_box hb2
    clear hb2
    by_cases fa : Flt.Fin a
    · have fb : ¬ Flt.Fin b := by
        match j, hj with
        | 0, _ => exact absurd fa hno
        | 1, _ => exact hno
      have HSA : Hid (∀ t, IsOp Ieee.double.sub a a t → Flt.nanB t = false) := Lib.hid (fun t h => sub_num h fa)
      have HSB : Hid (∀ t, IsOp Ieee.double.sub b b t → Flt.nanB t = true) := Lib.hid (fun t h => sub_nan h fb)
      clear fa fb hno
      go_wp2_with fail
      refine (law_alive _).mono ?_
      rintro e3 w3 ⟨rfl, hb3⟩
      go_wp2_with fail
      refine (law_alive _).mono ?_
      rintro e4 w4 ⟨rfl, hb4⟩
      have hB4 := below_next (below_next hB hb3) hb4
      go_wp2_with fail
      refine upon_fsub ?_
      intro t1 n1 hs1
      have e1 := HSA.out _ hs1
      go_wp2_with (first | (go_at_call 14; (with_reducible refine (isNaN_any t1 _).mono ?_); rintro e7 w7 ⟨rfl, rfl⟩; rw [e1]) | fail)
      refine upon_fsub ?_
      intro t2 n2 hs2
      have e2 := HSB.out _ hs2
      go_wp2_with (first | (go_at_call 14; (with_reducible refine (isNaN_any t2 _).mono ?_); rintro e8 w8 ⟨rfl, rfl⟩; rw [e2]) | fail)
      go_ret
      exact ⟨rfl, below_drewN hB4 _⟩
    · have HSA : Hid (∀ t, IsOp Ieee.double.sub a a t → Flt.nanB t = true) := Lib.hid (fun t h => sub_nan h fa)
      clear fa hno
      go_wp2_with fail
      refine (law_alive _).mono ?_
      rintro e3 w3 ⟨rfl, hb3⟩
      go_wp2_with fail
      refine (law_alive _).mono ?_
      rintro e4 w4 ⟨rfl, hb4⟩
      have hB4 := below_next (below_next hB hb3) hb4
      go_wp2_with fail
      refine upon_fsub ?_
      intro t1 n1 hs1
      have e1 := HSA.out _ hs1
      go_wp2_with (first | (go_at_call 14; (with_reducible refine (isNaN_any t1 _).mono ?_); rintro e7 w7 ⟨rfl, rfl⟩; rw [e1]) | fail)
      go_ret
      exact ⟨rfl, below_drewN hB4 _⟩
end Go.Proofs.YtjcjphgpmpjmbaaDoor
