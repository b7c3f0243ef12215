/-
  RoundWhole answers true.
-/
import Derived.Test.YtjcjphgpmpjmbaaDoorWhoP
import Derived.Test.YtjcjphgpmpjmbaaDoorSpnP
namespace Go.Proofs.YtjcjphgpmpjmbaaDoor
open Go.RowKit

set_option maxRecDepth 100000 in
set_option maxHeartbeats 6400000 in
theorem law_roundWhole (a b : Nat) (w : World) (ha : a < 2 ^ 64) (hb : b < 2 ^ 64) (hT : Tab w) :
    Calls Tryd.prog 4 #[.float .f64 a, .float .f64 b] w (RetV w (.bool true)) := by
  have HT := Lib.hid hT
  clear hT
  go_enter Tryd.func4, Tryd.ntmps4
  go_wp2_with fail
  refine (rnd_two_any a b ha hb _).mono ?_
  rintro e1 w1 ⟨s, o, rfl, h2, hb1⟩
  have hs := h2.1.1
  have ho := h2.2.1
  have H2 := Lib.hid h2
  have HQ : Hid (∀ t, IsOp Ieee.double.add a b t → Flt.sameB s t = true) := Lib.hid (fun t h => same_sameB (Flt.IsAdd.same H2.out.1 h))
  clear h2
  go_wp2_with fail
  refine (law_worth w1.heap.size 4 4 (fun i => if i = 0 then a else if i = 1 then b else if i = 2 then s else o) _ (by simp) (by decide) (by decide) (four_floats w1 a b s o 27 ha hb hs ho) ((HT.out.next hb1).box _)).mono ?_
  rintro e2 w2 hwo
  have hall : (∃ g c F, e2 = .returned (.tuple #[.slice (some ⟨g, 0, none⟩) 4 c, .bool true]) ∧ Flt.Fin s ∧ Frs w2 g 4 F ∧ (∀ j, j < 4 → (F j).2.2 = fr ((fun i => if i = 0 then a else if i = 1 then b else if i = 2 then s else o) j)) ∧ 4 ≤ c ∧ Below w.heap.size w w2) ∨ (¬ Flt.Fin s ∧ e2 = .returned (.tuple #[.slice none 0 0, .bool false]) ∧ Below w.heap.size w w2) := by
    rcases hwo with ⟨k, g, c, F, rfl, hc, hF, hV, _, hb2⟩ | ⟨⟨j, hj, hno⟩, rfl, hb2⟩
    · exact .inl ⟨g, c, F, rfl, k 2 (by decide), hF, hV, hc, below_next hb1 (below_box hb2)⟩
    · refine .inr ⟨fun hf => hno ?_, rfl, below_next hb1 (below_box hb2)⟩
      obtain ⟨fa, fb⟩ := fin_args H2.out.1 hf
      have fo := (H2.out.2.2.1 hf).1
      match j, hj with
      | 0, _ => exact fa
      | 1, _ => exact fb
      | 2, _ => exact hf
      | 3, _ => exact fo
  clear hwo hb1
  rcases hall with ⟨gr, cr, F, rfl, hf, hF, hV, hcr, hb2⟩ | ⟨hf, rfl, hb2⟩
  · have HFS := Lib.hid hf
    have HFA := Lib.hid (fin_args H2.out.1 hf)
    have HFO := Lib.hid (H2.out.2.2.1 hf).1
    have HSUM : Hid (rcmp (fr a + fr b) (fr s + fr o) = 0) := Lib.hid (by
      have := (H2.out.2.2.1 hf).2.1
      rw [fr_sums (show Flt.sv a + Flt.sv b = Flt.sv s + Flt.sv o by omega)]
      exact rcmp_self _)
    have HS1 : Hid (Sz (fr a + fr b) 2048) := Lib.hid (((fr_sz HFA.out.1).add (fr_sz HFA.out.2)).mono (by decide))
    have HS2 : Hid (Sz (fr s + fr o) 2048) := Lib.hid (((fr_sz hf).add (fr_sz HFO.out)).mono (by decide))
    have HVV := Lib.hid hV
    clear hf hV
    go_wp2_with fail
    refine (law_alive _).mono ?_
    rintro e3 w3 ⟨rfl, hb3⟩
    have hF3 := hF.next hb3
    have hbA := below_next hb2 hb3
    clear hF hb2 hb3
    go_wp2_with fail
    refine upon_fadd ?_
    intro t dd hs1
    have e := HQ.out _ hs1
    clear hs1
    go_upto_region 7 with (first
      | (go_at_call 18; (with_reducible refine (law_sameFloat s _ _).mono ?_); rintro e4 w4 ⟨rfl, rfl⟩; rw [e])
      | fail)
    have hF5 := hF3.drewN dd
    have hb5 := below_drewN hbA dd
    clear hF3 hbA
    generalize w3.drewN dd = w5 at hF5 hb5 ⊢
    have hgr := hF5.1
    have ne5 : ¬ w5.heap.size = gr := by omega
    have ne6 : ¬ gr = w5.heap.size := by omega
    have c01 : (0 : Nat) < 4 := by decide
    obtain ⟨s1, A1, n1, p1, l1, z1, B1, m1, d1, k1, q1a, q1b, q1c, q1d, O1⟩ := frs_ok hF5 0 (by decide) (HVV.out 0 (by decide)) HFA.out.1
    change w5.cell? ⟨gr, 0, none⟩ = some (.bool s1) at q1a
    change w5.cell? ⟨gr, 1, none⟩ = some (.slice A1 n1 p1) at q1b
    change w5.cell? ⟨gr, 2, none⟩ = some (.bool z1) at q1c
    change w5.cell? ⟨gr, 3, none⟩ = some (.slice B1 m1 d1) at q1d
    obtain ⟨s2, A2, n2, p2, l2, z2, B2, m2, d2, k2, q2a, q2b, q2c, q2d, O2⟩ := frs_ok hF5 1 (by decide) (HVV.out 1 (by decide)) HFA.out.2
    change w5.cell? ⟨gr, 4, none⟩ = some (.bool s2) at q2a
    change w5.cell? ⟨gr, 5, none⟩ = some (.slice A2 n2 p2) at q2b
    change w5.cell? ⟨gr, 6, none⟩ = some (.bool z2) at q2c
    change w5.cell? ⟨gr, 7, none⟩ = some (.slice B2 m2 d2) at q2d
    have KZ := Mm.nil w5
    go_cut [9, 10] from 49 to 58 (fun sp se wx => se = .int .i64 0 ∧ BoxF w5 (fr a + fr b) sp wx)
    case first =>
      go_wp2_with fail
      go_region_held3 (fun w' => w'.cell? ⟨gr, 0, none⟩ = some (.bool s1) ∧ w'.cell? ⟨gr, 1, none⟩ = some (.slice A1 n1 p1) ∧ w'.cell? ⟨gr, 2, none⟩ = some (.bool z1) ∧ w'.cell? ⟨gr, 3, none⟩ = some (.slice B1 m1 d1) ∧ w'.cell? ⟨gr, 4, none⟩ = some (.bool s2) ∧ w'.cell? ⟨gr, 5, none⟩ = some (.slice A2 n2 p2) ∧ w'.cell? ⟨gr, 6, none⟩ = some (.bool z2) ∧ w'.cell? ⟨gr, 7, none⟩ = some (.slice B2 m2 d2))
        (go_keep)
        (first
          | (go_at_call 20; (with_reducible refine (frac_add_any s1 A1 n1 p1 l1 z1 B1 m1 d1 k1 s2 A2 n2 p2 l2 z2 B2 m2 d2 k2 _ _ (fr a + fr b) _ ?_ ?_ HS1.out (Lib.hid rfl)).mono ?_); (first | (with_reducible exact O1) | exact O1.next KZ.1 | exact O1.next KZ.drew.1 | exact O1.next (KZ.drewN _).1 | exact O1.next (KZ.var (g := w5.heap.size) rfl [.bool false, .slice none 0 0, .bool false, .slice none 0 0] 26).1 | exact O1.next (KZ.var (g := w5.heap.size) rfl [.bool false, .slice none 0 0, .bool false, .slice none 0 0] 26).drew.1 | exact O1.next ((KZ.var (g := w5.heap.size) rfl [.bool false, .slice none 0 0, .bool false, .slice none 0 0] 26).drewN _).1 | exact O1.next (KZ.drew.var (g := w5.heap.size) rfl [.bool false, .slice none 0 0, .bool false, .slice none 0 0] 26).1 | exact O1.next ((KZ.drewN _).var (g := w5.heap.size) rfl [.bool false, .slice none 0 0, .bool false, .slice none 0 0] 26).1); (first | (with_reducible exact O2) | exact O2.next KZ.1 | exact O2.next KZ.drew.1 | exact O2.next (KZ.drewN _).1 | exact O2.next (KZ.var (g := w5.heap.size) rfl [.bool false, .slice none 0 0, .bool false, .slice none 0 0] 26).1 | exact O2.next (KZ.var (g := w5.heap.size) rfl [.bool false, .slice none 0 0, .bool false, .slice none 0 0] 26).drew.1 | exact O2.next ((KZ.var (g := w5.heap.size) rfl [.bool false, .slice none 0 0, .bool false, .slice none 0 0] 26).drewN _).1 | exact O2.next (KZ.drew.var (g := w5.heap.size) rfl [.bool false, .slice none 0 0, .bool false, .slice none 0 0] 26).1 | exact O2.next ((KZ.drewN _).var (g := w5.heap.size) rfl [.bool false, .slice none 0 0, .bool false, .slice none 0 0] 26).1); rintro e1x w1 ⟨t1, C1, u1, e1, v1, t2, C2, u2, e2, v2, rfl, O3, hb1⟩; obtain ⟨I1, J1, _⟩ := O3.ints; (first | (with_reducible have K1 := ((KZ.next hb1).int J1).int I1) | (with_reducible have K1 := ((KZ.drew.next hb1).int J1).int I1) | (with_reducible have K1 := (((KZ.drewN _).next hb1).int J1).int I1) | (with_reducible have K1 := (((KZ.var (g := w5.heap.size) rfl [.bool false, .slice none 0 0, .bool false, .slice none 0 0] 26).next hb1).int J1).int I1) | (with_reducible have K1 := (((KZ.var (g := w5.heap.size) rfl [.bool false, .slice none 0 0, .bool false, .slice none 0 0] 26).drew.next hb1).int J1).int I1) | (with_reducible have K1 := ((((KZ.var (g := w5.heap.size) rfl [.bool false, .slice none 0 0, .bool false, .slice none 0 0] 26).drewN _).next hb1).int J1).int I1) | (with_reducible have K1 := (((KZ.drew.var (g := w5.heap.size) rfl [.bool false, .slice none 0 0, .bool false, .slice none 0 0] 26).next hb1).int J1).int I1) | (with_reducible have K1 := ((((KZ.drewN _).var (g := w5.heap.size) rfl [.bool false, .slice none 0 0, .bool false, .slice none 0 0] 26).next hb1).int J1).int I1)); have y0 := ((bcell K1.1).1 gr 0 hgr).trans q1a; have y1 := ((bcell K1.1).1 gr 1 hgr).trans q1b; have y2 := ((bcell K1.1).1 gr 2 hgr).trans q1c; have y3 := ((bcell K1.1).1 gr 3 hgr).trans q1d; have y4 := ((bcell K1.1).1 gr 4 hgr).trans q2a; have y5 := ((bcell K1.1).1 gr 5 hgr).trans q2b; have y6 := ((bcell K1.1).1 gr 6 hgr).trans q2c; have y7 := ((bcell K1.1).1 gr 7 hgr).trans q2d; (try (obtain ⟨⟨ra, rb, rc, rd⟩, ⟨re, rf, rg, rh⟩, ri⟩ := (K1.blk (g := w5.heap.size) (vs := [.bool false, .slice none 0 0, .bool false, .slice none 0 0]) List.mem_cons_self).four)); clear I1 J1 O3)
          | fail)
      all_goals (go_wp2_with fail)
      all_goals go_meet
      all_goals (first
        | exact ⟨rfl, BoxF.of (K1.var (g := w1.heap.size) rfl [.bool t1, .slice C1 u1 e1, .bool t2, .slice C2 u2 e2] 26) HS1.out⟩
        | exact ⟨rfl, BoxF.of (K1.set4 (by simp) t1 C1 u1 e1 t2 C2 u2 e2) HS1.out⟩
        | exact ⟨rfl, BoxF.of ((K1.var (g := w1.heap.size) rfl [.bool false, .slice none 0 0, .bool false, .slice none 0 0] 26).set4 (by simp) t1 C1 u1 e1 t2 C2 u2 e2) HS1.out⟩)
    case rest =>
      obtain ⟨rfl, g9, s9, A9, n9, p9, l9, z9, B9, m9, d9, k9, rfl, BK9, O9, hb9⟩ := hcut
      have hF6 := hF5.next hb9
      have hb6 := below_next hb5 hb9
      clear hF5 hb5 ne5 ne6
      have hgr6 := hF6.1
      have ne5 : ¬ wc.heap.size = gr := by omega
      have ne6 : ¬ gr = wc.heap.size := by omega
      clear q1a q1b q1c q1d q2a q2b q2c q2d O1 O2 KZ
      go_upto_region 8 with (fail)
      obtain ⟨s3, A3, n3, p3, l3, z3, B3, m3, d3, k3, q3a, q3b, q3c, q3d, O3⟩ := frs_ok hF6 2 (by decide) (HVV.out 2 (by decide)) HFS.out
      change wc.cell? ⟨gr, 8, none⟩ = some (.bool s3) at q3a
      change wc.cell? ⟨gr, 9, none⟩ = some (.slice A3 n3 p3) at q3b
      change wc.cell? ⟨gr, 10, none⟩ = some (.bool z3) at q3c
      change wc.cell? ⟨gr, 11, none⟩ = some (.slice B3 m3 d3) at q3d
      obtain ⟨s4, A4, n4, p4, l4, z4, B4, m4, d4, k4, q4a, q4b, q4c, q4d, O4⟩ := frs_ok hF6 3 (by decide) (HVV.out 3 (by decide)) HFO.out
      change wc.cell? ⟨gr, 12, none⟩ = some (.bool s4) at q4a
      change wc.cell? ⟨gr, 13, none⟩ = some (.slice A4 n4 p4) at q4b
      change wc.cell? ⟨gr, 14, none⟩ = some (.bool z4) at q4c
      change wc.cell? ⟨gr, 15, none⟩ = some (.slice B4 m4 d4) at q4d
      have KZ := Mm.nil wc
      go_cut [11, 12] from 59 to 68 (fun sp se wx => se = .int .i64 0 ∧ BoxF wc (fr s + fr o) sp wx)
      case first =>
        go_wp2_with fail
        go_region_held3 (fun w' => w'.cell? ⟨gr, 8, none⟩ = some (.bool s3) ∧ w'.cell? ⟨gr, 9, none⟩ = some (.slice A3 n3 p3) ∧ w'.cell? ⟨gr, 10, none⟩ = some (.bool z3) ∧ w'.cell? ⟨gr, 11, none⟩ = some (.slice B3 m3 d3) ∧ w'.cell? ⟨gr, 12, none⟩ = some (.bool s4) ∧ w'.cell? ⟨gr, 13, none⟩ = some (.slice A4 n4 p4) ∧ w'.cell? ⟨gr, 14, none⟩ = some (.bool z4) ∧ w'.cell? ⟨gr, 15, none⟩ = some (.slice B4 m4 d4))
          (go_keep)
          (first
            | (go_at_call 20; (with_reducible refine (frac_add_any s3 A3 n3 p3 l3 z3 B3 m3 d3 k3 s4 A4 n4 p4 l4 z4 B4 m4 d4 k4 _ _ (fr s + fr o) _ ?_ ?_ HS2.out (Lib.hid rfl)).mono ?_); (first | (with_reducible exact O3) | exact O3.next KZ.1 | exact O3.next KZ.drew.1 | exact O3.next (KZ.drewN _).1 | exact O3.next (KZ.var (g := wc.heap.size) rfl [.bool false, .slice none 0 0, .bool false, .slice none 0 0] 26).1 | exact O3.next (KZ.var (g := wc.heap.size) rfl [.bool false, .slice none 0 0, .bool false, .slice none 0 0] 26).drew.1 | exact O3.next ((KZ.var (g := wc.heap.size) rfl [.bool false, .slice none 0 0, .bool false, .slice none 0 0] 26).drewN _).1 | exact O3.next (KZ.drew.var (g := wc.heap.size) rfl [.bool false, .slice none 0 0, .bool false, .slice none 0 0] 26).1 | exact O3.next ((KZ.drewN _).var (g := wc.heap.size) rfl [.bool false, .slice none 0 0, .bool false, .slice none 0 0] 26).1); (first | (with_reducible exact O4) | exact O4.next KZ.1 | exact O4.next KZ.drew.1 | exact O4.next (KZ.drewN _).1 | exact O4.next (KZ.var (g := wc.heap.size) rfl [.bool false, .slice none 0 0, .bool false, .slice none 0 0] 26).1 | exact O4.next (KZ.var (g := wc.heap.size) rfl [.bool false, .slice none 0 0, .bool false, .slice none 0 0] 26).drew.1 | exact O4.next ((KZ.var (g := wc.heap.size) rfl [.bool false, .slice none 0 0, .bool false, .slice none 0 0] 26).drewN _).1 | exact O4.next (KZ.drew.var (g := wc.heap.size) rfl [.bool false, .slice none 0 0, .bool false, .slice none 0 0] 26).1 | exact O4.next ((KZ.drewN _).var (g := wc.heap.size) rfl [.bool false, .slice none 0 0, .bool false, .slice none 0 0] 26).1); rintro e1x w1 ⟨t1, C1, u1, e1, v1, t2, C2, u2, e2, v2, rfl, O3, hb1⟩; obtain ⟨I1, J1, _⟩ := O3.ints; (first | (with_reducible have K1 := ((KZ.next hb1).int J1).int I1) | (with_reducible have K1 := ((KZ.drew.next hb1).int J1).int I1) | (with_reducible have K1 := (((KZ.drewN _).next hb1).int J1).int I1) | (with_reducible have K1 := (((KZ.var (g := wc.heap.size) rfl [.bool false, .slice none 0 0, .bool false, .slice none 0 0] 26).next hb1).int J1).int I1) | (with_reducible have K1 := (((KZ.var (g := wc.heap.size) rfl [.bool false, .slice none 0 0, .bool false, .slice none 0 0] 26).drew.next hb1).int J1).int I1) | (with_reducible have K1 := ((((KZ.var (g := wc.heap.size) rfl [.bool false, .slice none 0 0, .bool false, .slice none 0 0] 26).drewN _).next hb1).int J1).int I1) | (with_reducible have K1 := (((KZ.drew.var (g := wc.heap.size) rfl [.bool false, .slice none 0 0, .bool false, .slice none 0 0] 26).next hb1).int J1).int I1) | (with_reducible have K1 := ((((KZ.drewN _).var (g := wc.heap.size) rfl [.bool false, .slice none 0 0, .bool false, .slice none 0 0] 26).next hb1).int J1).int I1)); have y0 := ((bcell K1.1).1 gr 8 hgr6).trans q3a; have y1 := ((bcell K1.1).1 gr 9 hgr6).trans q3b; have y2 := ((bcell K1.1).1 gr 10 hgr6).trans q3c; have y3 := ((bcell K1.1).1 gr 11 hgr6).trans q3d; have y4 := ((bcell K1.1).1 gr 12 hgr6).trans q4a; have y5 := ((bcell K1.1).1 gr 13 hgr6).trans q4b; have y6 := ((bcell K1.1).1 gr 14 hgr6).trans q4c; have y7 := ((bcell K1.1).1 gr 15 hgr6).trans q4d; (try (obtain ⟨⟨ra, rb, rc, rd⟩, ⟨re, rf, rg, rh⟩, ri⟩ := (K1.blk (g := wc.heap.size) (vs := [.bool false, .slice none 0 0, .bool false, .slice none 0 0]) List.mem_cons_self).four)); clear I1 J1 O3)
            | fail)
        all_goals (go_wp2_with fail)
        all_goals go_meet
        all_goals (first
          | exact ⟨rfl, BoxF.of (K1.var (g := w1.heap.size) rfl [.bool t1, .slice C1 u1 e1, .bool t2, .slice C2 u2 e2] 26) HS2.out⟩
          | exact ⟨rfl, BoxF.of (K1.set4 (by simp) t1 C1 u1 e1 t2 C2 u2 e2) HS2.out⟩
          | exact ⟨rfl, BoxF.of ((K1.var (g := w1.heap.size) rfl [.bool false, .slice none 0 0, .bool false, .slice none 0 0] 26).set4 (by simp) t1 C1 u1 e1 t2 C2 u2 e2) HS2.out⟩)
      case rest =>
        obtain ⟨rfl, g11, s11, A11, n11, p11, l11, z11, B11, m11, d11, k11, rfl, BK11, O11, hb11⟩ := hcut
        have BK := BK9.next hb11
        have OX := O9.next hb11
        have hb7 := below_next hb6 hb11
        obtain ⟨⟨xa, xb, xc, xd⟩, _, _⟩ := BK.four
        obtain ⟨⟨ya, yb, yc, yd⟩, _, _⟩ := BK11.four
        clear hF6 BK9 O9 q3a q3b q3c q3d q4a q4b q4c q4d O3 O4 KZ
        go_wp2_with fail
        refine (frac_cmp_any s9 A9 n9 p9 l9 z9 B9 m9 d9 k9 s11 A11 n11 p11 l11 z11 B11 m11 d11 k11 _ _ 0 _ OX O11 HSUM).mono ?_
        rintro e9 w9 ⟨rfl, hb12⟩
        go_wp2_with fail
        go_ret
        exact ⟨rfl, below_next hb7 hb12⟩
  · have HSN : Hid (∀ t, IsOp Ieee.double.sub s s t → Flt.nanB t = true) := Lib.hid (fun t h => sub_nan h hf)
    have ho0 : o = 0 := H2.out.2.2.2 hf
    subst ho0
    clear hf
    go_wp2_with fail
    refine (law_alive _).mono ?_
    rintro e3 w3 ⟨rfl, hb3⟩
    have hbA := below_next hb2 hb3
    clear hb2 hb3
    go_wp2_with fail
    refine upon_fadd ?_
    intro t dd hs1
    have e := HQ.out _ hs1
    clear hs1
    go_wp2_with (first
      | (go_at_call 18; (with_reducible refine (law_sameFloat s _ _).mono ?_); rintro e4 w4 ⟨rfl, rfl⟩; rw [e])
      | (refine wpList_fsub _ rfl rfl ?_; intro t2 d2 hs2; have e2 := HSN.out _ hs2; clear hs2)
      | (go_at_call 14; refine (isNaN_any _ _).mono ?_; rintro e7 w7 ⟨rfl, rfl⟩; rw [e2])
      | fail)
    go_ret
    exact ⟨rfl, below_drewN hbA _⟩
end Go.Proofs.YtjcjphgpmpjmbaaDoor
