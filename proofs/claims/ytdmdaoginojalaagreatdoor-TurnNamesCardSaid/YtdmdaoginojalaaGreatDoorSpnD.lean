/-
  Spans: quotients (span.Quo).
-/
import Derived.Test.YtdmdaoginojalaaGreatDoorSpnM
namespace Go.Proofs.YtdmdaoginojalaaGreatDoor
open Go.RowKit

/-- Has the divisor nought? -/
def zB (lb hb : Nat) : Bool := leB lb 0 && (Ieee.double.order hb 0 == some .gt || Ieee.double.order hb 0 == some .eq)
theorem geB_iff {x : Nat} (hx : Flt.Fin x) : (Ieee.double.order x 0 == some .gt || Ieee.double.order x 0 == some .eq) = decide (0 ≤ Flt.sv x) := by
  rw [Flt.gt_spec (fun k => Flt.not_fin_nan k hx) nan_zero, Flt.eq_spec (fun k => Flt.not_fin_nan k hx) nan_zero, sv_zero]
  by_cases h : 0 < Flt.sv x
  · rw [decide_eq_true h, decide_eq_true (show 0 ≤ Flt.sv x by omega)]; rfl
  · by_cases h2 : Flt.sv x = 0
    · rw [decide_eq_true h2, decide_eq_true (show 0 ≤ Flt.sv x by omega)]; simp
    · rw [decide_eq_false h, decide_eq_false h2, decide_eq_false (by omega)]; rfl
theorem zB_iff {lb hb : Nat} (h1 : Flt.Fin lb) (h2 : Flt.Fin hb) : zB lb hb = decide (Flt.sv lb ≤ 0 ∧ 0 ≤ Flt.sv hb) := by
  unfold zB
  rw [leB_iff h1 fin_zero, geB_iff h2, sv_zero, ← Bool.decide_and]
theorem side_of {lb hb : Nat} (h1 : Flt.Fin lb) (h2 : Flt.Fin hb) (hle : Flt.sv lb ≤ Flt.sv hb) (h : zB lb hb = false) : Side lb hb := by
  rw [zB_iff h1 h2, decide_eq_false_iff_not] at h
  unfold Side
  omega
/-- What is told of a quotient of spans. -/
def IsQuot (ok z : Bool) (L H : List (Int × Nat)) (p : Nat × Nat × Int) : Prop :=
  (ok = false → p = (0, 0, 1)) ∧ (ok = true → z = true → p = (0, 0, 3)) ∧ (ok = true → z = false → ∃ lo hi, LowOf L lo ∧ HighOf H hi ∧ p = endsF lo hi)

set_option maxRecDepth 100000 in
set_option maxHeartbeats 1600000 in
theorem span_quo_any (la ha lb hb : Nat) (b1 : la < 2 ^ 64) (b2 : ha < 2 ^ 64) (b3 : lb < 2 ^ 64) (b4 : hb < 2 ^ 64) (w : World) :
    Calls Tryz.prog 157 #[.agg #[.float .f64 la, .float .f64 ha], .agg #[.float .f64 lb, .float .f64 hb]] w (RetSp w (IsQuot (okS la ha && okS lb hb) (zB lb hb) (quoC la ha lb hb) (quoC la ha lb hb))) := by
  obtain ⟨m1, hm1⟩ : ∃ m, (okS la ha && okS lb hb) = m := ⟨_, rfl⟩
  rw [hm1]
  have HM1 := Lib.hid hm1
  clear hm1
  cases m1 with
  | false =>
    go_enter Tryz.func157, Tryz.ntmps157
    go_wp2_with fail
    refine (span_may_two (w.heap.size + 1 + 1 + 1) la ha lb hb _ b1 b2 b3 b4 (by simp) (by simp [go_sem]) (by simp [go_sem]) (by simp [go_sem]) (by simp [go_sem])).mono ?_
    rintro e1 w1 ⟨rfl, hb1⟩
    rw [HM1.out]
    have H1 := Opnd.new w la ha lb hb _ _ _ _ _ hb1
    obtain ⟨i0, i1, i2, i3⟩ := H1.1
    obtain ⟨i4, i5, i6, i7⟩ := H1.2.1
    clear hb1
    go_wp2_with fail
    exact bodyPost_ret (v := .tuple #[.agg #[.float .f64 0, .float .f64 0], .int .i64 1]) (by simp [results, Tryz.results157, go_sem, i4, i5]) rfl
      ⟨(0, 0, 1), ⟨fun _ => rfl, fun h => by simp at h, fun h => by simp at h⟩, rfl, below_result H1.2.2.2 (by omega) _ _⟩
  | true =>
    obtain ⟨ho1, ho2⟩ := Bool.and_eq_true_iff.1 HM1.out
    have HF := Lib.hid (And.intro (okS_iff.1 ho1) (okS_iff.1 ho2))
    clear ho1 ho2
    obtain ⟨m2, hm2⟩ : ∃ m, leB lb 0 = m := ⟨_, rfl⟩
    obtain ⟨m3, hm3⟩ : ∃ m, (Ieee.double.order hb 0 == some .gt || Ieee.double.order hb 0 == some .eq) = m := ⟨_, rfl⟩
    have HZ : Hid (zB lb hb = (m2 && m3)) := Lib.hid (by unfold zB; rw [hm2, hm3])
    have o2 : (Ieee.double.order lb 0 == some .lt || Ieee.double.order lb 0 == some .eq) = m2 := hm2
    clear hm2
    rw [HZ.out]
    cases m2 with
    | false =>
      have HSD : Hid (Side lb hb) := Lib.hid (side_of HF.out.2.1 HF.out.2.2.1 HF.out.2.2.2 (by rw [HZ.out]; rfl))
      go_enter Tryz.func157, Tryz.ntmps157
      go_wp2_with fail
      refine (span_may_two (w.heap.size + 1 + 1 + 1) la ha lb hb _ b1 b2 b3 b4 (by simp) (by simp [go_sem]) (by simp [go_sem]) (by simp [go_sem]) (by simp [go_sem])).mono ?_
      rintro e1 w1 ⟨rfl, hb1⟩
      rw [HM1.out]
      have H1 := Opnd.new w la ha lb hb _ _ _ _ _ hb1
      obtain ⟨i0, i1, i2, i3⟩ := H1.1
      obtain ⟨i4, i5, i6, i7⟩ := H1.2.1
      clear hb1
      go_wp2_with fail
      have n1 : ¬ w.heap.size = w.heap.size + 1 + 1 := by omega
      have n2 : ¬ w.heap.size + 1 + 1 = w.heap.size := by omega
      have n3 : ¬ w.heap.size + 1 = w.heap.size + 1 + 1 := by omega
      have n4 : ¬ w.heap.size + 1 + 1 = w.heap.size + 1 := by omega
      go_region_held3 (fun w' => w'.cell? ⟨w.heap.size, 0, none⟩ = some (.float .f64 la) ∧ w'.cell? ⟨w.heap.size, 1, none⟩ = some (.float .f64 ha) ∧ w'.cell? ⟨w.heap.size + 1, 0, none⟩ = some (.float .f64 lb) ∧ w'.cell? ⟨w.heap.size + 1, 1, none⟩ = some (.float .f64 hb))
        (first | exact H1.1 | exact H2.1 | exact H3.1 | exact H4.1 | exact H5.1 | exact H6.1 | exact H7.1 | exact H8.1 | exact H9.1 | exact H10.1 | go_keep)
        (first
          | (go_at_call 270; (with_reducible refine (rnd_quo_any la lb b1 b3 _).mono ?_); rintro e2 w2 ⟨d0, u0, rfl, hs2, hb2⟩; have H2 := H1.next (by first | exact hb2 | exact below_of_drew hb2 | exact below_of_drewN hb2); have HP0 := Lib.hid hs2; clear hb2 hs2)
          | (go_at_call 269; (with_reducible refine (span_both_any d0 u0 _).mono ?_); rintro e3 w3 ⟨rfl, hb3⟩; have H3 := H2.next (by first | exact hb3 | exact below_of_drew hb3 | exact below_of_drewN hb3); clear hb3)
          | (go_at_call 270; (with_reducible refine (rnd_quo_any la hb b1 b4 _).mono ?_); rintro e4 w4 ⟨d1, u1, rfl, hs4, hb4⟩; have H4 := H3.next (by first | exact hb4 | exact below_of_drew hb4 | exact below_of_drewN hb4); have HP1 := Lib.hid hs4; clear hb4 hs4)
          | (go_at_call 269; (with_reducible refine (span_both_any d1 u1 _).mono ?_); rintro e5 w5 ⟨rfl, hb5⟩; have H5 := H4.next (by first | exact hb5 | exact below_of_drew hb5 | exact below_of_drewN hb5); clear hb5)
          | (go_at_call 270; (with_reducible refine (rnd_quo_any ha lb b2 b3 _).mono ?_); rintro e6 w6 ⟨d2, u2, rfl, hs6, hb6⟩; have H6 := H5.next (by first | exact hb6 | exact below_of_drew hb6 | exact below_of_drewN hb6); have HP2 := Lib.hid hs6; clear hb6 hs6)
          | (go_at_call 269; (with_reducible refine (span_both_any d2 u2 _).mono ?_); rintro e7 w7 ⟨rfl, hb7⟩; have H7 := H6.next (by first | exact hb7 | exact below_of_drew hb7 | exact below_of_drewN hb7); clear hb7)
          | (go_at_call 270; (with_reducible refine (rnd_quo_any ha hb b2 b4 _).mono ?_); rintro e8 w8 ⟨d3, u3, rfl, hs8, hb8⟩; have H8 := H7.next (by first | exact hb8 | exact below_of_drew hb8 | exact below_of_drewN hb8); have HP3 := Lib.hid hs8; clear hb8 hs8)
          | (go_at_call 269; (with_reducible refine (span_both_any d3 u3 _).mono ?_); rintro e9 w9 ⟨rfl, hb9⟩; have H9 := H8.next (by first | exact hb9 | exact below_of_drew hb9 | exact below_of_drewN hb9); clear hb9)
          | (go_at_call 268; (refine (span_outer_any w9.heap.size [(d0, u0), (d1, u1), (d2, u2), (d3, u3)] _ (inSpans_new4 w9 _ ⟨⟨(div_down HP0.out (HF.out.1.1) (HF.out.2.1) (side_rg HSD.out).1).1.1, (div_down HP0.out (HF.out.1.1) (HF.out.2.1) (side_rg HSD.out).1).2.1⟩, ⟨(div_down HP1.out (HF.out.1.1) (HF.out.2.2.1) (side_rg HSD.out).2).1.1, (div_down HP1.out (HF.out.1.1) (HF.out.2.2.1) (side_rg HSD.out).2).2.1⟩, ⟨(div_down HP2.out (HF.out.1.2.1) (HF.out.2.1) (side_rg HSD.out).1).1.1, (div_down HP2.out (HF.out.1.2.1) (HF.out.2.1) (side_rg HSD.out).1).2.1⟩, ⟨(div_down HP3.out (HF.out.1.2.1) (HF.out.2.2.1) (side_rg HSD.out).2).1.1, (div_down HP3.out (HF.out.1.2.1) (HF.out.2.2.1) (side_rg HSD.out).2).2.1⟩⟩) 3 rfl (by decide) (by decide)).mono ?_); rintro e10 w10 ⟨rfl, hb10⟩; have H10 := H9.next (below_box hb10); clear hb10; obtain ⟨r0, r1, r2, r3⟩ := H10.2.1; obtain ⟨s0, s1, s2, s3⟩ := H10.1))
      go_wp2_with fail
      exact bodyPost_ret (v := .tuple #[.agg #[.float .f64 (endsF (lwF [(d0, u0), (d1, u1), (d2, u2), (d3, u3)] 3) (hgF [(d0, u0), (d1, u1), (d2, u2), (d3, u3)] 3)).1, .float .f64 (endsF (lwF [(d0, u0), (d1, u1), (d2, u2), (d3, u3)] 3) (hgF [(d0, u0), (d1, u1), (d2, u2), (d3, u3)] 3)).2.1], .int .i64 (endsF (lwF [(d0, u0), (d1, u1), (d2, u2), (d3, u3)] 3) (hgF [(d0, u0), (d1, u1), (d2, u2), (d3, u3)] 3)).2.2]) (by simp [results, Tryz.results157, go_sem, r0, r1]) rfl
        ⟨endsF (lwF [(d0, u0), (d1, u1), (d2, u2), (d3, u3)] 3) (hgF [(d0, u0), (d1, u1), (d2, u2), (d3, u3)] 3), ⟨fun h => by simp at h, fun _ h => by simp at h, fun _ _ => ⟨_, _, by unfold quoC; exact low4 (div_down HP0.out (HF.out.1.1) (HF.out.2.1) (side_rg HSD.out).1).1 (div_down HP1.out (HF.out.1.1) (HF.out.2.2.1) (side_rg HSD.out).2).1 (div_down HP2.out (HF.out.1.2.1) (HF.out.2.1) (side_rg HSD.out).1).1 (div_down HP3.out (HF.out.1.2.1) (HF.out.2.2.1) (side_rg HSD.out).2).1, by unfold quoC; exact high4 (div_down HP0.out (HF.out.1.1) (HF.out.2.1) (side_rg HSD.out).1).2 (div_down HP1.out (HF.out.1.1) (HF.out.2.2.1) (side_rg HSD.out).2).2 (div_down HP2.out (HF.out.1.2.1) (HF.out.2.1) (side_rg HSD.out).1).2 (div_down HP3.out (HF.out.1.2.1) (HF.out.2.2.1) (side_rg HSD.out).2).2, rfl⟩⟩, rfl, below_result H10.2.2.2 (by omega) _ _⟩
    | true =>
      cases m3 with
      | false =>
        have HSD : Hid (Side lb hb) := Lib.hid (side_of HF.out.2.1 HF.out.2.2.1 HF.out.2.2.2 (by rw [HZ.out]; rfl))
        go_enter Tryz.func157, Tryz.ntmps157
        go_wp2_with fail
        refine (span_may_two (w.heap.size + 1 + 1 + 1) la ha lb hb _ b1 b2 b3 b4 (by simp) (by simp [go_sem]) (by simp [go_sem]) (by simp [go_sem]) (by simp [go_sem])).mono ?_
        rintro e1 w1 ⟨rfl, hb1⟩
        rw [HM1.out]
        have H1 := Opnd.new w la ha lb hb _ _ _ _ _ hb1
        obtain ⟨i0, i1, i2, i3⟩ := H1.1
        obtain ⟨i4, i5, i6, i7⟩ := H1.2.1
        clear hb1
        go_wp2_with fail
        have n1 : ¬ w.heap.size = w.heap.size + 1 + 1 := by omega
        have n2 : ¬ w.heap.size + 1 + 1 = w.heap.size := by omega
        have n3 : ¬ w.heap.size + 1 = w.heap.size + 1 + 1 := by omega
        have n4 : ¬ w.heap.size + 1 + 1 = w.heap.size + 1 := by omega
        go_region_held3 (fun w' => w'.cell? ⟨w.heap.size, 0, none⟩ = some (.float .f64 la) ∧ w'.cell? ⟨w.heap.size, 1, none⟩ = some (.float .f64 ha) ∧ w'.cell? ⟨w.heap.size + 1, 0, none⟩ = some (.float .f64 lb) ∧ w'.cell? ⟨w.heap.size + 1, 1, none⟩ = some (.float .f64 hb))
          (first | exact H1.1 | exact H2.1 | exact H3.1 | exact H4.1 | exact H5.1 | exact H6.1 | exact H7.1 | exact H8.1 | exact H9.1 | exact H10.1 | go_keep)
          (first
            | (go_at_call 270; (with_reducible refine (rnd_quo_any la lb b1 b3 _).mono ?_); rintro e2 w2 ⟨d0, u0, rfl, hs2, hb2⟩; have H2 := H1.next (by first | exact hb2 | exact below_of_drew hb2 | exact below_of_drewN hb2); have HP0 := Lib.hid hs2; clear hb2 hs2)
            | (go_at_call 269; (with_reducible refine (span_both_any d0 u0 _).mono ?_); rintro e3 w3 ⟨rfl, hb3⟩; have H3 := H2.next (by first | exact hb3 | exact below_of_drew hb3 | exact below_of_drewN hb3); clear hb3)
            | (go_at_call 270; (with_reducible refine (rnd_quo_any la hb b1 b4 _).mono ?_); rintro e4 w4 ⟨d1, u1, rfl, hs4, hb4⟩; have H4 := H3.next (by first | exact hb4 | exact below_of_drew hb4 | exact below_of_drewN hb4); have HP1 := Lib.hid hs4; clear hb4 hs4)
            | (go_at_call 269; (with_reducible refine (span_both_any d1 u1 _).mono ?_); rintro e5 w5 ⟨rfl, hb5⟩; have H5 := H4.next (by first | exact hb5 | exact below_of_drew hb5 | exact below_of_drewN hb5); clear hb5)
            | (go_at_call 270; (with_reducible refine (rnd_quo_any ha lb b2 b3 _).mono ?_); rintro e6 w6 ⟨d2, u2, rfl, hs6, hb6⟩; have H6 := H5.next (by first | exact hb6 | exact below_of_drew hb6 | exact below_of_drewN hb6); have HP2 := Lib.hid hs6; clear hb6 hs6)
            | (go_at_call 269; (with_reducible refine (span_both_any d2 u2 _).mono ?_); rintro e7 w7 ⟨rfl, hb7⟩; have H7 := H6.next (by first | exact hb7 | exact below_of_drew hb7 | exact below_of_drewN hb7); clear hb7)
            | (go_at_call 270; (with_reducible refine (rnd_quo_any ha hb b2 b4 _).mono ?_); rintro e8 w8 ⟨d3, u3, rfl, hs8, hb8⟩; have H8 := H7.next (by first | exact hb8 | exact below_of_drew hb8 | exact below_of_drewN hb8); have HP3 := Lib.hid hs8; clear hb8 hs8)
            | (go_at_call 269; (with_reducible refine (span_both_any d3 u3 _).mono ?_); rintro e9 w9 ⟨rfl, hb9⟩; have H9 := H8.next (by first | exact hb9 | exact below_of_drew hb9 | exact below_of_drewN hb9); clear hb9)
            | (go_at_call 268; (refine (span_outer_any w9.heap.size [(d0, u0), (d1, u1), (d2, u2), (d3, u3)] _ (inSpans_new4 w9 _ ⟨⟨(div_down HP0.out (HF.out.1.1) (HF.out.2.1) (side_rg HSD.out).1).1.1, (div_down HP0.out (HF.out.1.1) (HF.out.2.1) (side_rg HSD.out).1).2.1⟩, ⟨(div_down HP1.out (HF.out.1.1) (HF.out.2.2.1) (side_rg HSD.out).2).1.1, (div_down HP1.out (HF.out.1.1) (HF.out.2.2.1) (side_rg HSD.out).2).2.1⟩, ⟨(div_down HP2.out (HF.out.1.2.1) (HF.out.2.1) (side_rg HSD.out).1).1.1, (div_down HP2.out (HF.out.1.2.1) (HF.out.2.1) (side_rg HSD.out).1).2.1⟩, ⟨(div_down HP3.out (HF.out.1.2.1) (HF.out.2.2.1) (side_rg HSD.out).2).1.1, (div_down HP3.out (HF.out.1.2.1) (HF.out.2.2.1) (side_rg HSD.out).2).2.1⟩⟩) 3 rfl (by decide) (by decide)).mono ?_); rintro e10 w10 ⟨rfl, hb10⟩; have H10 := H9.next (below_box hb10); clear hb10; obtain ⟨r0, r1, r2, r3⟩ := H10.2.1; obtain ⟨s0, s1, s2, s3⟩ := H10.1))
        go_wp2_with fail
        exact bodyPost_ret (v := .tuple #[.agg #[.float .f64 (endsF (lwF [(d0, u0), (d1, u1), (d2, u2), (d3, u3)] 3) (hgF [(d0, u0), (d1, u1), (d2, u2), (d3, u3)] 3)).1, .float .f64 (endsF (lwF [(d0, u0), (d1, u1), (d2, u2), (d3, u3)] 3) (hgF [(d0, u0), (d1, u1), (d2, u2), (d3, u3)] 3)).2.1], .int .i64 (endsF (lwF [(d0, u0), (d1, u1), (d2, u2), (d3, u3)] 3) (hgF [(d0, u0), (d1, u1), (d2, u2), (d3, u3)] 3)).2.2]) (by simp [results, Tryz.results157, go_sem, r0, r1]) rfl
          ⟨endsF (lwF [(d0, u0), (d1, u1), (d2, u2), (d3, u3)] 3) (hgF [(d0, u0), (d1, u1), (d2, u2), (d3, u3)] 3), ⟨fun h => by simp at h, fun _ h => by simp at h, fun _ _ => ⟨_, _, by unfold quoC; exact low4 (div_down HP0.out (HF.out.1.1) (HF.out.2.1) (side_rg HSD.out).1).1 (div_down HP1.out (HF.out.1.1) (HF.out.2.2.1) (side_rg HSD.out).2).1 (div_down HP2.out (HF.out.1.2.1) (HF.out.2.1) (side_rg HSD.out).1).1 (div_down HP3.out (HF.out.1.2.1) (HF.out.2.2.1) (side_rg HSD.out).2).1, by unfold quoC; exact high4 (div_down HP0.out (HF.out.1.1) (HF.out.2.1) (side_rg HSD.out).1).2 (div_down HP1.out (HF.out.1.1) (HF.out.2.2.1) (side_rg HSD.out).2).2 (div_down HP2.out (HF.out.1.2.1) (HF.out.2.1) (side_rg HSD.out).1).2 (div_down HP3.out (HF.out.1.2.1) (HF.out.2.2.1) (side_rg HSD.out).2).2, rfl⟩⟩, rfl, below_result H10.2.2.2 (by omega) _ _⟩
      | true =>
        go_enter Tryz.func157, Tryz.ntmps157
        go_wp2_with fail
        refine (span_may_two (w.heap.size + 1 + 1 + 1) la ha lb hb _ b1 b2 b3 b4 (by simp) (by simp [go_sem]) (by simp [go_sem]) (by simp [go_sem]) (by simp [go_sem])).mono ?_
        rintro e1 w1 ⟨rfl, hb1⟩
        rw [HM1.out]
        have H1 := Opnd.new w la ha lb hb _ _ _ _ _ hb1
        obtain ⟨i0, i1, i2, i3⟩ := H1.1
        obtain ⟨i4, i5, i6, i7⟩ := H1.2.1
        clear hb1
        go_wp2_with fail
        exact bodyPost_ret (v := .tuple #[.agg #[.float .f64 0, .float .f64 0], .int .i64 3]) (by simp [results, Tryz.results157, go_sem, i4, i5]) rfl
          ⟨(0, 0, 3), ⟨fun h => by simp at h, fun _ _ => rfl, fun _ h => by simp at h⟩, rfl, below_result H1.2.2.2 (by omega) _ _⟩
end Go.Proofs.YtdmdaoginojalaaGreatDoor
