/-
  Spans: products (span.Mul).
-/
import Derived.Test.YtdmdaoginojalaaGreatDoorSpnA
import Derived.Test.YtdmdaoginojalaaGreatDoorSpnG
namespace Go.Proofs.YtdmdaoginojalaaGreatDoor
open Go.RowKit

theorem lwF_spec (l : List (Nat × Nat)) : ∀ k, (∀ i, i ≤ k → ¬ Flt.Nan (prA l i)) → (∃ i, i ≤ k ∧ lwF l k = prA l i) ∧ ∀ i, i ≤ k → Flt.sv (lwF l k) ≤ Flt.sv (prA l i)
  | 0, _ => ⟨⟨0, Nat.le_refl _, rfl⟩, fun i hi => by have : i = 0 := by omega
                                                     subst this; exact Int.le_refl _⟩
  | k + 1, h => by
    obtain ⟨⟨j, hj, hje⟩, h2⟩ := lwF_spec l k (fun i hi => h i (by omega))
    have hn : ¬ Flt.Nan (lwF l k) := by rw [hje]; exact h j (by omega)
    have ho := Flt.lt_spec (h (k + 1) (Nat.le_refl _)) hn
    unfold lwF
    rw [ho]
    by_cases hc : Flt.sv (prA l (k + 1)) < Flt.sv (lwF l k)
    · rw [decide_eq_true hc, if_pos rfl]
      refine ⟨⟨k + 1, Nat.le_refl _, rfl⟩, fun i hi => ?_⟩
      rcases Nat.lt_or_ge k i with hki | hki
      · have : i = k + 1 := by omega
        subst this; exact Int.le_refl _
      · have := h2 i hki
        omega
    · rw [decide_eq_false hc, if_neg (by simp)]
      refine ⟨⟨j, by omega, hje⟩, fun i hi => ?_⟩
      rcases Nat.lt_or_ge k i with hki | hki
      · have : i = k + 1 := by omega
        subst this; omega
      · exact h2 i hki
theorem hgF_spec (l : List (Nat × Nat)) : ∀ k, (∀ i, i ≤ k → ¬ Flt.Nan (prB l i)) → (∃ i, i ≤ k ∧ hgF l k = prB l i) ∧ ∀ i, i ≤ k → Flt.sv (prB l i) ≤ Flt.sv (hgF l k)
  | 0, _ => ⟨⟨0, Nat.le_refl _, rfl⟩, fun i hi => by have : i = 0 := by omega
                                                     subst this; exact Int.le_refl _⟩
  | k + 1, h => by
    obtain ⟨⟨j, hj, hje⟩, h2⟩ := hgF_spec l k (fun i hi => h i (by omega))
    have hn : ¬ Flt.Nan (hgF l k) := by rw [hje]; exact h j (by omega)
    have ho := Flt.gt_spec (h (k + 1) (Nat.le_refl _)) hn
    unfold hgF
    rw [ho]
    by_cases hc : Flt.sv (hgF l k) < Flt.sv (prB l (k + 1))
    · rw [decide_eq_true hc, if_pos rfl]
      refine ⟨⟨k + 1, Nat.le_refl _, rfl⟩, fun i hi => ?_⟩
      rcases Nat.lt_or_ge k i with hki | hki
      · have : i = k + 1 := by omega
        subst this; exact Int.le_refl _
      · have := h2 i hki
        omega
    · rw [decide_eq_false hc, if_neg (by simp)]
      refine ⟨⟨j, by omega, hje⟩, fun i hi => ?_⟩
      rcases Nat.lt_or_ge k i with hki | hki
      · have : i = k + 1 := by omega
        subst this; omega
      · exact h2 i hki
theorem down_not_nan {z : Int} {n d : Nat} (h : Down z n d) : ¬ Flt.Nan d := by have := h.2.1; unfold Flt.Nan; omega
theorem up_not_nan {z : Int} {n d : Nat} (h : Up z n d) : ¬ Flt.Nan d := by have := h.2.1; unfold Flt.Nan; omega
theorem le3 {i : Nat} (h : i ≤ 3) : i = 0 ∨ i = 1 ∨ i = 2 ∨ i = 3 := by omega
theorem low4 {c0 c1 c2 c3 : Int × Nat} {d0 u0 d1 u1 d2 u2 d3 u3 : Nat} (h0 : Down c0.1 c0.2 d0) (h1 : Down c1.1 c1.2 d1) (h2 : Down c2.1 c2.2 d2) (h3 : Down c3.1 c3.2 d3) :
    LowOf [c0, c1, c2, c3] (lwF [(d0, u0), (d1, u1), (d2, u2), (d3, u3)] 3) := by
  obtain ⟨⟨j, hj, hje⟩, k⟩ := lwF_spec [(d0, u0), (d1, u1), (d2, u2), (d3, u3)] 3 (fun i hi => by
    rcases le3 hi with rfl | rfl | rfl | rfl
    · exact down_not_nan h0
    · exact down_not_nan h1
    · exact down_not_nan h2
    · exact down_not_nan h3)
  refine ⟨?_, fun c hc => ?_⟩
  · rw [hje]
    rcases le3 hj with rfl | rfl | rfl | rfl
    · exact ⟨c0, mem4 (.inl rfl), h0⟩
    · exact ⟨c1, mem4 (.inr (.inl rfl)), h1⟩
    · exact ⟨c2, mem4 (.inr (.inr (.inl rfl))), h2⟩
    · exact ⟨c3, mem4 (.inr (.inr (.inr rfl))), h3⟩
  · simp only [List.mem_cons, List.not_mem_nil, or_false] at hc
    rcases hc with rfl | rfl | rfl | rfl
    · exact ⟨d0, h0, k 0 (by omega)⟩
    · exact ⟨d1, h1, k 1 (by omega)⟩
    · exact ⟨d2, h2, k 2 (by omega)⟩
    · exact ⟨d3, h3, k 3 (by omega)⟩
theorem high4 {c0 c1 c2 c3 : Int × Nat} {d0 u0 d1 u1 d2 u2 d3 u3 : Nat} (h0 : Up c0.1 c0.2 u0) (h1 : Up c1.1 c1.2 u1) (h2 : Up c2.1 c2.2 u2) (h3 : Up c3.1 c3.2 u3) :
    HighOf [c0, c1, c2, c3] (hgF [(d0, u0), (d1, u1), (d2, u2), (d3, u3)] 3) := by
  obtain ⟨⟨j, hj, hje⟩, k⟩ := hgF_spec [(d0, u0), (d1, u1), (d2, u2), (d3, u3)] 3 (fun i hi => by
    rcases le3 hi with rfl | rfl | rfl | rfl
    · exact up_not_nan h0
    · exact up_not_nan h1
    · exact up_not_nan h2
    · exact up_not_nan h3)
  refine ⟨?_, fun c hc => ?_⟩
  · rw [hje]
    rcases le3 hj with rfl | rfl | rfl | rfl
    · exact ⟨c0, mem4 (.inl rfl), h0⟩
    · exact ⟨c1, mem4 (.inr (.inl rfl)), h1⟩
    · exact ⟨c2, mem4 (.inr (.inr (.inl rfl))), h2⟩
    · exact ⟨c3, mem4 (.inr (.inr (.inr rfl))), h3⟩
  · simp only [List.mem_cons, List.not_mem_nil, or_false] at hc
    rcases hc with rfl | rfl | rfl | rfl
    · exact ⟨u0, h0, k 0 (by omega)⟩
    · exact ⟨u1, h1, k 1 (by omega)⟩
    · exact ⟨u2, h2, k 2 (by omega)⟩
    · exact ⟨u3, h3, k 3 (by omega)⟩

/-! ### the memory of an operation's walk -/
/-- The operands' cells. -/
def Opnd (w : World) (la ha lb hb : Nat) (wr : World) : Prop :=
  (wr.cell? ⟨w.heap.size, 0, none⟩ = some (.float .f64 la) ∧ wr.cell? ⟨w.heap.size, 1, none⟩ = some (.float .f64 ha) ∧ wr.cell? ⟨w.heap.size + 1, 0, none⟩ = some (.float .f64 lb) ∧ wr.cell? ⟨w.heap.size + 1, 1, none⟩ = some (.float .f64 hb)) ∧
  (wr.cell? ⟨w.heap.size + 1 + 1, 0, none⟩ = some (.float .f64 0) ∧ wr.cell? ⟨w.heap.size + 1 + 1, 1, none⟩ = some (.float .f64 0) ∧ wr.frozen? ⟨w.heap.size + 1 + 1, 0, none⟩ = false ∧ wr.frozen? ⟨w.heap.size + 1 + 1, 1, none⟩ = false) ∧
  w.heap.size + 1 + 1 < wr.heap.size ∧ Below w.heap.size w wr
theorem Opnd.next {w wr w' : World} {la ha lb hb : Nat} (h : Opnd w la ha lb hb wr) (hb' : Below wr.heap.size wr w') : Opnd w la ha lb hb w' := by
  obtain ⟨⟨a1, a2, a3, a4⟩, ⟨a5, a6, a7, a8⟩, hs, hw⟩ := h
  obtain ⟨hc, hf⟩ := bcell hb'
  refine ⟨⟨(hc _ _ (by omega)).trans a1, (hc _ _ (by omega)).trans a2, (hc _ _ (by omega)).trans a3, (hc _ _ (by omega)).trans a4⟩,
    ⟨(hc _ _ (by omega)).trans a5, (hc _ _ (by omega)).trans a6, (hf _ _ (by omega)).trans a7, (hf _ _ (by omega)).trans a8⟩, ?_, below_next hw hb'⟩
  have := hb'.size
  omega
theorem Opnd.new (w : World) (la ha lb hb : Nat) (t u v x : TypeId) (C : Array Value) {w1 : World}
    (hb1 : Below ((((w.alloc (.cells #[.float .f64 la, .float .f64 ha] t)).alloc (.cells #[.float .f64 lb, .float .f64 hb] u)).alloc (.cells #[.float .f64 0, .float .f64 0] v)).alloc (.cells C x)).heap.size
      ((((w.alloc (.cells #[.float .f64 la, .float .f64 ha] t)).alloc (.cells #[.float .f64 lb, .float .f64 hb] u)).alloc (.cells #[.float .f64 0, .float .f64 0] v)).alloc (.cells C x)) w1) : Opnd w la ha lb hb w1 := by
  obtain ⟨hc1, hf1⟩ := bcell hb1
  refine ⟨⟨?_, ?_, ?_, ?_⟩, ⟨?_, ?_, ?_, ?_⟩, ?_, below_box (below_box (below_box (below_box hb1)))⟩
  · rw [hc1 w.heap.size 0 (by simp <;> omega)]; simp [go_sem]
  · rw [hc1 w.heap.size 1 (by simp <;> omega)]; simp [go_sem]
  · rw [hc1 (w.heap.size + 1) 0 (by simp <;> omega)]; simp [go_sem]
  · rw [hc1 (w.heap.size + 1) 1 (by simp <;> omega)]; simp [go_sem]
  · rw [hc1 (w.heap.size + 1 + 1) 0 (by simp <;> omega)]; simp [go_sem]
  · rw [hc1 (w.heap.size + 1 + 1) 1 (by simp <;> omega)]; simp [go_sem]
  · rw [hf1 (w.heap.size + 1 + 1) 0 (by simp <;> omega)]; simp [go_sem]
  · rw [hf1 (w.heap.size + 1 + 1) 1 (by simp <;> omega)]; simp [go_sem]
  · have := hb1.size; simp at this; omega
theorem inSpans_new4 (w : World) (t : TypeId) {d0 u0 d1 u1 d2 u2 d3 u3 : Nat} (h : (d0 < 2 ^ 64 ∧ u0 < 2 ^ 64) ∧ (d1 < 2 ^ 64 ∧ u1 < 2 ^ 64) ∧ (d2 < 2 ^ 64 ∧ u2 < 2 ^ 64) ∧ (d3 < 2 ^ 64 ∧ u3 < 2 ^ 64)) :
    InSpans (w.alloc (.cells #[.float .f64 d0, .float .f64 u0, .float .f64 d1, .float .f64 u1, .float .f64 d2, .float .f64 u2, .float .f64 d3, .float .f64 u3] t)) w.heap.size [(d0, u0), (d1, u1), (d2, u2), (d3, u3)] := by
  obtain ⟨⟨a, b⟩, ⟨c, d⟩, ⟨e, f⟩, ⟨g, h⟩⟩ := h
  refine ⟨by simp, fun i hi => ?_⟩
  have hi' : i ≤ 3 := by simp at hi; omega
  rcases le3 hi' with rfl | rfl | rfl | rfl
  · exact ⟨by simp [go_sem], by simp [go_sem], a, b⟩
  · exact ⟨by simp [go_sem], by simp [go_sem], c, d⟩
  · exact ⟨by simp [go_sem], by simp [go_sem], e, f⟩
  · exact ⟨by simp [go_sem], by simp [go_sem], g, h⟩

set_option maxRecDepth 100000 in
set_option maxHeartbeats 1600000 in
theorem span_mul_any (la ha lb hb : Nat) (b1 : la < 2 ^ 64) (b2 : ha < 2 ^ 64) (b3 : lb < 2 ^ 64) (b4 : hb < 2 ^ 64) (w : World) :
    Calls Tryz.prog 159 #[.agg #[.float .f64 la, .float .f64 ha], .agg #[.float .f64 lb, .float .f64 hb]] w (RetSp w (IsSpan (okS la ha && okS lb hb) (mulC la ha lb hb) (mulC la ha lb hb))) := by
  obtain ⟨m1, hm1⟩ : ∃ m, (okS la ha && okS lb hb) = m := ⟨_, rfl⟩
  rw [hm1]
  have HM1 := Lib.hid hm1
  clear hm1
  cases m1 with
  | false =>
    go_enter Tryz.func159, Tryz.ntmps159
    go_wp2_with fail
    refine (span_may_two (w.heap.size + 1 + 1 + 1) la ha lb hb _ b1 b2 b3 b4 (by simp) (by simp [go_sem]) (by simp [go_sem]) (by simp [go_sem]) (by simp [go_sem])).mono ?_
    rintro e1 w1 ⟨rfl, hb1⟩
    rw [HM1.out]
    obtain ⟨hc1, hf1⟩ := bcell hb1
    have k0 := hc1 (w.heap.size + 1 + 1) 0 (by simp <;> omega)
    have k1 := hc1 (w.heap.size + 1 + 1) 1 (by simp <;> omega)
    have k2 := hf1 (w.heap.size + 1 + 1) 0 (by simp <;> omega)
    have k3 := hf1 (w.heap.size + 1 + 1) 1 (by simp <;> omega)
    go_wp2_with fail
    exact bodyPost_ret (v := .tuple #[.agg #[.float .f64 0, .float .f64 0], .int .i64 1]) (by simp [results, Tryz.results159, go_sem, k0, k1]) rfl
      ⟨(0, 0, 1), ⟨fun _ => rfl, fun h => by simp at h⟩, rfl, below_result (below_box (below_box (below_box (below_box hb1)))) (by omega) _ _⟩
  | true =>
    obtain ⟨ho1, ho2⟩ := Bool.and_eq_true_iff.1 HM1.out
    have HF := Lib.hid (And.intro (okS_iff.1 ho1) (okS_iff.1 ho2))
    clear ho1 ho2
    go_enter Tryz.func159, Tryz.ntmps159
    go_wp2_with fail
    refine (span_may_two (w.heap.size + 1 + 1 + 1) la ha lb hb _ b1 b2 b3 b4 (by simp) (by simp [go_sem]) (by simp [go_sem]) (by simp [go_sem]) (by simp [go_sem])).mono ?_
    rintro e1 w1 ⟨rfl, hb1⟩
    rw [HM1.out]
    have H1 := Opnd.new w la ha lb hb _ _ _ _ _ hb1
    clear hb1
    go_wp2_with fail
    have n1 : ¬ w.heap.size = w.heap.size + 1 + 1 := by omega
    have n2 : ¬ w.heap.size + 1 + 1 = w.heap.size := by omega
    have n3 : ¬ w.heap.size + 1 = w.heap.size + 1 + 1 := by omega
    have n4 : ¬ w.heap.size + 1 + 1 = w.heap.size + 1 := by omega
    go_region_held3 (fun w' => w'.cell? ⟨w.heap.size, 0, none⟩ = some (.float .f64 la) ∧ w'.cell? ⟨w.heap.size, 1, none⟩ = some (.float .f64 ha) ∧ w'.cell? ⟨w.heap.size + 1, 0, none⟩ = some (.float .f64 lb) ∧ w'.cell? ⟨w.heap.size + 1, 1, none⟩ = some (.float .f64 hb))
      (first | exact H1.1 | exact H2.1 | exact H3.1 | exact H4.1 | exact H5.1 | exact H6.1 | exact H7.1 | exact H8.1 | exact H9.1 | exact H10.1 | go_keep)
      (first
        | (go_at_call 163; (with_reducible refine (rnd_mul_any la lb b1 b3 _).mono ?_); rintro e2 w2 ⟨d0, u0, rfl, hs2, hb2⟩; have H2 := H1.next (by first | exact hb2 | exact below_of_drew hb2 | exact below_of_drewN hb2); have HP0 := Lib.hid hs2; clear hb2 hs2)
        | (go_at_call 269; (with_reducible refine (span_both_any d0 u0 _).mono ?_); rintro e3 w3 ⟨rfl, hb3⟩; have H3 := H2.next (by first | exact hb3 | exact below_of_drew hb3 | exact below_of_drewN hb3); clear hb3)
        | (go_at_call 163; (with_reducible refine (rnd_mul_any la hb b1 b4 _).mono ?_); rintro e4 w4 ⟨d1, u1, rfl, hs4, hb4⟩; have H4 := H3.next (by first | exact hb4 | exact below_of_drew hb4 | exact below_of_drewN hb4); have HP1 := Lib.hid hs4; clear hb4 hs4)
        | (go_at_call 269; (with_reducible refine (span_both_any d1 u1 _).mono ?_); rintro e5 w5 ⟨rfl, hb5⟩; have H5 := H4.next (by first | exact hb5 | exact below_of_drew hb5 | exact below_of_drewN hb5); clear hb5)
        | (go_at_call 163; (with_reducible refine (rnd_mul_any ha lb b2 b3 _).mono ?_); rintro e6 w6 ⟨d2, u2, rfl, hs6, hb6⟩; have H6 := H5.next (by first | exact hb6 | exact below_of_drew hb6 | exact below_of_drewN hb6); have HP2 := Lib.hid hs6; clear hb6 hs6)
        | (go_at_call 269; (with_reducible refine (span_both_any d2 u2 _).mono ?_); rintro e7 w7 ⟨rfl, hb7⟩; have H7 := H6.next (by first | exact hb7 | exact below_of_drew hb7 | exact below_of_drewN hb7); clear hb7)
        | (go_at_call 163; (with_reducible refine (rnd_mul_any ha hb b2 b4 _).mono ?_); rintro e8 w8 ⟨d3, u3, rfl, hs8, hb8⟩; have H8 := H7.next (by first | exact hb8 | exact below_of_drew hb8 | exact below_of_drewN hb8); have HP3 := Lib.hid hs8; clear hb8 hs8)
        | (go_at_call 269; (with_reducible refine (span_both_any d3 u3 _).mono ?_); rintro e9 w9 ⟨rfl, hb9⟩; have H9 := H8.next (by first | exact hb9 | exact below_of_drew hb9 | exact below_of_drewN hb9); clear hb9)
        | (go_at_call 268; (refine (span_outer_any w9.heap.size [(d0, u0), (d1, u1), (d2, u2), (d3, u3)] _ (inSpans_new4 w9 _ ⟨⟨(prod_down HP0.out (HF.out.1.1) (HF.out.2.1)).1.1, (prod_down HP0.out (HF.out.1.1) (HF.out.2.1)).2.1⟩, ⟨(prod_down HP1.out (HF.out.1.1) (HF.out.2.2.1)).1.1, (prod_down HP1.out (HF.out.1.1) (HF.out.2.2.1)).2.1⟩, ⟨(prod_down HP2.out (HF.out.1.2.1) (HF.out.2.1)).1.1, (prod_down HP2.out (HF.out.1.2.1) (HF.out.2.1)).2.1⟩, ⟨(prod_down HP3.out (HF.out.1.2.1) (HF.out.2.2.1)).1.1, (prod_down HP3.out (HF.out.1.2.1) (HF.out.2.2.1)).2.1⟩⟩) 3 rfl (by decide) (by decide)).mono ?_); rintro e10 w10 ⟨rfl, hb10⟩; have H10 := H9.next (below_box hb10); clear hb10; obtain ⟨r0, r1, r2, r3⟩ := H10.2.1; obtain ⟨s0, s1, s2, s3⟩ := H10.1))
    go_wp2_with fail
    exact bodyPost_ret (v := .tuple #[.agg #[.float .f64 (endsF (lwF [(d0, u0), (d1, u1), (d2, u2), (d3, u3)] 3) (hgF [(d0, u0), (d1, u1), (d2, u2), (d3, u3)] 3)).1, .float .f64 (endsF (lwF [(d0, u0), (d1, u1), (d2, u2), (d3, u3)] 3) (hgF [(d0, u0), (d1, u1), (d2, u2), (d3, u3)] 3)).2.1], .int .i64 (endsF (lwF [(d0, u0), (d1, u1), (d2, u2), (d3, u3)] 3) (hgF [(d0, u0), (d1, u1), (d2, u2), (d3, u3)] 3)).2.2]) (by simp [results, Tryz.results159, go_sem, r0, r1]) rfl
      ⟨endsF (lwF [(d0, u0), (d1, u1), (d2, u2), (d3, u3)] 3) (hgF [(d0, u0), (d1, u1), (d2, u2), (d3, u3)] 3), ⟨fun h => by simp at h, fun _ => ⟨_, _, by unfold mulC; exact low4 (prod_down HP0.out (HF.out.1.1) (HF.out.2.1)).1 (prod_down HP1.out (HF.out.1.1) (HF.out.2.2.1)).1 (prod_down HP2.out (HF.out.1.2.1) (HF.out.2.1)).1 (prod_down HP3.out (HF.out.1.2.1) (HF.out.2.2.1)).1, by unfold mulC; exact high4 (prod_down HP0.out (HF.out.1.1) (HF.out.2.1)).2 (prod_down HP1.out (HF.out.1.1) (HF.out.2.2.1)).2 (prod_down HP2.out (HF.out.1.2.1) (HF.out.2.1)).2 (prod_down HP3.out (HF.out.1.2.1) (HF.out.2.2.1)).2, rfl⟩⟩, rfl, below_result H10.2.2.2 (by omega) _ _⟩
end Go.Proofs.YtdmdaoginojalaaGreatDoor
