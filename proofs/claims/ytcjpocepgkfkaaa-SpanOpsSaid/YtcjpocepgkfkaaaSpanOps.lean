/-
  SpanOps: for every input the statement answers true; the input reads as it did.
-/
import Derived.Test.YtcjpocepgkfkaaaOpsW
import Derived.Test.YtcjpocepgkfkaaaFrame
import Derived.Test.YtcjpocepgkfkaaaRows
import Derived.ProofKit
import Derived.Lib.SmallJoins
namespace Go.Proofs.Ytcjpocepgkfkaaa
open Go.ChangeShapes Go.WideShapes Go.ChangeAt Go.RowKit Go.Joins

theorem Try.ownSpanOps : ownKnob Try.prog.godebug = none := by kernel_rfl
theorem Try.cellsSpanOpsSpan : Try.prog.cellsOf 24 = 2 := by kernel_rfl

set_option maxRecDepth 100000 in
theorem spanOps_lifted (os : Os) (started : os.Started) (H : Type) (enc : TypeId × Value → H) :
    ReturnsInHanded {} Try.checked os 3 .any (Rows.spanOpsSpec.pre6 enc Try.prog Try.f3 Rows.spanOpsRow.domain false) (Rows.spanOpsSpec.post enc Try.prog Try.f3 false true false false) := by
  refine returnsInHanded_of_change (C := Try.checked) Try.ownSpanOps started (by kernel_rfl) Try.func3
    (ChangeSpec.witness6 (enc := enc) (C := Try.checked) false ⟨#[], #[.agg #[.float .f64 0, .float .f64 0], .agg #[.float .f64 0, .float .f64 0]], []⟩ 8 (by kernel_rfl) (by kernel_rfl) (by kernel_rfl) (by kernel_rfl)) ?_
  intro W base args ds gs before hval0 hW hcnd _
  have hval : ∀ (j : Nat) t v, Try.f3.params[j]? = some t → args[j]? = some v → Value.okWide Try.prog W .any base t v := hval0
  have hW' := hW
  obtain ⟨p, q, hA0, hV, rfl, hfz, hnd⟩ := hW
  have hA : DataW.TrodAll enc Try.prog W 0 (fun _ => true) true Try.f3.params.toList args.toList ds p := hA0
  rw [Try.params3] at hA hval
  obtain ⟨v0, v1, d0, d1, p0, p1, rfl, rfl, rfl, h0, h1⟩ := trodAll_two hA
  obtain ⟨rfl, rfl⟩ := trodVars_none hV
  obtain ⟨x0, z0, y0, q0, m0, rfl, rfl, rfl, hx0, hz0⟩ := open_agg2 Try.underlying24 (by kernel_rfl) Try.cellsSpanOpsSpan (hval 0 24 v0 rfl rfl) h0
  obtain ⟨a0, e0, rfl, w0⟩ := trod_float Try.underlying22 hx0
  obtain ⟨c0, g0, rfl, u0⟩ := trod_float Try.underlying22 hz0
  simp at e0 g0
  subst e0 g0
  obtain ⟨x1, z1, y1, q1, m1, rfl, rfl, rfl, hx1, hz1⟩ := open_agg2 Try.underlying24 (by kernel_rfl) Try.cellsSpanOpsSpan (hval 1 24 v1 rfl rfl) h1
  obtain ⟨a1, e1, rfl, w1⟩ := trod_float Try.underlying22 hx1
  obtain ⟨c1, g1, rfl, u1⟩ := trod_float Try.underlying22 hz1
  simp at e1 g1
  subst e1 g1
  clear hA0 hval0
  simp only [List.append_nil] at hW'
  have b0 : a0 < 2 ^ 64 := by simpa [Lit.wf] using w0
  have k0 : c0 < 2 ^ 64 := by simpa [Lit.wf] using u0
  have b1 : a1 < 2 ^ 64 := by simpa [Lit.wf] using w1
  have k1 : c1 < 2 ^ 64 := by simpa [Lit.wf] using u1
  have reads0 : ∀ (W' : World) (sp : Nat → Bool), DataW.Trod enc Try.prog W' 0 sp true 24 (.agg #[.float .f64 a0, .float .f64 c0]) (.agg [.lit (.float .f64 a0), .lit (.float .f64 c0)]) [] := fun W' sp =>
    shut_agg2 (y0 := (.lit (.float .f64 a0), [])) (y1 := (.lit (.float .f64 c0), [])) Try.underlying24 (by kernel_rfl) Try.cellsSpanOpsSpan ⟨1, by simp [DataW.trod, Try.underlying22, w0]⟩ ⟨1, by simp [DataW.trod, Try.underlying22, u0]⟩
  have reads1 : ∀ (W' : World) (sp : Nat → Bool), DataW.Trod enc Try.prog W' 0 sp true 24 (.agg #[.float .f64 a1, .float .f64 c1]) (.agg [.lit (.float .f64 a1), .lit (.float .f64 c1)]) [] := fun W' sp =>
    shut_agg2 (y0 := (.lit (.float .f64 a1), [])) (y1 := (.lit (.float .f64 c1), [])) Try.underlying24 (by kernel_rfl) Try.cellsSpanOpsSpan ⟨1, by simp [DataW.trod, Try.underlying22, w1]⟩ ⟨1, by simp [DataW.trod, Try.underlying22, u1]⟩
  refine (law_spanOps a0 c0 a1 c1 b0 k0 b1 k1 W).mono fun e W' ⟨he, hw⟩ => ?_
  subst he
  refine ⟨_, rfl, post_of_below (pa := []) (pv := []) hW' (fun _ _ _ => ?_) (fun sp _ => trodAll_mk2 (reads0 _ sp) (reads1 _ sp)) (fun _ _ => rfl) rfl hw ?_⟩
  · have e1 : (Rows.spanOpsSpec.fn H ([.agg [.lit (.float .f64 a0), .lit (.float .f64 c0)], .agg [.lit (.float .f64 a1), .lit (.float .f64 c1)]] ++ [])).results = [.lit (.bool true)] := rfl
    rw [e1]
    exact trodAll_mk1 (shut_bool Try.underlying4 _)
  · intro j t x hj hr
    rw [show Try.f3.resultTypes = #[4] by kernel_rfl] at hj hr
    match j, hj, hr with
    | 0, hj, hr =>
      simp [Value.resultList] at hj hr
      subst hj; subst hr
      exact okWide_bool_mk Try.underlying4 _

theorem spanOps_proved : Rows.SpanOpsSaid :=
  OpenClaim.holds_of_wide 3 Try.f3 rfl rfl rfl rfl rfl rfl rfl ⟨rfl, rfl, rfl, rfl, rfl⟩ rfl rfl rfl rfl rfl (by kernel_rfl) Try.func3 (by kernel_rfl)
    (of_decide_eq_true (by kernel_rfl)) (by unfold Func.isWrapper; rw [if_neg (by decide +kernel)]; exact ⟨rfl, rfl⟩)
    (fun os started H enc _ => spanOps_lifted os started H enc)

end Go.Proofs.Ytcjpocepgkfkaaa
