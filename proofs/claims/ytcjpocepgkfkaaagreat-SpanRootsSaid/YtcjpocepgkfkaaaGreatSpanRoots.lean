/-
  SpanRoots: for every input the statement answers true; the input reads as it did.
-/
import Derived.Test.YtcjpocepgkfkaaaGreatRtL
import Derived.Test.YtcjpocepgkfkaaaGreatFrame
import Derived.Test.YtcjpocepgkfkaaaGreatRows
import Derived.ProofKit
import Derived.Lib.SmallJoins
namespace Go.Proofs.YtcjpocepgkfkaaaGreat
open Go.ChangeShapes Go.WideShapes Go.ChangeAt Go.RowKit Go.Joins

theorem Tryz.ownSpanRoots : ownKnob Tryz.prog.godebug = none := by kernel_rfl
theorem Tryz.cellsSpanRootsSpan : Tryz.prog.cellsOf 24 = 2 := by kernel_rfl

set_option maxRecDepth 100000 in
theorem spanRoots_lifted (os : Os) (started : os.Started) (H : Type) (enc : TypeId × Value → H) :
    ReturnsInHanded {} Tryz.checked os 3 .any (Rows.spanRootsSpec.pre6 enc Tryz.prog Tryz.f3 Rows.spanRootsRow.domain false) (Rows.spanRootsSpec.post enc Tryz.prog Tryz.f3 false true false false) := by
  refine returnsInHanded_of_change (C := Tryz.checked) Tryz.ownSpanRoots started (by kernel_rfl) Tryz.func3
    (ChangeSpec.witness6 (enc := enc) (C := Tryz.checked) false ⟨#[], #[.agg #[.float .f64 0, .float .f64 0]], []⟩ 8 (by kernel_rfl) (by kernel_rfl) (by kernel_rfl) (by kernel_rfl)) ?_
  intro W base args ds gs before hval0 hW hcnd _
  have hval : ∀ (j : Nat) t v, Tryz.f3.params[j]? = some t → args[j]? = some v → Value.okWide Tryz.prog W .any base t v := hval0
  have hW' := hW
  obtain ⟨p, q, hA0, hV, rfl, hfz, hnd⟩ := hW
  have hA : DataW.TrodAll enc Tryz.prog W 0 (fun _ => true) true Tryz.f3.params.toList args.toList ds p := hA0
  rw [Tryz.params3] at hA hval
  obtain ⟨v0, d0, rfl, rfl, h0⟩ := trodAll_one hA
  obtain ⟨rfl, rfl⟩ := trodVars_none hV
  obtain ⟨x0, z0, y0, q0, m0, rfl, rfl, rfl, hx0, hz0⟩ := open_agg2 Tryz.underlying24 (by kernel_rfl) Tryz.cellsSpanRootsSpan (hval 0 24 v0 rfl rfl) h0
  obtain ⟨a0, e0, rfl, w0⟩ := trod_float Tryz.underlying22 hx0
  obtain ⟨c0, g0, rfl, u0⟩ := trod_float Tryz.underlying22 hz0
  simp at e0 g0
  subst e0 g0
  clear hA0 hval0
  simp only [List.append_nil] at hW'
  have b0 : a0 < 2 ^ 64 := by simpa [Lit.wf] using w0
  have k0 : c0 < 2 ^ 64 := by simpa [Lit.wf] using u0
  have reads0 : ∀ (W' : World) (sp : Nat → Bool), DataW.Trod enc Tryz.prog W' 0 sp true 24 (.agg #[.float .f64 a0, .float .f64 c0]) (.agg [.lit (.float .f64 a0), .lit (.float .f64 c0)]) [] := fun W' sp =>
    shut_agg2 (y0 := (.lit (.float .f64 a0), [])) (y1 := (.lit (.float .f64 c0), [])) Tryz.underlying24 (by kernel_rfl) Tryz.cellsSpanRootsSpan ⟨1, by simp [DataW.trod, Tryz.underlying22, w0]⟩ ⟨1, by simp [DataW.trod, Tryz.underlying22, u0]⟩
  refine (law_spanRoots a0 c0 b0 k0 W).mono fun e W' ⟨he, hw⟩ => ?_
  subst he
  refine ⟨_, rfl, post_of_below (pa := []) (pv := []) hW' (fun _ _ _ => ?_) (fun sp _ => trodAll_mk1 (reads0 _ sp)) (fun _ _ => rfl) rfl hw ?_⟩
  · have e1 : (Rows.spanRootsSpec.fn H ([.agg [.lit (.float .f64 a0), .lit (.float .f64 c0)]] ++ [])).results = [.lit (.bool true)] := rfl
    rw [e1]
    exact trodAll_mk1 (shut_bool Tryz.underlying4 _)
  · intro j t x hj hr
    rw [show Tryz.f3.resultTypes = #[4] by kernel_rfl] at hj hr
    match j, hj, hr with
    | 0, hj, hr =>
      simp [Value.resultList] at hj hr
      subst hj; subst hr
      exact okWide_bool_mk Tryz.underlying4 _

theorem spanRoots_proved : Rows.SpanRootsSaid :=
  OpenClaim.holds_of_wide 3 Tryz.f3 rfl rfl rfl rfl rfl rfl rfl ⟨rfl, rfl, rfl, rfl, rfl⟩ rfl rfl rfl rfl rfl (by kernel_rfl) Tryz.func3 (by kernel_rfl)
    (of_decide_eq_true (by kernel_rfl)) (by unfold Func.isWrapper; rw [if_neg (by decide +kernel)]; exact ⟨rfl, rfl⟩)
    (fun os started H enc _ => spanRoots_lifted os started H enc)

end Go.Proofs.YtcjpocepgkfkaaaGreat
