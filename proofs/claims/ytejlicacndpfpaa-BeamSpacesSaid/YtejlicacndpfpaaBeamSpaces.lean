/-
  BeamSpaces: for every input the statement answers true; the input reads as it did.
-/
import Derived.Test.YtejlicacndpfpaaBmL
import Derived.Test.YtejlicacndpfpaaFrmF
import Derived.Test.YtejlicacndpfpaaRows
import Derived.ProofKit
import Derived.Lib.SmallJoins
namespace Go.Proofs.Ytejlicacndpfpaa
open Go.ChangeShapes Go.WideShapes Go.ChangeAt Go.RowKit Go.Joins

theorem Try.ownBeamSpaces : ownKnob Try.prog.godebug = none := by kernel_rfl
theorem Try.laidOutBeamSpaces : laidOutB Try.prog = true := by kernel_rfl
theorem Try.readsBeamSpaces : ∀ t ∈ [28, 26], Try.prog.readableRec t = true ∧ t < Try.prog.types.size := by
  intro t ht
  simp only [List.mem_cons, List.not_mem_nil, or_false] at ht
  rcases ht with rfl | rfl <;> exact ⟨by kernel_rfl, by decide +kernel⟩

set_option maxRecDepth 100000 in
theorem beamSpaces_lifted (os : Os) (started : os.Started) (H : Type) (enc : TypeId × Value → H) :
    ReturnsInHanded {} Try.checked os 3 .any (Rows.beamSpacesSpec.pre6 enc Try.prog Try.f3 Rows.beamSpacesRow.domain false) (Rows.beamSpacesSpec.post enc Try.prog Try.f3 false true false false) := by
  refine returnsInHanded_of_change_sized (C := Try.checked) Try.ownBeamSpaces started (by kernel_rfl) Try.func3
    (ChangeSpec.witness6 (enc := enc) (C := Try.checked) false ⟨#[], #[.agg #[.bool false, .slice none 0 0, .bool false, .slice none 0 0, .bool false, .slice none 0 0, .bool false, .slice none 0 0], .agg #[.bool false, .slice none 0 0, .bool false, .slice none 0 0]], []⟩ 8 (by kernel_rfl) (by kernel_rfl) (by kernel_rfl) (by kernel_rfl)) ?_
  intro W base args ds gs before hval0 hW hcnd hsz0 _
  have hval : ∀ (j : Nat) t v, Try.f3.params[j]? = some t → args[j]? = some v → Value.okWide Try.prog W .any base t v := hval0
  have hsz : (DataW.weightsEach Try.prog (Try.f3.params.toList ++ Rows.beamSpacesSpec.plain.varTypes Try.prog) (ds ++ gs)).all (· ≤ reachBytes) = true := hsz0
  have hW' := hW
  have hlt := hW.lt
  obtain ⟨p, q, hA0, hV, rfl, hfz, hnd⟩ := hW
  have hA : DataW.TrodAll enc Try.prog W 0 (fun _ => true) true Try.f3.params.toList args.toList ds p := hA0
  rw [Try.params3] at hA hval hsz
  have hA2 := hA
  obtain ⟨v0, v1, d0, d1, p0, p1, rfl, rfl, hp, h0, h1⟩ := trodAll_two hA
  obtain ⟨rfl, rfl⟩ := trodVars_none hV
  obtain ⟨cs0, hcs0, _⟩ := okWide_struct Try.underlying28 (hval 0 28 v0 rfl rfl)
  obtain ⟨s0a, A0a, n0a, c0a, l0a, z0a, B0a, m0a, d0a, k0a, s0b, A0b, n0b, c0b, l0b, z0b, B0b, m0b, d0b, k0b, rfl, S0a, Q0a, S0b, Q0b, hm0⟩ := open_gauss h0 ⟨cs0, hcs0⟩
  obtain ⟨cs1, hcs1, _⟩ := okWide_struct Try.underlying26 (hval 1 26 v1 rfl rfl)
  obtain ⟨s1a, A1a, n1a, c1a, l1a, z1a, B1a, m1a, d1a, k1a, rfl, S1a, Q1a, hm1⟩ := open_fraction h1 ⟨cs1, hcs1⟩
  simp only [List.append_nil] at hW' hlt
  have hw0 : (d0.weights Try.prog 28).all (· ≤ reachBytes) = true := by
    rw [List.all_eq_true] at hsz ⊢
    intro x hx
    exact hsz x (DataW.weights_mem_each (j := 0) rfl rfl x hx)
  obtain ⟨w0a, y0a, w0b, y0b⟩ := hm0 hw0
  have hw1 : (d1.weights Try.prog 26).all (· ≤ reachBytes) = true := by
    rw [List.all_eq_true] at hsz ⊢
    intro x hx
    exact hsz x (DataW.weights_mem_each (j := 1) rfl rfl x hx)
  obtain ⟨w1a, y1a⟩ := hm1 hw1
  refine (law_spaces s0a A0a n0a c0a l0a z0a B0a m0a d0a k0a s0b A0b n0b c0b l0b z0b B0b m0b d0b k0b s1a A1a n1a c1a l1a z1a B1a m1a d1a k1a W S0a Q0a w0a y0a S0b Q0b w0b y0b S1a Q1a w1a y1a).mono fun e W' ⟨he, hw⟩ => ?_
  subst he
  refine ⟨_, rfl, post_of_below (pa := p) (pv := []) hW' (fun _ _ _ => ?_) (fun sp hsp => ?_) (fun _ _ => rfl) (by simp) hw ?_⟩
  · have e1 : (Rows.beamSpacesSpec.fn H ([d0, d1] ++ [])).results = [.lit (.bool true)] := rfl
    rw [e1]
    exact trodAll_mk1 (shut_bool Try.underlying4 _)
  · exact trodAll_later Try.laidOutBeamSpaces hw _ _ _ _ Try.readsBeamSpaces hA2 hlt hsp
  · intro j t x hj hr
    rw [show Try.f3.resultTypes = #[4] by kernel_rfl] at hj hr
    match j, hj, hr with
    | 0, hj, hr =>
      simp [Value.resultList] at hj hr
      subst hj; subst hr
      exact okWide_bool_mk Try.underlying4 _

theorem beamSpaces_proved : Rows.BeamSpacesSaid :=
  OpenClaim.holds_of_wide 3 Try.f3 rfl rfl rfl rfl rfl rfl rfl ⟨rfl, rfl, rfl, rfl, rfl⟩ rfl rfl rfl rfl rfl (by kernel_rfl) Try.func3 (by kernel_rfl)
    (of_decide_eq_true (by kernel_rfl)) (by unfold Func.isWrapper; rw [if_neg (by decide +kernel)]; exact ⟨rfl, rfl⟩)
    (fun os started H enc _ => beamSpaces_lifted os started H enc)
end Go.Proofs.Ytejlicacndpfpaa
