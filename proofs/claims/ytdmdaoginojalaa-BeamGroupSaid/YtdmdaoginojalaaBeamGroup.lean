/-
  BeamGroup: for every input the statement answers true; the input reads as it did.
-/
import Derived.Test.YtdmdaoginojalaaBnF
import Derived.Test.YtdmdaoginojalaaFrmF
import Derived.Test.YtdmdaoginojalaaRows
import Derived.ProofKit
import Derived.Lib.SmallJoins
namespace Go.Proofs.Ytdmdaoginojalaa
open Go.ChangeShapes Go.WideShapes Go.ChangeAt Go.RowKit Go.Joins

theorem Try.ownBeamGroup : ownKnob Try.prog.godebug = none := by kernel_rfl
theorem Try.laidOutBeamGroup : laidOutB Try.prog = true := by kernel_rfl
theorem Try.readsBeamGroup : ∀ t ∈ [28, 28, 30], Try.prog.readableRec t = true ∧ t < Try.prog.types.size := by
  intro t ht
  simp only [List.mem_cons, List.not_mem_nil, or_false] at ht
  rcases ht with rfl | rfl | rfl <;> exact ⟨by kernel_rfl, by decide +kernel⟩

set_option maxRecDepth 100000 in
theorem beamGroup_lifted (os : Os) (started : os.Started) (H : Type) (enc : TypeId × Value → H) :
    ReturnsInHanded {} Try.checked os 3 .any (Rows.beamGroupSpec.pre6 enc Try.prog Try.f3 Rows.beamGroupRow.domain false) (Rows.beamGroupSpec.post enc Try.prog Try.f3 false true false false) := by
  refine returnsInHanded_of_change_sized (C := Try.checked) Try.ownBeamGroup started (by kernel_rfl) Try.func3
    (ChangeSpec.witness6 (enc := enc) (C := Try.checked) false ⟨#[], #[.agg #[.bool false, .slice none 0 0, .bool false, .slice none 0 0, .bool false, .slice none 0 0, .bool false, .slice none 0 0, .bool false, .slice none 0 0, .bool false, .slice none 0 0, .bool false, .slice none 0 0, .bool false, .slice none 0 0], .agg #[.bool false, .slice none 0 0, .bool false, .slice none 0 0, .bool false, .slice none 0 0, .bool false, .slice none 0 0, .bool false, .slice none 0 0, .bool false, .slice none 0 0, .bool false, .slice none 0 0, .bool false, .slice none 0 0], .agg #[.bool false, .slice none 0 0, .bool false, .slice none 0 0, .bool false, .slice none 0 0, .bool false, .slice none 0 0]], []⟩ 8 (by kernel_rfl) (by kernel_rfl) (by kernel_rfl) (by kernel_rfl)) ?_
  intro W base args ds gs before hval0 hW hcnd hsz0 _
  have hval : ∀ (j : Nat) t v, Try.f3.params[j]? = some t → args[j]? = some v → Value.okWide Try.prog W .any base t v := hval0
  have hsz : (DataW.weightsEach Try.prog (Try.f3.params.toList ++ Rows.beamGroupSpec.plain.varTypes Try.prog) (ds ++ gs)).all (· ≤ reachBytes) = true := hsz0
  have hW' := hW
  have hlt := hW.lt
  obtain ⟨p, q, hA0, hV, rfl, hfz, hnd⟩ := hW
  have hA : DataW.TrodAll enc Try.prog W 0 (fun _ => true) true Try.f3.params.toList args.toList ds p := hA0
  rw [Try.params3] at hA hval hsz
  have hA2 := hA
  obtain ⟨v0, v1, v2, d0, d1, d2, p0, p1, p2, rfl, rfl, hp, h0, h1, h2⟩ := trodAll_three hA
  obtain ⟨rfl, rfl⟩ := trodVars_none hV
  obtain ⟨cs0, hcs0, _⟩ := okWide_struct Try.underlying28 (hval 0 28 v0 rfl rfl)
  obtain ⟨s0a, A0a, n0a, c0a, l0a, z0a, B0a, m0a, d0a, k0a, s0b, A0b, n0b, c0b, l0b, z0b, B0b, m0b, d0b, k0b, s0c, A0c, n0c, c0c, l0c, z0c, B0c, m0c, d0c, k0c, s0d, A0d, n0d, c0d, l0d, z0d, B0d, m0d, d0d, k0d, rfl, S0a, Q0a, S0b, Q0b, S0c, Q0c, S0d, Q0d, hm0⟩ := open_matrix h0 ⟨cs0, hcs0⟩
  obtain ⟨cs1, hcs1, _⟩ := okWide_struct Try.underlying28 (hval 1 28 v1 rfl rfl)
  obtain ⟨s1a, A1a, n1a, c1a, l1a, z1a, B1a, m1a, d1a, k1a, s1b, A1b, n1b, c1b, l1b, z1b, B1b, m1b, d1b, k1b, s1c, A1c, n1c, c1c, l1c, z1c, B1c, m1c, d1c, k1c, s1d, A1d, n1d, c1d, l1d, z1d, B1d, m1d, d1d, k1d, rfl, S1a, Q1a, S1b, Q1b, S1c, Q1c, S1d, Q1d, hm1⟩ := open_matrix h1 ⟨cs1, hcs1⟩
  obtain ⟨cs2, hcs2, _⟩ := okWide_struct Try.underlying30 (hval 2 30 v2 rfl rfl)
  obtain ⟨s2a, A2a, n2a, c2a, l2a, z2a, B2a, m2a, d2a, k2a, s2b, A2b, n2b, c2b, l2b, z2b, B2b, m2b, d2b, k2b, rfl, S2a, Q2a, S2b, Q2b, hm2⟩ := open_gauss h2 ⟨cs2, hcs2⟩
  simp only [List.append_nil] at hW' hlt
  have hw0 : (d0.weights Try.prog 28).all (· ≤ reachBytes) = true := by
    rw [List.all_eq_true] at hsz ⊢
    intro x hx
    exact hsz x (DataW.weights_mem_each (j := 0) rfl rfl x hx)
  obtain ⟨w0a, y0a, w0b, y0b, w0c, y0c, w0d, y0d⟩ := hm0 hw0
  have hw1 : (d1.weights Try.prog 28).all (· ≤ reachBytes) = true := by
    rw [List.all_eq_true] at hsz ⊢
    intro x hx
    exact hsz x (DataW.weights_mem_each (j := 1) rfl rfl x hx)
  obtain ⟨w1a, y1a, w1b, y1b, w1c, y1c, w1d, y1d⟩ := hm1 hw1
  have hw2 : (d2.weights Try.prog 30).all (· ≤ reachBytes) = true := by
    rw [List.all_eq_true] at hsz ⊢
    intro x hx
    exact hsz x (DataW.weights_mem_each (j := 2) rfl rfl x hx)
  obtain ⟨w2a, y2a, w2b, y2b⟩ := hm2 hw2
  refine (law_group s0a A0a n0a c0a l0a z0a B0a m0a d0a k0a s0b A0b n0b c0b l0b z0b B0b m0b d0b k0b s0c A0c n0c c0c l0c z0c B0c m0c d0c k0c s0d A0d n0d c0d l0d z0d B0d m0d d0d k0d s1a A1a n1a c1a l1a z1a B1a m1a d1a k1a s1b A1b n1b c1b l1b z1b B1b m1b d1b k1b s1c A1c n1c c1c l1c z1c B1c m1c d1c k1c s1d A1d n1d c1d l1d z1d B1d m1d d1d k1d s2a A2a n2a c2a l2a z2a B2a m2a d2a k2a s2b A2b n2b c2b l2b z2b B2b m2b d2b k2b W S0a Q0a w0a y0a S0b Q0b w0b y0b S0c Q0c w0c y0c S0d Q0d w0d y0d S1a Q1a w1a y1a S1b Q1b w1b y1b S1c Q1c w1c y1c S1d Q1d w1d y1d S2a Q2a w2a y2a S2b Q2b w2b y2b).mono fun e W' ⟨he, hw⟩ => ?_
  subst he
  refine ⟨_, rfl, post_of_below (pa := p) (pv := []) hW' (fun _ _ _ => ?_) (fun sp hsp => ?_) (fun _ _ => rfl) (by simp) hw ?_⟩
  · have e1 : (Rows.beamGroupSpec.fn H ([d0, d1, d2] ++ [])).results = [.lit (.bool true)] := rfl
    rw [e1]
    exact trodAll_mk1 (shut_bool Try.underlying4 _)
  · exact trodAll_later Try.laidOutBeamGroup hw _ _ _ _ Try.readsBeamGroup hA2 hlt hsp
  · intro j t x hj hr
    rw [show Try.f3.resultTypes = #[4] by kernel_rfl] at hj hr
    match j, hj, hr with
    | 0, hj, hr =>
      simp [Value.resultList] at hj hr
      subst hj; subst hr
      exact okWide_bool_mk Try.underlying4 _

theorem beamGroup_proved : Rows.BeamGroupSaid :=
  OpenClaim.holds_of_wide 3 Try.f3 rfl rfl rfl rfl rfl rfl rfl ⟨rfl, rfl, rfl, rfl, rfl⟩ rfl rfl rfl rfl rfl (by kernel_rfl) Try.func3 (by kernel_rfl)
    (of_decide_eq_true (by kernel_rfl)) (by unfold Func.isWrapper; rw [if_neg (by decide +kernel)]; exact ⟨rfl, rfl⟩)
    (fun os started H enc _ => beamGroup_lifted os started H enc)
end Go.Proofs.Ytdmdaoginojalaa
