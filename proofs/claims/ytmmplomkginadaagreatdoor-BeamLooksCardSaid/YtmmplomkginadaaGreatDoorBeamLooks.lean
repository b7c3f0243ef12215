/-
  BeamLooks: for every input the statement answers true; the input reads as it did (a tied card: the tables that its row lists hold what the program's text lays there).
-/
import Derived.Test.YtmmplomkginadaaGreatDoorOwL
import Derived.Test.YtmmplomkginadaaGreatDoorFrmF
import Derived.Test.YtmmplomkginadaaGreatDoorRows
import Derived.Test.YtmmplomkginadaaGreatDoorTie
import Derived.Test.YtmmplomkginadaaGreatDoorCards
import Derived.ProofKit
import Derived.Lib.SmallJoins
import Derived.Lib.LaidTab
import Derived.Stop.LaidErr
import Derived.LaidMore
import Derived.MakeChecks
import Derived.SevenTiedAt
namespace Go.Proofs.YtmmplomkginadaaGreatDoor
open Go.ChangeShapes Go.WideShapes Go.ChangeAt Go.RowKit Go.Joins

theorem Tryz.ownBeamLooks : ownKnob Tryz.prog.godebug = none := by kernel_rfl
theorem Tryz.laidOutBeamLooks : laidOutB Tryz.prog = true := by kernel_rfl
theorem Tryz.readsBeamLooks : ∀ t ∈ [30], Tryz.prog.readableRec t = true ∧ t < Tryz.prog.types.size := by
  intro t ht
  simp only [List.mem_cons, List.not_mem_nil, or_false] at ht
  rcases ht with rfl <;> exact ⟨by kernel_rfl, by decide +kernel⟩
theorem beamLooks_door (os : Os) (args : Array Value) : laidMetH Tryz.prog Rows.beamLooksRow.laid ((World.doorLaid Tryz.prog 65 os).forCall (fun _ _ => 0) ⟨#[], args, []⟩).memory :=
  laidMetH_of_parts3 (fuel := 8) (laidMet_of_run' 8 (by kernel_rfl) (by kernel_rfl)) (by kernel_rfl) (by kernel_rfl)

set_option maxRecDepth 100000 in
theorem beamLooks_lifted (os : Os) (started : os.Started) (H : Type) (enc : TypeId × Value → H) :
    ReturnsInHanded {} Tryz.checked os 5 .any (fun w args => (Rows.beamLooksSpec.pre enc Tryz.prog Tryz.f5 Rows.beamLooksRow.domain false w args ∧ laidMetH Tryz.prog Rows.beamLooksRow.laid w) ∧ sizedMet enc Tryz.prog Tryz.f5 (OpenSpec.ofChange Rows.beamLooksSpec) false w args) (Rows.beamLooksSpec.post enc Tryz.prog Tryz.f5 false true false false) := by
  refine returnsInHanded_of_change_and (C := Tryz.checked) (X := fun w _ => laidMetH Tryz.prog Rows.beamLooksRow.laid w) (fun _ _ _ hh h => h.of_heap hh) Tryz.ownBeamLooks started (by kernel_rfl) Tryz.func5
    (ChangeSpec.witness_shaped (enc := enc) (C := Tryz.checked) (os := os) (X := fun w _ => laidMetH Tryz.prog Rows.beamLooksRow.laid w) false (World.doorLaid Tryz.prog 65 os) #[.agg #[.bool false, .slice none 0 0, .bool false, .slice none 0 0, .bool false, .slice none 0 0, .bool false, .slice none 0 0]] 8 rfl (World.shaped_of_RefB (by kernel_rfl) (by kernel_rfl)) (by kernel_rfl) (by kernel_rfl) (by kernel_rfl) (beamLooks_door os _)) ?_
  intro W base args ds gs before hval0 hW hcnd hsz0 hL0 _
  clear hL0
  have hval : ∀ (j : Nat) t v, Tryz.f5.params[j]? = some t → args[j]? = some v → Value.okWide Tryz.prog W .any base t v := hval0
  have hsz : (DataW.weightsEach Tryz.prog (Tryz.f5.params.toList ++ Rows.beamLooksSpec.plain.varTypes Tryz.prog) (ds ++ gs)).all (· ≤ reachBytes) = true := hsz0
  have hW' := hW
  have hlt := hW.lt
  obtain ⟨p, q, hA0, hV, rfl, hfz, hnd⟩ := hW
  have hA : DataW.TrodAll enc Tryz.prog W 0 (fun _ => true) true Tryz.f5.params.toList args.toList ds p := hA0
  rw [Tryz.params5] at hA hval hsz
  have hA2 := hA
  obtain ⟨v0, d0, rfl, rfl, h0⟩ := trodAll_one hA
  obtain ⟨rfl, rfl⟩ := trodVars_none hV
  obtain ⟨cs0, hcs0, _⟩ := okWide_struct Tryz.underlying30 (hval 0 30 v0 rfl rfl)
  obtain ⟨s0a, A0a, n0a, c0a, l0a, z0a, B0a, m0a, d0a, k0a, s0b, A0b, n0b, c0b, l0b, z0b, B0b, m0b, d0b, k0b, rfl, S0a, Q0a, S0b, Q0b, hm0⟩ := open_gauss h0 ⟨cs0, hcs0⟩
  have hw0 : (d0.weights Tryz.prog 30).all (· ≤ reachBytes) = true := by
    rw [List.all_eq_true] at hsz ⊢
    intro x hx
    exact hsz x (DataW.weights_mem_each (j := 0) rfl rfl x hx)
  obtain ⟨w0a, y0a, w0b, y0b⟩ := hm0 hw0
  simp only [List.append_nil] at hW' hlt
  refine (law_looks s0a A0a n0a c0a l0a z0a B0a m0a d0a k0a s0b A0b n0b c0b l0b z0b B0b m0b d0b k0b W S0a Q0a w0a y0a S0b Q0b w0b y0b).mono fun e W' ⟨he, hw⟩ => ?_
  subst he
  refine ⟨_, rfl, post_of_below (pa := p) (pv := []) hW' (fun _ _ _ => ?_) (fun sp hsp => ?_) (fun _ _ => rfl) (by simp) hw ?_⟩
  · exact trodAll_mk1 (shut_bool Tryz.underlying4 _)
  · exact trodAll_later Tryz.laidOutBeamLooks hw _ _ _ _ Tryz.readsBeamLooks hA2 hlt hsp
  · intro j t x hj hr
    rw [show Tryz.f5.resultTypes = #[4] by kernel_rfl] at hj hr
    match j, hj, hr with
    | 0, hj, hr =>
      simp [Value.resultList] at hj hr
      subst hj; subst hr
      exact okWide_bool_mk Tryz.underlying4 _

set_option maxRecDepth 100000 in
set_option maxHeartbeats 12800000 in
theorem beamLooks_joined : joinedFacts Tryz.pinned.checked.prog 5 Tryz.f5 Rows.beamLooksSpec Rows.beamLooksRow = true := by
  unfold joinedFacts
  simp only [Bool.and_eq_true]
  (with_reducible repeat' apply And.intro) <;> (as_aux_lemma => kernel_rfl)
theorem beamLooks_row : Rows.BeamLooksSaid :=
  OpenClaim.holds_of_wide 5 Tryz.f5 rfl rfl rfl rfl rfl rfl rfl ⟨rfl, rfl, rfl, rfl, rfl⟩ rfl rfl rfl rfl rfl (by kernel_rfl) Tryz.func5 beamLooks_joined
    (of_decide_eq_true (by kernel_rfl)) (by unfold Func.isWrapper; rw [if_neg (by decide +kernel)]; exact ⟨rfl, rfl⟩)
    (fun os started H enc _ => beamLooks_lifted os started H enc)

theorem beamLooks_proved : Rows.BeamLooksCardSaid :=
  Claim7.holds_tied_plain_at .later [] [.data, .data, .data] true _ _
    beamLooks_row (fun _ h => by cases h) (by as_aux_lemma => kernel_rfl) (fun _ h => by cases h) beamLooks_row_tie rfl ⟨rfl, rfl⟩ (by as_aux_lemma => kernel_rfl) rfl
    (fun f fn hf hfn => by
      obtain rfl : f = 5 := Option.some.inj ((show Tryz.prog.funcNamed "polestar/polestarlaw15.BeamLooks" = some 5 by as_aux_lemma => kernel_rfl).symm.trans hf) |>.symm
      obtain rfl : fn = Tryz.f5 := (Option.some.inj (Tryz.func5.symm.trans hfn)).symm
      exact ⟨by as_aux_lemma => kernel_rfl, fun j t ht => by
        rw [Tryz.params5] at ht
        have hm : t ∈ [30] := by simpa using Array.mem_of_getElem? ht
        have hall : ([30].all fun u => !Tryz.prog.wantsStandIn u) = true := by kernel_rfl
        exact (show Tryz.prog.wantsStandIn t = false by simpa using List.all_eq_true.1 hall t hm)⟩)
    (by as_aux_lemma => kernel_rfl)
end Go.Proofs.YtmmplomkginadaaGreatDoor
