/-
  TurnNames: for every input the statement answers true; the input reads as it did (a tied card: the tables that its row lists hold what the program's text lays there).
-/
import Derived.Test.YtdmdaoginojalaaGreatDoorDtF
import Derived.Test.YtdmdaoginojalaaGreatDoorFrame2
import Derived.Test.YtdmdaoginojalaaGreatDoorRows
import Derived.Test.YtdmdaoginojalaaGreatDoorTie
import Derived.Test.YtdmdaoginojalaaGreatDoorCards
import Derived.ProofKit
import Derived.Lib.SmallJoins
import Derived.Lib.LaidTab
import Derived.Stop.LaidErr
import Derived.LaidMore
import Derived.MakeChecks
import Derived.SevenTiedAt
namespace Go.Proofs.YtdmdaoginojalaaGreatDoor
open Go.ChangeShapes Go.WideShapes Go.ChangeAt Go.RowKit Go.Joins

theorem Tryz.ownTurnNames : ownKnob Tryz.prog.godebug = none := by kernel_rfl
theorem Tryz.laidOutTurnNames : laidOutB Tryz.prog = true := by kernel_rfl
theorem Tryz.readsTurnNames : ∀ t ∈ [], Tryz.prog.readableRec t = true ∧ t < Tryz.prog.types.size := by
  intro t ht
  exact absurd ht (by simp)
theorem turnNames_door (os : Os) (args : Array Value) : laidMetH Tryz.prog Rows.turnNamesRow.laid ((World.doorLaid Tryz.prog 65 os).forCall (fun _ _ => 0) ⟨#[], args, []⟩).memory :=
  laidMetH_of_parts3 (fuel := 8) (laidMet_of_run' 8 (by kernel_rfl) (by kernel_rfl)) (by kernel_rfl) (by kernel_rfl)

set_option maxRecDepth 100000 in
theorem turnNames_lifted (os : Os) (started : os.Started) (H : Type) (enc : TypeId × Value → H) :
    ReturnsInHanded {} Tryz.checked os 3 .any (fun w args => (Rows.turnNamesSpec.pre enc Tryz.prog Tryz.f3 Rows.turnNamesRow.domain false w args ∧ laidMetH Tryz.prog Rows.turnNamesRow.laid w) ∧ sizedMet enc Tryz.prog Tryz.f3 (OpenSpec.ofChange Rows.turnNamesSpec) false w args) (Rows.turnNamesSpec.post enc Tryz.prog Tryz.f3 false true false false) := by
  refine returnsInHanded_of_change_and (C := Tryz.checked) (X := fun w _ => laidMetH Tryz.prog Rows.turnNamesRow.laid w) (fun _ _ _ hh h => h.of_heap hh) Tryz.ownTurnNames started (by kernel_rfl) Tryz.func3
    (ChangeSpec.witness_shaped (enc := enc) (C := Tryz.checked) (os := os) (X := fun w _ => laidMetH Tryz.prog Rows.turnNamesRow.laid w) false (World.doorLaid Tryz.prog 65 os) #[] 8 rfl (World.shaped_of_RefB (by kernel_rfl) (by kernel_rfl)) (by kernel_rfl) (by kernel_rfl) (by kernel_rfl) (turnNames_door os _)) ?_
  intro W base args ds gs before hval0 hW hcnd hsz0 hL0 _
  clear hL0
  have hval : ∀ (j : Nat) t v, Tryz.f3.params[j]? = some t → args[j]? = some v → Value.okWide Tryz.prog W .any base t v := hval0
  have hsz : (DataW.weightsEach Tryz.prog (Tryz.f3.params.toList ++ Rows.turnNamesSpec.plain.varTypes Tryz.prog) (ds ++ gs)).all (· ≤ reachBytes) = true := hsz0
  have hW' := hW
  have hlt := hW.lt
  obtain ⟨p, q, hA0, hV, rfl, hfz, hnd⟩ := hW
  have hA : DataW.TrodAll enc Tryz.prog W 0 (fun _ => true) true Tryz.f3.params.toList args.toList ds p := hA0
  rw [Tryz.params3] at hA hval hsz
  have hA2 := hA
  obtain ⟨rfl, rfl, rfl⟩ := trodAll_none hA
  obtain ⟨rfl, rfl⟩ := trodVars_none hV
  simp only [List.append_nil] at hW' hlt
  refine (law_names17  W ).mono fun e W' ⟨he, hw⟩ => ?_
  subst he
  refine ⟨_, rfl, post_of_below (pa := []) (pv := []) hW' (fun _ _ _ => ?_) (fun sp hsp => ?_) (fun _ _ => rfl) (by simp) hw ?_⟩
  · exact trodAll_mk1 (shut_bool Tryz.underlying4 _)
  · exact trodAll_later Tryz.laidOutTurnNames hw _ _ _ _ Tryz.readsTurnNames hA2 hlt hsp
  · intro j t x hj hr
    rw [show Tryz.f3.resultTypes = #[4] by kernel_rfl] at hj hr
    match j, hj, hr with
    | 0, hj, hr =>
      simp [Value.resultList] at hj hr
      subst hj; subst hr
      exact okWide_bool_mk Tryz.underlying4 _

set_option maxRecDepth 100000 in
set_option maxHeartbeats 12800000 in
theorem turnNames_joined : joinedFacts Tryz.pinned.checked.prog 3 Tryz.f3 Rows.turnNamesSpec Rows.turnNamesRow = true := by
  unfold joinedFacts
  simp only [Bool.and_eq_true]
  (with_reducible repeat' apply And.intro) <;> (as_aux_lemma => kernel_rfl)
theorem turnNames_row : Rows.TurnNamesSaid :=
  OpenClaim.holds_of_wide 3 Tryz.f3 rfl rfl rfl rfl rfl rfl rfl ⟨rfl, rfl, rfl, rfl, rfl⟩ rfl rfl rfl rfl rfl (by kernel_rfl) Tryz.func3 turnNames_joined
    (of_decide_eq_true (by kernel_rfl)) (by unfold Func.isWrapper; rw [if_neg (by decide +kernel)]; exact ⟨rfl, rfl⟩)
    (fun os started H enc _ => turnNames_lifted os started H enc)

theorem turnNames_proved : Rows.TurnNamesCardSaid :=
  Claim7.holds_tied_plain_at .later [] [.data] true _ _
    turnNames_row (fun _ h => by cases h) (by as_aux_lemma => kernel_rfl) (fun _ h => by cases h) turnNames_row_tie rfl ⟨rfl, rfl⟩ (by as_aux_lemma => kernel_rfl) rfl
    (fun f fn hf hfn => by
      obtain rfl : f = 3 := Option.some.inj ((show Tryz.prog.funcNamed "polestar/polestarlaw17.TurnNames" = some 3 by as_aux_lemma => kernel_rfl).symm.trans hf) |>.symm
      obtain rfl : fn = Tryz.f3 := (Option.some.inj (Tryz.func3.symm.trans hfn)).symm
      exact ⟨by as_aux_lemma => kernel_rfl, fun j t ht => by
        rw [Tryz.params3] at ht
        exact absurd ht (by simp)⟩)
    (by as_aux_lemma => kernel_rfl)
end Go.Proofs.YtdmdaoginojalaaGreatDoor
