/-
  StackQuarters: for every input the statement answers true; the input reads as it did (a tied card: the tables that its row lists hold what the program's text lays there).
-/
import Derived.Test.YtpnhjgjojnchaaaGreatDoorSqL
import Derived.Test.YtpnhjgjojnchaaaGreatDoorFrame2
import Derived.Test.YtpnhjgjojnchaaaGreatDoorRows
import Derived.Test.YtpnhjgjojnchaaaGreatDoorTie
import Derived.Test.YtpnhjgjojnchaaaGreatDoorCards
import Derived.ProofKit
import Derived.Lib.SmallJoins
import Derived.Lib.LaidTab
import Derived.Stop.LaidErr
import Derived.LaidMore
import Derived.MakeChecks
import Derived.SevenTiedAt
namespace Go.Proofs.YtpnhjgjojnchaaaGreatDoor
open Go.ChangeShapes Go.WideShapes Go.ChangeAt Go.RowKit Go.Joins

theorem Tryz.ownStackQuarters : ownKnob Tryz.prog.godebug = none := by kernel_rfl
theorem Tryz.laidOutStackQuarters : laidOutB Tryz.prog = true := by kernel_rfl
theorem Tryz.readsStackQuarters : ∀ t ∈ [22, 22, 3], Tryz.prog.readableRec t = true ∧ t < Tryz.prog.types.size := by
  intro t ht
  simp only [List.mem_cons, List.not_mem_nil, or_false] at ht
  rcases ht with rfl | rfl | rfl <;> exact ⟨by kernel_rfl, by decide +kernel⟩
theorem stackQuarters_door (os : Os) (args : Array Value) : laidMetH Tryz.prog Rows.stackQuartersRow.laid ((World.doorLaid Tryz.prog 65 os).forCall (fun _ _ => 0) ⟨#[], args, []⟩).memory :=
  laidMetH_of_parts3 (fuel := 8) (laidMet_of_run' 8 (by kernel_rfl) (by kernel_rfl)) (by kernel_rfl) (by kernel_rfl)

set_option maxRecDepth 100000 in
theorem stackQuarters_lifted (os : Os) (started : os.Started) (H : Type) (enc : TypeId × Value → H) :
    ReturnsInHanded {} Tryz.checked os 3 .any (fun w args => (Rows.stackQuartersSpec.pre enc Tryz.prog Tryz.f3 Rows.stackQuartersRow.domain false w args ∧ laidMetH Tryz.prog Rows.stackQuartersRow.laid w) ∧ sizedMet enc Tryz.prog Tryz.f3 (OpenSpec.ofChange Rows.stackQuartersSpec) false w args) (Rows.stackQuartersSpec.post enc Tryz.prog Tryz.f3 false true false false) := by
  refine returnsInHanded_of_change_and (C := Tryz.checked) (X := fun w _ => laidMetH Tryz.prog Rows.stackQuartersRow.laid w) (fun _ _ _ hh h => h.of_heap hh) Tryz.ownStackQuarters started (by kernel_rfl) Tryz.func3
    (ChangeSpec.witness_shaped (enc := enc) (C := Tryz.checked) (os := os) (X := fun w _ => laidMetH Tryz.prog Rows.stackQuartersRow.laid w) false (World.doorLaid Tryz.prog 65 os) #[.float .f64 0, .float .f64 0, .int .i64 0] 8 rfl (World.shaped_of_RefB (by kernel_rfl) (by kernel_rfl)) (by kernel_rfl) (by kernel_rfl) (by kernel_rfl) (stackQuarters_door os _)) ?_
  intro W base args ds gs before hval0 hW hcnd hsz0 hL0 _
  clear hL0
  have hval : ∀ (j : Nat) t v, Tryz.f3.params[j]? = some t → args[j]? = some v → Value.okWide Tryz.prog W .any base t v := hval0
  have hsz : (DataW.weightsEach Tryz.prog (Tryz.f3.params.toList ++ Rows.stackQuartersSpec.plain.varTypes Tryz.prog) (ds ++ gs)).all (· ≤ reachBytes) = true := hsz0
  have hW' := hW
  have hlt := hW.lt
  obtain ⟨p, q, hA0, hV, rfl, hfz, hnd⟩ := hW
  have hA : DataW.TrodAll enc Tryz.prog W 0 (fun _ => true) true Tryz.f3.params.toList args.toList ds p := hA0
  rw [Tryz.params3] at hA hval hsz
  have hA2 := hA
  obtain ⟨v0, v1, v2, d0, d1, d2, p0, p1, p2, rfl, rfl, rfl, h0, h1, h2⟩ := trodAll_three hA
  obtain ⟨rfl, rfl⟩ := trodVars_none hV
  obtain ⟨a0, rfl, rfl, _, w0⟩ := open_float Tryz.underlying22 (hval 0 22 v0 rfl rfl) h0
  have b0 : a0 < 2 ^ 64 := by simpa [Lit.wf] using w0
  obtain ⟨a1, rfl, rfl, _, w1⟩ := open_float Tryz.underlying22 (hval 1 22 v1 rfl rfl) h1
  have b1 : a1 < 2 ^ 64 := by simpa [Lit.wf] using w1
  obtain ⟨a2, rfl, rfl, _, w2⟩ := open_int Tryz.underlying3 (hval 2 3 v2 rfl rfl) h2
  have b2 : -9223372036854775808 ≤ a2 ∧ a2 ≤ 9223372036854775807 := by
    have m1 : IntKind.i64.min = -9223372036854775808 := rfl
    have m2 : IntKind.i64.max = 9223372036854775807 := rfl
    simp only [Lit.wf, m1, m2, Bool.and_eq_true, decide_eq_true_eq] at w2
    exact w2
  simp only [List.append_nil] at hW' hlt
  refine (law_quarters a0 a1 a2 W b0 b1 b2).mono fun e W' ⟨he, hw⟩ => ?_
  subst he
  refine ⟨_, rfl, post_of_below (pa := p0 ++ p1 ++ p2) (pv := []) hW' (fun _ _ _ => ?_) (fun sp hsp => ?_) (fun _ _ => rfl) (by simp) hw ?_⟩
  · exact trodAll_mk1 (shut_bool Tryz.underlying4 _)
  · exact trodAll_later Tryz.laidOutStackQuarters hw _ _ _ _ Tryz.readsStackQuarters hA2 hlt hsp
  · intro j t x hj hr
    rw [show Tryz.f3.resultTypes = #[4] by kernel_rfl] at hj hr
    match j, hj, hr with
    | 0, hj, hr =>
      simp [Value.resultList] at hj hr
      subst hj; subst hr
      exact okWide_bool_mk Tryz.underlying4 _

theorem stackQuarters_row : Rows.StackQuartersSaid :=
  OpenClaim.holds_of_wide 3 Tryz.f3 rfl rfl rfl rfl rfl rfl rfl ⟨rfl, rfl, rfl, rfl, rfl⟩ rfl rfl rfl rfl rfl (by kernel_rfl) Tryz.func3 (by kernel_rfl)
    (of_decide_eq_true (by kernel_rfl)) (by unfold Func.isWrapper; rw [if_neg (by decide +kernel)]; exact ⟨rfl, rfl⟩)
    (fun os started H enc _ => stackQuarters_lifted os started H enc)

theorem stackQuarters_proved : Rows.StackQuartersCardSaid :=
  Claim7.holds_tied_plain_at .later [] [.data, .data, .data] true _ _
    stackQuarters_row (fun _ h => by cases h) (by kernel_rfl) (fun _ h => by cases h) stackQuarters_row_tie rfl ⟨rfl, rfl⟩ (by kernel_rfl) rfl
    (fun f fn hf hfn => by
      obtain rfl : f = 3 := Option.some.inj ((show Tryz.prog.funcNamed "polestar/polestarlaw19.StackQuarters" = some 3 by kernel_rfl).symm.trans hf) |>.symm
      obtain rfl : fn = Tryz.f3 := (Option.some.inj (Tryz.func3.symm.trans hfn)).symm
      exact ⟨by kernel_rfl, fun j t ht => by
        rw [Tryz.params3] at ht
        have hm : t ∈ [22, 22, 3] := by simpa using Array.mem_of_getElem? ht
        have hall : ([22, 22, 3].all fun u => !Tryz.prog.wantsStandIn u) = true := by kernel_rfl
        exact (show Tryz.prog.wantsStandIn t = false by simpa using List.all_eq_true.1 hall t hm)⟩)
    (by kernel_rfl)
end Go.Proofs.YtpnhjgjojnchaaaGreatDoor
