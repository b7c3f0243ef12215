/-
  RoundWhole: for every input the statement answers true; the input reads as it did (a tied card: the tables that its row lists hold what the program's text lays there).
-/
import Derived.Test.YtjcjphgpmpjmbaaDoorWhoW
import Derived.Test.YtjcjphgpmpjmbaaDoorZero
import Derived.Test.YtjcjphgpmpjmbaaDoorNeaP
import Derived.SizedLaws
import Derived.ProofKit
import Derived.Test.YtjcjphgpmpjmbaaDoorRows
import Derived.Test.YtjcjphgpmpjmbaaDoorTie
import Derived.Test.YtjcjphgpmpjmbaaDoorCards
import Derived.Lib.SmallJoins
import Derived.Lib.LaidTab
import Derived.Stop.LaidErr
import Derived.LaidMore
import Derived.MakeChecks
import Derived.SevenTiedAt
namespace Go.Proofs.YtjcjphgpmpjmbaaDoor
open Go.ChangeShapes Go.WideShapes Go.ChangeAt Go.RowKit Go.Joins

theorem Tryd.ownRoundWhole : ownKnob Tryd.prog.godebug = none := by kernel_rfl
theorem Tryd.laidOutRoundWhole : laidOutB Tryd.prog = true := by kernel_rfl
theorem Tryd.readsRoundWhole : ∀ t ∈ [27, 27], Tryd.prog.readableRec t = true ∧ t < Tryd.prog.types.size := by
  intro t ht
  simp only [List.mem_cons, List.not_mem_nil, or_false] at ht
  rcases ht with rfl | rfl <;> exact ⟨by kernel_rfl, by decide +kernel⟩
theorem roundWhole_door (os : Os) (args : Array Value) : laidMetH Tryd.prog Rows.roundWholeRow.laid ((World.doorLaid Tryd.prog 14 os).forCall (fun _ _ => 0) ⟨#[], args, []⟩).memory :=
  laidMetH_of_parts3 (fuel := 8) (laidMet_of_run' 8 (by kernel_rfl) (by kernel_rfl)) (by kernel_rfl) (by kernel_rfl)
theorem roundWhole_data : (Rows.laid_math_bits_deBruijn64tab : DataW Unit) = Lib.tabData .u8 (Lib.deBruijn64tab.map (fun n : Nat => (n : Int))) := by kernel_rfl
/-- The table of the library in its place. -/
theorem roundWhole_tab {W : World} (h : laidMetH Tryd.prog Rows.roundWholeRow.laid W) : Tab W := by
  rw [MakeChecks.laidMetH_plain _ _ _ (by kernel_rfl)] at h
  have hT0 : laidMet Tryd.prog Rows.roundWholeRow.laid W := h
  have hT1 : laidMet Tryd.prog [("math/bits.deBruijn64tab", Rows.laid_math_bits_deBruijn64tab)] W := hT0
  rw [roundWhole_data] at hT1
  have hT := Lib.tabIs_of_head (k := .u8) (g := 3) (t := 110) (e := 5) (n := 64) (by kernel_rfl) (by kernel_rfl) Tryd.underlying110 Tryd.underlying5 (by kernel_rfl) (by kernel_rfl) hT1
  intro j hj
  have := hT.cell (g := 3) (by kernel_rfl) j (by rw [List.length_map]; exact hj)
  rw [this]
  simp [List.getD, hj]

set_option maxRecDepth 100000 in
theorem roundWhole_lifted (os : Os) (started : os.Started) (H : Type) (enc : TypeId × Value → H) :
    ReturnsInHanded {} Tryd.checked os 4 .any (fun w args => (Rows.roundWholeSpec.pre enc Tryd.prog Tryd.f4 Rows.roundWholeRow.domain false w args ∧ laidMetH Tryd.prog Rows.roundWholeRow.laid w) ∧ sizedMet enc Tryd.prog Tryd.f4 (OpenSpec.ofChange Rows.roundWholeSpec) false w args) (Rows.roundWholeSpec.post enc Tryd.prog Tryd.f4 false true false false) := by
  refine returnsInHanded_of_change_and (C := Tryd.checked) (X := fun w _ => laidMetH Tryd.prog Rows.roundWholeRow.laid w) (fun _ _ _ hh h => h.of_heap hh) Tryd.ownRoundWhole started (by kernel_rfl) Tryd.func4
    (ChangeSpec.witness_shaped (enc := enc) (C := Tryd.checked) (os := os) (X := fun w _ => laidMetH Tryd.prog Rows.roundWholeRow.laid w) false (World.doorLaid Tryd.prog 14 os) #[.float .f64 0, .float .f64 0] 8 rfl (World.shaped_of_RefB (by kernel_rfl) (by kernel_rfl)) (by kernel_rfl) (by kernel_rfl) (by kernel_rfl) (roundWhole_door os _)) ?_
  intro W base args ds gs before hval0 hW hcnd hsz0 hL0 _
  have hL := roundWhole_tab hL0
  clear hL0
  have hval : ∀ (j : Nat) t v, Tryd.f4.params[j]? = some t → args[j]? = some v → Value.okWide Tryd.prog W .any base t v := hval0
  have hsz : (DataW.weightsEach Tryd.prog (Tryd.f4.params.toList ++ Rows.roundWholeSpec.plain.varTypes Tryd.prog) (ds ++ gs)).all (· ≤ reachBytes) = true := hsz0
  have hW' := hW
  have hlt := hW.lt
  obtain ⟨p, q, hA0, hV, rfl, hfz, hnd⟩ := hW
  have hA : DataW.TrodAll enc Tryd.prog W 0 (fun _ => true) true Tryd.f4.params.toList args.toList ds p := hA0
  rw [Tryd.params4] at hA hval hsz
  have hA2 := hA
  obtain ⟨v0, v1, d0, d1, p0, p1, rfl, rfl, rfl, h0, h1⟩ := trodAll_two hA
  obtain ⟨rfl, rfl⟩ := trodVars_none hV
  obtain ⟨a0, rfl, rfl, _, w0⟩ := open_float Tryd.underlying27 (hval 0 27 v0 rfl rfl) h0
  have b0 : a0 < 2 ^ 64 := by simpa [Lit.wf] using w0
  obtain ⟨a1, rfl, rfl, _, w1⟩ := open_float Tryd.underlying27 (hval 1 27 v1 rfl rfl) h1
  have b1 : a1 < 2 ^ 64 := by simpa [Lit.wf] using w1
  simp only [List.append_nil] at hW' hlt
  refine (law_roundWhole a0 a1 W b0 b1 hL).mono fun e W' ⟨he, hw⟩ => ?_
  subst he
  refine ⟨_, rfl, post_of_below (pa := p0 ++ p1) (pv := []) hW' (fun _ _ _ => ?_) (fun sp hsp => ?_) (fun _ _ => rfl) (by simp) hw ?_⟩
  · exact trodAll_mk1 (shut_bool Tryd.underlying4 _)
  · exact trodAll_later Tryd.laidOutRoundWhole hw _ _ _ _ Tryd.readsRoundWhole hA2 hlt hsp
  · intro j t x hj hr
    rw [show Tryd.f4.resultTypes = #[4] by kernel_rfl] at hj hr
    match j, hj, hr with
    | 0, hj, hr =>
      simp [Value.resultList] at hj hr
      subst hj; subst hr
      exact okWide_bool_mk Tryd.underlying4 _

theorem roundWhole_row : Rows.RoundWholeSaid :=
  OpenClaim.holds_of_wide 4 Tryd.f4 rfl rfl rfl rfl rfl rfl rfl ⟨rfl, rfl, rfl, rfl, rfl⟩ rfl rfl rfl rfl rfl (by kernel_rfl) Tryd.func4 (by kernel_rfl)
    (of_decide_eq_true (by kernel_rfl)) (by unfold Func.isWrapper; rw [if_neg (by decide +kernel)]; exact ⟨rfl, rfl⟩)
    (fun os started H enc _ => roundWhole_lifted os started H enc)

theorem roundWhole_proved : Rows.RoundWholeCardSaid :=
  Claim7.holds_tied_plain_at .later [] [.data] true _ _
    roundWhole_row (fun _ h => by cases h) (by kernel_rfl) (fun _ h => by cases h) roundWhole_row_tie rfl ⟨rfl, rfl⟩ (by kernel_rfl) rfl
    (fun f fn hf hfn => by
      obtain rfl : f = 4 := Option.some.inj ((show Tryd.prog.funcNamed "polestar/polestarlaw04.RoundWhole" = some 4 by kernel_rfl).symm.trans hf) |>.symm
      obtain rfl : fn = Tryd.f4 := (Option.some.inj (Tryd.func4.symm.trans hfn)).symm
      exact ⟨by kernel_rfl, fun j t ht => by
        rw [Tryd.params4] at ht
        have hm : t ∈ [27, 27] := by simpa using Array.mem_of_getElem? ht
        have hall : ([27, 27].all fun u => !Tryd.prog.wantsStandIn u) = true := by kernel_rfl
        exact (show Tryd.prog.wantsStandIn t = false by simpa using List.all_eq_true.1 hall t hm)⟩)
    (by kernel_rfl)
end Go.Proofs.YtjcjphgpmpjmbaaDoor
