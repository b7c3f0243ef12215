/-
  ModeOne: for every input the statement answers true; the input reads as it did (a tied card: the tables that its row lists hold what the program's text lays there).
-/
import Derived.Test.YtgekmbfmfiikkaaGreatDoorOmC
import Derived.Test.YtgekmbfmfiikkaaGreatDoorHaA
import Derived.Test.YtgekmbfmfiikkaaGreatDoorRows
import Derived.Test.YtgekmbfmfiikkaaGreatDoorTie
import Derived.Test.YtgekmbfmfiikkaaGreatDoorCards
import Derived.ProofKit
import Derived.Lib.SmallJoins
import Derived.Lib.LaidTab
import Derived.Stop.LaidErr
import Derived.LaidMore
import Derived.MakeChecks
import Derived.SevenTiedAt
set_option maxRecDepth 100000
namespace Go.Proofs.YtgekmbfmfiikkaaGreatDoor
open Go.ChangeShapes Go.WideShapes Go.ChangeAt Go.RowKit Go.Joins
theorem Tryz.ownModeOne : ownKnob Tryz.prog.godebug = none := by kernel_rfl
theorem Tryz.laidOutModeOne : laidOutB Tryz.prog = true := by kernel_rfl
theorem Tryz.readsModeOne : ∀ t ∈ [28, 30], Tryz.prog.readableRec t = true ∧ t < Tryz.prog.types.size := by
 intro t ht
 simp only [List.mem_cons, List.not_mem_nil, or_false] at ht
 rcases ht with rfl | rfl <;> exact ⟨by kernel_rfl, by decide +kernel⟩
theorem modeOne_door (os : Os) (args : Array Value) : laidMetH Tryz.prog Rows.modeOneRow.laid ((World.doorLaid Tryz.prog 65 os).forCall (fun _ _ => 0) ⟨#[], args, []⟩).memory :=
 laidMetH_of_parts3 (fuel := 8) (laidMet_of_run' 8 (by kernel_rfl) (by kernel_rfl)) (by kernel_rfl) (by kernel_rfl)
theorem modeOne_data : (Rows.laid_math_bits_deBruijn64tab : DataW Unit) = Lib.tabData .u8 (Lib.deBruijn64tab.map (fun n : Nat => (n : Int))) := by kernel_rfl
theorem modeOne_tab {W : World} (h : laidMetH Tryz.prog Rows.modeOneRow.laid W) : Tab W := by
 rw [MakeChecks.laidMetH_plain _ _ _ (by kernel_rfl)] at h
 have hT0 : laidMet Tryz.prog Rows.modeOneRow.laid W := h
 have hT1 : laidMet Tryz.prog [("math/bits.deBruijn64tab", Rows.laid_math_bits_deBruijn64tab)] W := hT0
 rw [modeOne_data] at hT1
 have hT := Lib.tabIs_of_head (k := .u8) (g := 1) (t := 335) (e := 5) (n := 64) (by kernel_rfl) (by kernel_rfl) Tryz.underlying335 Tryz.underlying5 (by kernel_rfl) (by kernel_rfl) hT1
 intro j hj
 have := hT.cell (g := 1) (by kernel_rfl) j (by rw [List.length_map]; exact hj)
 rw [this]
 simp [List.getD, hj]
theorem modeOne_lifted (os : Os) (started : os.Started) (H : Type) (enc : TypeId × Value → H) :
  ReturnsInHanded {} Tryz.checked os 6 .any (fun w args => (Rows.modeOneSpec.pre enc Tryz.prog Tryz.f6 Rows.modeOneRow.domain false w args ∧ laidMetH Tryz.prog Rows.modeOneRow.laid w) ∧ sizedMet enc Tryz.prog Tryz.f6 (OpenSpec.ofChange Rows.modeOneSpec) false w args) (Rows.modeOneSpec.post enc Tryz.prog Tryz.f6 false true false false) := by
 refine returnsInHanded_of_change_and (C := Tryz.checked) (X := fun w _ => laidMetH Tryz.prog Rows.modeOneRow.laid w) (fun _ _ _ hh h => h.of_heap hh) Tryz.ownModeOne started (by kernel_rfl) Tryz.func6
  (ChangeSpec.witness_shaped (enc := enc) (C := Tryz.checked) (os := os) (X := fun w _ => laidMetH Tryz.prog Rows.modeOneRow.laid w) false (World.doorLaid Tryz.prog 65 os) #[.agg #[.bool false, .slice none 0 0, .bool false, .slice none 0 0, .bool false, .slice none 0 0, .bool false, .slice none 0 0, .bool false, .slice none 0 0, .bool false, .slice none 0 0, .bool false, .slice none 0 0, .bool false, .slice none 0 0], .agg #[.bool false, .slice none 0 0, .bool false, .slice none 0 0, .bool false, .slice none 0 0, .bool false, .slice none 0 0]] 8 rfl (World.shaped_of_RefB (by kernel_rfl) (by kernel_rfl)) (by kernel_rfl) (by kernel_rfl) (by kernel_rfl) (modeOne_door os _)) ?_
 intro W base args ds gs before hval0 hW hcnd hsz0 hL0 _
 have hL := modeOne_tab hL0
 clear hL0
 have hval : ∀ (j : Nat) t v, Tryz.f6.params[j]? = some t → args[j]? = some v → Value.okWide Tryz.prog W .any base t v := hval0
 have hsz : (DataW.weightsEach Tryz.prog (Tryz.f6.params.toList ++ Rows.modeOneSpec.plain.varTypes Tryz.prog) (ds ++ gs)).all (· ≤ reachBytes) = true := hsz0
 have hW' := hW
 have hlt := hW.lt
 obtain ⟨p, q, hA0, hV, rfl, hfz, hnd⟩ := hW
 have hA : DataW.TrodAll enc Tryz.prog W 0 (fun _ => true) true Tryz.f6.params.toList args.toList ds p := hA0
 rw [Tryz.params6] at hA hval hsz
 have hA2 := hA
 obtain ⟨v0, v1, d0, d1, p0, p1, rfl, rfl, rfl, h0, h1⟩ := trodAll_two hA
 obtain ⟨rfl, rfl⟩ := trodVars_none hV
 obtain ⟨cs0, hcs0, _⟩ := okWide_struct Tryz.underlying28 (hval 0 28 v0 rfl rfl)
 obtain ⟨s0a, A0a, n0a, c0a, l0a, z0a, B0a, m0a, d0a, k0a, s0b, A0b, n0b, c0b, l0b, z0b, B0b, m0b, d0b, k0b, s0c, A0c, n0c, c0c, l0c, z0c, B0c, m0c, d0c, k0c, s0d, A0d, n0d, c0d, l0d, z0d, B0d, m0d, d0d, k0d, rfl, S0a, Q0a, S0b, Q0b, S0c, Q0c, S0d, Q0d, hm0⟩ := open_matrix h0 ⟨cs0, hcs0⟩
 have hw0 : (d0.weights Tryz.prog 28).all (· ≤ reachBytes) = true := by
  rw [List.all_eq_true] at hsz ⊢
  intro x hx
  exact hsz x (DataW.weights_mem_each (j := 0) rfl rfl x hx)
 obtain ⟨w0a, y0a, w0b, y0b, w0c, y0c, w0d, y0d⟩ := hm0 hw0
 obtain ⟨cs1, hcs1, _⟩ := okWide_struct Tryz.underlying30 (hval 1 30 v1 rfl rfl)
 obtain ⟨s1a, A1a, n1a, c1a, l1a, z1a, B1a, m1a, d1a, k1a, s1b, A1b, n1b, c1b, l1b, z1b, B1b, m1b, d1b, k1b, rfl, S1a, Q1a, S1b, Q1b, hm1⟩ := open_gauss h1 ⟨cs1, hcs1⟩
 have hw1 : (d1.weights Tryz.prog 30).all (· ≤ reachBytes) = true := by
  rw [List.all_eq_true] at hsz ⊢
  intro x hx
  exact hsz x (DataW.weights_mem_each (j := 1) rfl rfl x hx)
 obtain ⟨w1a, y1a, w1b, y1b⟩ := hm1 hw1
 simp only [List.append_nil] at hW' hlt
 refine (law_modeOne s0a A0a n0a c0a l0a z0a B0a m0a d0a k0a s0b A0b n0b c0b l0b z0b B0b m0b d0b k0b s0c A0c n0c c0c l0c z0c B0c m0c d0c k0c s0d A0d n0d c0d l0d z0d B0d m0d d0d k0d s1a A1a n1a c1a l1a z1a B1a m1a d1a k1a s1b A1b n1b c1b l1b z1b B1b m1b d1b k1b W S0a Q0a w0a y0a S0b Q0b w0b y0b S0c Q0c w0c y0c S0d Q0d w0d y0d S1a Q1a w1a y1a S1b Q1b w1b y1b hL).mono fun e W' ⟨he, hw⟩ => ?_
 subst he
 refine ⟨_, rfl, post_of_below (pa := p0 ++ p1) (pv := []) hW' (fun _ _ _ => ?_) (fun sp hsp => ?_) (fun _ _ => rfl) (by simp) hw ?_⟩
 ·exact trodAll_mk1 (shut_bool Tryz.underlying4 _)
 ·exact trodAll_later Tryz.laidOutModeOne hw _ _ _ _ Tryz.readsModeOne hA2 hlt hsp
 ·intro j t x hj hr
  rw [show Tryz.f6.resultTypes = #[4] by kernel_rfl] at hj hr
  match j, hj, hr with
  | 0, hj, hr =>
   simp [Value.resultList] at hj hr
   subst hj; subst hr
   exact okWide_bool_mk Tryz.underlying4 _
set_option maxHeartbeats 12800000 in
theorem modeOne_joined : joinedFacts Tryz.pinned.checked.prog 6 Tryz.f6 Rows.modeOneSpec Rows.modeOneRow = true := by
 unfold joinedFacts
 simp only [Bool.and_eq_true]
 (with_reducible repeat' apply And.intro) <;> (as_aux_lemma => kernel_rfl)
theorem modeOne_row : Rows.ModeOneSaid :=
 OpenClaim.holds_of_wide 6 Tryz.f6 rfl rfl rfl rfl rfl rfl rfl ⟨rfl, rfl, rfl, rfl, rfl⟩ rfl rfl rfl rfl rfl (by kernel_rfl) Tryz.func6 modeOne_joined
  (of_decide_eq_true (by kernel_rfl)) (by unfold Func.isWrapper; rw [if_neg (by decide +kernel)]; exact ⟨rfl, rfl⟩)
  (fun os started H enc _ => modeOne_lifted os started H enc)
theorem modeOne_proved : Rows.ModeOneCardSaid :=
 Claim7.holds_tied_plain_at .later [] [.data] true _ _
  modeOne_row (fun _ h => by cases h) (by as_aux_lemma => kernel_rfl) (fun _ h => by cases h) modeOne_row_tie rfl ⟨rfl, rfl⟩ (by as_aux_lemma => kernel_rfl) rfl
  (fun f fn hf hfn => by
   obtain rfl : f = 6 := Option.some.inj ((show Tryz.prog.funcNamed "polestar/polestarlaw16.ModeOne" = some 6 by as_aux_lemma => kernel_rfl).symm.trans hf) |>.symm
   obtain rfl : fn = Tryz.f6 := (Option.some.inj (Tryz.func6.symm.trans hfn)).symm
   exact ⟨by as_aux_lemma => kernel_rfl, fun j t ht => by
    rw [Tryz.params6] at ht
    have hm : t ∈ [28, 30] := by simpa using Array.mem_of_getElem? ht
    have hall : ([28, 30].all fun u => !Tryz.prog.wantsStandIn u) = true := by kernel_rfl
    exact (show Tryz.prog.wantsStandIn t = false by simpa using List.all_eq_true.1 hall t hm)⟩)
  (by as_aux_lemma => kernel_rfl)
end Go.Proofs.YtgekmbfmfiikkaaGreatDoor
