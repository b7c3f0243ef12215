/-
  RoundNear: for every input the statement answers true; the input reads as it did (a tied card: the tables that its row lists hold what the program's text lays there).
-/
import Derived.Test.YtjcjphgpmpjmbaaDoorNeaW
import Derived.Test.YtjcjphgpmpjmbaaDoorOpF
import Derived.Test.YtjcjphgpmpjmbaaDoorFrame2
import Derived.Test.YtjcjphgpmpjmbaaDoorRows
import Derived.Test.YtjcjphgpmpjmbaaDoorTie
import Derived.Test.YtjcjphgpmpjmbaaDoorCards
import Derived.ProofKit
import Derived.Lib.SmallJoins
import Derived.Lib.LaidTab
import Derived.Stop.LaidErr
import Derived.LaidMore
import Derived.MakeChecks
import Derived.SevenTiedAt
namespace Go.Proofs.YtjcjphgpmpjmbaaDoor
open Go.ChangeShapes Go.WideShapes Go.ChangeAt Go.RowKit Go.Joins

theorem Tryd.ownRoundNear : ownKnob Tryd.prog.godebug = none := by kernel_rfl
theorem Tryd.laidOutRoundNear : laidOutB Tryd.prog = true := by kernel_rfl
theorem Tryd.readsRoundNear : ∀ t ∈ [26, 27], Tryd.prog.readableRec t = true ∧ t < Tryd.prog.types.size := by
  intro t ht
  simp only [List.mem_cons, List.not_mem_nil, or_false, or_self] at ht
  rcases ht with rfl | rfl <;> exact ⟨by kernel_rfl, by decide +kernel⟩
theorem roundNear_door (os : Os) (args : Array Value) : laidMetH Tryd.prog Rows.roundNearRow.laid ((World.doorLaid Tryd.prog 14 os).forCall (fun _ _ => 0) ⟨#[], args, []⟩).memory :=
  laidMetH_of_parts3 (fuel := 8) (laidMet_of_run' 8 (by kernel_rfl) (by kernel_rfl)) (by kernel_rfl) (by kernel_rfl)
theorem roundNear_data : (Rows.laid_math_bits_deBruijn64tab : DataW Unit) = Lib.tabData .u8 (Lib.deBruijn64tab.map (fun n : Nat => (n : Int))) := by kernel_rfl
/-- The table of the library in its place. -/
theorem roundNear_tab {W : World} (h : laidMetH Tryd.prog Rows.roundNearRow.laid W) : Tab W := by
  rw [MakeChecks.laidMetH_plain _ _ _ (by kernel_rfl)] at h
  have hT0 : laidMet Tryd.prog Rows.roundNearRow.laid W := h
  have hT1 : laidMet Tryd.prog [("math/bits.deBruijn64tab", Rows.laid_math_bits_deBruijn64tab)] W := hT0
  rw [roundNear_data] at hT1
  have hT := Lib.tabIs_of_head (k := .u8) (g := 3) (t := 110) (e := 5) (n := 64) (by kernel_rfl) (by kernel_rfl) Tryd.underlying110 Tryd.underlying5 (by kernel_rfl) (by kernel_rfl) hT1
  intro j hj
  have := hT.cell (g := 3) (by kernel_rfl) j (by rw [List.length_map]; exact hj)
  rw [this]
  simp [List.getD, hj]

set_option maxRecDepth 100000 in
theorem roundNear_lifted (os : Os) (started : os.Started) (H : Type) (enc : TypeId × Value → H) :
    ReturnsInHanded {} Tryd.checked os 3 .any (fun w args => (Rows.roundNearSpec.pre enc Tryd.prog Tryd.f3 Rows.roundNearRow.domain false w args ∧ laidMetH Tryd.prog Rows.roundNearRow.laid w) ∧ sizedMet enc Tryd.prog Tryd.f3 (OpenSpec.ofChange Rows.roundNearSpec) false w args) (Rows.roundNearSpec.post enc Tryd.prog Tryd.f3 false true false false) := by
  refine returnsInHanded_of_change_and (C := Tryd.checked) (X := fun w _ => laidMetH Tryd.prog Rows.roundNearRow.laid w) (fun _ _ _ hh h => h.of_heap hh) Tryd.ownRoundNear started (by kernel_rfl) Tryd.func3
    (ChangeSpec.witness_shaped (enc := enc) (C := Tryd.checked) (os := os) (X := fun w _ => laidMetH Tryd.prog Rows.roundNearRow.laid w) false (World.doorLaid Tryd.prog 14 os) #[.agg #[.bool false, .slice none 0 0, .bool false, .slice none 0 0], .float .f64 0] 8 rfl (World.shaped_of_RefB (by kernel_rfl) (by kernel_rfl)) (by kernel_rfl) (by kernel_rfl) (by kernel_rfl) (roundNear_door os _)) ?_
  intro W base args ds gs before hval0 hW hcnd hsz0 hL0 _
  have hL := roundNear_tab hL0
  clear hL0
  have hval : ∀ (j : Nat) t v, Tryd.f3.params[j]? = some t → args[j]? = some v → Value.okWide Tryd.prog W .any base t v := hval0
  have hsz : (DataW.weightsEach Tryd.prog (Tryd.f3.params.toList ++ Rows.roundNearSpec.plain.varTypes Tryd.prog) (ds ++ gs)).all (· ≤ reachBytes) = true := hsz0
  have hW' := hW
  have hlt := hW.lt
  obtain ⟨p, q, hA0, hV, rfl, hfz, hnd⟩ := hW
  have hA : DataW.TrodAll enc Tryd.prog W 0 (fun _ => true) true Tryd.f3.params.toList args.toList ds p := hA0
  rw [Tryd.params3] at hA hval hsz
  have hA2 := hA
  obtain ⟨v0, v1, d0, d1, p0, p1, rfl, rfl, rfl, h0, h1⟩ := trodAll_two hA
  obtain ⟨rfl, rfl⟩ := trodVars_none hV
  obtain ⟨cs0, hcs0, _⟩ := okWide_struct Tryd.underlying26 (hval 0 26 v0 rfl rfl)
  obtain ⟨neg0, A0, n0, c0, l0, ne0, B0, m0, d0', k0, rfl, S0, S0', hn0⟩ := open_fraction h0 ⟨cs0, hcs0⟩
  have hw0 : (d0.weights Tryd.prog 26).all (· ≤ reachBytes) = true := by
    rw [List.all_eq_true] at hsz ⊢
    intro x hx
    exact hsz x (DataW.weights_mem_each (j := 0) rfl rfl x hx)
  obtain ⟨f0, g0⟩ := hn0 hw0
  obtain ⟨a1, rfl, rfl, _, w1⟩ := open_float Tryd.underlying27 (hval 1 27 v1 rfl rfl) h1
  have b1 : a1 < 2 ^ 64 := by simpa [Lit.wf] using w1
  simp only [List.append_nil] at hW' hlt
  refine (law_roundNear neg0 ne0 A0 B0 n0 c0 m0 d0' l0 k0 a1 W S0 S0' f0 g0 b1 hL).mono fun e W' ⟨he, hw⟩ => ?_
  subst he
  refine ⟨_, rfl, post_of_below (pa := p0 ++ p1) (pv := []) hW' (fun _ _ _ => ?_) (fun sp hsp => ?_) (fun _ _ => rfl) (by simp) hw ?_⟩
  · exact trodAll_mk1 (shut_bool Tryd.underlying4 _)
  · exact trodAll_later Tryd.laidOutRoundNear hw _ _ _ _ Tryd.readsRoundNear hA2 hlt hsp
  · intro j t x hj hr
    rw [show Tryd.f3.resultTypes = #[4] by kernel_rfl] at hj hr
    match j, hj, hr with
    | 0, hj, hr =>
      simp [Value.resultList] at hj hr
      subst hj; subst hr
      exact okWide_bool_mk Tryd.underlying4 _

theorem roundNear_row : Rows.RoundNearSaid :=
  OpenClaim.holds_of_wide 3 Tryd.f3 rfl rfl rfl rfl rfl rfl rfl ⟨rfl, rfl, rfl, rfl, rfl⟩ rfl rfl rfl rfl rfl (by kernel_rfl) Tryd.func3 (by kernel_rfl)
    (of_decide_eq_true (by kernel_rfl)) (by unfold Func.isWrapper; rw [if_neg (by decide +kernel)]; exact ⟨rfl, rfl⟩)
    (fun os started H enc _ => roundNear_lifted os started H enc)

theorem roundNear_proved : Rows.RoundNearCardSaid :=
  Claim7.holds_tied_plain_at .later [] [.data] true _ _
    roundNear_row (fun _ h => by cases h) (by kernel_rfl) (fun _ h => by cases h) roundNear_row_tie rfl ⟨rfl, rfl⟩ (by kernel_rfl) rfl
    (fun f fn hf hfn => by
      obtain rfl : f = 3 := Option.some.inj ((show Tryd.prog.funcNamed "polestar/polestarlaw04.RoundNear" = some 3 by kernel_rfl).symm.trans hf) |>.symm
      obtain rfl : fn = Tryd.f3 := (Option.some.inj (Tryd.func3.symm.trans hfn)).symm
      exact ⟨by kernel_rfl, fun j t ht => by
        rw [Tryd.params3] at ht
        have hm : t ∈ [26, 27] := by simpa using Array.mem_of_getElem? ht
        have hall : ([26, 27].all fun u => !Tryd.prog.wantsStandIn u) = true := by kernel_rfl
        exact (show Tryd.prog.wantsStandIn t = false by simpa using List.all_eq_true.1 hall t hm)⟩)
    (by kernel_rfl)
end Go.Proofs.YtjcjphgpmpjmbaaDoor
