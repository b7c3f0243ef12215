/-
  SpanFracs: for every input the statement answers true; the input reads as it did (a tied card: the tables that its row lists hold what the program's text lays there).
-/
import Derived.Test.YtjcjphgpmpjmbaaGreatDoorSfW
import Derived.Test.YtjcjphgpmpjmbaaGreatDoorSpnZ
import Derived.Test.YtjcjphgpmpjmbaaGreatDoorRaL
import Derived.Test.YtjcjphgpmpjmbaaGreatDoorRows
import Derived.Test.YtjcjphgpmpjmbaaGreatDoorTie
import Derived.Test.YtjcjphgpmpjmbaaGreatDoorCards
import Derived.ProofKit
import Derived.Lib.SmallJoins
import Derived.Lib.LaidTab
import Derived.Stop.LaidErr
import Derived.LaidMore
import Derived.MakeChecks
import Derived.SevenTiedAt
namespace Go.Proofs.YtjcjphgpmpjmbaaGreatDoor
open Go.ChangeShapes Go.WideShapes Go.ChangeAt Go.RowKit Go.Joins

theorem Tryz.ownSpanFracs : ownKnob Tryz.prog.godebug = none := by kernel_rfl
theorem Tryz.laidOutSpanFracs : laidOutB Tryz.prog = true := by kernel_rfl
theorem Tryz.cellsSpanFracsSpan : Tryz.prog.cellsOf 24 = 2 := by kernel_rfl
theorem Tryz.readsSpanFracs : ∀ t ∈ [24, 29], Tryz.prog.readableRec t = true ∧ t < Tryz.prog.types.size := by
  intro t ht
  simp only [List.mem_cons, List.not_mem_nil, or_false] at ht
  rcases ht with rfl | rfl <;> exact ⟨by kernel_rfl, by decide +kernel⟩
theorem spanFracs_door (os : Os) (args : Array Value) : laidMetH Tryz.prog Rows.spanFracsRow.laid ((World.doorLaid Tryz.prog 14 os).forCall (fun _ _ => 0) ⟨#[], args, []⟩).memory :=
  laidMetH_of_parts3 (fuel := 8) (laidMet_of_run' 8 (by kernel_rfl) (by kernel_rfl)) (by kernel_rfl) (by kernel_rfl)
theorem spanFracs_data : (Rows.laid_math_bits_deBruijn64tab : DataW Unit) = Lib.tabData .u8 (Lib.deBruijn64tab.map (fun n : Nat => (n : Int))) := by kernel_rfl
/-- The table of the library in its place. -/
theorem spanFracs_tab {W : World} (h : laidMetH Tryz.prog Rows.spanFracsRow.laid W) : Tab W := by
  rw [MakeChecks.laidMetH_plain _ _ _ (by kernel_rfl)] at h
  have hT0 : laidMet Tryz.prog Rows.spanFracsRow.laid W := h
  have hT1 : laidMet Tryz.prog [("math/bits.deBruijn64tab", Rows.laid_math_bits_deBruijn64tab)] W := hT0
  rw [spanFracs_data] at hT1
  have hT := Lib.tabIs_of_head (k := .u8) (g := 3) (t := 130) (e := 5) (n := 64) (by kernel_rfl) (by kernel_rfl) Tryz.underlying130 Tryz.underlying5 (by kernel_rfl) (by kernel_rfl) hT1
  intro j hj
  have := hT.cell (g := 3) (by kernel_rfl) j (by rw [List.length_map]; exact hj)
  rw [this]
  simp [List.getD, hj]

set_option maxRecDepth 100000 in
theorem spanFracs_lifted (os : Os) (started : os.Started) (H : Type) (enc : TypeId × Value → H) :
    ReturnsInHanded {} Tryz.checked os 3 .any (fun w args => (Rows.spanFracsSpec.pre enc Tryz.prog Tryz.f3 Rows.spanFracsRow.domain false w args ∧ laidMetH Tryz.prog Rows.spanFracsRow.laid w) ∧ sizedMet enc Tryz.prog Tryz.f3 (OpenSpec.ofChange Rows.spanFracsSpec) false w args) (Rows.spanFracsSpec.post enc Tryz.prog Tryz.f3 false true false false) := by
  refine returnsInHanded_of_change_and (C := Tryz.checked) (X := fun w _ => laidMetH Tryz.prog Rows.spanFracsRow.laid w) (fun _ _ _ hh h => h.of_heap hh) Tryz.ownSpanFracs started (by kernel_rfl) Tryz.func3
    (ChangeSpec.witness_shaped (enc := enc) (C := Tryz.checked) (os := os) (X := fun w _ => laidMetH Tryz.prog Rows.spanFracsRow.laid w) false (World.doorLaid Tryz.prog 14 os) #[.agg #[.float .f64 0, .float .f64 0], .agg #[.bool false, .slice none 0 0, .bool false, .slice none 0 0]] 8 rfl (World.shaped_of_RefB (by kernel_rfl) (by kernel_rfl)) (by kernel_rfl) (by kernel_rfl) (by kernel_rfl) (spanFracs_door os _)) ?_
  intro W base args ds gs before hval0 hW hcnd hsz0 hL0 _
  have hL := spanFracs_tab hL0
  clear hL0
  have hval : ∀ (j : Nat) t v, Tryz.f3.params[j]? = some t → args[j]? = some v → Value.okWide Tryz.prog W .any base t v := hval0
  have hsz : (DataW.weightsEach Tryz.prog (Tryz.f3.params.toList ++ Rows.spanFracsSpec.plain.varTypes Tryz.prog) (ds ++ gs)).all (· ≤ reachBytes) = true := hsz0
  have hW' := hW
  have hlt := hW.lt
  obtain ⟨p, q, hA0, hV, rfl, hfz, hnd⟩ := hW
  have hA : DataW.TrodAll enc Tryz.prog W 0 (fun _ => true) true Tryz.f3.params.toList args.toList ds p := hA0
  rw [Tryz.params3] at hA hval hsz
  have hA2 := hA
  obtain ⟨v0, v1, d0, d1, p0, p1, rfl, rfl, rfl, h0, h1⟩ := trodAll_two hA
  obtain ⟨rfl, rfl⟩ := trodVars_none hV
  obtain ⟨x0, z0, y0, q0, m0, rfl, rfl, _, hx0, hz0⟩ := open_agg2 Tryz.underlying24 (by kernel_rfl) Tryz.cellsSpanFracsSpan (hval 0 24 v0 rfl rfl) h0
  obtain ⟨a0, e0, rfl, w0⟩ := trod_float Tryz.underlying22 hx0
  obtain ⟨c0, g0, rfl, u0⟩ := trod_float Tryz.underlying22 hz0
  simp at e0 g0
  subst e0 g0
  have b0 : a0 < 2 ^ 64 := by simpa [Lit.wf] using w0
  have k0 : c0 < 2 ^ 64 := by simpa [Lit.wf] using u0
  obtain ⟨cs1, hcs1, _⟩ := okWide_struct Tryz.underlying29 (hval 1 29 v1 rfl rfl)
  obtain ⟨neg1, A1, n1, c1, l1, ne1, B1, m1, d1', k1, rfl, S1, S1', hn1⟩ := open_fraction h1 ⟨cs1, hcs1⟩
  have hw1 : (d1.weights Tryz.prog 29).all (· ≤ reachBytes) = true := by
    rw [List.all_eq_true] at hsz ⊢
    intro x hx
    exact hsz x (DataW.weights_mem_each (j := 1) rfl rfl x hx)
  obtain ⟨f1, g1⟩ := hn1 hw1
  simp only [List.append_nil] at hW' hlt
  refine (law_spanFracs a0 c0 neg1 ne1 A1 B1 n1 c1 m1 d1' l1 k1 W b0 k0 S1 S1' f1 g1 hL).mono fun e W' ⟨he, hw⟩ => ?_
  subst he
  refine ⟨_, rfl, post_of_below (pa := p0 ++ p1) (pv := []) hW' (fun _ _ _ => ?_) (fun sp hsp => ?_) (fun _ _ => rfl) (by simp) hw ?_⟩
  · exact trodAll_mk1 (shut_bool Tryz.underlying4 _)
  · exact trodAll_later Tryz.laidOutSpanFracs hw _ _ _ _ Tryz.readsSpanFracs hA2 hlt hsp
  · intro j t x hj hr
    rw [show Tryz.f3.resultTypes = #[4] by kernel_rfl] at hj hr
    match j, hj, hr with
    | 0, hj, hr =>
      simp [Value.resultList] at hj hr
      subst hj; subst hr
      exact okWide_bool_mk Tryz.underlying4 _

theorem spanFracs_row : Rows.SpanFracsSaid :=
  OpenClaim.holds_of_wide 3 Tryz.f3 rfl rfl rfl rfl rfl rfl rfl ⟨rfl, rfl, rfl, rfl, rfl⟩ rfl rfl rfl rfl rfl (by kernel_rfl) Tryz.func3 (by kernel_rfl)
    (of_decide_eq_true (by kernel_rfl)) (by unfold Func.isWrapper; rw [if_neg (by decide +kernel)]; exact ⟨rfl, rfl⟩)
    (fun os started H enc _ => spanFracs_lifted os started H enc)

theorem spanFracs_proved : Rows.SpanFracsCardSaid :=
  Claim7.holds_tied_plain_at .later [] [.data] true _ _
    spanFracs_row (fun _ h => by cases h) (by kernel_rfl) (fun _ h => by cases h) spanFracs_row_tie rfl ⟨rfl, rfl⟩ (by kernel_rfl) rfl
    (fun f fn hf hfn => by
      obtain rfl : f = 3 := Option.some.inj ((show Tryz.prog.funcNamed "polestar/polestarlaw05.SpanFracs" = some 3 by kernel_rfl).symm.trans hf) |>.symm
      obtain rfl : fn = Tryz.f3 := (Option.some.inj (Tryz.func3.symm.trans hfn)).symm
      exact ⟨by kernel_rfl, fun j t ht => by
        rw [Tryz.params3] at ht
        have hm : t ∈ [24, 29] := by simpa using Array.mem_of_getElem? ht
        have hall : ([24, 29].all fun u => !Tryz.prog.wantsStandIn u) = true := by kernel_rfl
        exact (show Tryz.prog.wantsStandIn t = false by simpa using List.all_eq_true.1 hall t hm)⟩)
    (by kernel_rfl)
end Go.Proofs.YtjcjphgpmpjmbaaGreatDoor
