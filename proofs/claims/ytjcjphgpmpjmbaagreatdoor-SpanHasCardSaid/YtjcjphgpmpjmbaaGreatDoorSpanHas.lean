/-
  SpanHas: for every input the statement answers true; the input reads as it did (a tied card: the tables that its row lists hold what the program's text lays there).
-/
import Derived.Test.YtjcjphgpmpjmbaaGreatDoorSpHL
import Derived.Test.YtjcjphgpmpjmbaaGreatDoorZero
import Derived.Test.YtjcjphgpmpjmbaaGreatDoorNeaP
import Derived.SizedLaws
import Derived.ProofKit
import Derived.Test.YtjcjphgpmpjmbaaGreatDoorRows
import Derived.Test.YtjcjphgpmpjmbaaGreatDoorTie
import Derived.Test.YtjcjphgpmpjmbaaGreatDoorCards
import Derived.Lib.SmallJoins
import Derived.Lib.LaidTab
import Derived.Stop.LaidErr
import Derived.LaidMore
import Derived.MakeChecks
import Derived.SevenTiedAt
namespace Go.Proofs.YtjcjphgpmpjmbaaGreatDoor
open Go.ChangeShapes Go.WideShapes Go.ChangeAt Go.RowKit Go.Joins

theorem Tryz.ownSpanHas : ownKnob Tryz.prog.godebug = none := by kernel_rfl
theorem Tryz.laidOutSpanHas : laidOutB Tryz.prog = true := by kernel_rfl
theorem Tryz.cellsSpanHasSpan : Tryz.prog.cellsOf 24 = 2 := by kernel_rfl
theorem Tryz.readsSpanHas : ∀ t ∈ [24, 24, 2, 2], Tryz.prog.readableRec t = true ∧ t < Tryz.prog.types.size := by
  intro t ht
  simp only [List.mem_cons, List.not_mem_nil, or_false] at ht
  rcases ht with rfl | rfl | rfl | rfl <;> exact ⟨by kernel_rfl, by decide +kernel⟩
theorem spanHas_door (os : Os) (args : Array Value) : laidMetH Tryz.prog Rows.spanHasRow.laid ((World.doorLaid Tryz.prog 14 os).forCall (fun _ _ => 0) ⟨#[], args, []⟩).memory :=
  laidMetH_of_parts3 (fuel := 8) (laidMet_of_run' 8 (by kernel_rfl) (by kernel_rfl)) (by kernel_rfl) (by kernel_rfl)
theorem spanHas_data : (Rows.laid_math_bits_deBruijn64tab : DataW Unit) = Lib.tabData .u8 (Lib.deBruijn64tab.map (fun n : Nat => (n : Int))) := by kernel_rfl
/-- The table of the library in its place. -/
theorem spanHas_tab {W : World} (h : laidMetH Tryz.prog Rows.spanHasRow.laid W) : Tab W := by
  rw [MakeChecks.laidMetH_plain _ _ _ (by kernel_rfl)] at h
  have hT0 : laidMet Tryz.prog Rows.spanHasRow.laid W := h
  have hT1 : laidMet Tryz.prog [("math/bits.deBruijn64tab", Rows.laid_math_bits_deBruijn64tab)] W := hT0
  rw [spanHas_data] at hT1
  have hT := Lib.tabIs_of_head (k := .u8) (g := 3) (t := 130) (e := 5) (n := 64) (by kernel_rfl) (by kernel_rfl) Tryz.underlying130 Tryz.underlying5 (by kernel_rfl) (by kernel_rfl) hT1
  intro j hj
  have := hT.cell (g := 3) (by kernel_rfl) j (by rw [List.length_map]; exact hj)
  rw [this]
  simp [List.getD, hj]

set_option maxRecDepth 100000 in
theorem spanHas_lifted (os : Os) (started : os.Started) (H : Type) (enc : TypeId × Value → H) :
    ReturnsInHanded {} Tryz.checked os 4 .any (fun w args => (Rows.spanHasSpec.pre enc Tryz.prog Tryz.f4 Rows.spanHasRow.domain false w args ∧ laidMetH Tryz.prog Rows.spanHasRow.laid w) ∧ sizedMet enc Tryz.prog Tryz.f4 (OpenSpec.ofChange Rows.spanHasSpec) false w args) (Rows.spanHasSpec.post enc Tryz.prog Tryz.f4 false true false false) := by
  refine returnsInHanded_of_change_and (C := Tryz.checked) (X := fun w _ => laidMetH Tryz.prog Rows.spanHasRow.laid w) (fun _ _ _ hh h => h.of_heap hh) Tryz.ownSpanHas started (by kernel_rfl) Tryz.func4
    (ChangeSpec.witness_shaped (enc := enc) (C := Tryz.checked) (os := os) (X := fun w _ => laidMetH Tryz.prog Rows.spanHasRow.laid w) false (World.doorLaid Tryz.prog 14 os) #[.agg #[.float .f64 0, .float .f64 0], .agg #[.float .f64 0, .float .f64 0], .int .i64 0, .int .i64 0] 8 rfl (World.shaped_of_RefB (by kernel_rfl) (by kernel_rfl)) (by kernel_rfl) (by kernel_rfl) (by kernel_rfl) (spanHas_door os _)) ?_
  intro W base args ds gs before hval0 hW hcnd hsz0 hL0 _
  have hL := spanHas_tab hL0
  clear hL0
  have hval : ∀ (j : Nat) t v, Tryz.f4.params[j]? = some t → args[j]? = some v → Value.okWide Tryz.prog W .any base t v := hval0
  have hsz : (DataW.weightsEach Tryz.prog (Tryz.f4.params.toList ++ Rows.spanHasSpec.plain.varTypes Tryz.prog) (ds ++ gs)).all (· ≤ reachBytes) = true := hsz0
  have hW' := hW
  have hlt := hW.lt
  obtain ⟨p, q, hA0, hV, rfl, hfz, hnd⟩ := hW
  have hA : DataW.TrodAll enc Tryz.prog W 0 (fun _ => true) true Tryz.f4.params.toList args.toList ds p := hA0
  rw [Tryz.params4] at hA hval hsz
  have hA2 := hA
  obtain ⟨v0, v1, v2, v3, d0, d1, d2, d3, p0, p1, p2, p3, rfl, rfl, rfl, h0, h1, h2, h3⟩ := trodAll_four hA
  obtain ⟨rfl, rfl⟩ := trodVars_none hV
  obtain ⟨x0, z0, y0, q0, m0, rfl, rfl, _, hx0, hz0⟩ := open_agg2 Tryz.underlying24 (by kernel_rfl) Tryz.cellsSpanHasSpan (hval 0 24 v0 rfl rfl) h0
  obtain ⟨a0, e0, rfl, w0⟩ := trod_float Tryz.underlying22 hx0
  obtain ⟨c0, g0, rfl, u0⟩ := trod_float Tryz.underlying22 hz0
  simp at e0 g0
  subst e0 g0
  have b0 : a0 < 2 ^ 64 := by simpa [Lit.wf] using w0
  have k0 : c0 < 2 ^ 64 := by simpa [Lit.wf] using u0
  obtain ⟨x1, z1, y1, q1, m1, rfl, rfl, _, hx1, hz1⟩ := open_agg2 Tryz.underlying24 (by kernel_rfl) Tryz.cellsSpanHasSpan (hval 1 24 v1 rfl rfl) h1
  obtain ⟨a1, e1, rfl, w1⟩ := trod_float Tryz.underlying22 hx1
  obtain ⟨c1, g1, rfl, u1⟩ := trod_float Tryz.underlying22 hz1
  simp at e1 g1
  subst e1 g1
  have b1 : a1 < 2 ^ 64 := by simpa [Lit.wf] using w1
  have k1 : c1 < 2 ^ 64 := by simpa [Lit.wf] using u1
  obtain ⟨a2, rfl, rfl, _, w2⟩ := open_int Tryz.underlying2 (hval 2 2 v2 rfl rfl) h2
  have b2 : -9223372036854775808 ≤ a2 ∧ a2 ≤ 9223372036854775807 := by
    have m1 : IntKind.i64.min = -9223372036854775808 := rfl
    have m2 : IntKind.i64.max = 9223372036854775807 := rfl
    simp only [Lit.wf, m1, m2, Bool.and_eq_true, decide_eq_true_eq] at w2
    exact w2
  obtain ⟨a3, rfl, rfl, _, w3⟩ := open_int Tryz.underlying2 (hval 3 2 v3 rfl rfl) h3
  have b3 : -9223372036854775808 ≤ a3 ∧ a3 ≤ 9223372036854775807 := by
    have m1 : IntKind.i64.min = -9223372036854775808 := rfl
    have m2 : IntKind.i64.max = 9223372036854775807 := rfl
    simp only [Lit.wf, m1, m2, Bool.and_eq_true, decide_eq_true_eq] at w3
    exact w3
  simp only [List.append_nil] at hW' hlt
  refine (law_spanHas a0 c0 a1 c1 a2 a3 W b0 k0 b1 k1 b2 b3 hL).mono fun e W' ⟨he, hw⟩ => ?_
  subst he
  refine ⟨_, rfl, post_of_below (pa := p0 ++ p1 ++ p2 ++ p3) (pv := []) hW' (fun _ _ _ => ?_) (fun sp hsp => ?_) (fun _ _ => rfl) (by simp) hw ?_⟩
  · exact trodAll_mk1 (shut_bool Tryz.underlying4 _)
  · exact trodAll_later Tryz.laidOutSpanHas hw _ _ _ _ Tryz.readsSpanHas hA2 hlt hsp
  · intro j t x hj hr
    rw [show Tryz.f4.resultTypes = #[4] by kernel_rfl] at hj hr
    match j, hj, hr with
    | 0, hj, hr =>
      simp [Value.resultList] at hj hr
      subst hj; subst hr
      exact okWide_bool_mk Tryz.underlying4 _

theorem spanHas_row : Rows.SpanHasSaid :=
  OpenClaim.holds_of_wide 4 Tryz.f4 rfl rfl rfl rfl rfl rfl rfl ⟨rfl, rfl, rfl, rfl, rfl⟩ rfl rfl rfl rfl rfl (by kernel_rfl) Tryz.func4 (by kernel_rfl)
    (of_decide_eq_true (by kernel_rfl)) (by unfold Func.isWrapper; rw [if_neg (by decide +kernel)]; exact ⟨rfl, rfl⟩)
    (fun os started H enc _ => spanHas_lifted os started H enc)

theorem spanHas_proved : Rows.SpanHasCardSaid :=
  Claim7.holds_tied_plain_at .later [] [.data] true _ _
    spanHas_row (fun _ h => by cases h) (by kernel_rfl) (fun _ h => by cases h) spanHas_row_tie rfl ⟨rfl, rfl⟩ (by kernel_rfl) rfl
    (fun f fn hf hfn => by
      obtain rfl : f = 4 := Option.some.inj ((show Tryz.prog.funcNamed "polestar/polestarlaw05.SpanHas" = some 4 by kernel_rfl).symm.trans hf) |>.symm
      obtain rfl : fn = Tryz.f4 := (Option.some.inj (Tryz.func4.symm.trans hfn)).symm
      exact ⟨by kernel_rfl, fun j t ht => by
        rw [Tryz.params4] at ht
        have hm : t ∈ [24, 24, 2, 2] := by simpa using Array.mem_of_getElem? ht
        have hall : ([24, 24, 2, 2].all fun u => !Tryz.prog.wantsStandIn u) = true := by kernel_rfl
        exact (show Tryz.prog.wantsStandIn t = false by simpa using List.all_eq_true.1 hall t hm)⟩)
    (by kernel_rfl)
end Go.Proofs.YtjcjphgpmpjmbaaGreatDoor
