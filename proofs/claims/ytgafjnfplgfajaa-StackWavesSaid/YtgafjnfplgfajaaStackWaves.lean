/-
  StackWaves: for every input the statement answers true; the input reads as it did.
-/
import Derived.Test.YtgafjnfplgfajaaStkL
import Derived.Test.YtgafjnfplgfajaaFrame2
import Derived.Test.YtgafjnfplgfajaaRows
import Derived.ProofKit
namespace Go.Proofs.Ytgafjnfplgfajaa
open Go.ChangeShapes Go.WideShapes Go.ChangeAt Go.RowKit

theorem coat_cells : Try.prog.cellsOf 57 = 3 := by kernel_rfl
theorem float_cells : Try.prog.cellsOf 22 = 1 := by kernel_rfl
theorem int_cells : Try.prog.cellsOf 3 = 1 := by kernel_rfl
theorem nat_choose {α : Type} [Inhabited α] {n : Nat} {p : Nat → α → Prop} (h : ∀ i, i < n → ∃ x, p i x) : ∃ f : Nat → α, ∀ i, i < n → p i (f i) := Go.Deep.choose_lt h
set_option maxRecDepth 100000 in
/-- A list of coats that came in. -/
theorem open_coats {H : Type} {enc : TypeId × Value → H} {W : World} {base : Nat} {v : Value} {d : DataW H} {ps : List MemPlace} (hv : Value.okWide Try.prog W .any base 23 v)
    (h : DataW.Trod enc Try.prog W 0 (fun _ => true) true 23 v d ps) : ∃ A n c C, v = .slice A n c ∧ Cs W A n C ∧ n ≤ 9223372036854775807 := by
  obtain ⟨a, len, cap, rfl⟩ := okWide_slice Try.underlying23 hv
  obtain ⟨fuel, hf⟩ := h
  rcases Go.Deep.open_slice Try.underlying23 hf with ⟨h0, _⟩ | ⟨a', len', cap', m, n, D, Pl, h0, _, hl, hm, hmm, _, hx⟩
  · simp [Value.cells] at h0
    obtain ⟨rfl, rfl, rfl⟩ := h0
    exact ⟨none, 0, 0, fun _ => (0, 0, 0), rfl, fun h => absurd h (by omega), by omega⟩
  · simp [Value.cells] at h0
    obtain ⟨rfl, rfl, rfl⟩ := h0
    have hmx : cap ≤ 9223372036854775807 := by unfold maxLen at hm; omega
    rw [if_pos rfl] at hmm
    rcases Nat.eq_zero_or_pos len with hz | hpos
    · subst hz
      exact ⟨some a', 0, cap, fun _ => (0, 0, 0), rfl, fun h => absurd h (by omega), by omega⟩
    have hs : a'.spot = none := by
      obtain ⟨cs', h1, h2⟩ := hx 0 (by omega)
      rw [coat_cells] at h1
      obtain ⟨_, hlen, hcell⟩ := World.cells?_some h1
      match cs', hlen with
      | [v0, v1, v2], _ =>
        have c0 := hcell 0 (by omega)
        rw [Go.Deep.add_add, Nat.zero_mul] at c0
        exact World.cell?_spot (a := a') (v := v0) c0
    obtain ⟨g, o, s⟩ := a'
    simp only at hs
    subst hs
    have each : ∀ i, i < len → ∃ q : Coat, g < W.heap.size ∧ W.cell? ⟨g, o + i * 3, none⟩ = some (.float .f64 q.1) ∧ W.cell? ⟨g, o + i * 3 + 1, none⟩ = some (.int .i64 q.2.1) ∧ W.cell? ⟨g, o + i * 3 + 2, none⟩ = some (.int .i64 q.2.2) ∧ q.1 < 2 ^ 64 := by
      intro i hi
      obtain ⟨cs', h1, h2⟩ := hx i (by omega)
      rw [coat_cells] at h1
      obtain ⟨_, hlen, hcell⟩ := World.cells?_some h1
      obtain ⟨y0, y1, y2, k, _, _, g0, g1, g2⟩ := Go.Deep.trod_struct3 Try.underlying57 h2
      match cs', hlen with
      | [v0, v1, v2], _ =>
        simp [float_cells, int_cells] at g0 g1 g2
        obtain ⟨x0, e0, _, wf0⟩ := trod_float Try.underlying22 g0
        obtain ⟨x1, e1, _, _⟩ := DataW.trod_int Try.underlying3 g1
        obtain ⟨x2, e2, _, _⟩ := DataW.trod_int Try.underlying3 g2
        simp at e0 e1 e2
        subst e0 e1 e2
        have c0 := hcell 0 (by omega)
        have c1 := hcell 1 (by omega)
        have c2 := hcell 2 (by omega)
        rw [Go.Deep.add_add] at c0 c1 c2
        simp only [Addr.add_lit, Nat.add_zero, List.getElem?_cons_zero, List.getElem?_cons_succ] at c0 c1 c2
        exact ⟨(x0, x1, x2), World.block_lt_of_cell? _ _ c0, c0, by simpa [Nat.add_assoc] using c1, by simpa [Nat.add_assoc] using c2, by simpa [Lit.wf] using wf0⟩
    obtain ⟨C, hC⟩ := nat_choose each
    exact ⟨some ⟨g, o, none⟩, len, cap, C, rfl, fun h0 => ⟨g, o, rfl, (hC 0 h0).1, fun i hi => (hC i hi).2⟩, by omega⟩

theorem Try.ownStackWaves : ownKnob Try.prog.godebug = none := by kernel_rfl
theorem Try.laidOutStackWaves : laidOutB Try.prog = true := by kernel_rfl
theorem Try.readsStackWaves : ∀ t ∈ [22, 22, 23], Try.prog.readableRec t = true ∧ t < Try.prog.types.size := by
  intro t ht
  simp only [List.mem_cons, List.not_mem_nil, or_false] at ht
  rcases ht with rfl | rfl | rfl
  · exact ⟨by kernel_rfl, by decide +kernel⟩
  · exact ⟨by kernel_rfl, by decide +kernel⟩
  · exact ⟨by kernel_rfl, by decide +kernel⟩

set_option maxRecDepth 100000 in
theorem stackWaves_lifted (os : Os) (started : os.Started) (H : Type) (enc : TypeId × Value → H) :
    ReturnsInHanded {} Try.checked os 3 .any (Rows.stackWavesSpec.pre6 enc Try.prog Try.f3 Rows.stackWavesRow.domain false) (Rows.stackWavesSpec.post enc Try.prog Try.f3 false true false false) := by
  refine returnsInHanded_of_change (C := Try.checked) Try.ownStackWaves started (by kernel_rfl) Try.func3
    (ChangeSpec.witness6 (enc := enc) (C := Try.checked) false ⟨#[], #[.float .f64 0, .float .f64 0, .slice none 0 0], []⟩ 8 (by kernel_rfl) (by kernel_rfl) (by kernel_rfl) (by kernel_rfl)) ?_
  intro W base args ds gs before hval0 hW hcnd _
  have hval : ∀ (j : Nat) t v, Try.f3.params[j]? = some t → args[j]? = some v → Value.okWide Try.prog W .any base t v := hval0
  have hW' := hW
  have hlt := hW.lt
  obtain ⟨p, q, hA0, hV, rfl, hfz, hnd⟩ := hW
  have hA : DataW.TrodAll enc Try.prog W 0 (fun _ => true) true Try.f3.params.toList args.toList ds p := hA0
  rw [Try.params3] at hA hval
  have hA2 := hA
  obtain ⟨v0, v1, v2, d0, d1, d2, p0, p1, p2, rfl, rfl, hp, h0, h1, h2⟩ := trodAll_three hA
  obtain ⟨rfl, rfl⟩ := trodVars_none hV
  obtain ⟨a0, rfl, _, _, w0⟩ := open_float Try.underlying22 (hval 0 22 v0 rfl rfl) h0
  obtain ⟨a1, rfl, _, _, w1⟩ := open_float Try.underlying22 (hval 1 22 v1 rfl rfl) h1
  obtain ⟨A, n, c, C, rfl, hC, hn⟩ := open_coats (hval 2 23 v2 rfl rfl) h2
  simp only [List.append_nil] at hW' hlt
  have b0 : a0 < 2 ^ 64 := by simpa [Lit.wf] using w0
  have b1 : a1 < 2 ^ 64 := by simpa [Lit.wf] using w1
  refine (law_stackWaves a0 a1 b0 b1 A n c C W hC hn).mono fun e W' ⟨he, hw⟩ => ?_
  subst he
  refine ⟨_, rfl, post_of_below (pa := p) (pv := []) hW' (fun _ _ _ => ?_) (fun sp hsp => ?_) (fun _ _ => rfl) (by simp) hw ?_⟩
  · have e1 : (Rows.stackWavesSpec.fn H ([d0, d1, d2] ++ [])).results = [.lit (.bool true)] := rfl
    rw [e1]
    exact trodAll_mk1 (shut_bool Try.underlying4 _)
  · exact trodAll_later Try.laidOutStackWaves hw _ _ _ _ Try.readsStackWaves hA2 hlt hsp
  · intro j t x hj hr
    rw [show Try.f3.resultTypes = #[4] by kernel_rfl] at hj hr
    match j, hj, hr with
    | 0, hj, hr =>
      simp [Value.resultList] at hj hr
      subst hj; subst hr
      exact okWide_bool_mk Try.underlying4 _

theorem stackWaves_proved : Rows.StackWavesSaid :=
  OpenClaim.holds_of_wide 3 Try.f3 rfl rfl rfl rfl rfl rfl rfl ⟨rfl, rfl, rfl, rfl, rfl⟩ rfl rfl rfl rfl rfl (by kernel_rfl) Try.func3 (by kernel_rfl)
    (of_decide_eq_true (by kernel_rfl)) (by unfold Func.isWrapper; rw [if_neg (by decide +kernel)]; exact ⟨rfl, rfl⟩)
    (fun os started H enc _ => stackWaves_lifted os started H enc)
end Go.Proofs.Ytgafjnfplgfajaa
