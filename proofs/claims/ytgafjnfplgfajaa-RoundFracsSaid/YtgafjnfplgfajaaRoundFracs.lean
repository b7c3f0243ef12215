/-
  RoundFracs: for every input the statement answers true; the input reads as it did.
-/
import Derived.Test.YtgafjnfplgfajaaExFh
import Derived.Test.YtgafjnfplgfajaaFrame2
import Derived.Test.YtgafjnfplgfajaaRows
import Derived.SizedLaws
import Derived.ProofKit
namespace Go.Proofs.Ytgafjnfplgfajaa
open Go.ChangeShapes Go.WideShapes Go.ChangeAt Go.RowKit

theorem limb_cells : Try.prog.cellsOf 102 = 1 := by kernel_rfl
theorem limbs_cells : Try.prog.cellsOf 34 = 1 := by kernel_rfl
theorem truth_cells : Try.prog.cellsOf 4 = 1 := by kernel_rfl
theorem whole_cells : Try.prog.cellsOf 36 = 2 := by kernel_rfl
theorem limb_bytes : Try.prog.bytesOf 102 = 4 := by kernel_rfl

section
variable {H : Type} {enc : TypeId × Value → H} {W : World}
set_option maxRecDepth 100000 in
theorem open_limbs {fuel : Nat} {cs : List Value} {x : DataW H × List MemPlace} (h : DataW.trod enc Try.prog W 0 (fun _ => true) true fuel 34 cs = some x) :
    ∃ A n c l, cs = [.slice A n c] ∧ Sl W A n c l ∧ ((x.1.weights Try.prog 34).all (· ≤ reachBytes) = true → n ≤ 281474976710656) := by
  rcases open_ints Try.underlying34 Try.underlying102 limb_cells h with ⟨rfl, rfl⟩ | ⟨a, len, cap, zs, rfl, _, hl, hm, hz, rfl, hc, hw⟩
  · exact ⟨none, 0, 0, [], rfl, ⟨Reads.nil, Nat.le_refl _, fun x hx => absurd hx (by simp)⟩, fun _ => by omega⟩
  · rw [if_pos rfl] at hz
    have hlt : (zs.take len).length = len := by rw [List.length_take]; omega
    have hval : ∀ z ∈ zs, (0 : Int) ≤ z ∧ z < 4294967296 := by
      intro z hzz
      have h := hw z hzz
      have h1 : IntKind.min .u32 = 0 := rfl
      have h2 : IntKind.max .u32 = 4294967295 := rfl
      simp only [Lit.wf, h1, h2, Bool.and_eq_true, decide_eq_true_eq] at h
      omega
    refine ⟨some a, len, cap, (zs.take len).map Int.toNat, rfl, ⟨⟨by unfold u32s; simpa using hlt, fun h0 => ⟨a, rfl, ?_, fun j u hu => ?_⟩⟩, hl, ?_⟩, fun hs => ?_⟩
    · have := hc 0 (by omega)
      exact World.block_lt_of_cell? _ _ this
    · unfold u32s at hu
      rw [List.map_map, List.getElem?_map] at hu
      rcases Nat.lt_or_ge j len with hj | hj
      · rw [List.getElem?_eq_getElem (by omega)] at hu
        simp only [Option.map_some, Option.some.injEq, Function.comp] at hu
        subst hu
        have h1 := hc j (by omega)
        have h2 : zs.getD j 0 = zs[j]'(by omega) := by simp [List.getD, show j < zs.length by omega]
        have h3 : (zs.take len)[j]'(by omega) = zs[j]'(by omega) := List.getElem_take ..
        have h4 := hval _ (List.getElem_mem (l := zs) (n := j) (by omega))
        rw [h1, h2, h3, Int.toNat_of_nonneg h4.1]
      · rw [List.getElem?_eq_none (by omega)] at hu
        cases hu
    · intro y hy
      obtain ⟨z, hz1, rfl⟩ := List.mem_map.1 hy
      have := hval z (List.mem_of_mem_take hz1)
      show Int.toNat z < 4294967296
      omega
    · have hk := List.all_eq_true.1 hs (((lits (H := H) .u32 (zs.take len)).length + (lits (H := H) .u32 (zs.drop len)).length) * Try.prog.bytesOf 102) (by simp [DataW.weights, Try.underlying34])
      rw [limb_bytes] at hk
      simp only [lits, List.length_map, List.length_take, List.length_drop, reachBytes, decide_eq_true_eq] at hk
      omega
set_option maxRecDepth 100000 in
theorem open_whole {fuel : Nat} {cs : List Value} {x : DataW H × List MemPlace} (h : DataW.trod enc Try.prog W 0 (fun _ => true) true fuel 36 cs = some x) :
    ∃ neg A n c l, cs = [.bool neg, .slice A n c] ∧ Sl W A n c l ∧ ((x.1.weights Try.prog 36).all (· ≤ reachBytes) = true → n ≤ 281474976710656) := by
  obtain ⟨y0, y1, k, rfl, hlen, g0, g1⟩ := trod_struct2 Try.underlying36 h
  rw [whole_cells] at hlen
  match cs, hlen with
  | [v0, v1], _ =>
    simp [truth_cells, limbs_cells] at g0 g1
    obtain ⟨b, e0, _⟩ := DataW.trod_bool Try.underlying4 g0
    obtain ⟨A, n, c, l, e1, hS, hn⟩ := open_limbs g1
    simp at e0 e1
    subst e0 e1
    refine ⟨b, A, n, c, l, rfl, hS, fun hs => hn ?_⟩
    simp [DataW.weights, DataW.weightsEach, Try.underlying36] at hs
    simpa using hs.2
theorem frac_cells : Try.prog.cellsOf 38 = 4 := by kernel_rfl
set_option maxRecDepth 100000 in
theorem open_fraction {v : Value} {d : DataW H} {ps : List MemPlace} (h : DataW.Trod enc Try.prog W 0 (fun _ => true) true 38 v d ps) (hv : ∃ cs, v = .agg cs) :
    ∃ neg A n c l neg' A' n' c' l', v = .agg #[.bool neg, .slice A n c, .bool neg', .slice A' n' c'] ∧ Sl W A n c l ∧ Sl W A' n' c' l' ∧ ((d.weights Try.prog 38).all (· ≤ reachBytes) = true → n ≤ 281474976710656 ∧ n' ≤ 281474976710656) := by
  obtain ⟨cs, rfl⟩ := hv
  obtain ⟨fuel, hf⟩ := h
  obtain ⟨y0, y1, k, hx, hlen, g0, g1⟩ := trod_struct2 Try.underlying38 hf
  simp only [Value.cells] at hlen g0 g1
  rw [frac_cells] at hlen
  injection hx with hx1 hx2
  subst hx1
  obtain ⟨cs⟩ := cs
  match cs, hlen with
  | [v0, v1, v2, v3], _ =>
    simp [whole_cells] at g0 g1
    obtain ⟨neg, A, n, c, l, e0, hS, hn⟩ := open_whole g0
    obtain ⟨neg', A', n', c', l', e1, hS', hn'⟩ := open_whole g1
    simp at e0 e1
    obtain ⟨rfl, rfl⟩ := e0
    obtain ⟨rfl, rfl⟩ := e1
    refine ⟨neg, A, n, c, l, neg', A', n', c', l', rfl, hS, hS', fun hs => ?_⟩
    simp only [DataW.weights, DataW.weightsEach, Try.underlying38, List.map_cons, List.map_nil, List.append_nil, List.all_append, Bool.and_eq_true] at hs
    exact ⟨hn hs.1, hn' hs.2⟩
end

theorem Try.ownRoundFracs : ownKnob Try.prog.godebug = none := by kernel_rfl
theorem Try.laidOutRoundFracs : laidOutB Try.prog = true := by kernel_rfl
theorem Try.readsRoundFracs : ∀ t ∈ [38], Try.prog.readableRec t = true ∧ t < Try.prog.types.size := by
  intro t ht
  simp only [List.mem_cons, List.not_mem_nil, or_false] at ht
  rcases ht with rfl
  exact ⟨by kernel_rfl, by decide +kernel⟩

set_option maxRecDepth 100000 in
theorem roundFracs_lifted (os : Os) (started : os.Started) (H : Type) (enc : TypeId × Value → H) :
    ReturnsInHanded {} Try.checked os 4 .any (Rows.roundFracsSpec.pre6 enc Try.prog Try.f4 Rows.roundFracsRow.domain false) (Rows.roundFracsSpec.post enc Try.prog Try.f4 false true false false) := by
  refine returnsInHanded_of_change_sized (C := Try.checked) Try.ownRoundFracs started (by kernel_rfl) Try.func4
    (ChangeSpec.witness6 (enc := enc) (C := Try.checked) false ⟨#[], #[.agg #[.bool false, .slice none 0 0, .bool false, .slice none 0 0]], []⟩ 8 (by kernel_rfl) (by kernel_rfl) (by kernel_rfl) (by kernel_rfl)) ?_
  intro W base args ds gs before hval0 hW hcnd hsz0 _
  have hval : ∀ (j : Nat) t v, Try.f4.params[j]? = some t → args[j]? = some v → Value.okWide Try.prog W .any base t v := hval0
  have hsz : (DataW.weightsEach Try.prog (Try.f4.params.toList ++ Rows.roundFracsSpec.plain.varTypes Try.prog) (ds ++ gs)).all (· ≤ reachBytes) = true := hsz0
  have hW' := hW
  have hlt := hW.lt
  obtain ⟨p, q, hA0, hV, rfl, hfz, hnd⟩ := hW
  have hA : DataW.TrodAll enc Try.prog W 0 (fun _ => true) true Try.f4.params.toList args.toList ds p := hA0
  rw [Try.params4] at hA hval hsz
  have hA2 := hA
  obtain ⟨v0, d0, rfl, rfl, h0⟩ := trodAll_one hA
  obtain ⟨rfl, rfl⟩ := trodVars_none hV
  obtain ⟨cs, hcs, _⟩ := okWide_struct Try.underlying38 (hval 0 38 v0 rfl rfl)
  obtain ⟨neg, A, n, c, l, neg', A', n', c', l', rfl, hS, hS', hn⟩ := open_fraction h0 ⟨cs, hcs⟩
  simp only [List.append_nil] at hW' hlt
  have hw0 : (d0.weights Try.prog 38).all (· ≤ reachBytes) = true := by
    rw [List.all_eq_true] at hsz ⊢
    intro x hx
    exact hsz x (DataW.weights_mem_each (j := 0) rfl rfl x hx)
  obtain ⟨hn1, hn2⟩ := hn hw0
  refine (law_roundFracs neg neg' A A' n c n' c' l l' W hS hS' hn1 hn2).mono fun e W' ⟨he, hw⟩ => ?_
  subst he
  refine ⟨_, rfl, post_of_below (pa := p) (pv := []) hW' (fun _ _ _ => ?_) (fun sp hsp => ?_) (fun _ _ => rfl) (by simp) hw ?_⟩
  · have e1 : (Rows.roundFracsSpec.fn H ([d0] ++ [])).results = [.lit (.bool true)] := rfl
    rw [e1]
    exact trodAll_mk1 (shut_bool Try.underlying4 _)
  · exact trodAll_later Try.laidOutRoundFracs hw _ _ _ _ Try.readsRoundFracs hA2 hlt hsp
  · intro j t x hj hr
    rw [show Try.f4.resultTypes = #[4] by kernel_rfl] at hj hr
    match j, hj, hr with
    | 0, hj, hr =>
      simp [Value.resultList] at hj hr
      subst hj; subst hr
      exact okWide_bool_mk Try.underlying4 _

theorem roundFracs_proved : Rows.RoundFracsSaid :=
  OpenClaim.holds_of_wide 4 Try.f4 rfl rfl rfl rfl rfl rfl rfl ⟨rfl, rfl, rfl, rfl, rfl⟩ rfl rfl rfl rfl rfl (by kernel_rfl) Try.func4 (by kernel_rfl)
    (of_decide_eq_true (by kernel_rfl)) (by unfold Func.isWrapper; rw [if_neg (by decide +kernel)]; exact ⟨rfl, rfl⟩)
    (fun os started H enc _ => roundFracs_lifted os started H enc)
end Go.Proofs.Ytgafjnfplgfajaa
