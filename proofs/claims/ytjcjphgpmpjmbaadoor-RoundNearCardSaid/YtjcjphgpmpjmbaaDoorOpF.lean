/-
  A fraction that is handed in, opened.
-/
import Derived.Test.YtjcjphgpmpjmbaaDoorZero
import Derived.Test.YtjcjphgpmpjmbaaDoorFrame2
import Derived.SizedLaws
import Derived.ProofKit
namespace Go.Proofs.YtjcjphgpmpjmbaaDoor
open Go.ChangeShapes Go.WideShapes Go.ChangeAt Go.RowKit

theorem limb_cells : Tryd.prog.cellsOf 82 = 1 := by kernel_rfl
theorem limbs_cells : Tryd.prog.cellsOf 22 = 1 := by kernel_rfl
theorem truth_cells : Tryd.prog.cellsOf 4 = 1 := by kernel_rfl
theorem whole_cells : Tryd.prog.cellsOf 24 = 2 := by kernel_rfl
theorem limb_bytes : Tryd.prog.bytesOf 82 = 4 := by kernel_rfl

section
variable {H : Type} {enc : TypeId × Value → H} {W : World}
set_option maxRecDepth 100000 in
theorem open_limbs {fuel : Nat} {cs : List Value} {x : DataW H × List MemPlace} (h : DataW.trod enc Tryd.prog W 0 (fun _ => true) true fuel 22 cs = some x) :
    ∃ A n c l, cs = [.slice A n c] ∧ Sl W A n c l ∧ ((x.1.weights Tryd.prog 22).all (· ≤ reachBytes) = true → n ≤ 281474976710656) := by
  rcases open_ints Tryd.underlying22 Tryd.underlying82 limb_cells h with ⟨rfl, rfl⟩ | ⟨a, len, cap, zs, rfl, _, hl, hm, hz, rfl, hc, hw⟩
  · exact ⟨none, 0, 0, [], rfl, ⟨Reads.nil, Nat.le_refl _, fun x hx => absurd hx (by simp)⟩, fun _ => by omega⟩
  · rw [if_pos rfl] at hz
    have hlt : (zs.take len).length = len := by rw [List.length_take]; omega
    have hval : ∀ z ∈ zs, (0 : Int) ≤ z ∧ z < 4294967296 := by
      intro z hzz
      have h := hw z hzz
      have h1 : IntKind.min .u32 = 0 := rfl
      have h2 : IntKind.max .u32 = 4294967295 := rfl
      simp only [Lit.wf, h1, h2, Bool.and_eq_true, decide_eq_true_eq] at h
      omega
    refine ⟨some a, len, cap, (zs.take len).map Int.toNat, rfl, ⟨⟨by unfold u32s; simpa using hlt, fun h0 => ⟨a, rfl, ?_, fun j u hu => ?_⟩⟩, hl, ?_⟩, fun hs => ?_⟩
    · have := hc 0 (by omega)
      exact World.block_lt_of_cell? _ _ this
    · unfold u32s at hu
      rw [List.map_map, List.getElem?_map] at hu
      rcases Nat.lt_or_ge j len with hj | hj
      · rw [List.getElem?_eq_getElem (by omega)] at hu
        simp only [Option.map_some, Option.some.injEq, Function.comp] at hu
        subst hu
        have h1 := hc j (by omega)
        have h2 : zs.getD j 0 = zs[j]'(by omega) := by simp [List.getD, show j < zs.length by omega]
        have h3 : (zs.take len)[j]'(by omega) = zs[j]'(by omega) := List.getElem_take ..
        have h4 := hval _ (List.getElem_mem (l := zs) (n := j) (by omega))
        rw [h1, h2, h3, Int.toNat_of_nonneg h4.1]
      · rw [List.getElem?_eq_none (by omega)] at hu
        cases hu
    · intro y hy
      obtain ⟨z, hz1, rfl⟩ := List.mem_map.1 hy
      have := hval z (List.mem_of_mem_take hz1)
      show Int.toNat z < 4294967296
      omega
    · have hk := List.all_eq_true.1 hs (((lits (H := H) .u32 (zs.take len)).length + (lits (H := H) .u32 (zs.drop len)).length) * Tryd.prog.bytesOf 82) (by simp [DataW.weights, Tryd.underlying22])
      rw [limb_bytes] at hk
      simp only [lits, List.length_map, List.length_take, List.length_drop, reachBytes, decide_eq_true_eq] at hk
      omega
set_option maxRecDepth 100000 in
theorem open_whole {fuel : Nat} {cs : List Value} {x : DataW H × List MemPlace} (h : DataW.trod enc Tryd.prog W 0 (fun _ => true) true fuel 24 cs = some x) :
    ∃ neg A n c l, cs = [.bool neg, .slice A n c] ∧ Sl W A n c l ∧ ((x.1.weights Tryd.prog 24).all (· ≤ reachBytes) = true → n ≤ 281474976710656) := by
  obtain ⟨y0, y1, k, rfl, hlen, g0, g1⟩ := trod_struct2 Tryd.underlying24 h
  rw [whole_cells] at hlen
  match cs, hlen with
  | [v0, v1], _ =>
    simp [truth_cells, limbs_cells] at g0 g1
    obtain ⟨b, e0, _⟩ := DataW.trod_bool Tryd.underlying4 g0
    obtain ⟨A, n, c, l, e1, hS, hn⟩ := open_limbs g1
    simp at e0 e1
    subst e0 e1
    refine ⟨b, A, n, c, l, rfl, hS, fun hs => hn ?_⟩
    simp [DataW.weights, DataW.weightsEach, Tryd.underlying24] at hs
    simpa using hs.2
theorem frac_cells : Tryd.prog.cellsOf 26 = 4 := by kernel_rfl
set_option maxRecDepth 100000 in
theorem open_fraction {v : Value} {d : DataW H} {ps : List MemPlace} (h : DataW.Trod enc Tryd.prog W 0 (fun _ => true) true 26 v d ps) (hv : ∃ cs, v = .agg cs) :
    ∃ neg A n c l neg' A' n' c' l', v = .agg #[.bool neg, .slice A n c, .bool neg', .slice A' n' c'] ∧ Sl W A n c l ∧ Sl W A' n' c' l' ∧ ((d.weights Tryd.prog 26).all (· ≤ reachBytes) = true → n ≤ 281474976710656 ∧ n' ≤ 281474976710656) := by
  obtain ⟨cs, rfl⟩ := hv
  obtain ⟨fuel, hf⟩ := h
  obtain ⟨y0, y1, k, hx, hlen, g0, g1⟩ := trod_struct2 Tryd.underlying26 hf
  simp only [Value.cells] at hlen g0 g1
  rw [frac_cells] at hlen
  injection hx with hx1 hx2
  subst hx1
  obtain ⟨cs⟩ := cs
  match cs, hlen with
  | [v0, v1, v2, v3], _ =>
    simp [whole_cells] at g0 g1
    obtain ⟨neg, A, n, c, l, e0, hS, hn⟩ := open_whole g0
    obtain ⟨neg', A', n', c', l', e1, hS', hn'⟩ := open_whole g1
    simp at e0 e1
    obtain ⟨rfl, rfl⟩ := e0
    obtain ⟨rfl, rfl⟩ := e1
    refine ⟨neg, A, n, c, l, neg', A', n', c', l', rfl, hS, hS', fun hs => ?_⟩
    simp only [DataW.weights, DataW.weightsEach, Tryd.underlying26, List.map_cons, List.map_nil, List.append_nil, List.all_append, Bool.and_eq_true] at hs
    exact ⟨hn hs.1, hn' hs.2⟩
end
end Go.Proofs.YtjcjphgpmpjmbaaDoor
