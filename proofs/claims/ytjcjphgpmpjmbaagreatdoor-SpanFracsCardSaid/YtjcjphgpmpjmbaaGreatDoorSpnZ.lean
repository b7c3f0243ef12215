/-
  Fractions between floats, plainly; what is beside what is beside.
  A fraction that is handed in, opened.
  Whether floats are the same (polestarlaw01.SameFloat, polestarlaw04.same).
  Spans: the reference's In, plain, lesser, greater, Meet, Join.
-/
import Derived.Test.YtjcjphgpmpjmbaaGreatDoorTzG
import Derived.Test.YtjcjphgpmpjmbaaGreatDoorSpnR
import Derived.Test.YtjcjphgpmpjmbaaGreatDoorBey
import Derived.Test.YtjcjphgpmpjmbaaGreatDoorExFa
import Derived.Test.YtjcjphgpmpjmbaaGreatDoorZero
import Derived.Test.YtjcjphgpmpjmbaaGreatDoorRaL
import Derived.SizedLaws
import Derived.ProofKit
import Derived.Test.YtjcjphgpmpjmbaaGreatDoorRndU
import Derived.Test.YtjcjphgpmpjmbaaGreatDoorFrW
namespace Go.Proofs.YtjcjphgpmpjmbaaGreatDoor
open Go.RowKit

/-- Of a fraction that may be: what is told of it. -/
theorem okF_brk {w : World} {neg : Bool} {A : Option Addr} {n c : Nat} {l : List Nat} {neg' : Bool} {A' : Option Addr} {n' c' : Nat} {l' : List Nat} {r : Rat} {d u : Nat} (h : OkF w ((neg, A, n, c, l), (neg', A', n', c', l')) r)
    (k : okFr neg l neg' l' → Brk (decide (sgnd neg (Lm.lv l) < 0)) (Lm.lv l * 2 ^ Flt.K74) (Lm.lv l') d u) :
    ∃ s num den, Brk s num den d u ∧ (r.num = 0 → s = false ∧ num = 0) ∧ Down (r.num * ((2 ^ Flt.K74 : Nat) : Int)) r.den d ∧ Up (r.num * ((2 ^ Flt.K74 : Nat) : Int)) r.den u := by
  have ho := (okB_iff _).1 h.2.1
  obtain ⟨e1, e2⟩ := ok_num h.2.1
  rw [h.2.2] at e1 e2
  have hB := k ho
  have hp : 0 < Lm.lv l' := (okFr_den ho).2
  have ed : r.den = Lm.lv l' := by
    have h2 : (r.den : Int) = sgnd neg' (Lm.lv l') := e2
    have h3 : sgnd neg' (Lm.lv l') = (Lm.lv l' : Int) := (okFr_den ho).1
    rw [h3] at h2
    omega
  have e1' : r.num = sgnd neg (Lm.lv l) := e1
  have hz : r.num * ((2 ^ Flt.K74 : Nat) : Int) = if decide (sgnd neg (Lm.lv l) < 0) then -((Lm.lv l * 2 ^ Flt.K74 : Nat) : Int) else ((Lm.lv l * 2 ^ Flt.K74 : Nat) : Int) := by
    rw [e1', Int.natCast_mul]
    generalize ((2 ^ Flt.K74 : Nat) : Int) = K
    unfold sgnd
    cases neg with
    | false => simp; intro hc; omega
    | true =>
      simp
      by_cases h0 : Lm.lv l = 0
      · rw [h0]; simp
      · rw [if_pos (by omega), Int.neg_mul]
  obtain ⟨a, b⟩ := brk_down (z := r.num * ((2 ^ Flt.K74 : Nat) : Int)) hp hz hB
  refine ⟨_, _, _, hB, fun h0 => ?_, by rw [ed]; exact a, by rw [ed]; exact b⟩
  rw [e1'] at h0
  have hl : Lm.lv l = 0 := by
    have := sgnd_abs neg (Lm.lv l)
    rw [h0] at this
    exact this.symm
  rw [h0, hl]
  exact ⟨rfl, Nat.zero_mul _⟩
end Go.Proofs.YtjcjphgpmpjmbaaGreatDoor

namespace Go.Proofs.YtjcjphgpmpjmbaaGreatDoor
open Go.ChangeShapes Go.WideShapes Go.ChangeAt Go.RowKit

theorem limb_cells : Tryz.prog.cellsOf 75 = 1 := by kernel_rfl
theorem limbs_cells : Tryz.prog.cellsOf 25 = 1 := by kernel_rfl
theorem truth_cells : Tryz.prog.cellsOf 4 = 1 := by kernel_rfl
theorem whole_cells : Tryz.prog.cellsOf 27 = 2 := by kernel_rfl
theorem limb_bytes : Tryz.prog.bytesOf 75 = 4 := by kernel_rfl

section
variable {H : Type} {enc : TypeId × Value → H} {W : World}
set_option maxRecDepth 100000 in
theorem open_limbs {fuel : Nat} {cs : List Value} {x : DataW H × List MemPlace} (h : DataW.trod enc Tryz.prog W 0 (fun _ => true) true fuel 25 cs = some x) :
    ∃ A n c l, cs = [.slice A n c] ∧ Sl W A n c l ∧ ((x.1.weights Tryz.prog 25).all (· ≤ reachBytes) = true → n ≤ 281474976710656) := by
  rcases open_ints Tryz.underlying25 Tryz.underlying75 limb_cells h with ⟨rfl, rfl⟩ | ⟨a, len, cap, zs, rfl, _, hl, hm, hz, rfl, hc, hw⟩
  · exact ⟨none, 0, 0, [], rfl, ⟨Reads.nil, Nat.le_refl _, fun x hx => absurd hx (by simp)⟩, fun _ => by omega⟩
  · rw [if_pos rfl] at hz
    have hlt : (zs.take len).length = len := by rw [List.length_take]; omega
    have hval : ∀ z ∈ zs, (0 : Int) ≤ z ∧ z < 4294967296 := by
      intro z hzz
      have h := hw z hzz
      have h1 : IntKind.min .u32 = 0 := rfl
      have h2 : IntKind.max .u32 = 4294967295 := rfl
      simp only [Lit.wf, h1, h2, Bool.and_eq_true, decide_eq_true_eq] at h
      omega
    refine ⟨some a, len, cap, (zs.take len).map Int.toNat, rfl, ⟨⟨by unfold u32s; simpa using hlt, fun h0 => ⟨a, rfl, ?_, fun j u hu => ?_⟩⟩, hl, ?_⟩, fun hs => ?_⟩
    · have := hc 0 (by omega)
      exact World.block_lt_of_cell? _ _ this
    · unfold u32s at hu
      rw [List.map_map, List.getElem?_map] at hu
      rcases Nat.lt_or_ge j len with hj | hj
      · rw [List.getElem?_eq_getElem (by omega)] at hu
        simp only [Option.map_some, Option.some.injEq, Function.comp] at hu
        subst hu
        have h1 := hc j (by omega)
        have h2 : zs.getD j 0 = zs[j]'(by omega) := by simp [List.getD, show j < zs.length by omega]
        have h3 : (zs.take len)[j]'(by omega) = zs[j]'(by omega) := List.getElem_take ..
        have h4 := hval _ (List.getElem_mem (l := zs) (n := j) (by omega))
        rw [h1, h2, h3, Int.toNat_of_nonneg h4.1]
      · rw [List.getElem?_eq_none (by omega)] at hu
        cases hu
    · intro y hy
      obtain ⟨z, hz1, rfl⟩ := List.mem_map.1 hy
      have := hval z (List.mem_of_mem_take hz1)
      show Int.toNat z < 4294967296
      omega
    · have hk := List.all_eq_true.1 hs (((lits (H := H) .u32 (zs.take len)).length + (lits (H := H) .u32 (zs.drop len)).length) * Tryz.prog.bytesOf 75) (by simp [DataW.weights, Tryz.underlying25])
      rw [limb_bytes] at hk
      simp only [lits, List.length_map, List.length_take, List.length_drop, reachBytes, decide_eq_true_eq] at hk
      omega
set_option maxRecDepth 100000 in
theorem open_whole {fuel : Nat} {cs : List Value} {x : DataW H × List MemPlace} (h : DataW.trod enc Tryz.prog W 0 (fun _ => true) true fuel 27 cs = some x) :
    ∃ neg A n c l, cs = [.bool neg, .slice A n c] ∧ Sl W A n c l ∧ ((x.1.weights Tryz.prog 27).all (· ≤ reachBytes) = true → n ≤ 281474976710656) := by
  obtain ⟨y0, y1, k, rfl, hlen, g0, g1⟩ := trod_struct2 Tryz.underlying27 h
  rw [whole_cells] at hlen
  match cs, hlen with
  | [v0, v1], _ =>
    simp [truth_cells, limbs_cells] at g0 g1
    obtain ⟨b, e0, _⟩ := DataW.trod_bool Tryz.underlying4 g0
    obtain ⟨A, n, c, l, e1, hS, hn⟩ := open_limbs g1
    simp at e0 e1
    subst e0 e1
    refine ⟨b, A, n, c, l, rfl, hS, fun hs => hn ?_⟩
    simp [DataW.weights, DataW.weightsEach, Tryz.underlying27] at hs
    simpa using hs.2
theorem frac_cells : Tryz.prog.cellsOf 29 = 4 := by kernel_rfl
set_option maxRecDepth 100000 in
theorem open_fraction {v : Value} {d : DataW H} {ps : List MemPlace} (h : DataW.Trod enc Tryz.prog W 0 (fun _ => true) true 29 v d ps) (hv : ∃ cs, v = .agg cs) :
    ∃ neg A n c l neg' A' n' c' l', v = .agg #[.bool neg, .slice A n c, .bool neg', .slice A' n' c'] ∧ Sl W A n c l ∧ Sl W A' n' c' l' ∧ ((d.weights Tryz.prog 29).all (· ≤ reachBytes) = true → n ≤ 281474976710656 ∧ n' ≤ 281474976710656) := by
  obtain ⟨cs, rfl⟩ := hv
  obtain ⟨fuel, hf⟩ := h
  obtain ⟨y0, y1, k, hx, hlen, g0, g1⟩ := trod_struct2 Tryz.underlying29 hf
  simp only [Value.cells] at hlen g0 g1
  rw [frac_cells] at hlen
  injection hx with hx1 hx2
  subst hx1
  obtain ⟨cs⟩ := cs
  match cs, hlen with
  | [v0, v1, v2, v3], _ =>
    simp [whole_cells] at g0 g1
    obtain ⟨neg, A, n, c, l, e0, hS, hn⟩ := open_whole g0
    obtain ⟨neg', A', n', c', l', e1, hS', hn'⟩ := open_whole g1
    simp at e0 e1
    obtain ⟨rfl, rfl⟩ := e0
    obtain ⟨rfl, rfl⟩ := e1
    refine ⟨neg, A, n, c, l, neg', A', n', c', l', rfl, hS, hS', fun hs => ?_⟩
    simp only [DataW.weights, DataW.weightsEach, Tryz.underlying29, List.map_cons, List.map_nil, List.append_nil, List.all_append, Bool.and_eq_true] at hs
    exact ⟨hn hs.1, hn' hs.2⟩
end
end Go.Proofs.YtjcjphgpmpjmbaaGreatDoor

namespace Go.Proofs.YtjcjphgpmpjmbaaGreatDoor
open Go.RowKit

set_option maxHeartbeats 800000 in
theorem law_sameFloat (x y : Nat) (w : World) : Calls Tryz.prog 78 #[.float .f64 x, .float .f64 y] w fun e w' => e = .returned (.bool (Flt.sameB x y)) ∧ w = w' := by
  by_cases h : x = y
  · subst h
    have hs : Hid (Flt.sameB x x = true) := Lib.hid (by unfold Flt.sameB; simp)
    rw [hs.out]
    go_enter Tryz.func78, Tryz.ntmps78
    go_wp2_with (go_at_call 70; refine (isNaN_any _ _).mono ?_; rintro e w' ⟨rfl, rfl⟩)
    go_ret
    exact ⟨rfl, rfl⟩
  · have hb : ((x : Int) == (y : Int)) = false := by rw [beq_eq_false_iff_ne]; omega
    have hs : Hid (Flt.sameB x y = (Flt.nanB x && Flt.nanB y)) := Lib.hid (by unfold Flt.sameB; rw [show (x == y) = false from by simp [h]]; rfl)
    rw [hs.out]
    have HB := Lib.hid hb
    clear hb
    cases hx : Flt.nanB x with
    | true =>
      go_enter Tryz.func78, Tryz.ntmps78
      go_wp2_with (first | (go_at_call 70; (with_reducible refine (isNaN_any x _).mono ?_); rintro e w' ⟨rfl, rfl⟩; rw [hx]) | (go_at_call 70; (with_reducible refine (isNaN_any y _).mono ?_); rintro e w' ⟨rfl, rfl⟩))
      go_ret
      exact ⟨by show Ending.returned (.bool (((x : Int) == (y : Int)) || Flt.nanB y)) = _; rw [HB.out]; rfl, rfl⟩
    | false =>
      go_enter Tryz.func78, Tryz.ntmps78
      go_wp2_with (first | (go_at_call 70; (with_reducible refine (isNaN_any x _).mono ?_); rintro e w' ⟨rfl, rfl⟩; rw [hx]) | (go_at_call 70; (with_reducible refine (isNaN_any y _).mono ?_); rintro e w' ⟨rfl, rfl⟩))
      go_ret
      exact ⟨by show Ending.returned (.bool ((x : Int) == (y : Int))) = _; rw [HB.out]; rfl, rfl⟩

end Go.Proofs.YtjcjphgpmpjmbaaGreatDoor

namespace Go.Proofs.YtjcjphgpmpjmbaaGreatDoor
open Go.RowKit

theorem pz_same {x y : Nat} (hx : x < 2 ^ 64) (hy : y < 2 ^ 64) (h : Flt.sv x = Flt.sv y) : pz x = pz y := by
  by_cases h0 : Flt.sv x = 0
  · unfold pz
    rw [if_pos (Flt.sv_zero_iff.1 h0), if_pos (Flt.sv_zero_iff.1 (by omega))]
  · rw [Flt.fin_eq hx hy h h0]
end Go.Proofs.YtjcjphgpmpjmbaaGreatDoor
